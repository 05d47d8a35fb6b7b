/- NotifyChooses answers true: the program's choice and the reference's come to the same numbers, whatever the contacts, the escalations and the question. -/
import Derived.Test.YtecgjkikgggoeaaDoorPureA
import Derived.Test.YtecgjkikgggoeaaDoorGRefC
import Derived.Test.YtecgjkikgggoeaaDoorPr10
namespace Go.Proofs.YtecgjkikgggoeaaDoor.Pr
open Go Go.RowKit
open Go.Proofs.YtecgjkikgggoeaaDoorW.PrintWords Go.Proofs.YtecgjkikgggoeaaDoorW.PrintLast
set_option linter.unusedVariables false
set_option linter.unusedSimpArgs false

theorem sure_evC (g : Nat → Option Bool) (h : ∀ k, g (k + 1) = belvederelaw22_sure.f.bind fun t => some t) : Ev g true :=
  Ev.step (f := fun _ => some true) (fun k => by rw [h, sure_true]; rfl) (Ev.now _)

theorem refch_l0 (own : List Int) (ren of n : Int) (l : List S28) (ho : own.length ≤ 1000) (hl : l.length ≤ 30) : ∀ (d i : Nat) (out : List Int) (m : Int) (some_ : Bool), i + d = l.length → out.length + tot ((l.drop i).map conv) ≤ 1000 →
    Ev (fun k => belvedereref22_Choose.l0 k own ren l of n out some_ m i) (answer own ren (pick of n ((l.drop i).map conv) out m some_))
  | 0, i, out, m, some_, hi, ht => by
    refine Ev.step (f := fun _ => some _) (fun k => ?_) (Ev.now _)
    simp only [belvedereref22_Choose.l0]
    rw [if_neg (by omega), List.drop_eq_nil_of_le (by omega)]
    simp only [List.map_nil, pick, answer]
    have h1 : belvedereref22_once.f out = some (Lib.compact (srt out)) := if_pos (by omega)
    have h2 : belvedereref22_once.f own = some (Lib.compact (srt own)) := if_pos (by omega)
    cases some_
    · rw [if_neg (by simp), h2]; rfl
    · rw [if_pos rfl, h1]; rfl
  | d + 1, i, out, m, some_, hi, ht => by
    have hil : i < l.length := by omega
    have w1 : wrap64 ((i : Int) + 1) = ((i + 1 : Nat) : Int) := by rw [w64 (by omega) (by omega)]; rfl
    have hd : (l.drop i).map conv = conv l[i] :: (l.drop (i + 1)).map conv := by rw [List.drop_eq_getElem_cons hil]; rfl
    rw [hd] at ht ⊢
    simp only [tot, List.map_cons, List.sum_cons] at ht
    have he := rd28 hil
    obtain ⟨e, hee⟩ : ∃ e, e = l[i] := ⟨_, rfl⟩
    rw [← hee] at ht he ⊢
    have ht2 : out.length + e.f3.length + tot ((l.drop (i + 1)).map conv) ≤ 1000 := by
      have : (conv e).f3.length = e.f3.length := rfl
      simp only [tot]; omega
    clear hd hee
    refine Ev.step (f := fun k => belvedereref22_Choose.j1 k own ren l of n out some_ m i (counts of n (conv e)) e.f0 e.f1 e.f2 e.f3 e.f4) (fun k => ?_) ?_
    · simp only [belvedereref22_Choose.l0]
      rw [if_pos (by omega), if_pos (by omega), he]
      by_cases c1 : e.f0 = of
      · rw [if_pos c1]
        by_cases c2 : e.f1 ≤ n
        · rw [if_pos c2]
          by_cases c3 : e.f2 = 0
          · rw [if_pos c3, show counts of n (conv e) = true by simp [counts, conv, c1, c3]; omega]
          · rw [if_neg c3, show counts of n (conv e) = decide (n ≤ e.f2) by simp [counts, conv, c1, c2, c3]]
        · rw [if_neg c2, show counts of n (conv e) = false by simp [counts, conv, c1]; omega]
      · rw [if_neg c1, show counts of n (conv e) = false by simp [counts, conv, c1]]
    · simp only [pick]
      by_cases hc : counts of n (conv e) = true
      · rw [if_pos hc, hc]
        refine Ev.step (f := fun k => belvedereref22_Choose.l0 k own ren l of n (out ++ e.f3) true (least m e.f4) ((i + 1 : Nat) : Int)) (fun k => ?_) (refch_l0 own ren of n l ho hl d (i + 1) (out ++ e.f3) (least m e.f4) true (by omega) (by rw [List.length_append]; omega))
        simp only [belvedereref22_Choose.j1]
        rw [if_pos trivial, if_pos (by omega), Option.bind_some, w1]
        unfold least
        by_cases a1 : e.f4 > 0
        · rw [if_pos a1]
          by_cases a2 : m = 0
          · rw [if_pos a2, if_pos ⟨a1, Or.inl a2⟩]
          · rw [if_neg a2]
            by_cases a3 : e.f4 < m
            · rw [if_pos a3, if_pos ⟨a1, Or.inr a3⟩]
            · rw [if_neg a3, if_neg (fun h => h.2.elim a2 a3)]
        · rw [if_neg a1, if_neg (fun h => a1 h.1)]
      · have hcf : counts of n (conv e) = false := by simpa using hc
        rw [if_neg hc, hcf]
        refine Ev.step (f := fun k => belvedereref22_Choose.l0 k own ren l of n out some_ m ((i + 1 : Nat) : Int)) (fun k => ?_) (refch_l0 own ren of n l ho hl d (i + 1) out m some_ (by omega) (by omega))
        simp only [belvedereref22_Choose.j1]
        rw [if_neg (by simp), w1]
theorem refch_ev (own : List Int) (ren of n : Int) (l : List S28) (ho : own.length ≤ 1000) (hl : l.length ≤ 30) (ht : tot (l.map conv) ≤ 1000) :
    Ev (fun k => belvedereref22_Choose.f k own ren l of n) (answer own ren (pick of n (l.map conv) [] 0 false)) := by
  have := refch_l0 own ren of n l ho hl l.length 0 [] 0 false (by omega) (by simpa using ht)
  rw [List.drop_zero] at this
  exact this

theorem ints_l0 (l : List Int) (hl : l.length ≤ 100000) : ∀ (d i : Nat), i + d = l.length → Ev (fun k => belvederelaw22_ints.l0 k l l i) true
  | 0, i, hi => by
    refine Ev.step (f := fun _ => some _) (fun k => ?_) (Ev.now _)
    simp only [belvederelaw22_ints.l0]
    rw [if_neg (by omega)]
  | d + 1, i, hi => by
    have w1 : wrap64 ((i : Int) + 1) = ((i + 1 : Nat) : Int) := by rw [w64 (by omega) (by omega)]; rfl
    refine Ev.step (f := fun k => belvederelaw22_ints.l0 k l l ((i + 1 : Nat) : Int)) (fun k => ?_) (ints_l0 l hl d (i + 1) (by omega))
    simp only [belvederelaw22_ints.l0]
    rw [if_pos (by omega), if_pos (by omega), if_pos (by omega), if_pos trivial, w1]
theorem ints_ev (l : List Int) (hl : l.length ≤ 100000) : Ev (fun k => belvederelaw22_ints.f k l l) true :=
  Ev.congr (fun k => if_pos rfl) (ints_l0 l hl l.length 0 (by omega))

theorem mn_leC (a b : Int) : mn a b ≤ b ∧ mn a b ≤ a := by unfold mn; split <;> omega
theorem mn_smallC {a b c : Int} (h : mn a b ≤ c) (hc : c < b) : mn a b = a := by unfold mn at h ⊢; split at h <;> (split <;> omega)
theorem mn_geC {a b : Int} (h : 0 ≤ a) (hb : 0 ≤ b) : 0 ≤ mn a b := by unfold mn; split <;> omega
theorem totC_take (l : List S28) (i : Nat) (h : i < l.length) : tot ((l.take (i + 1)).map conv) = tot ((l.take i).map conv) + l[i].f3.length := by
  unfold tot
  rw [List.take_succ_eq_append_getElem h, List.map_append, List.map_append, List.sum_append]
  simp [conv]

theorem chooses_l0 (own : List Int) (es : List S28) (ho : own.length ≤ 60) (he : es.length ≤ 30) (ren of n : Int) :
    ∀ (d i : Nat) (x : Int), i + d = es.length → 0 ≤ x → x ≤ 1000 * i → (x ≤ 200 → x = (tot ((es.take i).map conv) : Int)) → Ev (fun k => belvederelaw22_NotifyChooses.l0 k own es x i ren of n) true
  | 0, i, x, hi, h0, hx, ht => by
    by_cases hbig : x > 200
    · refine sure_evC _ (fun k => ?_)
      simp only [belvederelaw22_NotifyChooses.l0]
      rw [if_neg (by omega), if_pos hbig]
    · have htt : tot (es.map conv) ≤ 200 := by
        have := ht (by omega)
        rw [List.take_of_length_le (by omega)] at this
        omega
      refine Ev.step (f := fun k => (belvederelaw22_give.f k es).bind fun t138 => ((notify_Choose.f k own ren t138 of n).bind fun bt141 => ((belvedereref22_Choose.f k own ren es of n).bind fun bt145 => ((belvederelaw22_ints.f k bt141.1 bt145.1).bind fun t149 => (if t149 = true then (if bt141.2 = bt145.2 then ((belvederelaw22_sure.f).bind fun t150 => (some t150)) else (some false)) else (some false)))))) (fun k => ?_) ?_
      · simp only [belvederelaw22_NotifyChooses.l0]
        rw [if_neg (by omega), if_neg hbig]
      · refine Ev.bind (give_ev es (by omega)) ?_
        refine Ev.bind (choose_ev own ren of n (es.map conv) (by omega) (by simp; omega) (by omega)) ?_
        refine Ev.bind (refch_ev own ren of n es (by omega) (by omega) (by omega)) ?_
        have plen := pick_len of n (es.map conv) [] 0 false
        refine Ev.bind (ints_ev _ ?_) ?_
        · generalize pick of n (es.map conv) [] 0 false = p at *
          unfold answer
          split
          · have := compact_le (srt p.1); rw [srt_length] at this; simp at plen; show (Lib.compact (srt p.1)).length ≤ _; omega
          · have := compact_le (srt own); rw [srt_length] at this; show (Lib.compact (srt own)).length ≤ _; omega
        · refine Ev.congr (f := fun _ => some true) (fun k => ?_) (Ev.now _)
          rw [if_pos rfl, if_pos rfl, sure_true]
          rfl
  | d + 1, i, x, hi, h0, hx, ht => by
    have hil : i < es.length := by omega
    have a1 := mn_leC (es[i].f3.length : Int) 1000
    have a2 := mn_geC (a := (es[i].f3.length : Int)) (b := 1000) (by omega) (by omega)
    refine Ev.step (f := fun k => belvederelaw22_NotifyChooses.l0 k own es (x + mn (es[i].f3.length : Int) 1000) ((i + 1 : Nat) : Int) ren of n) (fun k => ?_) (chooses_l0 own es ho he ren of n d (i + 1) (x + mn (es[i].f3.length : Int) 1000) (by omega) (by omega) (by omega) (fun h => ?_))
    · simp only [belvederelaw22_NotifyChooses.l0]
      rw [if_pos (by omega), if_pos (by omega), rd28 hil, w64 (x := x + mn (es[i].f3.length : Int) 1000) (by omega) (by omega), w64 (by omega) (by omega)]
      rfl
    · have h1 := ht (by omega)
      have h2 := mn_smallC (a := (es[i].f3.length : Int)) (b := 1000) (c := 200) (by omega) (by omega)
      rw [totC_take es i hil]
      omega

theorem chooses_true (own : List Int) (es : List S28) (ren of n : Int) : Ev (fun k => belvederelaw22_NotifyChooses.f k own es ren of n) true := by
  unfold belvederelaw22_NotifyChooses.f
  have hsure : Ev (fun k => belvederelaw22_NotifyChooses.j0 k own es true ren of n) true := by
    refine sure_evC _ (fun k => ?_)
    simp only [belvederelaw22_NotifyChooses.j0]
    rw [if_pos trivial]
  by_cases h1 : own.length > 60
  · exact Ev.congr (fun k => if_pos (by omega)) hsure
  refine Ev.congr (fun k => if_neg (by omega)) ?_
  by_cases h2 : es.length > 30
  · rw [decide_eq_true (by omega)]; exact hsure
  rw [decide_eq_false (by omega)]
  refine Ev.step (f := fun k => belvederelaw22_NotifyChooses.l0 k own es 0 0 ren of n) (fun k => ?_) (chooses_l0 own es (by omega) (by omega) ren of n es.length 0 0 (by omega) (by omega) (by omega) (fun _ => by simp [tot]))
  simp only [belvederelaw22_NotifyChooses.j0]
  rw [if_neg (by simp)]

theorem final_NotifyChooses (A0 : Option Addr) (c0 : Nat) (own : List Int) (A1 : Option Addr) (c1 : Nat) (es : List S28) (ren of n : Int) (w : World) (hr0 : Kd.C (Kd.int .i64) w A0 own.length own) (hc0 : own.length ≤ c0) (hr1 : Kd.C k28 w A1 es.length es) (hc1 : es.length ≤ c1) (hG : Glob w) :
    Calls Tryd.prog 3 #[.slice A0 own.length c0, .slice A1 es.length c1, .agg #[.int .i64 ren, .int .i64 of, .int .i64 n]] w fun e w' => e = .returned (.bool true) ∧ Below w.heap.size w w' := by
  obtain ⟨k, hk⟩ := (chooses_true own es ren of n).rounds
  exact belvederelaw22_NotifyChooses.calls k A0 c0 own A1 c1 es ren of n true w hr0 hc0 hr1 hc1 hG hk
end Go.Proofs.YtecgjkikgggoeaaDoor.Pr
