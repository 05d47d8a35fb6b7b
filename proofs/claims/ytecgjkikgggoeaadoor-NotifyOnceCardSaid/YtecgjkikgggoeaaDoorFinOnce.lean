/- NotifyOnce answers true: the printed law's function comes to true, whatever the contacts, the escalations and the question. -/
import Derived.Test.YtecgjkikgggoeaaDoorPureA
import Derived.Test.YtecgjkikgggoeaaDoorOnceB
namespace Go.Proofs.YtecgjkikgggoeaaDoor.Pr
open Go Go.RowKit
open Go.Proofs.YtecgjkikgggoeaaDoorW.PrintWords Go.Proofs.YtecgjkikgggoeaaDoorW.PrintLast
set_option linter.unusedVariables false
set_option linter.unusedSimpArgs false

theorem sure_ev (g : Nat → Option Bool) (h : ∀ k, g (k + 1) = belvederelaw22_sure.f.bind fun t => some t) : Ev g true :=
  Ev.step (f := fun _ => some true) (fun k => by rw [h, sure_true]; rfl) (Ev.now _)


/-- one escalation's contacts -/
theorem l4_ev (own : List Int) (es : List S28) (ho : own.length ≤ 60) (he : es.length ≤ 30) (hc : ∀ e ∈ es, e.f3.length ≤ 200) (ren of n : Int) (res : List Int) (i : Nat) (hi : i < res.length) (hres : res.length ≤ 1000) (j : Nat) (hj : j < es.length) (r : Bool) (b : Bool)
    (hg : (es[j].f0 = of ∧ es[j].f1 ≤ n)) : ∀ (d q : Nat) (is : Bool), q + d = es[j].f3.length →
    (∀ is', (is' = true ↔ is = true ∨ res[i] ∈ es[j].f3.drop q) → Ev (fun k => belvederelaw22_NotifyOnce.l3 k own es res i is' ((j + 1 : Nat) : Int) ren of n) r) →
    Ev (fun k => belvederelaw22_NotifyOnce.l4 k own es res i is j q ren of n) r
  | 0, q, is, hq, h => by
    have hl := hc es[j] (List.getElem_mem hj)
    refine Ev.step (f := fun k => belvederelaw22_NotifyOnce.l3 k own es res i is ((j + 1 : Nat) : Int) ren of n) (fun k => ?_) (h is (by rw [List.drop_eq_nil_of_le (by omega)]; simp))
    simp only [belvederelaw22_NotifyOnce.l4]
    rw [if_pos (by omega), if_pos (by omega), rd28 hj, if_pos hg.1, if_pos hg.2, if_neg (by omega), w64 (by omega) (by omega)]
    rfl
  | d + 1, q, is, hq, h => by
    have hl := hc es[j] (List.getElem_mem hj)
    have hql : q < es[j].f3.length := by omega
    have hd : es[j].f3.drop q = es[j].f3[q] :: es[j].f3.drop (q + 1) := List.drop_eq_getElem_cons hql
    cases is
    · refine Ev.step (f := fun k => belvederelaw22_NotifyOnce.l4 k own es res i (es[j].f3[q] == res[i]) j ((q + 1 : Nat) : Int) ren of n) (fun k => ?_) (l4_ev own es ho he hc ren of n res i hi hres j hj r b hg d (q + 1) _ (by omega) (fun is' his => h is' ?_))
      · simp only [belvederelaw22_NotifyOnce.l4]
        rw [if_pos (by omega), if_pos (by omega), rd28 hj, if_pos hg.1, if_pos hg.2, if_pos (by omega), if_neg (by simp), if_pos (by omega), if_pos (by omega), if_pos (by omega), rdi hql, rdi hi, w64 (by omega) (by omega)]
        rfl
      · rw [his, hd, List.mem_cons]
        simp only [beq_iff_eq, Bool.false_eq_true, false_or]
        exact ⟨fun h => h.elim (fun e => Or.inl e.symm) Or.inr, fun h => h.elim (fun e => Or.inl e.symm) Or.inr⟩
    · refine Ev.step (f := fun k => belvederelaw22_NotifyOnce.l4 k own es res i true j ((q + 1 : Nat) : Int) ren of n) (fun k => ?_) (l4_ev own es ho he hc ren of n res i hi hres j hj r b hg d (q + 1) true (by omega) (fun is' his => h is' ?_))
      · simp only [belvederelaw22_NotifyOnce.l4]
        rw [if_pos (by omega), if_pos (by omega), rd28 hj, if_pos hg.1, if_pos hg.2, if_pos (by omega), if_pos trivial, w64 (by omega) (by omega)]
        rfl
      · rw [his]; simp

/-- all escalations -/
theorem l3_ev (own : List Int) (es : List S28) (ho : own.length ≤ 60) (he : es.length ≤ 30) (hc : ∀ e ∈ es, e.f3.length ≤ 200) (ren of n : Int) (res : List Int) (i : Nat) (hi : i < res.length) (hres : res.length ≤ 1000) (r : Bool)
    (hnext : Ev (fun k => belvederelaw22_NotifyOnce.l1 k own es res ((i + 1 : Nat) : Int) ren of n) r) : ∀ (d j : Nat) (is : Bool), j + d = es.length →
    (is = true ∨ ∃ e ∈ es.drop j, e.f0 = of ∧ e.f1 ≤ n ∧ res[i] ∈ e.f3) →
    Ev (fun k => belvederelaw22_NotifyOnce.l3 k own es res i is j ren of n) r
  | 0, j, is, hj, h => by
    have his : is = true := by
      rcases h with h | ⟨e, hee, _⟩
      · exact h
      · rw [List.drop_eq_nil_of_le (by omega)] at hee; cases hee
    subst his
    refine Ev.step (fun k => ?_) hnext
    simp only [belvederelaw22_NotifyOnce.l3]
    rw [if_neg (by omega), if_pos trivial, w64 (by omega) (by omega)]
    rfl
  | d + 1, j, is, hj, h => by
    have hjl : j < es.length := by omega
    have hd : es.drop j = es[j] :: es.drop (j + 1) := List.drop_eq_getElem_cons hjl
    refine Ev.step (f := fun k => belvederelaw22_NotifyOnce.l4 k own es res i is j 0 ren of n) (fun k => ?_) ?_
    · simp only [belvederelaw22_NotifyOnce.l3]
      rw [if_pos (by omega)]
    by_cases hg : es[j].f0 = of ∧ es[j].f1 ≤ n
    · refine l4_ev own es ho he hc ren of n res i hi hres j hjl r false hg es[j].f3.length 0 is (by omega) (fun is' his => ?_)
      refine l3_ev own es ho he hc ren of n res i hi hres r hnext d (j + 1) is' (by omega) ?_
      rw [List.drop_zero] at his
      rcases h with h | ⟨e, hee, h1, h2, h3⟩
      · exact Or.inl (his.2 (Or.inl h))
      · rw [hd] at hee
        rcases List.mem_cons.1 hee with rfl | hee
        · exact Or.inl (his.2 (Or.inr h3))
        · exact Or.inr ⟨e, hee, h1, h2, h3⟩
    · refine Ev.step (f := fun k => belvederelaw22_NotifyOnce.l3 k own es res i is ((j + 1 : Nat) : Int) ren of n) (fun k => ?_) (l3_ev own es ho he hc ren of n res i hi hres r hnext d (j + 1) is (by omega) ?_)
      · simp only [belvederelaw22_NotifyOnce.l4]
        have w1 : wrap64 ((j : Int) + 1) = ((j + 1 : Nat) : Int) := by rw [w64 (by omega) (by omega)]; rfl
        rw [if_pos (by omega), if_pos (by omega), rd28 hjl, w1]
        by_cases c1 : es[j].f0 = of
        · rw [if_pos c1, if_neg (fun h => hg ⟨c1, h⟩)]
        · rw [if_neg c1]
      · rcases h with h | ⟨e, hee, h1, h2, h3⟩
        · exact Or.inl h
        · rw [hd] at hee
          rcases List.mem_cons.1 hee with rfl | hee
          · exact absurd ⟨h1, h2⟩ hg
          · exact Or.inr ⟨e, hee, h1, h2, h3⟩

/-- the object's own -/
theorem l2_ev (own : List Int) (es : List S28) (ho : own.length ≤ 60) (he : es.length ≤ 30) (hc : ∀ e ∈ es, e.f3.length ≤ 200) (ren of n : Int) (res : List Int) (i : Nat) (hi : i < res.length) (hres : res.length ≤ 1000) (r : Bool)
    (hnext : Ev (fun k => belvederelaw22_NotifyOnce.l1 k own es res ((i + 1 : Nat) : Int) ren of n) r) : ∀ (d j : Nat) (is : Bool), j + d = own.length →
    (is = true ∨ res[i] ∈ own.drop j ∨ ∃ e ∈ es, e.f0 = of ∧ e.f1 ≤ n ∧ res[i] ∈ e.f3) →
    Ev (fun k => belvederelaw22_NotifyOnce.l2 k own es res i is j ren of n) r
  | 0, j, is, hj, h => by
    refine Ev.step (f := fun k => belvederelaw22_NotifyOnce.l3 k own es res i is 0 ren of n) (fun k => ?_) ?_
    · simp only [belvederelaw22_NotifyOnce.l2]
      rw [if_neg (by omega)]
    · refine l3_ev own es ho he hc ren of n res i hi hres r hnext es.length 0 is (by omega) ?_
      rw [List.drop_eq_nil_of_le (by omega)] at h
      rw [List.drop_zero]
      rcases h with h | h | h
      · exact Or.inl h
      · cases h
      · exact Or.inr h
  | d + 1, j, is, hj, h => by
    have hjl : j < own.length := by omega
    have hd : own.drop j = own[j] :: own.drop (j + 1) := List.drop_eq_getElem_cons hjl
    rw [hd, List.mem_cons] at h
    cases is
    · refine Ev.step (f := fun k => belvederelaw22_NotifyOnce.l2 k own es res i (own[j] == res[i]) ((j + 1 : Nat) : Int) ren of n) (fun k => ?_) (l2_ev own es ho he hc ren of n res i hi hres r hnext d (j + 1) _ (by omega) ?_)
      · simp only [belvederelaw22_NotifyOnce.l2]
        rw [if_pos (by omega), if_neg (by simp), if_pos (by omega), if_pos (by omega), if_pos (by omega), rdi hjl, rdi hi, w64 (by omega) (by omega)]
        rfl
      · rcases h with h | (h | h) | h
        · cases h
        · exact Or.inl (beq_iff_eq.2 h.symm)
        · exact Or.inr (Or.inl h)
        · exact Or.inr (Or.inr h)
    · refine Ev.step (f := fun k => belvederelaw22_NotifyOnce.l2 k own es res i true ((j + 1 : Nat) : Int) ren of n) (fun k => ?_) (l2_ev own es ho he hc ren of n res i hi hres r hnext d (j + 1) true (by omega) (Or.inl rfl))
      simp only [belvederelaw22_NotifyOnce.l2]
      rw [if_pos (by omega), if_pos trivial, w64 (by omega) (by omega)]
      rfl

/-- all that is answered -/
theorem l1_ev (own : List Int) (es : List S28) (ho : own.length ≤ 60) (he : es.length ≤ 30) (hc : ∀ e ∈ es, e.f3.length ≤ 200) (ren of n : Int) (res : List Int) (hres : res.length ≤ 1000) (hasc : Nfy.Asc res) (hall : ∀ x ∈ res, x ∈ own ∨ ∃ e ∈ es, e.f0 = of ∧ e.f1 ≤ n ∧ x ∈ e.f3) : ∀ (d i : Nat), i + d = res.length →
    Ev (fun k => belvederelaw22_NotifyOnce.l1 k own es res i ren of n) true
  | 0, i, hi => by
    refine sure_ev _ (fun k => ?_)
    simp only [belvederelaw22_NotifyOnce.l1]
    rw [if_neg (by omega)]
  | d + 1, i, hi => by
    have hil : i < res.length := by omega
    refine Ev.step (f := fun k => belvederelaw22_NotifyOnce.j3 k own es res i false ren of n) (fun k => ?_) ?_
    · simp only [belvederelaw22_NotifyOnce.l1]
      rw [if_pos (by omega)]
      by_cases h0 : i = 0
      · subst h0
        rw [if_neg (by omega)]
      · have e1 : wrap64 ((i : Int) - 1) = ((i - 1 : Nat) : Int) := by rw [w64 (by omega) (by omega)]; omega
        have hlt := List.pairwise_iff_getElem.1 hasc (i - 1) i (by omega) hil (by omega)
        rw [if_pos (by omega), e1, if_pos (by omega), if_pos (by omega), if_pos (by omega), rdi (by omega), rdi hil, decide_eq_false (by omega)]
    · refine Ev.step (f := fun k => belvederelaw22_NotifyOnce.l2 k own es res i false 0 ren of n) (fun k => ?_) ?_
      · simp only [belvederelaw22_NotifyOnce.j3]
        rw [if_neg (by simp)]
      · refine l2_ev own es ho he hc ren of n res i hil hres true (l1_ev own es ho he hc ren of n res hres hasc hall d (i + 1) (by omega)) own.length 0 false (by omega) ?_
        rw [List.drop_zero]
        exact Or.inr (hall _ (List.getElem_mem hil))

theorem mn_le (a b : Int) : mn a b ≤ b ∧ mn a b ≤ a := by unfold mn; split <;> omega
theorem mn_small {a b c : Int} (h : mn a b ≤ c) (hc : c < b) : mn a b = a := by unfold mn at h ⊢; split at h <;> (split <;> omega)
theorem mn_ge {a b : Int} (h : 0 ≤ a) (hb : 0 ≤ b) : 0 ≤ mn a b := by unfold mn; split <;> omega
def tot28 (l : List S28) : Nat := (l.map fun e => e.f3.length).sum
theorem tot28_conv (l : List S28) : tot (l.map conv) = tot28 l := by unfold tot tot28; rw [List.map_map]; rfl
theorem tot28_mem {l : List S28} {e : S28} (h : e ∈ l) : e.f3.length ≤ tot28 l := by
  unfold tot28
  induction l with
  | nil => cases h
  | cons x t ih =>
    rw [List.map_cons, List.sum_cons]
    rcases List.mem_cons.1 h with rfl | h
    · omega
    · have := ih h; omega
theorem tot28_take (l : List S28) (i : Nat) (h : i < l.length) : tot28 (l.take (i + 1)) = tot28 (l.take i) + l[i].f3.length := by
  unfold tot28
  rw [List.take_succ_eq_append_getElem h, List.map_append, List.sum_append]
  simp

/-- the count of the contacts, and what follows -/
theorem once_l0 (own : List Int) (es : List S28) (he : es.length ≤ 30) (ren of n : Int)
    (hnext : tot28 es ≤ 200 → Ev (fun k => (belvederelaw22_give.f k es).bind fun t155 => ((notify_Choose.f k own ren t155 of n).bind fun bt158 => (if bt158.2 < 0 then (some false) else (belvederelaw22_NotifyOnce.l1 k own es bt158.1 0 ren of n)))) true) :
    ∀ (d i : Nat) (x : Int), i + d = es.length → 0 ≤ x → x ≤ 1000 * i → (x ≤ 200 → x = (tot28 (es.take i) : Int)) → Ev (fun k => belvederelaw22_NotifyOnce.l0 k own es x i ren of n) true
  | 0, i, x, hi, h0, hx, ht => by
    by_cases hbig : x > 200
    · refine sure_ev _ (fun k => ?_)
      simp only [belvederelaw22_NotifyOnce.l0]
      rw [if_neg (by omega), if_pos hbig]
    · refine Ev.step (fun k => ?_) (hnext ?_)
      · simp only [belvederelaw22_NotifyOnce.l0]
        rw [if_neg (by omega), if_neg hbig]
      · have := ht (by omega)
        rw [List.take_of_length_le (by omega)] at this
        omega
  | d + 1, i, x, hi, h0, hx, ht => by
    have hil : i < es.length := by omega
    have a1 := mn_le (es[i].f3.length : Int) 1000
    have a2 := mn_ge (a := (es[i].f3.length : Int)) (b := 1000) (by omega) (by omega)
    refine Ev.step (f := fun k => belvederelaw22_NotifyOnce.l0 k own es (x + mn (es[i].f3.length : Int) 1000) ((i + 1 : Nat) : Int) ren of n) (fun k => ?_) (once_l0 own es he ren of n hnext d (i + 1) (x + mn (es[i].f3.length : Int) 1000) (by omega) (by omega) (by omega) (fun h => ?_))
    · simp only [belvederelaw22_NotifyOnce.l0]
      rw [if_pos (by omega), if_pos (by omega), rd28 hil, w64 (x := x + mn (es[i].f3.length : Int) 1000) (by omega) (by omega), w64 (by omega) (by omega)]
      rfl
    · have h1 := ht (by omega)
      have h2 := mn_small (a := (es[i].f3.length : Int)) (b := 1000) (c := 200) (by omega) (by omega)
      rw [tot28_take es i hil]
      omega

theorem once_true (own : List Int) (es : List S28) (ren of n : Int) : Ev (fun k => belvederelaw22_NotifyOnce.f k own es ren of n) true := by
  unfold belvederelaw22_NotifyOnce.f
  have hsure : Ev (fun k => belvederelaw22_NotifyOnce.j0 k own es true ren of n) true := by
    refine sure_ev _ (fun k => ?_)
    simp only [belvederelaw22_NotifyOnce.j0]
    rw [if_pos trivial]
  by_cases h1 : own.length > 60
  · exact Ev.congr (fun k => if_pos (by omega)) hsure
  refine Ev.congr (fun k => if_neg (by omega)) ?_
  by_cases h2 : es.length > 30
  · rw [decide_eq_true (by omega)]; exact hsure
  rw [decide_eq_false (by omega)]
  refine Ev.step (f := fun k => belvederelaw22_NotifyOnce.l0 k own es 0 0 ren of n) (fun k => ?_) (once_l0 own es (by omega) ren of n (fun ht => ?_) es.length 0 0 (by omega) (by omega) (by omega) (fun _ => by simp [tot28]))
  · simp only [belvederelaw22_NotifyOnce.j0]
    rw [if_neg (by simp)]
  have hc : ∀ e ∈ es, e.f3.length ≤ 200 := fun e hee => Nat.le_trans (tot28_mem hee) ht
  refine Ev.bind (give_ev es (by omega)) ?_
  refine Ev.bind (choose_ev own ren of n (es.map conv) (by omega) (by simp; omega) (by rw [tot28_conv]; omega)) ?_
  obtain ⟨p1, p2⟩ := pick_mem of n (es.map conv) [] 0 false (by omega)
  have plen := pick_len of n (es.map conv) [] 0 false
  rw [tot28_conv] at plen
  generalize pick of n (es.map conv) [] 0 false = p at *
  have hpos : ¬ (answer own ren p).2 < 0 := by
    unfold answer
    split
    · show ¬ p.2.1 < 0; omega
    · show ¬ mx ren 0 < 0; unfold mx; split <;> omega
  refine Ev.congr (fun k => if_neg hpos) ?_
  obtain ⟨L, hL, hLen, hmem⟩ : ∃ L : List Int, (answer own ren p).1 = Lib.compact (srt L) ∧ L.length ≤ 200 ∧ ∀ x ∈ L, x ∈ own ∨ ∃ e ∈ es, e.f0 = of ∧ e.f1 ≤ n ∧ x ∈ e.f3 := by
    unfold answer
    split
    · refine ⟨p.1, rfl, by simp at plen; omega, fun x hx => ?_⟩
      rcases p2 x hx with h | ⟨e, hee, h3, h4⟩
      · cases h
      · obtain ⟨e0, he0, rfl⟩ := List.mem_map.1 hee
        simp only [counts, Bool.and_eq_true, decide_eq_true_eq] at h3
        exact Or.inr ⟨e0, he0, h3.1.1, h3.1.2, h4⟩
    · exact ⟨own, rfl, by omega, fun x hx => Or.inl hx⟩
  rw [hL]
  have hs : Nfy.Asc (Lib.compact (srt L)) ∧ ∀ x, x ∈ Lib.compact (srt L) ↔ x ∈ L := Nfy.once_spec L
  have hlen := compact_le (srt L)
  rw [srt_length] at hlen
  exact l1_ev own es (by omega) (by omega) hc ren of n (Lib.compact (srt L)) (by omega) hs.1 (fun x hx => hmem x ((hs.2 x).1 hx)) (Lib.compact (srt L)).length 0 (Nat.zero_add _)

theorem final_NotifyOnce (A0 : Option Addr) (c0 : Nat) (own : List Int) (A1 : Option Addr) (c1 : Nat) (es : List S28) (ren of n : Int) (w : World) (hr0 : Kd.C (Kd.int .i64) w A0 own.length own) (hc0 : own.length ≤ c0) (hr1 : Kd.C k28 w A1 es.length es) (hc1 : es.length ≤ c1) (hG : Glob w) :
    Calls Tryd.prog 4 #[.slice A0 own.length c0, .slice A1 es.length c1, .agg #[.int .i64 ren, .int .i64 of, .int .i64 n]] w fun e w' => e = .returned (.bool true) ∧ Below w.heap.size w w' := by
  obtain ⟨k, hk⟩ := (once_true own es ren of n).rounds
  exact belvederelaw22_NotifyOnce.calls k A0 c0 own A1 c1 es ren of n true w hr0 hc0 hr1 hc1 hG hk
end Go.Proofs.YtecgjkikgggoeaaDoor.Pr
