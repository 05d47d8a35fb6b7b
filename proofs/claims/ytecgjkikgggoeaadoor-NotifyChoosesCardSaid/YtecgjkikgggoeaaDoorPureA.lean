/- What the printed functions of layer 22 come to: notify.Choose, give and sure. -/
import Derived.Test.YtecgjkikgggoeaaDoorPlain
import Derived.Test.YtecgjkikgggoeaaDoorGOnce
import Derived.Test.YtecgjkikgggoeaaDoorGAdmit
import Derived.Test.YtecgjkikgggoeaaDoorPr3
import Derived.Test.YtecgjkikgggoeaaDoorPr5
import Derived.Test.YtecgjkikgggoeaaDoorPr6
namespace Go.Proofs.YtecgjkikgggoeaaDoor.Pr
open Go Go.RowKit
open Go.Proofs.YtecgjkikgggoeaaDoorW.PrintWords Go.Proofs.YtecgjkikgggoeaaDoorW.PrintLast
set_option linter.unusedVariables false
set_option linter.unusedSimpArgs false

theorem w64 {x : Int} (h1 : -9223372036854775808 ≤ x) (h2 : x ≤ 9223372036854775807) : wrap64 x = x := by unfold wrap64; omega
theorem rdi {l : List Int} {j : Nat} (h : j < l.length) : rd l (j : Int) = l[j] := by unfold rd; simp [h]
theorem rd28 {l : List S28} {j : Nat} (h : j < l.length) : rd_T28 l (j : Int) = l[j] := by
  unfold rd_T28; rw [show (j : Int).toNat = j by omega]; simp [h]
theorem rd40 {l : List S40} {j : Nat} (h : j < l.length) : rd_T40 l (j : Int) = l[j] := by
  unfold rd_T40; rw [show (j : Int).toNat = j by omega]; simp [h]

theorem sure_true : belvederelaw22_sure.f = some true := by
  unfold belvederelaw22_sure.f
  rw [show notify_Admit.f 0 2 true true false false false false 4 0 = some 0 by decide, show notify_Admit.f 0 2 true true false false false true 4 0 = some 6 by decide, show notify_Word.f 4 = some ⟨#[99, 117, 115, 116, 111, 109]⟩ by rfl]
  simp [Lib.toList_data]

def conv (x : S28) : S40 := ⟨x.f0, x.f1, x.f2, x.f3, x.f4⟩
theorem give_l0 (l : List S28) (hl : l.length ≤ 30) : ∀ (d i : Nat), i + d = l.length → Ev (fun k => belvederelaw22_give.l0 k l ((l.take i).map conv) i) (l.map conv)
  | 0, i, hi => by
    refine Ev.step (f := fun _ => some _) (fun k => ?_) (Ev.now _)
    simp only [belvederelaw22_give.l0]
    rw [if_neg (by omega), List.take_of_length_le (by omega)]
  | d + 1, i, hi => by
    have hil : i < l.length := by omega
    refine Ev.step (f := fun k => belvederelaw22_give.l0 k l ((l.take (i + 1)).map conv) ((i + 1 : Nat) : Int)) (fun k => ?_) (give_l0 l hl d (i + 1) (by omega))
    simp only [belvederelaw22_give.l0]
    rw [if_pos (by omega), if_pos (by omega), if_pos (by simp; omega), rd28 hil, w64 (by omega) (by omega), List.take_succ_eq_append_getElem hil, List.map_append]
    rfl
theorem give_ev (l : List S28) (hl : l.length ≤ 30) : Ev (fun k => belvederelaw22_give.f k l) (l.map conv) := by
  have := give_l0 l hl l.length 0 (by omega)
  simpa [belvederelaw22_give.f] using this

/-! ### Choose -/
def tot (l : List S40) : Nat := (l.map fun e => e.f3.length).sum
def counts (of n : Int) (e : S40) : Bool := decide (e.f0 = of) && decide (e.f1 ≤ n) && (decide (e.f2 = 0) || decide (n ≤ e.f2))
def least (m r : Int) : Int := if r > 0 ∧ (m = 0 ∨ r < m) then r else m
def pick (of n : Int) : List S40 → List Int → Int → Bool → List Int × Int × Bool
  | [], out, m, some_ => (out, m, some_)
  | e :: t, out, m, some_ => if counts of n e = true then pick of n t (out ++ e.f3) (least m e.f4) true else pick of n t out m some_
def answer (own : List Int) (ren : Int) (p : List Int × Int × Bool) : List Int × Int :=
  if p.2.2 = true then (Lib.compact (srt p.1), p.2.1) else (Lib.compact (srt own), mx ren 0)

theorem choose_l0 (own : List Int) (ren of n : Int) (l : List S40) (ho : own.length ≤ 1000) (hl : l.length ≤ 30) : ∀ (d i : Nat) (out : List Int) (m : Int) (some_ : Bool), i + d = l.length → out.length + tot (l.drop i) ≤ 1000 →
    Ev (fun k => notify_Choose.l0 k own ren of n out m some_ l (l.length : Int) i) (answer own ren (pick of n (l.drop i) out m some_))
  | 0, i, out, m, some_, hi, ht => by
    refine Ev.step (f := fun _ => some _) (fun k => ?_) (Ev.now _)
    simp only [notify_Choose.l0]
    rw [if_neg (by omega), List.drop_eq_nil_of_le (by omega)]
    simp only [pick, answer]
    have h1 : notify_once.f out = some (Lib.compact (srt out)) := if_pos (by omega)
    have h2 : notify_once.f own = some (Lib.compact (srt own)) := if_pos (by omega)
    cases some_
    · rw [if_neg (by simp), h2]; rfl
    · rw [if_pos rfl, h1]; rfl
  | d + 1, i, out, m, some_, hi, ht => by
    have hil : i < l.length := by omega
    have w1 : wrap64 ((i : Int) + 1) = ((i + 1 : Nat) : Int) := by rw [w64 (by omega) (by omega)]; rfl
    have hd : l.drop i = l[i] :: l.drop (i + 1) := List.drop_eq_getElem_cons hil
    rw [hd] at ht ⊢
    simp only [tot, List.map_cons, List.sum_cons] at ht
    have he := rd40 hil
    obtain ⟨e, hee⟩ : ∃ e, e = l[i] := ⟨_, rfl⟩
    rw [← hee] at ht he ⊢
    have ht2 : out.length + e.f3.length + tot (l.drop (i + 1)) ≤ 1000 := by simp only [tot]; omega
    clear hd hee
    refine Ev.step (f := fun k => notify_Choose.j1 k own ren of n out m some_ l (l.length : Int) i (!counts of n e) e.f0 e.f1 e.f2 e.f3 e.f4) (fun k => ?_) ?_
    · simp only [notify_Choose.l0]
      rw [if_pos (by omega), if_pos (by omega), if_pos (by omega), he]
      by_cases c1 : e.f0 = of
      · rw [if_pos c1]
        by_cases c2 : e.f1 > n
        · rw [if_pos c2, show counts of n e = false by simp [counts, c1]; omega]; rfl
        · rw [if_neg c2]
          by_cases c3 : e.f2 = 0
          · rw [if_pos c3, show counts of n e = true by simp [counts, c1, c3]; omega]; rfl
          · rw [if_neg c3]
            by_cases c4 : e.f2 < n
            · rw [show counts of n e = false by simp [counts, c1, c3]; omega, show decide (e.f2 < n) = true from decide_eq_true c4]; rfl
            · rw [show counts of n e = true by simp [counts, c1]; omega, show decide (e.f2 < n) = false from decide_eq_false c4]; rfl
      · rw [if_neg c1, show counts of n e = false by simp [counts, c1]]; rfl
    · simp only [pick]
      by_cases hc : counts of n e = true
      · rw [if_pos hc, hc]
        refine Ev.step (f := fun k => notify_Choose.l0 k own ren of n (out ++ e.f3) (least m e.f4) true l (l.length : Int) ((i + 1 : Nat) : Int)) (fun k => ?_) (choose_l0 own ren of n l ho hl d (i + 1) (out ++ e.f3) (least m e.f4) true (by omega) (by rw [List.length_append]; omega))
        simp only [notify_Choose.j1, Bool.not_true]
        rw [if_neg (by simp), if_pos (by omega), Option.bind_some, w1]
        unfold least
        by_cases a1 : e.f4 > 0
        · rw [if_pos a1]
          by_cases a2 : m = 0
          · rw [if_pos a2, if_pos ⟨a1, Or.inl a2⟩]
          · rw [if_neg a2]
            by_cases a3 : e.f4 < m
            · rw [if_pos a3, if_pos ⟨a1, Or.inr a3⟩]
            · rw [if_neg a3, if_neg (fun h => h.2.elim a2 a3)]
        · rw [if_neg a1, if_neg (fun h => a1 h.1)]
      · have hcf : counts of n e = false := by simpa using hc
        rw [if_neg hc, hcf]
        refine Ev.step (f := fun k => notify_Choose.l0 k own ren of n out m some_ l (l.length : Int) ((i + 1 : Nat) : Int)) (fun k => ?_) (choose_l0 own ren of n l ho hl d (i + 1) out m some_ (by omega) (by omega))
        simp only [notify_Choose.j1, Bool.not_false]
        rw [if_pos trivial, w1]
theorem choose_ev (own : List Int) (ren of n : Int) (l : List S40) (ho : own.length ≤ 1000) (hl : l.length ≤ 30) (ht : tot l ≤ 1000) :
    Ev (fun k => notify_Choose.f k own ren l of n) (answer own ren (pick of n l [] 0 false)) := by
  have := choose_l0 own ren of n l ho hl l.length 0 [] 0 false (by omega) (by simpa using ht)
  exact this

theorem pick_mem (of n : Int) : ∀ (l : List S40) (out : List Int) (m : Int) (sm : Bool), 0 ≤ m → 0 ≤ (pick of n l out m sm).2.1 ∧ ∀ x, x ∈ (pick of n l out m sm).1 → x ∈ out ∨ ∃ e ∈ l, counts of n e = true ∧ x ∈ e.f3
  | [], out, m, sm, hm => ⟨hm, fun x hx => Or.inl hx⟩
  | e :: t, out, m, sm, hm => by
    simp only [pick]
    by_cases hc : counts of n e = true
    · rw [if_pos hc]
      obtain ⟨h1, h2⟩ := pick_mem of n t (out ++ e.f3) (least m e.f4) true (by unfold least; split <;> omega)
      refine ⟨h1, fun x hx => ?_⟩
      rcases h2 x hx with h | ⟨e', he', h3, h4⟩
      · rcases List.mem_append.1 h with h | h
        · exact Or.inl h
        · exact Or.inr ⟨e, by simp, hc, h⟩
      · exact Or.inr ⟨e', by simp [he'], h3, h4⟩
    · rw [if_neg hc]
      obtain ⟨h1, h2⟩ := pick_mem of n t out m sm hm
      refine ⟨h1, fun x hx => ?_⟩
      rcases h2 x hx with h | ⟨e', he', h3, h4⟩
      · exact Or.inl h
      · exact Or.inr ⟨e', by simp [he'], h3, h4⟩
theorem pick_len (of n : Int) : ∀ (l : List S40) (out : List Int) (m : Int) (sm : Bool), (pick of n l out m sm).1.length ≤ out.length + tot l
  | [], out, m, sm => by simp [pick]
  | e :: t, out, m, sm => by
    simp only [pick, tot, List.map_cons, List.sum_cons]
    by_cases hc : counts of n e = true
    · rw [if_pos hc]
      have := pick_len of n t (out ++ e.f3) (least m e.f4) true
      rw [List.length_append] at this
      simp only [tot] at this
      omega
    · rw [if_neg hc]
      have := pick_len of n t out m sm
      simp only [tot] at this
      omega
end Go.Proofs.YtecgjkikgggoeaaDoor.Pr
