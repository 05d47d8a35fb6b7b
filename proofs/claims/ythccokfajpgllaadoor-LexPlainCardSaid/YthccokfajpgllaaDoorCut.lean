/- What strings.Split tells at a separator of one byte: the pieces, cut at each such byte (plain Lean over the library's own words). -/
import Derived.Lib.SplitLaws
set_option linter.unusedSimpArgs false
namespace Go.Mac

def cutAt (c : UInt8) : List UInt8 → List (List UInt8)
  | [] => [[]]
  | b :: r => if b = c then [] :: cutAt c r else
    match cutAt c r with
    | [] => [[b]]
    | h :: t => (b :: h) :: t

theorem cutAt_length (c : UInt8) : ∀ s : List UInt8, (cutAt c s).length = s.count c + 1
  | [] => rfl
  | b :: r => by
    have ih := cutAt_length c r
    unfold cutAt
    by_cases h : b = c
    · subst h; rw [if_pos rfl]; simp [ih]
    · rw [if_neg h, List.count_cons_of_ne (by simpa using h), ← ih]
      cases e : cutAt c r with
      | nil => rw [e] at ih; simp at ih
      | cons x t => simp

theorem index_hit (c : UInt8) (r : List UInt8) : Lib.index (c :: r) [c] = 0 := by
  simp [Lib.index, List.isPrefixOf]
theorem index_ne {b c : UInt8} (h : b ≠ c) (r : List UInt8) : Lib.index (b :: r) [c] = if Lib.index r [c] == -1 then -1 else Lib.index r [c] + 1 := by
  have : (c == b) = false := by simpa using fun e => h e.symm
  simp [Lib.index, List.isPrefixOf, this]
theorem index_range (c : UInt8) : ∀ r : List UInt8, Lib.index r [c] = -1 ∨ 0 ≤ Lib.index r [c]
  | [] => Or.inl (by simp [Lib.index])
  | b :: r => by
    by_cases h : b = c
    · subst h; rw [index_hit]; omega
    · rw [index_ne h]
      split
      · exact Or.inl rfl
      · rename_i hh
        rcases index_range c r with e | e
        · rw [e] at hh; simp at hh
        · omega

theorem splitK_cut (c : UInt8) : ∀ s : List UInt8, Lib.splitK [c] 0 (Lib.count s [c]) s = cutAt c s
  | [] => by
    have : Lib.count [] [c] = 0 := by rw [Lib.count_one]; rfl
    rw [this]; rfl
  | b :: r => by
    have ih := splitK_cut c r
    rw [Lib.count_one] at ih ⊢
    by_cases h : b = c
    · subst h
      rw [List.count_cons_self]
      unfold Lib.splitK
      rw [index_hit]
      simp only [cutAt, if_true]
      rw [if_neg (by decide)]
      simpa using ih
    · rw [List.count_cons_of_ne (by simpa using h)]
      have hc : cutAt c (b :: r) = match cutAt c r with | [] => [[b]] | x :: t => (b :: x) :: t := by
        conv => lhs; unfold cutAt
        rw [if_neg h]
      rw [hc, ← ih]
      cases hk : r.count c with
      | zero => simp [Lib.splitK]
      | succ k =>
        have hi : ¬ (Lib.index r [c] == -1) = true := by
          intro e
          have := Lib.count_miss (s := r) (sub := [c]) (by simpa using e)
          rw [Lib.count_one] at this
          omega
        have h0 : 0 ≤ Lib.index r [c] := by
          rcases index_range c r with e | e
          · rw [e] at hi; simp at hi
          · exact e
        have hn : Lib.index (b :: r) [c] = Lib.index r [c] + 1 := by rw [index_ne h, if_neg hi]
        have hn' : ¬ (Lib.index (b :: r) [c] == -1) = true := by rw [hn]; simp; omega
        simp only [Lib.splitK]
        rw [if_neg hi, if_neg hn', hn]
        have e1 : (Lib.index r [c] + 1).toNat = (Lib.index r [c]).toNat + 1 := by omega
        rw [e1]
        simp [Nat.add_right_comm]

/-- the pieces of a text, as the library tells them -/
theorem splitB_cut (c : UInt8) (s : ByteArray) : (Lib.splitB ⟨#[c]⟩ 0 (Lib.countB s ⟨#[c]⟩) s).map (·.data.toList) = cutAt c s.data.toList := by
  rw [Lib.splitB_data]
  exact splitK_cut c s.data.toList
theorem countB_cut (c : UInt8) (s : ByteArray) : Lib.countB s ⟨#[c]⟩ = s.data.toList.count c := Lib.count_one c _
end Go.Mac
