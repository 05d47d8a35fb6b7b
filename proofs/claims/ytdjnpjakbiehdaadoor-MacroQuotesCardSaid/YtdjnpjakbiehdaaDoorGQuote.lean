/- macro.Quote by a walk of Go's text: what it answers is the plain function 'Mac.quote', at every text of a size that the machine has. -/
import Derived.Test.YtdjnpjakbiehdaaDoorGExpand
import Derived.Lib.Replace
set_option linter.unusedSimpArgs false
namespace Go.Mac
theorem replaceK_quote (c : UInt8) (new : List UInt8) : ∀ s : List UInt8, Lib.replaceK [c] new (s.count c) s = s.flatMap fun x => if x = c then new else [x]
  | [] => rfl
  | b :: r => by
    have ih := replaceK_quote c new r
    by_cases h : b = c
    · subst h
      rw [List.count_cons_self]
      unfold Lib.replaceK
      rw [index_hit]
      simpa using ih
    · rw [List.count_cons_of_ne (by simpa using h), List.flatMap_cons, if_neg h, ← ih]
      cases hk : r.count c with
      | zero => simp [Lib.replaceK]
      | succ k =>
        have hi : ¬ (Lib.index r [c] == -1) = true := by
          intro e
          have := Lib.count_miss (s := r) (sub := [c]) (by simpa using e)
          rw [Lib.count_one] at this
          omega
        have h0 : 0 ≤ Lib.index r [c] := by
          rcases index_range c r with e | e
          · rw [e] at hi; simp at hi
          · exact e
        have hn : Lib.index (b :: r) [c] = Lib.index r [c] + 1 := by rw [index_ne h, if_neg hi]
        have hn' : ¬ (Lib.index (b :: r) [c] == -1) = true := by rw [hn]; simp; omega
        simp only [Lib.replaceK]
        rw [if_neg hi, if_neg hn', hn]
        have e1 : (Lib.index r [c] + 1).toNat = (Lib.index r [c]).toNat + 1 := by omega
        rw [e1]
        simp [Nat.add_right_comm]
theorem replaceAll_quote (s : List UInt8) : Lib.replaceAll s [36] [36, 36] = quote s := by
  unfold Lib.replaceAll Lib.replace Lib.replaceNum
  rw [if_neg (by decide), if_pos (Or.inl (by decide)), Lib.count_one]
  exact replaceK_quote 36 [36, 36] s
end Go.Mac
namespace Go.Proofs.YtdjnpjakbiehdaaDoor.Pr
open Go Go.RowKit Go.Shelf
open Go.Proofs.YtdjnpjakbiehdaaDoorW.PrintWords Go.Proofs.YtdjnpjakbiehdaaDoorW.PrintLast
set_option linter.unusedVariables false
set_option linter.unusedSimpArgs false

/-- what Quote answers -/
def quoteRes (s : Mac.B) : Mac.B × Int := if s.length > 65536 ∨ (Mac.quote s).length > 65536 then ([], 2) else (Mac.quote s, 0)
def macro_Quote.f (a0 : ByteArray) : Option (ByteArray × Option Int) :=
  some (⟨(quoteRes (bl a0)).1.toArray⟩, if (quoteRes (bl a0)).2 = 0 then none else some (quoteRes (bl a0)).2)

set_option maxRecDepth 100000 in
theorem macro_Quote.calls (a0 : ByteArray) (r1 : ByteArray) (r2 : Option Int) (w : World) (hG : Glob w) (h : macro_Quote.f a0 = some (r1, r2)) :
    Calls Tryd.prog 16 #[.string a0] w fun e w' => e = .returned (.tuple #[.string r1, errW r2]) ∧ Below w.heap.size w w' := by
  simp only [macro_Quote.f, Option.some.injEq, Prod.mk.injEq] at h
  obtain ⟨rfl, rfl⟩ := h
  have hlen := bl_size a0
  have hu := Tryd.underlying26
  have hu2 := Tryd.underlying56
  by_cases h1 : 65536 < a0.size
  · have e1 : quoteRes (bl a0) = ([], 2) := by unfold quoteRes; rw [if_pos (Or.inl (by omega))]
    rw [e1]
    have d1 : decide (65536 < a0.size) = true := decide_eq_true h1
    clear hG e1
    go_enter Tryd.func16, Tryd.ntmps16
    go_wp2
    go_ret2
    exact ⟨rfl, Below.refl _ _⟩
  · obtain ⟨m, hm⟩ := hG.maxLen
    have hcnt : Lib.countB a0 ⟨#[36]⟩ = (bl a0).count 36 := countB_36 a0
    have hcl : (bl a0).count 36 ≤ (bl a0).length := List.count_le_length
    have cR : Calls Tryd.prog 26 #[.string a0, .string ⟨#[36]⟩, .string ⟨#[36, 36]⟩] w fun e w' => e = .returned (.string ⟨(Mac.quote (bl a0)).toArray⟩) ∧ Below w.heap.size w w' := by
      have := Tryd.strings_ReplaceAll a0 ⟨#[36]⟩ ⟨#[36, 36]⟩ m w (by omega) hm (by decide) (by rw [hcnt, show (⟨#[36, 36]⟩ : ByteArray).size = 2 from rfl]; omega)
      rw [show Lib.replaceAll a0.data.toList (⟨#[36]⟩ : ByteArray).data.toList (⟨#[36, 36]⟩ : ByteArray).data.toList = Mac.quote (bl a0) from Mac.replaceAll_quote _] at this
      exact this
    have d1 : decide (65536 < a0.size) = false := decide_eq_false h1
    have hq : (⟨(Mac.quote (bl a0)).toArray⟩ : ByteArray).size = (Mac.quote (bl a0)).length := rfl
    by_cases h2 : 65536 < (Mac.quote (bl a0)).length
    · have e1 : quoteRes (bl a0) = ([], 2) := by unfold quoteRes; rw [if_pos (Or.inr h2)]
      rw [e1]
      rw [← hq] at h2
      generalize (⟨(Mac.quote (bl a0)).toArray⟩ : ByteArray) = q at cR h2
      have d2 : decide (65536 < q.size) = true := decide_eq_true h2
      clear hG e1 hm hq
      go_enter Tryd.func16, Tryd.ntmps16
      go_wp2_with (go_at_call 26; refine cR.mono ?_; rintro e w' ⟨rfl, hb⟩)
      go_ret2
      exact ⟨rfl, hb⟩
    · have e1 : quoteRes (bl a0) = (Mac.quote (bl a0), 0) := by unfold quoteRes; rw [if_neg (by omega)]
      rw [e1]
      rw [← hq] at h2
      generalize (⟨(Mac.quote (bl a0)).toArray⟩ : ByteArray) = q at cR h2 ⊢
      have d2 : decide (65536 < q.size) = false := decide_eq_false h2
      clear hG e1 hm hq
      go_enter Tryd.func16, Tryd.ntmps16
      go_wp2_with (go_at_call 26; refine cR.mono ?_; rintro e w' ⟨rfl, hb⟩)
      go_ret2
      exact ⟨rfl, hb⟩
end Go.Proofs.YtdjnpjakbiehdaaDoor.Pr
