/- MacroNames answers true: the printed law's function comes to true, whatever the text. -/
import Derived.Test.YtdjnpjakbiehdaaDoorPureB
import Derived.Test.YtdjnpjakbiehdaaDoorPr16
namespace Go.Proofs.YtdjnpjakbiehdaaDoor.Pr
open Go Go.RowKit
open Go.Proofs.YtdjnpjakbiehdaaDoorW.PrintWords Go.Proofs.YtdjnpjakbiehdaaDoorW.PrintLast

theorem namesGo_le : ∀ (odd : Bool) (ps out : List Mac.B), (Mac.namesGo odd ps out).length ≤ out.length + ps.length
  | _, [], out => by simp [Mac.namesGo]
  | odd, p :: t, out => by
    have h := namesGo_le (!odd) t (if odd = true ∧ p ≠ [] ∧ p ∉ out then out ++ [p] else out)
    conv => lhs; unfold Mac.namesGo
    by_cases hc : odd = true ∧ p ≠ [] ∧ p ∉ out
    · rw [if_pos hc] at h ⊢
      simp only [List.length_append, List.length_cons, List.length_nil] at h ⊢
      omega
    · rw [if_neg hc] at h ⊢
      simp only [List.length_cons]
      omega
theorem names_le (s : Mac.B) : (names s).length ≤ s.length + 1 := by
  unfold names
  split
  · have h := namesGo_le false (Mac.cut s) []
    have h2 : s.count 36 ≤ s.length := List.count_le_length
    rw [Mac.cut_length] at h
    simp at h
    omega
  · simp

theorem names_true (s : ByteArray) : Ev (fun k => belvederelaw21_MacroNames.f k s) true := by
  have hb := bl_size s
  unfold belvederelaw21_MacroNames.f
  by_cases h1 : s.size > 3000
  · refine Ev.congr (f := fun _ => some true) (fun k => ?_) (Ev.now _)
    rw [if_pos (by omega), sure_true]
    rfl
  · refine Ev.congr (fun k => if_neg (by omega)) ?_
    unfold macro_Names.f macro_Quote.f
    simp only [Option.bind_some]
    refine Ev.bind (names_ev s) ?_
    refine Ev.bind (quote_ev s) ?_
    refine Ev.bind (texts_ev _ (by have := names_le (bl s); simp; omega)) ?_
    refine Ev.congr (f := fun _ => some true) (fun k => ?_) (Ev.now _)
    rw [if_pos rfl]
    unfold belvederelaw21_num.f
    simp only [Option.bind_some]
    rw [if_pos (by split <;> simp_all), if_pos trivial, if_pos (by split <;> simp_all), sure_true]
    rfl

theorem final_MacroNames (s : ByteArray) (w : World) (_h0 : s.size ≤ 140737488351232) (hG : Glob w) :
    Calls Tryd.prog 6 #[.string s] w fun e w' => e = .returned (.bool true) ∧ Below w.heap.size w w' := by
  obtain ⟨k, hk⟩ := (names_true s).rounds
  exact belvederelaw21_MacroNames.calls k s true w hG hk
end Go.Proofs.YtdjnpjakbiehdaaDoor.Pr
