/- The reference's once in the printer's form: the numbers, ascending, each once. -/
import Derived.Test.YtecgjkikgggoeaaDoorGRef
namespace Go.Proofs.YtecgjkikgggoeaaDoor.Pr
open Go Go.RowKit
open Go.Proofs.YtecgjkikgggoeaaDoorW.PrintWords Go.Proofs.YtecgjkikgggoeaaDoorW.PrintLast
set_option linter.unusedVariables false
set_option linter.unusedSimpArgs false

theorem ref_once_nil (A : Option Addr) (c0 : Nat) (w : World) : Calls Tryd.prog 13 #[.slice A 0 c0] w fun e w' => e = .returned (.slice none 0 0) ∧ w = w' := by
  go_enter Tryd.func13, Tryd.ntmps13
  go_wp2
  refine wp_loop_rounds 1 ?_
  rw [rounds_succ]
  go_wp2
  go_ret
  exact ⟨rfl, rfl⟩
def belvedereref22_once.f (l0 : List Int) : Option (List Int) := if l0.length ≤ 1000000 then some (Lib.compact (srt l0)) else none
theorem belvedereref22_once.calls (A0 : Option Addr) (c0 : Nat) (l0 : List Int) (r : List Int) (w : World) (hr0 : Kd.C (Kd.int .i64) w A0 l0.length l0) (hc0 : l0.length ≤ c0) (h : belvedereref22_once.f l0 = some r) :
    Calls Tryd.prog 13 #[.slice A0 l0.length c0] w fun e w' => ∃ v0_ : Value, e = .returned v0_ ∧ Kd.R (Kd.int .i64) 3 w' w.heap.size (fun _ => True) v0_ r ∧ Below w.heap.size w w' := by
  unfold belvedereref22_once.f at h
  split at h
  case isFalse => cases h
  rename_i hl
  obtain rfl := Option.some.inj h
  have hs : Nfy.Asc (Lib.compact (srt l0)) ∧ ∀ x, x ∈ Lib.compact (srt l0) ↔ x ∈ l0 := Nfy.once_spec l0
  rcases holds3_C hr0 with rfl | ⟨ab, ao, rfl, hab, hcells⟩
  · refine (ref_once_nil A0 c0 w).mono ?_
    rintro e w' ⟨rfl, rfl⟩
    have e0 : Lib.compact (srt []) = [] := by
      have := compact_le (srt [])
      rw [srt_length] at this
      exact List.eq_nil_of_length_eq_zero (by simpa using this)
    rw [e0]
    exact ⟨_, rfl, Kd.R_nil (Kd.int .i64) 3 _ _ _, Below.refl _ _⟩
  · refine (ref_once ab ao c0 l0 w hab hl hcells).mono ?_
    rintro e w' ⟨v0, xs, rfl, h1, h2, _, h4, h5⟩
    have e1 : xs = Lib.compact (srt l0) := Nfy.asc_ext _ _ h1 hs.1 (fun y => by rw [h2, List.take_length, hs.2])
    rw [← e1]
    exact ⟨v0, rfl, h4, h5⟩
end Go.Proofs.YtecgjkikgggoeaaDoor.Pr
