/- The contracts of layer 21's callees in every world that stands behind the call's own. -/
import Derived.Test.YtdjnpjakbiehdaaDoorPureA
namespace Go.Proofs.YtdjnpjakbiehdaaDoor.Pr
open Go Go.RowKit
open Go.Proofs.YtdjnpjakbiehdaaDoorW.PrintWords Go.Proofs.YtdjnpjakbiehdaaDoorW.PrintLast
set_option linter.unusedVariables false

section
variable {w W : World}
theorem thenB {W' : World} (hb : Below w.heap.size w W) (h : Below W.heap.size W W') : Below w.heap.size w W' := hb.trans (h.mono hb.size)
theorem num_at (hG : Glob w) (hb : Below w.heap.size w W) (a : Option Int) :
    Calls Tryd.prog 13 #[errW a] W fun e w' => e = .returned (.int .i64 (a.getD 0)) ∧ Below w.heap.size w w' :=
  (belvederelaw21_num.calls a _ W (hG.below hb) rfl).mono fun _ _ ⟨he, h⟩ => ⟨he, thenB hb h⟩
theorem num_at_some (hG : Glob w) (hb : Below w.heap.size w W) (c : Int) :
    Calls Tryd.prog 13 #[.iface 56 (.int .i64 c)] W fun e w' => e = .returned (.int .i64 c) ∧ Below w.heap.size w w' := num_at hG hb (some c)
theorem num_at_none (hG : Glob w) (hb : Below w.heap.size w W) :
    Calls Tryd.prog 13 #[.nilIface] W fun e w' => e = .returned (.int .i64 0) ∧ Below w.heap.size w w' := num_at hG hb none
theorem sure_at (hG : Glob w) (hb : Below w.heap.size w W) :
    Calls Tryd.prog 9 #[] W fun e w' => e = .returned (.bool true) ∧ Below w.heap.size w w' :=
  (belvederelaw21_sure.calls true W (hG.below hb) sure_true).mono fun _ _ ⟨he, h⟩ => ⟨he, thenB hb h⟩
theorem huge_at {A1 : Option Addr} {c1 : Nat} {l : List S49} (hr1 : Kd.C k49 w A1 l.length l) (hc1 : l.length ≤ c1) (hb : Below w.heap.size w W) {b : Bool} (h : Ev (fun k => belvederelaw21_huge.f k l) b) :
    Calls Tryd.prog 8 #[.slice A1 l.length c1] W fun e w' => e = .returned (.bool b) ∧ Below w.heap.size w w' := by
  obtain ⟨k, hk⟩ := h.rounds
  exact (belvederelaw21_huge.calls k A1 c1 l b W (Kd.C_below hr1 hb) hc1 hk).mono fun _ _ ⟨he, h⟩ => ⟨he, thenB hb h⟩
theorem give_at {A1 : Option Addr} {c1 : Nat} {l : List S49} (hr1 : Kd.C k49 w A1 l.length l) (hc1 : l.length ≤ c1) (hl : l.length ≤ 60) (hb : Below w.heap.size w W) :
    Calls Tryd.prog 11 #[.slice A1 l.length c1] W fun e w' => ∃ A c, e = .returned (.slice A (l.map conv).length c) ∧ Kd.C k37 w' A (l.map conv).length (l.map conv) ∧ (l.map conv).length ≤ c ∧ Below w.heap.size w w' := by
  obtain ⟨k, hk⟩ := (give_ev l hl).rounds
  refine (belvederelaw21_give.calls k A1 c1 l _ W (Kd.C_below hr1 hb) hc1 hk).mono ?_
  rintro e w' ⟨v, rfl, hR, h⟩
  obtain ⟨A, c, rfl, hle, hC⟩ := Kd.R_reads hR
  exact ⟨A, c, rfl, hC, hle, thenB hb h⟩
def eW (c : Int) : Option Int := if c = 0 then none else some c
theorem expand_at (hG : Glob w) {A1 : Option Addr} {c1 : Nat} {l : List S37} (s : ByteArray) (hr1 : Kd.C k37 W A1 l.length l) (hc1 : l.length ≤ c1) (hb : Below w.heap.size w W) :
    Calls Tryd.prog 10 #[.string s, .slice A1 l.length c1] W fun e w' => e = .returned (.tuple #[.string ⟨(Mac.expd (l.map mac) (bl s)).1.toArray⟩, errW (eW (Mac.expd (l.map mac) (bl s)).2)]) ∧ Below w.heap.size w w' :=
  (macro_Expand.calls s A1 c1 l _ _ W hr1 hc1 (hG.below hb) rfl).mono fun _ _ ⟨he, h⟩ => ⟨he, thenB hb h⟩
end
end Go.Proofs.YtdjnpjakbiehdaaDoor.Pr
