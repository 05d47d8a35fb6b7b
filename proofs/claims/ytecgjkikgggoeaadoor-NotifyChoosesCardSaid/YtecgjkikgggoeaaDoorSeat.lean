/- What the rows of this seat list: what it gives the walks ('Glob'), and a world that meets it (the witness). -/
import Derived.Test.YtecgjkikgggoeaaDoorRows
import Derived.Test.YtecgjkikgggoeaaDoorGlob
import Derived.WalkKit
import Derived.ProofKit
import Derived.OpenShut
import Derived.LaidLaws
import Derived.LaidHandle
import Derived.FnData
import Derived.Deep.DeepHandedRow
namespace Go.Proofs.YtecgjkikgggoeaaDoor.Seat
open Go Go.ChangeShapes Go.WideShapes Go.ChangeAt Go.RowKit

theorem own : ownKnob Tryd.prog.godebug = none := by kernel_rfl
theorem laidOut : laidOutB Tryd.prog = true := by kernel_rfl
theorem wn : Tryd.prog.globalNamed "belvedere/notify.words" = some 0 := by kernel_rfl
theorem wt : (Tryd.prog.globals[0]?).map (·.type) = some 44 := by kernel_rfl
abbrev laid : List (String × DataW Unit) := [("belvedere/notify.words", Rows.laid_belvedere_notify_words)]

theorem glob {W : World} (h : laidMetH Tryd.prog laid W) (hsh : W.ShapedOpen Tryd.prog) : Pr.Glob W := by
  have h' : laidMet Tryd.prog laid W := h
  obtain ⟨ps, ⟨g, t, cs, fuel, p, q, hg, ht, hcs, htr, _⟩, _⟩ := h'
  obtain rfl := Option.some.inj (wn.symm.trans hg)
  obtain rfl := Option.some.inj (wt.symm.trans ht)
  have hu : Tryd.prog.underlying 44 = some (.array 5 9) := by kernel_rfl
  have hc : Tryd.prog.cellsOf 9 = 1 := by kernel_rfl
  obtain ⟨xs, m, _, hx, hl, hn, hel⟩ := DataW.trod_array hu htr
  have h4 := hel 4 (by omega)
  rw [hc] at h4
  match xs, hn with
  | [x0, x1, x2, x3, x4], _ =>
    obtain ⟨s, hs, e4, _⟩ := DataW.trod_string Tryd.underlying9 (x := x4) (by simpa using h4)
    have hd : Rows.laid_belvedere_notify_words = DataW.agg [x0.1, x1.1, x2.1, x3.1, x4.1] := by have := congrArg Prod.fst hx; simpa using this
    have h5 : (DataW.lit (.string [99, 117, 115, 116, 111, 109]) : DataW Unit) = x4.1 := by
      unfold Rows.laid_belvedere_notify_words at hd
      injection hd with hd
      injection hd with _ hd
      injection hd with _ hd
      injection hd with _ hd
      injection hd with _ hd
      injection hd with hd
    rw [e4] at h5
    have h6 : s = ⟨#[99, 117, 115, 116, 111, 109]⟩ := by
      have h7 : s.data.toList = [99, 117, 115, 116, 111, 109] := by
        injection h5 with h5
        injection h5 with h5
        exact h5.symm
      cases s
      congr 1
      exact Array.toList_inj.1 h7
    have hk : cs[4]? = some (.string s) := by
      have h8 : (cs.toList.drop 4).take 1 = [.string s] := by simpa using hs
      have h9 := congrArg (·[0]?) h8
      simpa using h9
    show W.cell? ⟨0, 4, none⟩ = some _
    rw [World.var?_cell wn hcs 4, hk, h6]

/-- A world that meets the condition: the settled one, the variable's cells laid. -/
noncomputable def laidWorld (os : Os) : World :=
  let w0 := World.holding Tryd.prog os ⟨#[], #[], []⟩
  { w0 with heap := w0.heap.modify 0 fun
      | .cells _ t frozen => .cells #[.string ⟨#[112, 114, 111, 98, 108, 101, 109]⟩, .string ⟨#[114, 101, 99, 111, 118, 101, 114, 121]⟩, .string ⟨#[102, 108, 97, 112, 115, 116, 97, 114, 116]⟩, .string ⟨#[102, 108, 97, 112, 115, 116, 111, 112]⟩, .string ⟨#[99, 117, 115, 116, 111, 109]⟩] t frozen
      | o => o }
theorem laid_met (os : Os) (args : Array Value) : laidMetH Tryd.prog laid ((laidWorld os).forCall (fun _ _ => 0) ⟨#[], args, []⟩).memory :=
  laidMetH_of_parts (laidMet_of_run' 8 (by kernel_rfl) (by kernel_rfl)) (by kernel_rfl)
end Go.Proofs.YtecgjkikgggoeaaDoor.Seat
