/- What the package-level variables hold that the walks of this seat read: errors.errorType as its own initialiser lays it; internal/bytealg.MaxLen: some number. It stays so in every later world. -/
import Derived.Test.YtdjnpjakbiehdaaDoorProg
import Derived.Below
namespace Go.Proofs.YtdjnpjakbiehdaaDoor.Pr
open Go Go.RowKit

def Glob (w : World) : Prop := w.cell? ⟨0, 0, none⟩ = some (.iface 85 (.agg #[.pointer (some ⟨4, 26, none⟩)])) ∧ (∃ m : Int, w.cell? ⟨1, 0, none⟩ = some (.int .i64 m))
theorem Glob.errorType {w : World} (h : Glob w) : w.cell? ⟨0, 0, none⟩ = some (.iface 85 (.agg #[.pointer (some ⟨4, 26, none⟩)])) := h.1
theorem Glob.maxLen {w : World} (h : Glob w) : ∃ m : Int, w.cell? ⟨1, 0, none⟩ = some (.int .i64 m) := h.2
theorem Glob.lt {w : World} (h : Glob w) : 0 < w.heap.size := World.block_lt_of_cell? w _ h.errorType
theorem Glob.below {w w' : World} (h : Glob w) (hb : Below w.heap.size w w') : Glob w' :=
  ⟨(hb.cell (World.block_lt_of_cell? w _ h.1)).trans h.1, h.2.elim fun m hm => ⟨m, (hb.cell (World.block_lt_of_cell? w _ hm)).trans hm⟩⟩
end Go.Proofs.YtdjnpjakbiehdaaDoor.Pr
