/- What the package-level variables hold that the walks of this seat read: internal/bytealg.MaxLen: some number. It stays so in every later world. -/
import Derived.Test.YthccokfajpgllaaDoorProg
import Derived.Below
namespace Go.Proofs.YthccokfajpgllaaDoor.Pr
open Go Go.RowKit

def Glob (w : World) : Prop := ∃ m : Int, w.cell? ⟨0, 0, none⟩ = some (.int .i64 m)
theorem Glob.below {w w' : World} (h : Glob w) (hb : Below w.heap.size w w') : Glob w' :=
  h.elim fun m hm => ⟨m, (hb.cell (World.block_lt_of_cell? w _ hm)).trans hm⟩
end Go.Proofs.YthccokfajpgllaaDoor.Pr
