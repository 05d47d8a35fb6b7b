/- What the package-level variables hold that the walks of this seat read: notify.words' last text, as its own initialiser lays it. It stays so in every later world. -/
import Derived.Test.YtecgjkikgggoeaaDoorProg
import Derived.Below
namespace Go.Proofs.YtecgjkikgggoeaaDoor.Pr
open Go Go.RowKit

def Glob (w : World) : Prop := w.cell? ⟨0, 4, none⟩ = some (.string ⟨#[99, 117, 115, 116, 111, 109]⟩)
theorem Glob.below {w w' : World} (h : Glob w) (hb : Below w.heap.size w w') : Glob w' := (hb.cell (World.block_lt_of_cell? w _ h)).trans h
end Go.Proofs.YtecgjkikgggoeaaDoor.Pr
