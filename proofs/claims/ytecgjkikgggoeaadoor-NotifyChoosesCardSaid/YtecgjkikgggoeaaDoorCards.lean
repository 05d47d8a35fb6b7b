/-
  DERIVED. GIVEN WITH THE SEED: THE CARDS: each row of YtecgjkikgggoeaaDoorRows.lean that lists a variable, with what it lists TIED to the program's text (the seventh form; the later family's looks); each row that meets fmt, with fmt's text TOLD by the authors' own Lean function (tested against real Go, not proved from fmt's source: count such statements apart). THE CARD IS WHAT COUNTS. Prove the row's statement (the work); the ties are given (YtecgjkikgggoeaaDoorTie.lean); close each card by the builder's one call (the guide's Derived/Test/ToyasCard.lean, 'card_holds'). Laid BY PROGRAM, IN A SANDBOX (cutbox-door.mjs). By AI agents, Wed Nov 11 2026. No macro, syntax, notation, axiom, sorry.
-/
import Derived.Test.YtecgjkikgggoeaaDoorRows
import GoSem.ClaimSeven
namespace Go.Proofs.YtecgjkikgggoeaaDoor
namespace Rows

/-- THE TIED CARD OF 'belvederelaw22.NotifyChooses'. -/
def notifyChoosesCard : Claim7 := { stood := { row := notifyChoosesRow, standIns := [], harness := (true, "ae56df6ff45273438e18deb98fd6d0d669dc977aa1c1f8ff523b52b799f281b7"), looks := false }, kinds := [], alts := [], laidByText := true, laidKinds := [.data], laidTests := true, laidLooks := .later }
def NotifyChoosesCardSaid : Prop := Claim7.holds Tryd.pinned (.plain (OpenSpec.ofChange notifyChoosesSpec)) notifyChoosesCard

/-- THE TIED CARD OF 'belvederelaw22.NotifyOnce'. -/
def notifyOnceCard : Claim7 := { stood := { row := notifyOnceRow, standIns := [], harness := (true, "ae56df6ff45273438e18deb98fd6d0d669dc977aa1c1f8ff523b52b799f281b7"), looks := false }, kinds := [], alts := [], laidByText := true, laidKinds := [.data], laidTests := true, laidLooks := .later }
def NotifyOnceCardSaid : Prop := Claim7.holds Tryd.pinned (.plain (OpenSpec.ofChange notifyOnceSpec)) notifyOnceCard

/-- THE SECOND FORM's CARD OF 'belvederelaw22.NotifyChooses'. -/
def notifyChoosesUptoCard : Claim7 := { stood := { row := notifyChoosesUptoRow, standIns := [], harness := (true, "ae56df6ff45273438e18deb98fd6d0d669dc977aa1c1f8ff523b52b799f281b7"), looks := false }, kinds := [], alts := [], laidByText := true, laidKinds := [.data], laidTests := true, laidLooks := .later }
def NotifyChoosesUptoCardSaid : Prop := Claim7.holds Tryd.pinned (.plain (OpenSpec.upto notifyChoosesSpec)) notifyChoosesUptoCard

/-- THE SECOND FORM's CARD OF 'belvederelaw22.NotifyOnce'. -/
def notifyOnceUptoCard : Claim7 := { stood := { row := notifyOnceUptoRow, standIns := [], harness := (true, "ae56df6ff45273438e18deb98fd6d0d669dc977aa1c1f8ff523b52b799f281b7"), looks := false }, kinds := [], alts := [], laidByText := true, laidKinds := [.data], laidTests := true, laidLooks := .later }
def NotifyOnceUptoCardSaid : Prop := Claim7.holds Tryd.pinned (.plain (OpenSpec.upto notifyOnceSpec)) notifyOnceUptoCard
end Rows
end Go.Proofs.YtecgjkikgggoeaaDoor
