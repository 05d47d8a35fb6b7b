/-
  NARROWER THAN 'FOR EVERY INPUT', by the rows' own cells (each row's printed sentence says how): NotifyChooses: laid · NotifyOnce: laid.
  DERIVED. THE GIVEN ROWS OF THIS SEAT. 2 by the template 'for every input the law returns true; each argument reads behind the call as it read before'; 0 by the template 'total and deterministic' (their statements: YtecgjkikgggoeaaDoorTotals.lean).
  GIVEN WITH THE SEED: the statements are not yours to turn. If you find one false, say at which input.
  Laid BY PROGRAM, IN A SANDBOX (cutbox-rows.mjs): the forced cells as the released guide's own fill.sh prints them over the translation 8f970be0ec0831dc… (all of the seat's roots in one cut). By AI agents, Wed Nov 11 2026. No macro, syntax, notation, axiom, sorry.
-/
import Derived.Test.YtecgjkikgggoeaaDoorChecked
import GoSem.Claim
import GoSem.ClaimJoined
import GoSem.ClaimMapViews
import Derived.JoinedTies
import Derived.KernelRfl
namespace Go.Proofs.YtecgjkikgggoeaaDoor
/- THE CELL 'sum', in the pinned program and in every row, IS THE sha256 OF THE DUMP (.gsa) THAT YtecgjkikgggoeaaDoorProg.lean LOADS. Nothing in Lean hashes anything: it is a label: what it is worth is what the hold of that sum in a sandbox is worth. -/
noncomputable def Tryd.pinned : Pinned := { name := "ytecgjkikgggoeaadoor", sum := "8f970be0ec0831dca49e0cacd131bd06f644c561c2c8e270dcea872bb4e39fd9", checked := Tryd.checked }
namespace Rows
def none {H : Type} : Left H := { results := [], args := [] }

/- WHAT THE LISTED PACKAGE-LEVEL VARIABLES READ AS WHEN THE CALL BEGINS. Each datum BY PROGRAM (the guide's laid-datum.mjs) off the statement by which the dump's own 'gosem.cut.vars' lays the variable. In a bare row this is a premise. The card (YtecgjkikgggoeaaDoorCards.lean) ties it to the program's text. -/
def laid_belvedere_notify_words {H : Type} : DataW H := .agg [.lit (.string [112, 114, 111, 98, 108, 101, 109]), .lit (.string [114, 101, 99, 111, 118, 101, 114, 121]), .lit (.string [102, 108, 97, 112, 115, 116, 97, 114, 116]), .lit (.string [102, 108, 97, 112, 115, 116, 111, 112]), .lit (.string [99, 117, 115, 116, 111, 109])]

/-- 'belvederelaw22.NotifyChooses': WHATEVER THE INPUT: true; the input reads as it did. -/
def notifyChoosesSpec : ChangeSpec := { name := "notifyChooses", fn := fun _ => fun
  | [d1, d2, d3] => { results := [.lit (.bool true)], args := [d1, d2, d3] }
  | _ => none }
def notifyChoosesRow : OpenClaim := { program := "ytecgjkikgggoeaadoor", sum := "8f970be0ec0831dca49e0cacd131bd06f644c561c2c8e270dcea872bb4e39fd9", func := "belvedere/belvederelaw22.NotifyChooses", spec := "notifyChooses", unfollowed := true, recurses := true, named := ["belvedere/notify.words"], apart := false, laid := [("belvedere/notify.words", laid_belvedere_notify_words)] }
def NotifyChoosesSaid : Prop := notifyChoosesRow.holds Tryd.pinned (OpenSpec.ofChange notifyChoosesSpec)

/-- ITS FALSE NEIGHBOUR: 'it returns false'. Refute it at one input. -/
def notifyChoosesWrong : ChangeSpec := { name := "notifyChooses", fn := fun _ => fun
  | [d1, d2, d3] => { results := [.lit (.bool false)], args := [d1, d2, d3] }
  | _ => none }
def NotifyChoosesWrongFalsely : Prop := notifyChoosesRow.holds Tryd.pinned (OpenSpec.ofChange notifyChoosesWrong)

/-- 'belvederelaw22.NotifyOnce': WHATEVER THE INPUT: true; the input reads as it did. -/
def notifyOnceSpec : ChangeSpec := { name := "notifyOnce", fn := fun _ => fun
  | [d1, d2, d3] => { results := [.lit (.bool true)], args := [d1, d2, d3] }
  | _ => none }
def notifyOnceRow : OpenClaim := { program := "ytecgjkikgggoeaadoor", sum := "8f970be0ec0831dca49e0cacd131bd06f644c561c2c8e270dcea872bb4e39fd9", func := "belvedere/belvederelaw22.NotifyOnce", spec := "notifyOnce", unfollowed := true, recurses := true, named := ["belvedere/notify.words"], apart := false, laid := [("belvedere/notify.words", laid_belvedere_notify_words)] }
def NotifyOnceSaid : Prop := notifyOnceRow.holds Tryd.pinned (OpenSpec.ofChange notifyOnceSpec)

/-- ITS FALSE NEIGHBOUR: 'it returns false'. Refute it at one input. -/
def notifyOnceWrong : ChangeSpec := { name := "notifyOnce", fn := fun _ => fun
  | [d1, d2, d3] => { results := [.lit (.bool false)], args := [d1, d2, d3] }
  | _ => none }
def NotifyOnceWrongFalsely : Prop := notifyOnceRow.holds Tryd.pinned (OpenSpec.ofChange notifyOnceWrong)

/- THE SECOND FORM. 'bulk': how many values and letters a reading holds, each counted each time it is reached (what is shared counts as often as it is met; a slice's spare places count too). A statement '..UptoSaid' is the law's where the arguments, and the package variables that the reading takes, are together of bulk at most 1048576: NARROWER than '..Said'. Prove '..Said' where nothing that the law and all that it calls make is longer than what came in: it says more and counts as full. Else prove '..UptoSaid'. A law counts once. -/
mutual
def uptoBulk {H : Type} : DataW H → Nat
  | .lit (.string bytes) => bytes.length + 1
  | .lit _ => 1
  | .nil => 1
  | .ptr d => uptoBulk d + 1
  | .slice elems spare => uptoBulkAll elems + uptoBulkAll spare + 1
  | .agg parts => uptoBulkAll parts + 1
  | .iface _ d => uptoBulk d + 1
  | .map entries => uptoBulkEntries entries + 1
  | .held _ => 1
def uptoBulkAll {H : Type} : List (DataW H) → Nat
  | [] => 0
  | d :: r => uptoBulk d + uptoBulkAll r
def uptoBulkEntries {H : Type} : List (Lit × DataW H) → Nat
  | [] => 0
  | x :: r => uptoBulkEntry x + uptoBulkEntries r
def uptoBulkEntry {H : Type} : Lit × DataW H → Nat
  | (.string bytes, d) => bytes.length + uptoBulk d + 1
  | (_, d) => uptoBulk d + 1
 end
def uptoSmall : (H : Type) → List (DataW H) → Bool := fun _ ds => decide (uptoBulkAll ds ≤ 1048576)
def OpenSpec.upto (s : _root_.Go.ChangeSpec) : _root_.Go.OpenSpec := { _root_.Go.OpenSpec.ofChange s with cond := some uptoSmall }

/-- 'belvederelaw22.NotifyChooses', WHERE WHAT IT READS IS OF BULK AT MOST 1048576: true; the input reads as it did. -/
def notifyChoosesUptoRow : OpenClaim := { program := "ytecgjkikgggoeaadoor", sum := "8f970be0ec0831dca49e0cacd131bd06f644c561c2c8e270dcea872bb4e39fd9", func := "belvedere/belvederelaw22.NotifyChooses", spec := "notifyChooses", unfollowed := true, recurses := true, named := ["belvedere/notify.words"], apart := false, laid := [("belvedere/notify.words", laid_belvedere_notify_words)], narrowed := true }
def NotifyChoosesUptoSaid : Prop := notifyChoosesUptoRow.holds Tryd.pinned (OpenSpec.upto notifyChoosesSpec)

/-- 'belvederelaw22.NotifyOnce', WHERE WHAT IT READS IS OF BULK AT MOST 1048576: true; the input reads as it did. -/
def notifyOnceUptoRow : OpenClaim := { program := "ytecgjkikgggoeaadoor", sum := "8f970be0ec0831dca49e0cacd131bd06f644c561c2c8e270dcea872bb4e39fd9", func := "belvedere/belvederelaw22.NotifyOnce", spec := "notifyOnce", unfollowed := true, recurses := true, named := ["belvedere/notify.words"], apart := false, laid := [("belvedere/notify.words", laid_belvedere_notify_words)], narrowed := true }
def NotifyOnceUptoSaid : Prop := notifyOnceUptoRow.holds Tryd.pinned (OpenSpec.upto notifyOnceSpec)

end Rows
end Go.Proofs.YtecgjkikgggoeaaDoor
