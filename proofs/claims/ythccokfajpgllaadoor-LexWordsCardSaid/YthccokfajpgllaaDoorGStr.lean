/- The library's string functions that layer 8 calls, in the print's form: strings.Trim, HasPrefix, CutSuffix, Cut, Split (out of the shelf's contracts). -/
import Derived.Test.YthccokfajpgllaaDoorPr0
import Derived.Test.YthccokfajpgllaaDoorGlob
import Derived.Test.YthccokfajpgllaaDoorShelf
import Derived.Test.YthccokfajpgllaaDoorLex
import Derived.Shelf.Strings.SlTrimAscii
namespace Go.Proofs.YthccokfajpgllaaDoor.Pr
open Go Go.RowKit Go.Shelf
open Go.Proofs.YthccokfajpgllaaDoorW.PrintWords Go.Proofs.YthccokfajpgllaaDoorW.PrintLast
set_option linter.unusedVariables false
set_option linter.unusedSimpArgs false

def bl (s : ByteArray) : Lx.B := s.data.toList
def ba (l : Lx.B) : ByteArray := ⟨l.toArray⟩
theorem ba_bl (s : ByteArray) : ba (bl s) = s := by cases s; simp [ba, bl]
theorem bl_ba (l : Lx.B) : bl (ba l) = l := rfl
theorem bl_size (s : ByteArray) : (bl s).length = s.size := by cases s; rfl

def strings_Trim.f (a0 a1 : ByteArray) : Option ByteArray := if a0.size ≤ 9223372036854775807 ∧ bl a1 = [32, 9, 13] then some (ba (Lx.trim (bl a0))) else none
theorem strings_Trim.calls (a0 a1 : ByteArray) (r : ByteArray) (w : World) (h : strings_Trim.f a0 a1 = some r) :
    Calls Tryd.prog 16 #[.string a0, .string a1] w fun e w' => e = .returned (.string r) ∧ Below w.heap.size w w' := by
  unfold strings_Trim.f at h
  split at h
  case isFalse => cases h
  rename_i hh
  obtain ⟨h1, h2⟩ := hh
  obtain rfl := Option.some.inj h
  obtain rfl : a1 = ⟨#[32, 9, 13]⟩ := by rw [← ba_bl a1, h2]; rfl
  exact Any.strings_Trim_laid Tryd.lays160 (by kernel_rfl) a0 ⟨#[32, 9, 13]⟩ w h1 (by decide) (ascii_of_all (by decide))

def strings_HasPrefix.f (a0 a1 : ByteArray) : Option Bool := some ((bl a1).isPrefixOf (bl a0))
theorem strings_HasPrefix.calls (a0 a1 : ByteArray) (r : Bool) (w : World) (h : strings_HasPrefix.f a0 a1 = some r) :
    Calls Tryd.prog 21 #[.string a0, .string a1] w fun e w' => e = .returned (.bool r) ∧ ∃ n, w' = w.drewN n := by
  obtain rfl := Option.some.inj h
  exact (Tryd.strings_HasPrefix a0 a1 w).mono fun e w' ⟨h1, h2⟩ => ⟨h1, 0, h2⟩

def strings_CutSuffix.f (a0 a1 : ByteArray) : Option (ByteArray × Bool) :=
  if a0.size ≤ 9223372036854775807 then some (ba (Lib.trimSuffix (bl a0) (bl a1)), Lib.hasSuffix (bl a0) (bl a1)) else none
theorem strings_CutSuffix.calls (a0 a1 : ByteArray) (r1 : ByteArray) (r2 : Bool) (w : World) (h : strings_CutSuffix.f a0 a1 = some (r1, r2)) :
    Calls Tryd.prog 14 #[.string a0, .string a1] w fun e w' => e = .returned (.tuple #[.string r1, .bool r2]) ∧ ∃ n, w' = w.drewN n := by
  unfold strings_CutSuffix.f at h
  split at h
  case isFalse => cases h
  rename_i h1
  obtain ⟨rfl, rfl⟩ := Prod.mk.inj (Option.some.inj h)
  exact (Tryd.strings_CutSuffix a0 a1 w h1).mono fun e w' ⟨h1, h2⟩ => ⟨h1, 0, h2⟩

def strings_Cut.f (a0 a1 : ByteArray) : Option (ByteArray × ByteArray × Bool) :=
  if a0.size < 4294967281 then some (ba (Lib.cut (bl a0) (bl a1)).1, ba (Lib.cut (bl a0) (bl a1)).2.1, (Lib.cut (bl a0) (bl a1)).2.2) else none
theorem strings_Cut.calls (a0 a1 : ByteArray) (r1 r2 : ByteArray) (r3 : Bool) (w : World) (hG : Glob w) (h : strings_Cut.f a0 a1 = some (r1, r2, r3)) :
    Calls Tryd.prog 22 #[.string a0, .string a1] w fun e w' => e = .returned (.tuple #[.string r1, .string r2, .bool r3]) ∧ ∃ n, w' = w.drewN n := by
  unfold strings_Cut.f at h
  split at h
  case isFalse => cases h
  rename_i h1
  obtain ⟨rfl, h2⟩ := Prod.mk.inj (Option.some.inj h)
  obtain ⟨rfl, rfl⟩ := Prod.mk.inj h2
  obtain ⟨m, hm⟩ := hG
  exact Tryd.strings_Cut a0 a1 m w h1 hm

def pieces (a0 a1 : ByteArray) : List ByteArray := Lib.splitB a1 0 (Lib.countB a0 a1) a0
def strings_Split.f (a0 a1 : ByteArray) : Option (List ByteArray) := if a0.size < 4294967281 ∧ 1 ≤ a1.size then some (pieces a0 a1) else none
theorem strings_Split.calls (a0 a1 : ByteArray) (r : List ByteArray) (w : World) (hG : Glob w) (h : strings_Split.f a0 a1 = some r) :
    Calls Tryd.prog 13 #[.string a0, .string a1] w fun e w' => ∃ v0_ : Value, e = .returned v0_ ∧ Kd.R Kd.string 9 w' w.heap.size (fun _ => True) v0_ r ∧ Below w.heap.size w w' := by
  unfold strings_Split.f at h
  split at h
  case isFalse => cases h
  rename_i hh
  obtain ⟨h1, h2⟩ := hh
  obtain rfl := Option.some.inj h
  obtain ⟨m, hm⟩ := hG
  have hlen : (pieces a0 a1).length = Lib.countB a0 a1 + 1 := Lib.splitB_all a1 h2 0 _ a0 rfl
  have hle := Lib.countB_le a1 h2 a0.size a0 (Nat.le_refl _)
  refine (Tryd.strings_Split a0 a1 m w h1 hm h2).mono ?_
  rintro e w' ⟨rfl, rfl⟩
  have hm : Lib.countB a0 a1 + 1 ≤ maxLen := by have : maxLen = 9223372036854775807 := rfl; omega
  have := World.ownsRow_lit (base := w.heap.size) (e := 9) (size := 1) w (((pieces a0 a1).map Value.string).toArray) (Lib.countB a0 a1 + 1) (Nat.le_refl _) hm (by simp [hlen])
  refine ⟨_, rfl, Kd.R_of_own (ok := fun _ => True) (by rw [hlen]; exact this) (fun _ _ => trivial), (Below.refl _ w).alloc (Nat.le_refl _) _⟩
end Go.Proofs.YthccokfajpgllaaDoor.Pr
