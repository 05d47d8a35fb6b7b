-- written by wip/tools/myprint.py out of Lean's own print of the program
import Derived.Test.YtecgjkikgggoeaaDoorPr0
import Derived.Test.YtecgjkikgggoeaaDoorPr3
import Derived.Test.YtecgjkikgggoeaaDoorPr5
import Derived.Test.YtecgjkikgggoeaaDoorPr6
import Derived.Test.YtecgjkikgggoeaaDoorGlob
namespace Go.Proofs.YtecgjkikgggoeaaDoor.Pr
open Go.RowKit Go.Proofs.YtecgjkikgggoeaaDoorW.PrintWords Go.Proofs.YtecgjkikgggoeaaDoorW.PrintLast Go.Proofs.YtecgjkikgggoeaaDoorW.PrintMore
attribute [local go_sem] max2_int min2_int max_two min_two max_three min_three max_four min_four   -- for this text's walks alone
set_option linter.unusedVariables false
set_option linter.unusedSimpArgs false

/-! ### belvederelaw22_NotifyOnce: function 4 -/
mutual
def belvederelaw22_NotifyOnce.j0 : Nat → List Int → List (S28) → Bool → Int → Int → Int → Option (Bool)
  | 0, _, _, _, _, _, _ => none
  | k + 1, x0, x1, x23, x152000, x152001, x152002 => if x23 = true then ((belvederelaw22_sure.f).bind fun t152 => (some t152)) else (belvederelaw22_NotifyOnce.l0 k x0 x1 0 0 x152000 x152001 x152002)
def belvederelaw22_NotifyOnce.l0 : Nat → List Int → List (S28) → Int → Int → Int → Int → Int → Option (Bool)
  | 0, _, _, _, _, _, _, _ => none
  | k + 1, x0, x1, x7, x8, x152000, x152001, x152002 => if x8 < (x1.length : Int) then (if 0 ≤ x8 then (belvederelaw22_NotifyOnce.l0 k x0 x1 (wrap64 (x7 + (mn (((rd_T28 x1 x8).f3).length : Int) 1000))) (wrap64 (x8 + 1)) x152000 x152001 x152002) else (none)) else (if x7 > 200 then ((belvederelaw22_sure.f).bind fun t154 => (some t154)) else ((belvederelaw22_give.f k x1).bind fun t155 => ((notify_Choose.f k x0 x152000 t155 x152001 x152002).bind fun bt158 => (if bt158.2 < 0 then (some false) else (belvederelaw22_NotifyOnce.l1 k x0 x1 bt158.1 0 x152000 x152001 x152002)))))
def belvederelaw22_NotifyOnce.l1 : Nat → List Int → List (S28) → List Int → Int → Int → Int → Int → Option (Bool)
  | 0, _, _, _, _, _, _, _ => none
  | k + 1, x0, x1, x9, x11, x152000, x152001, x152002 => if x11 < (x9.length : Int) then (if x11 > 0 then (if 0 ≤ (wrap64 (x11 - 1)) then (if (wrap64 (x11 - 1)) < (x9.length : Int) then (if 0 ≤ x11 then (belvederelaw22_NotifyOnce.j3 k x0 x1 x9 x11 (decide ((rd x9 (wrap64 (x11 - 1))) ≥ (rd x9 x11))) x152000 x152001 x152002) else (none)) else (none)) else (none)) else (belvederelaw22_NotifyOnce.j3 k x0 x1 x9 x11 false x152000 x152001 x152002)) else ((belvederelaw22_sure.f).bind fun t162 => (some t162))
def belvederelaw22_NotifyOnce.j3 : Nat → List Int → List (S28) → List Int → Int → Bool → Int → Int → Int → Option (Bool)
  | 0, _, _, _, _, _, _, _, _ => none
  | k + 1, x0, x1, x9, x11, x77, x152000, x152001, x152002 => if x77 = true then (some false) else (belvederelaw22_NotifyOnce.l2 k x0 x1 x9 x11 false 0 x152000 x152001 x152002)
def belvederelaw22_NotifyOnce.l2 : Nat → List Int → List (S28) → List Int → Int → Bool → Int → Int → Int → Int → Option (Bool)
  | 0, _, _, _, _, _, _, _, _, _ => none
  | k + 1, x0, x1, x9, x11, x12, x13, x152000, x152001, x152002 => if x13 < (x0.length : Int) then (if x12 = true then (belvederelaw22_NotifyOnce.l2 k x0 x1 x9 x11 true (wrap64 (x13 + 1)) x152000 x152001 x152002) else (if 0 ≤ x13 then (if 0 ≤ x11 then (if x11 < (x9.length : Int) then (belvederelaw22_NotifyOnce.l2 k x0 x1 x9 x11 ((rd x0 x13) == (rd x9 x11)) (wrap64 (x13 + 1)) x152000 x152001 x152002) else (none)) else (none)) else (none))) else (belvederelaw22_NotifyOnce.l3 k x0 x1 x9 x11 x12 0 x152000 x152001 x152002)
def belvederelaw22_NotifyOnce.l3 : Nat → List Int → List (S28) → List Int → Int → Bool → Int → Int → Int → Int → Option (Bool)
  | 0, _, _, _, _, _, _, _, _, _ => none
  | k + 1, x0, x1, x9, x11, x12, x14, x152000, x152001, x152002 => if x14 < (x1.length : Int) then (belvederelaw22_NotifyOnce.l4 k x0 x1 x9 x11 x12 x14 0 x152000 x152001 x152002) else (if x12 = true then (belvederelaw22_NotifyOnce.l1 k x0 x1 x9 (wrap64 (x11 + 1)) x152000 x152001 x152002) else (some false))
def belvederelaw22_NotifyOnce.l4 : Nat → List Int → List (S28) → List Int → Int → Bool → Int → Int → Int → Int → Int → Option (Bool)
  | 0, _, _, _, _, _, _, _, _, _, _ => none
  | k + 1, x0, x1, x9, x11, x12, x14, x15, x152000, x152001, x152002 => if 0 ≤ x14 then (if x14 < (x1.length : Int) then (if ((rd_T28 x1 x14).f0) = x152001 then (if ((rd_T28 x1 x14).f1) ≤ x152002 then (if x15 < (((rd_T28 x1 x14).f3).length : Int) then (if x12 = true then (belvederelaw22_NotifyOnce.l4 k x0 x1 x9 x11 true x14 (wrap64 (x15 + 1)) x152000 x152001 x152002) else (if 0 ≤ x15 then (if 0 ≤ x11 then (if x11 < (x9.length : Int) then (belvederelaw22_NotifyOnce.l4 k x0 x1 x9 x11 ((rd ((rd_T28 x1 x14).f3) x15) == (rd x9 x11)) x14 (wrap64 (x15 + 1)) x152000 x152001 x152002) else (none)) else (none)) else (none))) else (belvederelaw22_NotifyOnce.l3 k x0 x1 x9 x11 x12 (wrap64 (x14 + 1)) x152000 x152001 x152002)) else (belvederelaw22_NotifyOnce.l3 k x0 x1 x9 x11 x12 (wrap64 (x14 + 1)) x152000 x152001 x152002)) else (belvederelaw22_NotifyOnce.l3 k x0 x1 x9 x11 x12 (wrap64 (x14 + 1)) x152000 x152001 x152002)) else (none)) else (none)
end
def belvederelaw22_NotifyOnce.f (k : Nat) (l0 : List Int) (l1 : List (S28)) (a2_0 : Int) (a2_1 : Int) (a2_2 : Int) : Option (Bool) := if (l0.length : Int) > 60 then (belvederelaw22_NotifyOnce.j0 k l0 l1 true a2_0 a2_1 a2_2) else (belvederelaw22_NotifyOnce.j0 k l0 l1 (decide ((l1.length : Int) > 30)) a2_0 a2_1 a2_2)
theorem belvederelaw22_NotifyOnce.mono_l : ∀ k, (∀ y0 y1 y2 y3 y4 y5, LeO (belvederelaw22_NotifyOnce.j0 k y0 y1 y2 y3 y4 y5) (belvederelaw22_NotifyOnce.j0 (k + 1) y0 y1 y2 y3 y4 y5)) ∧ (∀ y0 y1 y2 y3 y4 y5 y6, LeO (belvederelaw22_NotifyOnce.l0 k y0 y1 y2 y3 y4 y5 y6) (belvederelaw22_NotifyOnce.l0 (k + 1) y0 y1 y2 y3 y4 y5 y6)) ∧ (∀ y0 y1 y2 y3 y4 y5 y6, LeO (belvederelaw22_NotifyOnce.l1 k y0 y1 y2 y3 y4 y5 y6) (belvederelaw22_NotifyOnce.l1 (k + 1) y0 y1 y2 y3 y4 y5 y6)) ∧ (∀ y0 y1 y2 y3 y4 y5 y6 y7, LeO (belvederelaw22_NotifyOnce.j3 k y0 y1 y2 y3 y4 y5 y6 y7) (belvederelaw22_NotifyOnce.j3 (k + 1) y0 y1 y2 y3 y4 y5 y6 y7)) ∧ (∀ y0 y1 y2 y3 y4 y5 y6 y7 y8, LeO (belvederelaw22_NotifyOnce.l2 k y0 y1 y2 y3 y4 y5 y6 y7 y8) (belvederelaw22_NotifyOnce.l2 (k + 1) y0 y1 y2 y3 y4 y5 y6 y7 y8)) ∧ (∀ y0 y1 y2 y3 y4 y5 y6 y7 y8, LeO (belvederelaw22_NotifyOnce.l3 k y0 y1 y2 y3 y4 y5 y6 y7 y8) (belvederelaw22_NotifyOnce.l3 (k + 1) y0 y1 y2 y3 y4 y5 y6 y7 y8)) ∧ (∀ y0 y1 y2 y3 y4 y5 y6 y7 y8 y9, LeO (belvederelaw22_NotifyOnce.l4 k y0 y1 y2 y3 y4 y5 y6 y7 y8 y9) (belvederelaw22_NotifyOnce.l4 (k + 1) y0 y1 y2 y3 y4 y5 y6 y7 y8 y9))
  | 0 => ⟨fun _ _ _ _ _ _ r h => by simp [belvederelaw22_NotifyOnce.j0] at h, fun _ _ _ _ _ _ _ r h => by simp [belvederelaw22_NotifyOnce.l0] at h, fun _ _ _ _ _ _ _ r h => by simp [belvederelaw22_NotifyOnce.l1] at h, fun _ _ _ _ _ _ _ _ r h => by simp [belvederelaw22_NotifyOnce.j3] at h, fun _ _ _ _ _ _ _ _ _ r h => by simp [belvederelaw22_NotifyOnce.l2] at h, fun _ _ _ _ _ _ _ _ _ r h => by simp [belvederelaw22_NotifyOnce.l3] at h, fun _ _ _ _ _ _ _ _ _ _ r h => by simp [belvederelaw22_NotifyOnce.l4] at h⟩
  | k + 1 => by
    obtain ⟨ih0, ih1, ih2, ih3, ih4, ih5, ih6⟩ := belvederelaw22_NotifyOnce.mono_l k
    refine ⟨?_, ?_, ?_, ?_, ?_, ?_, ?_⟩
    · intro y0 y1 y2 y3 y4 y5
      unfold belvederelaw22_NotifyOnce.j0
      repeat' first
      | (with_reducible exact ih0 _ _ _ _ _ _)
      | (with_reducible exact ih1 _ _ _ _ _ _ _)
      | (with_reducible exact ih2 _ _ _ _ _ _ _)
      | (with_reducible exact ih3 _ _ _ _ _ _ _ _)
      | (with_reducible exact ih4 _ _ _ _ _ _ _ _ _)
      | (with_reducible exact ih5 _ _ _ _ _ _ _ _ _)
      | (with_reducible exact ih6 _ _ _ _ _ _ _ _ _ _)
      | (with_reducible exact belvederelaw22_give.mono _ _)
      | (with_reducible exact notify_Choose.mono _ _ _ _ _ _)
      | (with_reducible exact LeO.refl _)
      | (with_reducible exact LeO.none _)
      | (with_reducible refine LeO.ite ?_ ?_)
      | (with_reducible refine LeO.bind ?_ (fun _ => ?_))
      | exact ih0 _ _ _ _ _ _
      | exact ih1 _ _ _ _ _ _ _
      | exact ih2 _ _ _ _ _ _ _
      | exact ih3 _ _ _ _ _ _ _ _
      | exact ih4 _ _ _ _ _ _ _ _ _
      | exact ih5 _ _ _ _ _ _ _ _ _
      | exact ih6 _ _ _ _ _ _ _ _ _ _
      | exact belvederelaw22_give.mono _ _
      | exact notify_Choose.mono _ _ _ _ _ _
      | exact LeO.none _
      | refine LeO.ite ?_ ?_
      | refine LeO.bind ?_ (fun _ => ?_)
    · intro y0 y1 y2 y3 y4 y5 y6
      unfold belvederelaw22_NotifyOnce.l0
      repeat' first
      | (with_reducible exact ih0 _ _ _ _ _ _)
      | (with_reducible exact ih1 _ _ _ _ _ _ _)
      | (with_reducible exact ih2 _ _ _ _ _ _ _)
      | (with_reducible exact ih3 _ _ _ _ _ _ _ _)
      | (with_reducible exact ih4 _ _ _ _ _ _ _ _ _)
      | (with_reducible exact ih5 _ _ _ _ _ _ _ _ _)
      | (with_reducible exact ih6 _ _ _ _ _ _ _ _ _ _)
      | (with_reducible exact belvederelaw22_give.mono _ _)
      | (with_reducible exact notify_Choose.mono _ _ _ _ _ _)
      | (with_reducible exact LeO.refl _)
      | (with_reducible exact LeO.none _)
      | (with_reducible refine LeO.ite ?_ ?_)
      | (with_reducible refine LeO.bind ?_ (fun _ => ?_))
      | exact ih0 _ _ _ _ _ _
      | exact ih1 _ _ _ _ _ _ _
      | exact ih2 _ _ _ _ _ _ _
      | exact ih3 _ _ _ _ _ _ _ _
      | exact ih4 _ _ _ _ _ _ _ _ _
      | exact ih5 _ _ _ _ _ _ _ _ _
      | exact ih6 _ _ _ _ _ _ _ _ _ _
      | exact belvederelaw22_give.mono _ _
      | exact notify_Choose.mono _ _ _ _ _ _
      | exact LeO.none _
      | refine LeO.ite ?_ ?_
      | refine LeO.bind ?_ (fun _ => ?_)
    · intro y0 y1 y2 y3 y4 y5 y6
      unfold belvederelaw22_NotifyOnce.l1
      repeat' first
      | (with_reducible exact ih0 _ _ _ _ _ _)
      | (with_reducible exact ih1 _ _ _ _ _ _ _)
      | (with_reducible exact ih2 _ _ _ _ _ _ _)
      | (with_reducible exact ih3 _ _ _ _ _ _ _ _)
      | (with_reducible exact ih4 _ _ _ _ _ _ _ _ _)
      | (with_reducible exact ih5 _ _ _ _ _ _ _ _ _)
      | (with_reducible exact ih6 _ _ _ _ _ _ _ _ _ _)
      | (with_reducible exact belvederelaw22_give.mono _ _)
      | (with_reducible exact notify_Choose.mono _ _ _ _ _ _)
      | (with_reducible exact LeO.refl _)
      | (with_reducible exact LeO.none _)
      | (with_reducible refine LeO.ite ?_ ?_)
      | (with_reducible refine LeO.bind ?_ (fun _ => ?_))
      | exact ih0 _ _ _ _ _ _
      | exact ih1 _ _ _ _ _ _ _
      | exact ih2 _ _ _ _ _ _ _
      | exact ih3 _ _ _ _ _ _ _ _
      | exact ih4 _ _ _ _ _ _ _ _ _
      | exact ih5 _ _ _ _ _ _ _ _ _
      | exact ih6 _ _ _ _ _ _ _ _ _ _
      | exact belvederelaw22_give.mono _ _
      | exact notify_Choose.mono _ _ _ _ _ _
      | exact LeO.none _
      | refine LeO.ite ?_ ?_
      | refine LeO.bind ?_ (fun _ => ?_)
    · intro y0 y1 y2 y3 y4 y5 y6 y7
      unfold belvederelaw22_NotifyOnce.j3
      repeat' first
      | (with_reducible exact ih0 _ _ _ _ _ _)
      | (with_reducible exact ih1 _ _ _ _ _ _ _)
      | (with_reducible exact ih2 _ _ _ _ _ _ _)
      | (with_reducible exact ih3 _ _ _ _ _ _ _ _)
      | (with_reducible exact ih4 _ _ _ _ _ _ _ _ _)
      | (with_reducible exact ih5 _ _ _ _ _ _ _ _ _)
      | (with_reducible exact ih6 _ _ _ _ _ _ _ _ _ _)
      | (with_reducible exact belvederelaw22_give.mono _ _)
      | (with_reducible exact notify_Choose.mono _ _ _ _ _ _)
      | (with_reducible exact LeO.refl _)
      | (with_reducible exact LeO.none _)
      | (with_reducible refine LeO.ite ?_ ?_)
      | (with_reducible refine LeO.bind ?_ (fun _ => ?_))
      | exact ih0 _ _ _ _ _ _
      | exact ih1 _ _ _ _ _ _ _
      | exact ih2 _ _ _ _ _ _ _
      | exact ih3 _ _ _ _ _ _ _ _
      | exact ih4 _ _ _ _ _ _ _ _ _
      | exact ih5 _ _ _ _ _ _ _ _ _
      | exact ih6 _ _ _ _ _ _ _ _ _ _
      | exact belvederelaw22_give.mono _ _
      | exact notify_Choose.mono _ _ _ _ _ _
      | exact LeO.none _
      | refine LeO.ite ?_ ?_
      | refine LeO.bind ?_ (fun _ => ?_)
    · intro y0 y1 y2 y3 y4 y5 y6 y7 y8
      unfold belvederelaw22_NotifyOnce.l2
      repeat' first
      | (with_reducible exact ih0 _ _ _ _ _ _)
      | (with_reducible exact ih1 _ _ _ _ _ _ _)
      | (with_reducible exact ih2 _ _ _ _ _ _ _)
      | (with_reducible exact ih3 _ _ _ _ _ _ _ _)
      | (with_reducible exact ih4 _ _ _ _ _ _ _ _ _)
      | (with_reducible exact ih5 _ _ _ _ _ _ _ _ _)
      | (with_reducible exact ih6 _ _ _ _ _ _ _ _ _ _)
      | (with_reducible exact belvederelaw22_give.mono _ _)
      | (with_reducible exact notify_Choose.mono _ _ _ _ _ _)
      | (with_reducible exact LeO.refl _)
      | (with_reducible exact LeO.none _)
      | (with_reducible refine LeO.ite ?_ ?_)
      | (with_reducible refine LeO.bind ?_ (fun _ => ?_))
      | exact ih0 _ _ _ _ _ _
      | exact ih1 _ _ _ _ _ _ _
      | exact ih2 _ _ _ _ _ _ _
      | exact ih3 _ _ _ _ _ _ _ _
      | exact ih4 _ _ _ _ _ _ _ _ _
      | exact ih5 _ _ _ _ _ _ _ _ _
      | exact ih6 _ _ _ _ _ _ _ _ _ _
      | exact belvederelaw22_give.mono _ _
      | exact notify_Choose.mono _ _ _ _ _ _
      | exact LeO.none _
      | refine LeO.ite ?_ ?_
      | refine LeO.bind ?_ (fun _ => ?_)
    · intro y0 y1 y2 y3 y4 y5 y6 y7 y8
      unfold belvederelaw22_NotifyOnce.l3
      repeat' first
      | (with_reducible exact ih0 _ _ _ _ _ _)
      | (with_reducible exact ih1 _ _ _ _ _ _ _)
      | (with_reducible exact ih2 _ _ _ _ _ _ _)
      | (with_reducible exact ih3 _ _ _ _ _ _ _ _)
      | (with_reducible exact ih4 _ _ _ _ _ _ _ _ _)
      | (with_reducible exact ih5 _ _ _ _ _ _ _ _ _)
      | (with_reducible exact ih6 _ _ _ _ _ _ _ _ _ _)
      | (with_reducible exact belvederelaw22_give.mono _ _)
      | (with_reducible exact notify_Choose.mono _ _ _ _ _ _)
      | (with_reducible exact LeO.refl _)
      | (with_reducible exact LeO.none _)
      | (with_reducible refine LeO.ite ?_ ?_)
      | (with_reducible refine LeO.bind ?_ (fun _ => ?_))
      | exact ih0 _ _ _ _ _ _
      | exact ih1 _ _ _ _ _ _ _
      | exact ih2 _ _ _ _ _ _ _
      | exact ih3 _ _ _ _ _ _ _ _
      | exact ih4 _ _ _ _ _ _ _ _ _
      | exact ih5 _ _ _ _ _ _ _ _ _
      | exact ih6 _ _ _ _ _ _ _ _ _ _
      | exact belvederelaw22_give.mono _ _
      | exact notify_Choose.mono _ _ _ _ _ _
      | exact LeO.none _
      | refine LeO.ite ?_ ?_
      | refine LeO.bind ?_ (fun _ => ?_)
    · intro y0 y1 y2 y3 y4 y5 y6 y7 y8 y9
      unfold belvederelaw22_NotifyOnce.l4
      repeat' first
      | (with_reducible exact ih0 _ _ _ _ _ _)
      | (with_reducible exact ih1 _ _ _ _ _ _ _)
      | (with_reducible exact ih2 _ _ _ _ _ _ _)
      | (with_reducible exact ih3 _ _ _ _ _ _ _ _)
      | (with_reducible exact ih4 _ _ _ _ _ _ _ _ _)
      | (with_reducible exact ih5 _ _ _ _ _ _ _ _ _)
      | (with_reducible exact ih6 _ _ _ _ _ _ _ _ _ _)
      | (with_reducible exact belvederelaw22_give.mono _ _)
      | (with_reducible exact notify_Choose.mono _ _ _ _ _ _)
      | (with_reducible exact LeO.refl _)
      | (with_reducible exact LeO.none _)
      | (with_reducible refine LeO.ite ?_ ?_)
      | (with_reducible refine LeO.bind ?_ (fun _ => ?_))
      | exact ih0 _ _ _ _ _ _
      | exact ih1 _ _ _ _ _ _ _
      | exact ih2 _ _ _ _ _ _ _
      | exact ih3 _ _ _ _ _ _ _ _
      | exact ih4 _ _ _ _ _ _ _ _ _
      | exact ih5 _ _ _ _ _ _ _ _ _
      | exact ih6 _ _ _ _ _ _ _ _ _ _
      | exact belvederelaw22_give.mono _ _
      | exact notify_Choose.mono _ _ _ _ _ _
      | exact LeO.none _
      | refine LeO.ite ?_ ?_
      | refine LeO.bind ?_ (fun _ => ?_)
theorem belvederelaw22_NotifyOnce.mono : ∀ a0 a1 a2 a3 a4 k, LeO (belvederelaw22_NotifyOnce.f k a0 a1 a2 a3 a4) (belvederelaw22_NotifyOnce.f (k + 1) a0 a1 a2 a3 a4) := by
  intro a0 a1 a2 a3 a4 k
  obtain ⟨ih0, ih1, ih2, ih3, ih4, ih5, ih6⟩ := belvederelaw22_NotifyOnce.mono_l k
  unfold belvederelaw22_NotifyOnce.f
  repeat' first
      | (with_reducible exact ih0 _ _ _ _ _ _)
      | (with_reducible exact ih1 _ _ _ _ _ _ _)
      | (with_reducible exact ih2 _ _ _ _ _ _ _)
      | (with_reducible exact ih3 _ _ _ _ _ _ _ _)
      | (with_reducible exact ih4 _ _ _ _ _ _ _ _ _)
      | (with_reducible exact ih5 _ _ _ _ _ _ _ _ _)
      | (with_reducible exact ih6 _ _ _ _ _ _ _ _ _ _)
      | (with_reducible exact belvederelaw22_give.mono _ _)
      | (with_reducible exact notify_Choose.mono _ _ _ _ _ _)
      | (with_reducible exact LeO.refl _)
      | (with_reducible exact LeO.none _)
      | (with_reducible refine LeO.ite ?_ ?_)
      | (with_reducible refine LeO.bind ?_ (fun _ => ?_))
      | exact ih0 _ _ _ _ _ _
      | exact ih1 _ _ _ _ _ _ _
      | exact ih2 _ _ _ _ _ _ _
      | exact ih3 _ _ _ _ _ _ _ _
      | exact ih4 _ _ _ _ _ _ _ _ _
      | exact ih5 _ _ _ _ _ _ _ _ _
      | exact ih6 _ _ _ _ _ _ _ _ _ _
      | exact belvederelaw22_give.mono _ _
      | exact notify_Choose.mono _ _ _ _ _ _
      | exact LeO.none _
      | refine LeO.ite ?_ ?_
      | refine LeO.bind ?_ (fun _ => ?_)
def belvederelaw22_NotifyOnce.T10 : Bool × List (List Nat × List Nat) := (true, [([], []), ([], []), ([1], [1]), ([], []), ([3], [3]), ([], []), ([5], [5]), ([], []), ([7], [7]), ([0, 2, 4, 6, 8, 4], [0, 2, 4, 6, 8]), ([9], [9]), ([10], [10]), ([10], [10]), ([11, 9, 0, 1, 2, 3, 4, 5, 6, 7, 8, 9, 10, 11], [11]), ([12, 13, 0, 1, 2, 3, 4, 5, 6, 7, 8, 9, 10, 11, 12, 13], [12])])
def belvederelaw22_NotifyOnce.B10 : List Nat := [0, 0, 2, 0, 8, 0, 32, 0, 128, 511, 1023, 2047, 2047, 4095, 16383]
theorem belvederelaw22_NotifyOnce.tab10 : rtab .any (opsOf Tryd.f4 10) = belvederelaw22_NotifyOnce.T10 := by kernel_rfl
theorem belvederelaw22_NotifyOnce.bits10 : waitsOk belvederelaw22_NotifyOnce.T10.2 belvederelaw22_NotifyOnce.B10 = true := by kernel_rfl
def belvederelaw22_NotifyOnce.T16 : Bool × List (List Nat × List Nat) := (true, [([], []), ([0], [0]), ([1], [1]), ([2], [2]), ([2], [2]), ([4, 2], [2, 4]), ([3, 5, 2], [2, 3, 5]), ([6, 2], [2, 6]), ([2], [2]), ([2], [2]), ([8, 9, 2], [2, 8, 9]), ([10, 2], [2, 10]), ([7, 11, 2], [2, 7, 11]), ([2, 12], [2, 12])])
def belvederelaw22_NotifyOnce.B16 : List Nat := [0, 1, 3, 7, 7, 23, 63, 127, 7, 7, 775, 1799, 4095, 8191]
theorem belvederelaw22_NotifyOnce.tab16 : rtab .any (opsOf Tryd.f4 16) = belvederelaw22_NotifyOnce.T16 := by kernel_rfl
theorem belvederelaw22_NotifyOnce.bits16 : waitsOk belvederelaw22_NotifyOnce.T16.2 belvederelaw22_NotifyOnce.B16 = true := by kernel_rfl
def belvederelaw22_NotifyOnce.T22 : Bool × List (List Nat × List Nat) := (true, [([], []), ([0], [0]), ([1], [1]), ([1], [1]), ([2, 3, 1], [1, 2, 3]), ([4, 1], [1, 4]), ([1], [1]), ([1], [1]), ([6, 7, 1], [1, 6, 7]), ([8, 1], [1, 8]), ([5, 9, 1], [1, 5, 9]), ([1, 10], [1, 10]), ([11, 1, 0, 1, 2, 3, 4, 5, 6, 7, 8, 9, 10, 11], [0, 11])])
def belvederelaw22_NotifyOnce.B22 : List Nat := [0, 1, 3, 3, 15, 31, 3, 3, 195, 451, 1023, 2047, 4095]
theorem belvederelaw22_NotifyOnce.tab22 : rtab .any (opsOf Tryd.f4 22) = belvederelaw22_NotifyOnce.T22 := by kernel_rfl
theorem belvederelaw22_NotifyOnce.bits22 : waitsOk belvederelaw22_NotifyOnce.T22.2 belvederelaw22_NotifyOnce.B22 = true := by kernel_rfl
def belvederelaw22_NotifyOnce.T27 : Bool × List (List Nat × List Nat) := (true, [([], []), ([], []), ([0, 1], [0, 1]), ([2], [2]), ([3], [3]), ([], []), ([5], [5]), ([4, 6], [4, 6]), ([7], [7]), ([8], [8]), ([8], [8]), ([9, 10, 8], [8, 9, 10]), ([11, 8], [8, 11]), ([12, 8], [8, 12]), ([8], [8]), ([14, 8], [8, 14]), ([13, 15, 8], [8, 13, 15]), ([8, 16], [8, 16]), ([17, 8], [17]), ([18], [18]), ([18], [18]), ([18], [18]), ([20, 21, 18], [18, 20, 21]), ([22, 18], [18, 22]), ([23, 18], [18, 23]), ([24, 18], [18, 24]), ([19, 25, 18], [18, 19, 25]), ([18, 26], [18, 26])])
def belvederelaw22_NotifyOnce.B27 : List Nat := [0, 0, 3, 7, 15, 0, 32, 127, 255, 511, 511, 2047, 4095, 8191, 511, 16895, 65535, 131071, 262143, 524287, 524287, 524287, 3670015, 7864319, 16252927, 33030143, 67108863, 134217727]
theorem belvederelaw22_NotifyOnce.tab27 : rtab .any (opsOf Tryd.f4 27) = belvederelaw22_NotifyOnce.T27 := by kernel_rfl
theorem belvederelaw22_NotifyOnce.bits27 : waitsOk belvederelaw22_NotifyOnce.T27.2 belvederelaw22_NotifyOnce.B27 = true := by kernel_rfl
def belvederelaw22_NotifyOnce.T29 : Bool × List (List Nat × List Nat) := (true, [([], []), ([0], [0]), ([1], [1]), ([1], [1]), ([2, 3, 1], [1, 2, 3]), ([4, 1], [1, 4]), ([5, 1], [1, 5]), ([1], [1]), ([6, 7, 1], [1, 6, 7]), ([8, 1], [1, 8]), ([1], [1]), ([1], [1]), ([10, 11, 1], [1, 10, 11]), ([12, 1], [1, 12]), ([9, 13, 1], [1, 9, 13]), ([1, 14], [1, 14]), ([15, 1, 0, 1, 2, 3, 4, 5, 6, 7, 8, 9, 10, 11, 12, 13, 14, 15], [0, 15])])
def belvederelaw22_NotifyOnce.B29 : List Nat := [0, 1, 3, 3, 15, 31, 63, 3, 255, 511, 3, 3, 3075, 7171, 16383, 32767, 65535]
theorem belvederelaw22_NotifyOnce.tab29 : rtab .any (opsOf Tryd.f4 29) = belvederelaw22_NotifyOnce.T29 := by kernel_rfl
theorem belvederelaw22_NotifyOnce.bits29 : waitsOk belvederelaw22_NotifyOnce.T29.2 belvederelaw22_NotifyOnce.B29 = true := by kernel_rfl
end Go.Proofs.YtecgjkikgggoeaaDoor.Pr
