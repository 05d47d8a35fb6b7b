-- written by wip/tools/myprint.py out of Lean's own print of the program
import Derived.Test.YtdjnpjakbiehdaaDoorPr0
import Derived.Test.YtdjnpjakbiehdaaDoorPr1
import Derived.Test.YtdjnpjakbiehdaaDoorPr3
import Derived.Test.YtdjnpjakbiehdaaDoorPr4
import Derived.Test.YtdjnpjakbiehdaaDoorGExpand
import Derived.Test.YtdjnpjakbiehdaaDoorGNames
import Derived.Test.YtdjnpjakbiehdaaDoorGNum
import Derived.Test.YtdjnpjakbiehdaaDoorGQuote
import Derived.Test.YtdjnpjakbiehdaaDoorGlob
namespace Go.Proofs.YtdjnpjakbiehdaaDoor.Pr
open Go.RowKit Go.Proofs.YtdjnpjakbiehdaaDoorW.PrintWords Go.Proofs.YtdjnpjakbiehdaaDoorW.PrintLast Go.Proofs.YtdjnpjakbiehdaaDoorW.PrintMore
attribute [local go_sem] max2_int min2_int max_two min_two max_three min_three max_four min_four   -- for this text's walks alone
set_option linter.unusedVariables false
set_option linter.unusedSimpArgs false

/-! ### belvederelaw21_MacroQuotes: function 7 -/
mutual
def belvederelaw21_MacroQuotes.j0 : Nat → ByteArray → List (S49) → Bool → Option (Bool)
  | 0, _, _, _ => none
  | k + 1, x0, x1, x24 => if x24 = true then ((belvederelaw21_sure.f).bind fun t205 => (some t205)) else ((macro_Quote.f x0).bind fun bt206 => ((belvederelaw21_give.f k x1).bind fun t208 => ((macro_Expand.f bt206.1 t208).bind fun bt211 => (if bt206.2.isNone = true then (if bt211.2.isNone = true then (belvederelaw21_MacroQuotes.j1 k x0 (bt211.1.toList != x0.toList)) else (belvederelaw21_MacroQuotes.j1 k x0 true)) else (belvederelaw21_MacroQuotes.j1 k x0 true)))))
def belvederelaw21_MacroQuotes.j1 : Nat → ByteArray → Bool → Option (Bool)
  | 0, _, _ => none
  | k + 1, x0, x48 => if x48 = true then (some false) else ((macro_Names.f x0).bind fun bt215 => (if bt215.2.isNone = true then (belvederelaw21_MacroQuotes.l0 k x0 bt215.1 ([] : List (S37)) 0) else ((belvederelaw21_num.f (some (bt215.2.getD 0))).bind fun t229 => (if t229 = 3 then ((belvederelaw21_sure.f).bind fun t230 => (some t230)) else (some false)))))
def belvederelaw21_MacroQuotes.l0 : Nat → ByteArray → List ByteArray → List (S37) → Int → Option (Bool)
  | 0, _, _, _, _ => none
  | k + 1, x0, x9, x11, x12 => if x12 < (x9.length : Int) then (if 0 ≤ x12 then (if 1 + (rdOf ByteArray.empty x9 x12).size ≤ 9223372036854775807 then (if ((⟨#[60]⟩ : ByteArray) ++ (rdOf ByteArray.empty x9 x12)).size + 1 ≤ 9223372036854775807 then (if x11.length < 4398046511104 then (belvederelaw21_MacroQuotes.l0 k x0 x9 (x11 ++ [(⟨rdOf ByteArray.empty x9 x12, ((⟨#[60]⟩ : ByteArray) ++ (rdOf ByteArray.empty x9 x12)) ++ (⟨#[62]⟩ : ByteArray)⟩ : S37)]) (wrap64 (x12 + 1))) else (none)) else (none)) else (none)) else (none)) else ((macro_Expand.f x0 x11).bind fun bt225 => (belvederelaw21_MacroQuotes.l1 k x0 bt225.1 bt225.2 (⟨#[]⟩ : ByteArray) false 0))
def belvederelaw21_MacroQuotes.l1 : Nat → ByteArray → ByteArray → Option Int → ByteArray → Bool → Int → Option (Bool)
  | 0, _, _, _, _, _, _ => none
  | k + 1, x0, x13, x14, x15, x16, x17 => if x17 < (x0.size : Int) then (if 0 ≤ x17 then (if (bt x0 x17) = 36 then (if x16 = true then (belvederelaw21_MacroQuotes.j4 k x0 x13 x14 x15 x16 x17 false) else (if (wrap64 (x17 + 1)) < (x0.size : Int) then (if 0 ≤ (wrap64 (x17 + 1)) then (belvederelaw21_MacroQuotes.j4 k x0 x13 x14 x15 x16 x17 ((bt x0 (wrap64 (x17 + 1))) == 36)) else (none)) else (belvederelaw21_MacroQuotes.j4 k x0 x13 x14 x15 x16 x17 false))) else (if x17 ≤ (wrap64 (x17 + 1)) then (if (wrap64 (x17 + 1)) ≤ (x0.size : Int) then (if x15.size + (x0.extract (x17 : Int).toNat ((wrap64 (x17 + 1)) : Int).toNat).size ≤ 9223372036854775807 then (belvederelaw21_MacroQuotes.l1 k x0 x13 x14 (x15 ++ (x0.extract (x17 : Int).toNat ((wrap64 (x17 + 1)) : Int).toNat)) x16 (wrap64 (x17 + 1))) else (none)) else (none)) else (none))) else (none)) else (if x14.isNone = true then (if x13.toList = x15.toList then ((belvederelaw21_sure.f).bind fun t228 => (some t228)) else (some false)) else (some false))
def belvederelaw21_MacroQuotes.j4 : Nat → ByteArray → ByteArray → Option Int → ByteArray → Bool → Int → Bool → Option (Bool)
  | 0, _, _, _, _, _, _, _ => none
  | k + 1, x0, x13, x14, x15, x16, x17, x108 => if x108 = true then (if x15.size + 1 ≤ 9223372036854775807 then (belvederelaw21_MacroQuotes.l1 k x0 x13 x14 (x15 ++ (⟨#[36]⟩ : ByteArray)) x16 (wrap64 ((wrap64 (x17 + 1)) + 1))) else (none)) else (if x16 = true then (if x15.size + 1 ≤ 9223372036854775807 then (belvederelaw21_MacroQuotes.l1 k x0 x13 x14 (x15 ++ (⟨#[62]⟩ : ByteArray)) false (wrap64 (x17 + 1))) else (none)) else (if x15.size + 1 ≤ 9223372036854775807 then (belvederelaw21_MacroQuotes.l1 k x0 x13 x14 (x15 ++ (⟨#[60]⟩ : ByteArray)) true (wrap64 (x17 + 1))) else (none)))
end
def belvederelaw21_MacroQuotes.f (k : Nat) (a0 : ByteArray) (l1 : List (S49)) : Option (Bool) := if (a0.size : Int) > 2000 then (belvederelaw21_MacroQuotes.j0 k a0 l1 true) else ((belvederelaw21_huge.f k l1).bind fun t204 => (belvederelaw21_MacroQuotes.j0 k a0 l1 t204))
theorem belvederelaw21_MacroQuotes.mono_l : ∀ k, (∀ y0 y1 y2, LeO (belvederelaw21_MacroQuotes.j0 k y0 y1 y2) (belvederelaw21_MacroQuotes.j0 (k + 1) y0 y1 y2)) ∧ (∀ y0 y1, LeO (belvederelaw21_MacroQuotes.j1 k y0 y1) (belvederelaw21_MacroQuotes.j1 (k + 1) y0 y1)) ∧ (∀ y0 y1 y2 y3, LeO (belvederelaw21_MacroQuotes.l0 k y0 y1 y2 y3) (belvederelaw21_MacroQuotes.l0 (k + 1) y0 y1 y2 y3)) ∧ (∀ y0 y1 y2 y3 y4 y5, LeO (belvederelaw21_MacroQuotes.l1 k y0 y1 y2 y3 y4 y5) (belvederelaw21_MacroQuotes.l1 (k + 1) y0 y1 y2 y3 y4 y5)) ∧ (∀ y0 y1 y2 y3 y4 y5 y6, LeO (belvederelaw21_MacroQuotes.j4 k y0 y1 y2 y3 y4 y5 y6) (belvederelaw21_MacroQuotes.j4 (k + 1) y0 y1 y2 y3 y4 y5 y6))
  | 0 => ⟨fun _ _ _ r h => by simp [belvederelaw21_MacroQuotes.j0] at h, fun _ _ r h => by simp [belvederelaw21_MacroQuotes.j1] at h, fun _ _ _ _ r h => by simp [belvederelaw21_MacroQuotes.l0] at h, fun _ _ _ _ _ _ r h => by simp [belvederelaw21_MacroQuotes.l1] at h, fun _ _ _ _ _ _ _ r h => by simp [belvederelaw21_MacroQuotes.j4] at h⟩
  | k + 1 => by
    obtain ⟨ih0, ih1, ih2, ih3, ih4⟩ := belvederelaw21_MacroQuotes.mono_l k
    refine ⟨?_, ?_, ?_, ?_, ?_⟩
    · intro y0 y1 y2
      unfold belvederelaw21_MacroQuotes.j0
      repeat' first
      | (with_reducible exact ih0 _ _ _)
      | (with_reducible exact ih1 _ _)
      | (with_reducible exact ih2 _ _ _ _)
      | (with_reducible exact ih3 _ _ _ _ _ _)
      | (with_reducible exact ih4 _ _ _ _ _ _ _)
      | (with_reducible exact belvederelaw21_give.mono _ _)
      | (with_reducible exact belvederelaw21_huge.mono _ _)
      | (with_reducible exact LeO.refl _)
      | (with_reducible exact LeO.none _)
      | (with_reducible refine LeO.ite ?_ ?_)
      | (with_reducible refine LeO.bind ?_ (fun _ => ?_))
      | exact ih0 _ _ _
      | exact ih1 _ _
      | exact ih2 _ _ _ _
      | exact ih3 _ _ _ _ _ _
      | exact ih4 _ _ _ _ _ _ _
      | exact belvederelaw21_give.mono _ _
      | exact belvederelaw21_huge.mono _ _
      | exact LeO.none _
      | refine LeO.ite ?_ ?_
      | refine LeO.bind ?_ (fun _ => ?_)
    · intro y0 y1
      unfold belvederelaw21_MacroQuotes.j1
      repeat' first
      | (with_reducible exact ih0 _ _ _)
      | (with_reducible exact ih1 _ _)
      | (with_reducible exact ih2 _ _ _ _)
      | (with_reducible exact ih3 _ _ _ _ _ _)
      | (with_reducible exact ih4 _ _ _ _ _ _ _)
      | (with_reducible exact belvederelaw21_give.mono _ _)
      | (with_reducible exact belvederelaw21_huge.mono _ _)
      | (with_reducible exact LeO.refl _)
      | (with_reducible exact LeO.none _)
      | (with_reducible refine LeO.ite ?_ ?_)
      | (with_reducible refine LeO.bind ?_ (fun _ => ?_))
      | exact ih0 _ _ _
      | exact ih1 _ _
      | exact ih2 _ _ _ _
      | exact ih3 _ _ _ _ _ _
      | exact ih4 _ _ _ _ _ _ _
      | exact belvederelaw21_give.mono _ _
      | exact belvederelaw21_huge.mono _ _
      | exact LeO.none _
      | refine LeO.ite ?_ ?_
      | refine LeO.bind ?_ (fun _ => ?_)
    · intro y0 y1 y2 y3
      unfold belvederelaw21_MacroQuotes.l0
      repeat' first
      | (with_reducible exact ih0 _ _ _)
      | (with_reducible exact ih1 _ _)
      | (with_reducible exact ih2 _ _ _ _)
      | (with_reducible exact ih3 _ _ _ _ _ _)
      | (with_reducible exact ih4 _ _ _ _ _ _ _)
      | (with_reducible exact belvederelaw21_give.mono _ _)
      | (with_reducible exact belvederelaw21_huge.mono _ _)
      | (with_reducible exact LeO.refl _)
      | (with_reducible exact LeO.none _)
      | (with_reducible refine LeO.ite ?_ ?_)
      | (with_reducible refine LeO.bind ?_ (fun _ => ?_))
      | exact ih0 _ _ _
      | exact ih1 _ _
      | exact ih2 _ _ _ _
      | exact ih3 _ _ _ _ _ _
      | exact ih4 _ _ _ _ _ _ _
      | exact belvederelaw21_give.mono _ _
      | exact belvederelaw21_huge.mono _ _
      | exact LeO.none _
      | refine LeO.ite ?_ ?_
      | refine LeO.bind ?_ (fun _ => ?_)
    · intro y0 y1 y2 y3 y4 y5
      unfold belvederelaw21_MacroQuotes.l1
      repeat' first
      | (with_reducible exact ih0 _ _ _)
      | (with_reducible exact ih1 _ _)
      | (with_reducible exact ih2 _ _ _ _)
      | (with_reducible exact ih3 _ _ _ _ _ _)
      | (with_reducible exact ih4 _ _ _ _ _ _ _)
      | (with_reducible exact belvederelaw21_give.mono _ _)
      | (with_reducible exact belvederelaw21_huge.mono _ _)
      | (with_reducible exact LeO.refl _)
      | (with_reducible exact LeO.none _)
      | (with_reducible refine LeO.ite ?_ ?_)
      | (with_reducible refine LeO.bind ?_ (fun _ => ?_))
      | exact ih0 _ _ _
      | exact ih1 _ _
      | exact ih2 _ _ _ _
      | exact ih3 _ _ _ _ _ _
      | exact ih4 _ _ _ _ _ _ _
      | exact belvederelaw21_give.mono _ _
      | exact belvederelaw21_huge.mono _ _
      | exact LeO.none _
      | refine LeO.ite ?_ ?_
      | refine LeO.bind ?_ (fun _ => ?_)
    · intro y0 y1 y2 y3 y4 y5 y6
      unfold belvederelaw21_MacroQuotes.j4
      repeat' first
      | (with_reducible exact ih0 _ _ _)
      | (with_reducible exact ih1 _ _)
      | (with_reducible exact ih2 _ _ _ _)
      | (with_reducible exact ih3 _ _ _ _ _ _)
      | (with_reducible exact ih4 _ _ _ _ _ _ _)
      | (with_reducible exact belvederelaw21_give.mono _ _)
      | (with_reducible exact belvederelaw21_huge.mono _ _)
      | (with_reducible exact LeO.refl _)
      | (with_reducible exact LeO.none _)
      | (with_reducible refine LeO.ite ?_ ?_)
      | (with_reducible refine LeO.bind ?_ (fun _ => ?_))
      | exact ih0 _ _ _
      | exact ih1 _ _
      | exact ih2 _ _ _ _
      | exact ih3 _ _ _ _ _ _
      | exact ih4 _ _ _ _ _ _ _
      | exact belvederelaw21_give.mono _ _
      | exact belvederelaw21_huge.mono _ _
      | exact LeO.none _
      | refine LeO.ite ?_ ?_
      | refine LeO.bind ?_ (fun _ => ?_)
theorem belvederelaw21_MacroQuotes.mono : ∀ a0 a1 k, LeO (belvederelaw21_MacroQuotes.f k a0 a1) (belvederelaw21_MacroQuotes.f (k + 1) a0 a1) := by
  intro a0 a1 k
  obtain ⟨ih0, ih1, ih2, ih3, ih4⟩ := belvederelaw21_MacroQuotes.mono_l k
  unfold belvederelaw21_MacroQuotes.f
  repeat' first
      | (with_reducible exact ih0 _ _ _)
      | (with_reducible exact ih1 _ _)
      | (with_reducible exact ih2 _ _ _ _)
      | (with_reducible exact ih3 _ _ _ _ _ _)
      | (with_reducible exact ih4 _ _ _ _ _ _ _)
      | (with_reducible exact belvederelaw21_give.mono _ _)
      | (with_reducible exact belvederelaw21_huge.mono _ _)
      | (with_reducible exact LeO.refl _)
      | (with_reducible exact LeO.none _)
      | (with_reducible refine LeO.ite ?_ ?_)
      | (with_reducible refine LeO.bind ?_ (fun _ => ?_))
      | exact ih0 _ _ _
      | exact ih1 _ _
      | exact ih2 _ _ _ _
      | exact ih3 _ _ _ _ _ _
      | exact ih4 _ _ _ _ _ _ _
      | exact belvederelaw21_give.mono _ _
      | exact belvederelaw21_huge.mono _ _
      | exact LeO.none _
      | refine LeO.ite ?_ ?_
      | refine LeO.bind ?_ (fun _ => ?_)
def belvederelaw21_MacroQuotes.T14 : Bool × List (List Nat × List Nat) := (true, [([], []), ([], []), ([], []), ([1, 2], [1, 2]), ([3], [3]), ([], []), ([], []), ([5, 6], [5, 6]), ([7], [7]), ([8], [8]), ([9], [9]), ([4, 10], [4, 10]), ([11], [11]), ([0, 12], [0, 12]), ([13, 13, 0, 1, 2, 3, 4, 5, 6, 7, 8, 9, 10, 11, 12, 13], [0, 13])])
def belvederelaw21_MacroQuotes.B14 : List Nat := [0, 0, 0, 6, 14, 0, 0, 96, 224, 480, 992, 2046, 4094, 8191, 16383]
theorem belvederelaw21_MacroQuotes.tab14 : rtab .any (opsOf Tryd.f7 14) = belvederelaw21_MacroQuotes.T14 := by kernel_rfl
theorem belvederelaw21_MacroQuotes.bits14 : waitsOk belvederelaw21_MacroQuotes.T14.2 belvederelaw21_MacroQuotes.B14 = true := by kernel_rfl
set_option maxHeartbeats 8000000 in
set_option maxRecDepth 100000 in
theorem belvederelaw21_MacroQuotes.calls (k : Nat) (a0 : ByteArray) (A1 : Option Addr) (c1 : Nat) (l1 : List (S49)) (r : Bool) (w : World) (hr1 : Kd.C k49 w A1 l1.length l1) (hc1 : l1.length ≤ c1) (hG : Glob w) (h : belvederelaw21_MacroQuotes.f k a0 l1 = some r) :
    Calls Tryd.prog 7 #[.string a0, .slice A1 l1.length c1] w fun e w' => e = .returned (.bool r) ∧ Below w.heap.size w w' := by
  have hu37 := Tryd.underlying37
  have hu26 := Tryd.underlying26
  have hu56 := Tryd.underlying56
  have HR1 := Aside0.mk hr1
  have HC1 := Aside0.mk hc1
  clear hr1 hc1
  have HB := Aside0.mk (Below.refl w.heap.size w)
  have HG := Aside0.mk hG
  clear hG
  have H : (if (a0.size : Int) > 2000 then (belvederelaw21_MacroQuotes.j0 k a0 l1 true) else ((belvederelaw21_huge.f k l1).bind fun t204 => (belvederelaw21_MacroQuotes.j0 k a0 l1 t204))) = some r := h
  clear h
  have HC3 := Aside0.mk H
  clear H
  go_enter Tryd.func7, Tryd.ntmps7
  go_upto_region 1 with (fail)
  go_cut [24] (fun v24 wc => ∃ (kq : Nat) (x24_2 : Bool), v24 = .bool x24_2 ∧ Aside0 (belvederelaw21_MacroQuotes.j0 kq a0 l1 x24_2 = some r) ∧ Aside0 (kq ≤ k) ∧ Aside0 (Below w.heap.size w wc))
  case first =>
    have H := HC3.out
    clear HC3
    by_cases c4 : (a0.size : Int) > 2000
    · rw [if_pos c4] at H
      have c4b0 : decide (2000 < (a0.size : Int)) = true := decide_eq_true c4
      have c4b1 : decide (2000 < a0.size) = true := decide_eq_true (by omega)
      clear c4
      (first | rw [c4b0] | (simp only [i64_w, i32_w]; rw [c4b0]) | skip)
      have H' := Aside0.mk H
      clear H
      go_wp2
      go_meet
      case rel => exact ⟨_, (true), (by first | rfl | (simp; done) | (simp [*]; done)), H', ⟨by first | omega | exact Nat.le_refl _⟩, ⟨by repeat (first | (with_reducible first | exact HB.out | apply below_alloc | apply pw_below_drewN | apply below_drew1) | exact HB.out)⟩⟩
    · rw [if_neg c4] at H
      have c4b0 : decide (2000 < (a0.size : Int)) = false := decide_eq_false c4
      have c4b1 : decide (2000 < a0.size) = false := decide_eq_false (by omega)
      clear c4
      (first | rw [c4b0] | (simp only [i64_w, i32_w]; rw [c4b0]) | skip)
      replace H := Option.bind_eq_some_iff.mp H
      obtain ⟨t204, A50, H⟩ := H
      replace H : (belvederelaw21_MacroQuotes.j0 k a0 l1 t204) = some r := H
      have A5 := Aside0.mk A50
      clear A50
      have H' := Aside0.mk H
      clear H
      go_wp2_with (first | (go_at_call 8; (with_reducible refine (belvederelaw21_huge.calls k _ _ l1 t204 _ ?side1 ?side2 A5.out).mono ?_); (case side1 => repeat (first | exact (Kd.C_below HR1.out HB.out) | (with_reducible refine Kd.C_alloc ?_ _) | (with_reducible refine Kd.C_drewN ?_ _) | (with_reducible refine Kd.C_drew ?_))); (case side2 => exact HC1.out); rintro e w6 ⟨rfl, hb⟩; have n0_ := Aside0.mk (below_step (by repeat (first | (with_reducible first | exact HB.out | apply below_alloc | apply pw_below_drewN | apply below_drew1) | exact HB.out)) hb); clear HB; have HB := n0_; clear n0_; (try clear hb); (try clear hb2); (try clear hk); (try clear hi)))
      go_meet
      case rel => exact ⟨_, (t204), (by first | rfl | (simp; done) | (simp [*]; done)), H', ⟨by first | omega | exact Nat.le_refl _⟩, ⟨by repeat (first | (with_reducible first | exact HB.out | apply below_alloc | apply pw_below_drewN | apply below_drew1) | exact HB.out)⟩⟩
  case rest =>
    clear HC3
    try clear c1
    try clear p2
    try clear c4
    try clear c4b0
    try clear c4b1
    obtain ⟨kq, x24_2, rfl, HA, HJ2, HB⟩ := hcut
    cases kq with
    | zero => exact absurd HA.out (by simp [belvederelaw21_MacroQuotes.j0])
    | succ kj2 =>
      have H := HA.out
      clear HA
      simp only [belvederelaw21_MacroQuotes.j0] at H
      by_cases c7 : x24_2 = true
      · subst c7
        have H1 : ((belvederelaw21_sure.f).bind fun t205 => (some t205)) = some r := by rw [if_pos rfl] at H; exact H
        clear H
        have H := H1
        clear H1
        replace H := Option.bind_eq_some_iff.mp H
        obtain ⟨t205, A80, H⟩ := H
        replace H : (some t205) = some r := H
        have A8 := Aside0.mk A80
        clear A80
        obtain rfl := Option.some.inj H
        go_wp2_with (first | ((with_reducible refine gate_callee (f := 9) rfl ?_); refine goesL_ (some 25) rfl rfl Tryd.func9 (by kernel_rfl) rfl #[] rfl (by (try simp only [List.map_toArray, List.map_cons, List.map_nil]); first | done | rfl | (simp only [List.length_drop, List.length_take]; rfl)) ?_; (with_reducible refine (belvederelaw21_sure.calls  t205 _ ?side1 A8.out).mono ?_); (case side1 => first | exact HG.out | exact Glob.below HG.out (by repeat (first | (with_reducible first | exact HB.out | apply below_alloc | apply pw_below_drewN | apply below_drew1) | exact HB.out))); rintro e w9 ⟨rfl, hb⟩; refine ⟨_, rfl, ?_⟩; have n0_ := Aside0.mk (below_step (by repeat (first | (with_reducible first | exact HB.out | apply below_alloc | apply pw_below_drewN | apply below_drew1) | exact HB.out)) hb); clear HB; have HB := n0_; clear n0_; (try clear hb); (try clear hb2); (try clear hk); (try clear hi)))
        go_ret
        exact ⟨by first | rfl | (simp [errW_none, errW_some] <;> rfl) | (simp [*, errW_none, errW_some] <;> rfl), by repeat (first | (with_reducible first | exact HB.out | apply below_alloc | apply pw_below_drewN | apply below_drew1) | exact HB.out)⟩
      · replace c7 := Bool.eq_false_iff.mpr c7
        subst c7
        have H1 : ((macro_Quote.f a0).bind fun bt206 => ((belvederelaw21_give.f kj2 l1).bind fun t208 => ((macro_Expand.f bt206.1 t208).bind fun bt211 => (if bt206.2.isNone = true then (if bt211.2.isNone = true then (belvederelaw21_MacroQuotes.j1 kj2 a0 (bt211.1.toList != a0.toList)) else (belvederelaw21_MacroQuotes.j1 kj2 a0 true)) else (belvederelaw21_MacroQuotes.j1 kj2 a0 true))))) = some r := by rw [if_neg (show ¬ (false = true) by decide)] at H; exact H
        clear H
        have H := H1
        clear H1
        replace H := Option.bind_eq_some_iff.mp H
        obtain ⟨⟨t206, t207⟩, A100, H⟩ := H
        replace H : ((belvederelaw21_give.f kj2 l1).bind fun t208 => ((macro_Expand.f t206 t208).bind fun bt211 => (if t207.isNone = true then (if bt211.2.isNone = true then (belvederelaw21_MacroQuotes.j1 kj2 a0 (bt211.1.toList != a0.toList)) else (belvederelaw21_MacroQuotes.j1 kj2 a0 true)) else (belvederelaw21_MacroQuotes.j1 kj2 a0 true)))) = some r := H
        have A10 := Aside0.mk A100
        clear A100
        replace H := Option.bind_eq_some_iff.mp H
        obtain ⟨t208, A110, H⟩ := H
        replace H : ((macro_Expand.f t206 t208).bind fun bt211 => (if t207.isNone = true then (if bt211.2.isNone = true then (belvederelaw21_MacroQuotes.j1 kj2 a0 (bt211.1.toList != a0.toList)) else (belvederelaw21_MacroQuotes.j1 kj2 a0 true)) else (belvederelaw21_MacroQuotes.j1 kj2 a0 true))) = some r := H
        have A11 := Aside0.mk A110
        clear A110
        replace H := Option.bind_eq_some_iff.mp H
        obtain ⟨⟨t211, t212⟩, A120, H⟩ := H
        replace H : (if t207.isNone = true then (if t212.isNone = true then (belvederelaw21_MacroQuotes.j1 kj2 a0 (t211.toList != a0.toList)) else (belvederelaw21_MacroQuotes.j1 kj2 a0 true)) else (belvederelaw21_MacroQuotes.j1 kj2 a0 true)) = some r := H
        have A12 := Aside0.mk A120
        clear A120
        have HC13 := Aside0.mk H
        clear H
        go_upto_region 5 with (first | ((with_reducible refine gate_callee (f := 16) rfl ?_); refine goesL_ (some 28) rfl rfl Tryd.func16 (by kernel_rfl) rfl #[.string a0] rfl (by (try simp only [List.map_toArray, List.map_cons, List.map_nil]); first | done | rfl | (simp only [List.length_drop, List.length_take]; rfl)) ?_; (with_reducible refine (macro_Quote.calls a0 t206 t207 _ ?side1 A10.out).mono ?_); (case side1 => first | exact HG.out | exact Glob.below HG.out (by repeat (first | (with_reducible first | exact HB.out | apply below_alloc | apply pw_below_drewN | apply below_drew1) | exact HB.out))); rintro e w14 ⟨rfl, hb⟩; refine ⟨_, rfl, ?_⟩; have n0_ := Aside0.mk (below_step (by repeat (first | (with_reducible first | exact HB.out | apply below_alloc | apply pw_below_drewN | apply below_drew1) | exact HB.out)) hb); clear HB; have HB := n0_; clear n0_; (try clear hb); (try clear hb2); (try clear hk); (try clear hi); (try simp only [errW_none, errW_some])) | ((with_reducible refine gate_callee (f := 11) rfl ?_); refine goesL_ (some 34) rfl rfl Tryd.func11 (by kernel_rfl) rfl #[.slice A1 l1.length c1] rfl (by (try simp only [List.map_toArray, List.map_cons, List.map_nil]); first | done | rfl | (simp only [List.length_drop, List.length_take]; rfl)) ?_; (with_reducible refine (belvederelaw21_give.calls kj2 _ _ l1 t208 _ ?side1 ?side2 A11.out).mono ?_); (case side1 => repeat (first | exact (Kd.C_below HR1.out HB.out) | (with_reducible refine Kd.C_alloc ?_ _) | (with_reducible refine Kd.C_drewN ?_ _) | (with_reducible refine Kd.C_drew ?_))); (case side2 => exact HC1.out); rintro e w15 ⟨v209, rfl, ho0, hb⟩; refine ⟨_, rfl, ?_⟩; have n0_ := Aside0.mk (Kd.R_lower ho0 (below_size (by repeat (first | (with_reducible first | exact HB.out | apply below_alloc | apply pw_below_drewN | apply below_drew1) | exact HB.out)))); have n1_ := Aside0.mk (below_step (by repeat (first | (with_reducible first | exact HB.out | apply below_alloc | apply pw_below_drewN | apply below_drew1) | exact HB.out)) hb); clear HB; have HO210 := n0_; have HB := n1_; clear n0_ n1_; (try clear hb); (try clear hb2); (try clear hk); (try clear hi); (try clear ho0); obtain ⟨Ao16, co16, eo16⟩ := Kd.R_slice HO210.out; subst eo16) | ((with_reducible refine gate_callee (f := 10) rfl ?_); refine goesL_ (some 35) rfl rfl Tryd.func10 (by kernel_rfl) rfl #[.string t206, .slice Ao16 t208.length co16] rfl (by (try simp only [List.map_toArray, List.map_cons, List.map_nil]); first | done | rfl | (simp only [List.length_drop, List.length_take]; rfl)) ?_; (with_reducible refine (macro_Expand.calls t206 _ _ t208 t211 t212 _ ?side1 ?side2 ?side3 A12.out).mono ?_); (case side1 => repeat (first | exact (Kd.R_reads' HO210.out).2.2 | (with_reducible refine Kd.C_alloc ?_ _) | (with_reducible refine Kd.C_drewN ?_ _) | (with_reducible refine Kd.C_drew ?_))); (case side2 => exact (Kd.R_reads' HO210.out).2.1); (case side3 => first | exact HG.out | exact Glob.below HG.out (by repeat (first | (with_reducible first | exact HB.out | apply below_alloc | apply pw_below_drewN | apply below_drew1) | exact HB.out))); rintro e w17 ⟨rfl, hb⟩; refine ⟨_, rfl, ?_⟩; have n0_ := Aside0.mk (Kd.R_below (by (with_reducible repeat (first | apply Kd.R_alloc | apply Kd.R_drewN | apply Kd.R_drew)); exact HO210.out) hb); have n1_ := Aside0.mk (below_step (by repeat (first | (with_reducible first | exact HB.out | apply below_alloc | apply pw_below_drewN | apply below_drew1) | exact HB.out)) hb); clear HO210; clear HB; have HO210 := n0_; have HB := n1_; clear n0_ n1_; (try clear hb); (try clear hb2); (try clear hk); (try clear hi); (try simp only [errW_none, errW_some])))
        (try simp only [Act.put, List.setIfInBounds_toArray, List.set_cons_zero, List.set_cons_succ])
        go_cut [48] (fun v48 wc => ∃ (kq : Nat) (x48_12 : Bool), v48 = .bool x48_12 ∧ Aside0 (belvederelaw21_MacroQuotes.j1 kq a0 x48_12 = some r) ∧ Aside0 (kq ≤ kj2) ∧ Aside0 (Below w.heap.size w wc))
        case first =>
          have H := HC13.out
          clear HC13
          rcases t207 with _ | q213
          · have H1 : (if t212.isNone = true then (belvederelaw21_MacroQuotes.j1 kj2 a0 (t211.toList != a0.toList)) else (belvederelaw21_MacroQuotes.j1 kj2 a0 true)) = some r := by rw [if_pos (show (none : Option Int).isNone = true by rfl)] at H; exact H
            clear H
            have H := H1
            clear H1
            try simp only [errW_none, errW_some]
            rcases t212 with _ | q214
            · have H1 : (belvederelaw21_MacroQuotes.j1 kj2 a0 (t211.toList != a0.toList)) = some r := by rw [if_pos (show (none : Option Int).isNone = true by rfl)] at H; exact H
              clear H
              have H := H1
              clear H1
              try simp only [errW_none, errW_some]
              have H' := Aside0.mk H
              clear H
              go_wp2
              go_meet
              case rel => exact ⟨_, ((t211.toList != a0.toList)), (by first | rfl | (simp; done) | (simp [*]; done)), H', ⟨by have := HJ2.out; first | omega | exact Nat.le_refl _⟩, ⟨by repeat (first | (with_reducible first | exact HB.out | apply below_alloc | apply pw_below_drewN | apply below_drew1) | exact HB.out)⟩⟩
            · have H1 : (belvederelaw21_MacroQuotes.j1 kj2 a0 true) = some r := by rw [if_neg (show ¬ (some q214).isNone = true by simp)] at H; exact H
              clear H
              have H := H1
              clear H1
              try simp only [errW_none, errW_some]
              have H' := Aside0.mk H
              clear H
              go_wp2
              go_meet
              case rel => exact ⟨_, (true), (by first | rfl | (simp; done) | (simp [*]; done)), H', ⟨by have := HJ2.out; first | omega | exact Nat.le_refl _⟩, ⟨by repeat (first | (with_reducible first | exact HB.out | apply below_alloc | apply pw_below_drewN | apply below_drew1) | exact HB.out)⟩⟩
          · have H1 : (belvederelaw21_MacroQuotes.j1 kj2 a0 true) = some r := by rw [if_neg (show ¬ (some q213).isNone = true by simp)] at H; exact H
            clear H
            have H := H1
            clear H1
            try simp only [errW_none, errW_some]
            have H' := Aside0.mk H
            clear H
            go_wp2
            go_meet
            case rel => exact ⟨_, (true), (by first | rfl | (simp; done) | (simp [*]; done)), H', ⟨by have := HJ2.out; first | omega | exact Nat.le_refl _⟩, ⟨by repeat (first | (with_reducible first | exact HB.out | apply below_alloc | apply pw_below_drewN | apply below_drew1) | exact HB.out)⟩⟩
        case rest =>
          clear HC13
          try clear c1
          try clear p2
          try clear q2
          try clear c4
          try clear c4b0
          try clear c4b1
          try clear c7
          try clear c9
          try clear c10
          try clear c11
          try clear c16
          try clear p2
          try clear q213
          try clear q214
          obtain ⟨kq, x48_12, rfl, HA, HJ12, HB⟩ := hcut
          cases kq with
          | zero => exact absurd HA.out (by simp [belvederelaw21_MacroQuotes.j1])
          | succ kj12 =>
            have H := HA.out
            clear HA
            simp only [belvederelaw21_MacroQuotes.j1] at H
            by_cases c18 : x48_12 = true
            · subst c18
              have H1 : (some false) = some r := by rw [if_pos rfl] at H; exact H
              clear H
              have H := H1
              clear H1
              obtain rfl := Option.some.inj H
              go_wp2
              go_ret
              exact ⟨by first | rfl | (simp [errW_none, errW_some] <;> rfl) | (simp [*, errW_none, errW_some] <;> rfl), by repeat (first | (with_reducible first | exact HB.out | apply below_alloc | apply pw_below_drewN | apply below_drew1) | exact HB.out)⟩
            · replace c18 := Bool.eq_false_iff.mpr c18
              subst c18
              have H1 : ((macro_Names.f a0).bind fun bt215 => (if bt215.2.isNone = true then (belvederelaw21_MacroQuotes.l0 kj12 a0 bt215.1 ([] : List (S37)) 0) else ((belvederelaw21_num.f (some (bt215.2.getD 0))).bind fun t229 => (if t229 = 3 then ((belvederelaw21_sure.f).bind fun t230 => (some t230)) else (some false))))) = some r := by rw [if_neg (show ¬ (false = true) by decide)] at H; exact H
              clear H
              have H := H1
              clear H1
              replace H := Option.bind_eq_some_iff.mp H
              obtain ⟨⟨t215, t216⟩, A190, H⟩ := H
              replace H : (if t216.isNone = true then (belvederelaw21_MacroQuotes.l0 kj12 a0 t215 ([] : List (S37)) 0) else ((belvederelaw21_num.f (some (t216.getD 0))).bind fun t229 => (if t229 = 3 then ((belvederelaw21_sure.f).bind fun t230 => (some t230)) else (some false)))) = some r := H
              have A19 := Aside0.mk A190
              clear A190
              rcases t216 with _ | q219
              · have H1 : (belvederelaw21_MacroQuotes.l0 kj12 a0 t215 ([] : List (S37)) 0) = some r := by rw [if_pos (show (none : Option Int).isNone = true by rfl)] at H; exact H
                clear H
                have H := H1
                clear H1
                try simp only [errW_none, errW_some]
                have H' := Aside0.mk H
                clear H
                go_wp2_with (first | ((with_reducible refine gate_callee (f := 14) rfl ?_); refine goesL_ (some 51) rfl rfl Tryd.func14 (by kernel_rfl) rfl #[.string a0] rfl (by (try simp only [List.map_toArray, List.map_cons, List.map_nil]); first | done | rfl | (simp only [List.length_drop, List.length_take]; rfl)) ?_; (with_reducible refine (macro_Names.calls a0 t215 none _ ?side1 A19.out).mono ?_); (case side1 => first | exact HG.out | exact Glob.below HG.out (by repeat (first | (with_reducible first | exact HB.out | apply below_alloc | apply pw_below_drewN | apply below_drew1) | exact HB.out))); rintro e w20 ⟨v217, rfl, ho0, hb⟩; refine ⟨_, rfl, ?_⟩; have n0_ := Aside0.mk (Kd.R_lower ho0 (below_size (by repeat (first | (with_reducible first | exact HB.out | apply below_alloc | apply pw_below_drewN | apply below_drew1) | exact HB.out)))); have n1_ := Aside0.mk (below_step (by repeat (first | (with_reducible first | exact HB.out | apply below_alloc | apply pw_below_drewN | apply below_drew1) | exact HB.out)) hb); clear HB; have HO218 := n0_; have HB := n1_; clear n0_ n1_; (try clear hb); (try clear hb2); (try clear hk); (try clear hi); (try clear ho0); (try simp only [errW_none, errW_some])))
                go_loopg [11, 12] kj12 (fun kq v11 v12 w' => ∃ (x11_3 : List (S37)) (x12_3 : Int), v12 = .int .i64 x12_3 ∧ Aside0 (belvederelaw21_MacroQuotes.l0 kq a0 t215 x11_3 x12_3 = some r) ∧ Aside0 (kq ≤ kj12) ∧ Aside0 (Kd.R Kd.string 9 w' w.heap.size (fun _ => True) v217 t215) ∧ Aside0 (Kd.R k37 37 w' w.heap.size (fun _ => True) v11 x11_3) ∧ Aside0 (Below w.heap.size w w'))
                case atStart => exact ⟨(([] : List (S37))), (0), (by first | rfl | (simp; done) | (simp [*]; done)), H', ⟨Nat.le_refl _⟩, ⟨by (with_reducible repeat (first | apply Kd.R_alloc | apply Kd.R_drewN | apply Kd.R_drew)); exact HO218.out⟩, ⟨by first | exact Kd.R_nil _ _ _ _ _ | exact Kd.N_nil _ _ _ _ _ | exact Kd.V_nil _ _ _ _ _ | exact Kd.Q_nil _ _ _ _ _ | exact Kd.S_nil _ _ _ _ _⟩, ⟨by repeat (first | (with_reducible first | exact HB.out | apply below_alloc | apply pw_below_drewN | apply below_drew1) | exact HB.out)⟩⟩
                case round =>
                  clear H'
                  try clear c1
                  try clear p2
                  try clear q2
                  try clear c4
                  try clear c4b0
                  try clear c4b1
                  try clear c7
                  try clear c9
                  try clear c10
                  try clear c11
                  try clear c14
                  try clear c16
                  try clear c18
                  try clear p2
                  try clear q2
                  try clear q213
                  try clear q214
                  try clear q219
                  obtain ⟨x11_3, x12_3, rfl, HA, HK3, HO_9, HO_11, HB⟩ := hrel
                  cases gk with
                  | zero => exact absurd HA.out (by simp [belvederelaw21_MacroQuotes.l0])
                  | succ k3 =>
                    have H := HA.out
                    clear HA
                    simp only [belvederelaw21_MacroQuotes.l0] at H
                    by_cases c21 : x12_3 < (t215.length : Int)
                    · rw [if_pos c21] at H
                      have c21b0 : decide (x12_3 < (t215.length : Int)) = true := decide_eq_true c21
                      clear c21
                      by_cases c22 : 0 ≤ x12_3
                      · rw [if_pos c22] at H
                        have c22b0 : decide (0 ≤ x12_3) = true := decide_eq_true c22
                        clear c22
                        by_cases c23 : 1 + (rdOf ByteArray.empty t215 x12_3).size ≤ 9223372036854775807
                        · rw [if_pos c23] at H
                          have c23b0 := eq_true c23
                          have c23b1 : decide (1 + (rdOf ByteArray.empty t215 x12_3).size ≤ 9223372036854775807) = true := decide_eq_true c23
                          (try (have c23b6 : ((rdOf ByteArray.empty t215 x12_3).size + 1 ≤ 9223372036854775807) = True := eq_true (by have h_ := c23; (try simp only [ByteArray.size_append, ByteArray.size_extract] at h_); (try simp only [decide_eq_true_eq] at *); omega)))
                          (try (have c23b7 : decide ((rdOf ByteArray.empty t215 x12_3).size + 1 ≤ 9223372036854775807) = true := decide_eq_true (by have h_ := c23; (try simp only [ByteArray.size_append, ByteArray.size_extract] at h_); (try simp only [decide_eq_true_eq] at *); omega)))
                          (try (have c23b8 : (9223372036854775807 < (rdOf ByteArray.empty t215 x12_3).size + 1) = False := eq_false (by intro g_; have h_ := c23; (try simp only [ByteArray.size_append, ByteArray.size_extract] at h_); (try simp only [decide_eq_true_eq] at *); omega)))
                          (try (have c23b3 : ((rdOf ByteArray.empty t215 x12_3).size ≤ 9223372036854775806) = True := eq_true (by have h_ := c23; (try simp only [ByteArray.size_append, ByteArray.size_extract] at h_); (try simp only [decide_eq_true_eq] at *); omega)))
                          (try (have c23b4 : decide ((rdOf ByteArray.empty t215 x12_3).size ≤ 9223372036854775806) = true := decide_eq_true (by have h_ := c23; (try simp only [ByteArray.size_append, ByteArray.size_extract] at h_); (try simp only [decide_eq_true_eq] at *); omega)))
                          (try (have c23b5 : (9223372036854775806 < (rdOf ByteArray.empty t215 x12_3).size) = False := eq_false (by intro g_; have h_ := c23; (try simp only [ByteArray.size_append, ByteArray.size_extract] at h_); (try simp only [decide_eq_true_eq] at *); omega)))
                          try have c23b2 : (9223372036854775807 < 1 + (rdOf ByteArray.empty t215 x12_3).size) = False := eq_false (Nat.not_lt.2 c23)
                          by_cases c24 : ((⟨#[60]⟩ : ByteArray) ++ (rdOf ByteArray.empty t215 x12_3)).size + 1 ≤ 9223372036854775807
                          · rw [if_pos c24] at H
                            have c24b0 := eq_true c24
                            have c24b1 : decide (((⟨#[60]⟩ : ByteArray) ++ (rdOf ByteArray.empty t215 x12_3)).size + 1 ≤ 9223372036854775807) = true := decide_eq_true c24
                            (try (have c24b6 : ((rdOf ByteArray.empty t215 x12_3).size + 2 ≤ 9223372036854775807) = True := eq_true (by have h_ := c24; have e0_ : (⟨#[60]⟩ : ByteArray).size = 1 := rfl; (try simp only [ByteArray.size_append, ByteArray.size_extract] at h_); (try simp only [decide_eq_true_eq] at *); omega)))
                            (try (have c24b7 : decide ((rdOf ByteArray.empty t215 x12_3).size + 2 ≤ 9223372036854775807) = true := decide_eq_true (by have h_ := c24; have e0_ : (⟨#[60]⟩ : ByteArray).size = 1 := rfl; (try simp only [ByteArray.size_append, ByteArray.size_extract] at h_); (try simp only [decide_eq_true_eq] at *); omega)))
                            (try (have c24b8 : (9223372036854775807 < (rdOf ByteArray.empty t215 x12_3).size + 2) = False := eq_false (by intro g_; have h_ := c24; have e0_ : (⟨#[60]⟩ : ByteArray).size = 1 := rfl; (try simp only [ByteArray.size_append, ByteArray.size_extract] at h_); (try simp only [decide_eq_true_eq] at *); omega)))
                            (try (have c24b3 : ((rdOf ByteArray.empty t215 x12_3).size ≤ 9223372036854775805) = True := eq_true (by have h_ := c24; have e0_ : (⟨#[60]⟩ : ByteArray).size = 1 := rfl; (try simp only [ByteArray.size_append, ByteArray.size_extract] at h_); (try simp only [decide_eq_true_eq] at *); omega)))
                            (try (have c24b4 : decide ((rdOf ByteArray.empty t215 x12_3).size ≤ 9223372036854775805) = true := decide_eq_true (by have h_ := c24; have e0_ : (⟨#[60]⟩ : ByteArray).size = 1 := rfl; (try simp only [ByteArray.size_append, ByteArray.size_extract] at h_); (try simp only [decide_eq_true_eq] at *); omega)))
                            (try (have c24b5 : (9223372036854775805 < (rdOf ByteArray.empty t215 x12_3).size) = False := eq_false (by intro g_; have h_ := c24; have e0_ : (⟨#[60]⟩ : ByteArray).size = 1 := rfl; (try simp only [ByteArray.size_append, ByteArray.size_extract] at h_); (try simp only [decide_eq_true_eq] at *); omega)))
                            try have c24b2 : (9223372036854775807 < ((⟨#[60]⟩ : ByteArray) ++ (rdOf ByteArray.empty t215 x12_3)).size + 1) = False := eq_false (Nat.not_lt.2 c24)
                            have c24b9 : (9223372036854775807 < 1 + (rdOf ByteArray.empty t215 x12_3).size + 1) = False := eq_false (by have h_ := c24; have e0_ : (⟨#[60]⟩ : ByteArray).size = 1 := rfl; simp only [ByteArray.size_append] at h_; omega)
                            by_cases c25 : x11_3.length < 4398046511104
                            · rw [if_pos c25] at H
                              have LMc25 := Aside0.mk c25
                              clear c25
                              obtain ⟨y222, hy222⟩ : ∃ y_ : List (S37), y_ = (x11_3 ++ [(⟨rdOf ByteArray.empty t215 x12_3, ((⟨#[60]⟩ : ByteArray) ++ (rdOf ByteArray.empty t215 x12_3)) ++ (⟨#[62]⟩ : ByteArray)⟩ : S37)]) := ⟨_, rfl⟩
                              replace H : (belvederelaw21_MacroQuotes.l0 k3 a0 t215 y222 (wrap64 (x12_3 + 1))) = some r := by first | (rw [hy222]; with_reducible exact H) | (have H2_ := (Option.bind_some _ _).symm.trans H; rw [hy222]; with_reducible exact H2_) | (have H2_ := (Option.bind_some _ _).symm.trans H; with_reducible exact H2_) | with_reducible exact H | (rw [hy222]; exact H) | exact H
                              have Ny222 := Aside0.mk hy222
                              clear hy222
                              have H' := Aside0.mk H
                              clear H
                              obtain ⟨Ao26, co26, eo26⟩ := Kd.R_slice HO_9.out
                              subst eo26
                              try go_wp2
                              have n0_ := Aside0.mk (Kd.R_drew HO_9.out)
                              have n1_ := Aside0.mk (Kd.R_drew HO_11.out)
                              have n2_ := Aside0.mk (below_drew1 HB.out)
                              clear HO_9
                              clear HO_11
                              clear HB
                              have HO_9 := n0_
                              have HO_11 := n1_
                              have HB := n2_
                              clear n0_ n1_ n2_
                              have p220 : 0 ≤ (x12_3 : Int) := of_decide_eq_true (by first | (with_reducible assumption) | assumption)
                              have q220 : x12_3 < (t215.length : Int) := of_decide_eq_true (by first | (with_reducible assumption) | assumption)
                              obtain ⟨ad220, e220, hx220_0⟩ := Kd.at_string (Kd.R_reads' HO_9.out).2.2 x12_3 p220 q220
                              cases e220
                              replace p220 := eq_true p220
                              replace q220 := eq_true q220
                              have p221 : 0 ≤ (x12_3 : Int) := of_decide_eq_true (by first | (with_reducible assumption) | assumption)
                              have q221 : x12_3 < (t215.length : Int) := of_decide_eq_true (by first | (with_reducible assumption) | assumption)
                              obtain ⟨ad221, e221, hx221_0⟩ := Kd.at_string (Kd.R_reads' HO_9.out).2.2 x12_3 p221 q221
                              obtain rfl : ad220 = ad221 := (by injection e221)
                              replace p221 := eq_true p221
                              replace q221 := eq_true q221
                              refine start_ (n := 15) (S := fun w' => w'.cell? (ad220.add (x12_3).toNat) = some (.string (rdOf ByteArray.empty t215 x12_3)) ∧ w'.cell? (ad220.add (x12_3).toNat) = some (.string (rdOf ByteArray.empty t215 x12_3))) (ds := [12, 13]) #[false, false, false, false, false, false, false, false, false, false, false, false, false, false, false] (by kernel_rfl) rfl rfl ⟨hx220_0, hx221_0⟩ (fun hHeld => ?_); refine with_tabW belvederelaw21_MacroQuotes.tab14 belvederelaw21_MacroQuotes.bits14 (fun HT_ HW_ => ?_)
                              generalize wr.drew = w27 at HO_9 HO_11 HB hx220_0 hx221_0 hHeld ⊢
                              refine pure_ (i := 0) (N := some 68) (v := ?_) (a' := ?_) #[true, false, false, false, false, false, false, false, false, false, false, false, false, false, false] rfl rfl (any_of HT_.out (by kernel_rfl)) (fun _ _ _ h => h) (Or.inl ⟨by rfl, ?_⟩) ?_ ?_
                              rotate_left
                              · intro w'
                                go_simp
                                with_reducible rfl
                              rotate_left
                              · simp only [Act.put, List.setIfInBounds_toArray, List.set_cons_zero, List.set_cons_succ, i64_w, i32_w]
                                rfl
                              refine pure_ (i := 1) (N := some 69) (v := ?_) (a' := ?_) #[true, true, false, false, false, false, false, false, false, false, false, false, false, false, false] rfl rfl (any_of HT_.out (by kernel_rfl)) (fun _ _ _ h => h) (Or.inl ⟨by rfl, ?_⟩) ?_ ?_
                              rotate_left
                              · intro w'
                                go_simp
                                with_reducible rfl
                              rotate_left
                              · simp only [Act.put, List.setIfInBounds_toArray, List.set_cons_zero, List.set_cons_succ, i64_w, i32_w]
                                rfl
                              refine pure_ (i := 2) (N := some 70) (v := ?_) (a' := ?_) #[true, true, true, false, false, false, false, false, false, false, false, false, false, false, false] rfl rfl (any_of HT_.out (by kernel_rfl)) (fun _ _ _ h => h) (Or.inl ⟨by rfl, ?_⟩) ?_ ?_
                              rotate_left
                              · intro w'
                                go_simp
                                with_reducible rfl
                              rotate_left
                              · simp only [Act.put, List.setIfInBounds_toArray, List.set_cons_zero, List.set_cons_succ, i64_w, i32_w]
                                rfl
                              refine pure_ (i := 3) (N := some 71) (v := ?_) (a' := ?_) #[true, true, true, true, false, false, false, false, false, false, false, false, false, false, false] rfl rfl (any_of HT_.out (by kernel_rfl)) (fun _ _ _ h => h) (Or.inl ⟨by rfl, ?_⟩) ?_ ?_
                              rotate_left
                              · intro w'
                                go_simp
                                with_reducible rfl
                              rotate_left
                              · simp only [Act.put, List.setIfInBounds_toArray, List.set_cons_zero, List.set_cons_succ, i64_w, i32_w]
                                rfl
                              refine pure_ (i := 5) (N := some 73) (v := ?_) (a' := ?_) #[true, true, true, true, false, true, false, false, false, false, false, false, false, false, false] rfl rfl (any_of HT_.out (by kernel_rfl)) (fun _ _ _ h => h) (Or.inl ⟨by rfl, ?_⟩) ?_ ?_
                              rotate_left
                              · intro w'
                                go_simp
                                with_reducible rfl
                              rotate_left
                              · simp only [Act.put, List.setIfInBounds_toArray, List.set_cons_zero, List.set_cons_succ, i64_w, i32_w]
                                rfl
                              refine pure_ (i := 6) (N := some 74) (v := ?_) (a' := ?_) #[true, true, true, true, false, true, true, false, false, false, false, false, false, false, false] rfl rfl (any_of HT_.out (by kernel_rfl)) (fun _ _ _ h => h) (Or.inl ⟨by rfl, ?_⟩) ?_ ?_
                              rotate_left
                              · intro w'
                                go_simp
                                with_reducible rfl
                              rotate_left
                              · simp only [Act.put, List.setIfInBounds_toArray, List.set_cons_zero, List.set_cons_succ, i64_w, i32_w]
                                rfl
                              refine pure_ (i := 7) (N := some 75) (v := ?_) (a' := ?_) #[true, true, true, true, false, true, true, true, false, false, false, false, false, false, false] rfl rfl (any_of HT_.out (by kernel_rfl)) (fun _ _ _ h => h) (Or.inl ⟨by rfl, ?_⟩) ?_ ?_
                              rotate_left
                              · intro w'
                                go_simp
                                with_reducible rfl
                              rotate_left
                              · simp only [Act.put, List.setIfInBounds_toArray, List.set_cons_zero, List.set_cons_succ, i64_w, i32_w]
                                rfl
                              refine take_ (i := 4) (N := some 72) (v := ?_) (a' := ?_) #[true, true, true, true, true, true, true, true, false, false, false, false, false, false, false] rfl rfl (take_ofW HT_.out HW_.out (by kernel_rfl)) (fun _ _ _ h => h) (Or.inl ⟨by rfl, ?_⟩) hHeld ?_ ?_
                              rotate_left
                              · rintro w' ⟨s0, s1⟩
                                go_simp
                                with_reducible rfl
                              rotate_left
                              · simp only [Act.put, List.setIfInBounds_toArray, List.set_cons_zero, List.set_cons_succ, i64_w, i32_w]
                                rfl
                              refine take_ (i := 8) (N := some 76) (v := ?_) (a' := ?_) #[true, true, true, true, true, true, true, true, true, false, false, false, false, false, false] rfl rfl (take_ofW HT_.out HW_.out (by kernel_rfl)) (fun _ _ _ h => h) (Or.inl ⟨by rfl, ?_⟩) hHeld ?_ ?_
                              rotate_left
                              · rintro w' ⟨s0, s1⟩
                                go_simp
                                with_reducible rfl
                              rotate_left
                              · simp only [Act.put, List.setIfInBounds_toArray, List.set_cons_zero, List.set_cons_succ, i64_w, i32_w]
                                rfl
                              refine pure_ (i := 9) (N := some 77) (v := ?_) (a' := ?_) #[true, true, true, true, true, true, true, true, true, true, false, false, false, false, false] rfl rfl (any_of HT_.out (by kernel_rfl)) (fun _ _ _ h => h) (Or.inl ⟨by rfl, ?_⟩) ?_ ?_
                              rotate_left
                              · intro w'
                                go_simp
                                with_reducible rfl
                              rotate_left
                              · simp only [Act.put, List.setIfInBounds_toArray, List.set_cons_zero, List.set_cons_succ, i64_w, i32_w]
                                rfl
                              refine pure_ (i := 10) (N := some 78) (v := ?_) (a' := ?_) #[true, true, true, true, true, true, true, true, true, true, true, false, false, false, false] rfl rfl (any_of HT_.out (by kernel_rfl)) (fun _ _ _ h => h) (Or.inl ⟨by rfl, ?_⟩) ?_ ?_
                              rotate_left
                              · intro w'
                                go_simp
                                with_reducible rfl
                              rotate_left
                              · simp only [Act.put, List.setIfInBounds_toArray, List.set_cons_zero, List.set_cons_succ, i64_w, i32_w]
                                rfl
                              refine pure_ (i := 11) (N := some 79) (v := ?_) (a' := ?_) #[true, true, true, true, true, true, true, true, true, true, true, true, false, false, false] rfl rfl (any_of HT_.out (by kernel_rfl)) (fun _ _ _ h => h) (Or.inl ⟨by rfl, ?_⟩) ?_ ?_
                              rotate_left
                              · intro w'
                                go_simp
                                with_reducible rfl
                              rotate_left
                              · simp only [Act.put, List.setIfInBounds_toArray, List.set_cons_zero, List.set_cons_succ, i64_w, i32_w]
                                rfl
                              refine last_ (i := 12) (N := some 80) #[true, true, true, true, true, true, true, true, true, true, true, true, true, false, false] rfl rfl (one_of HT_.out (by kernel_rfl)) (by decide) (fun K hK => ?_)
                              refine value_ (w1 := ?_) (v := ?_) (by rfl) rfl ?_ ?_
                              rotate_left 2
                              · go_simp
                                constructor
                                · rfl
                                · rfl
                              refine hK.out _ _ ?_
                              clear hK K
                              refine norm_ (a' := ?_) ?_ ?_
                              rotate_left
                              · show Act.put _ (some 80) _ = _
                                simp only [Act.put, List.setIfInBounds_toArray, List.set_cons_zero, List.set_cons_succ, i64_w, i32_w]
                                rfl
                              refine last_ (i := 13) (N := some 81) #[true, true, true, true, true, true, true, true, true, true, true, true, true, true, false] rfl rfl (one_of HT_.out (by kernel_rfl)) (by decide) (fun K hK => ?_)
                              refine Kd.R_append_step k37 (w0 := w) w.heap.size (by rfl) (.tmp 68) (.tmp 80) 29 37 (.agg #[(.string ⟨#[]⟩), (.string ⟨#[]⟩)]) 32 rfl Tryd.underlying29 info37 rfl (by decide) (by omega) u11 x11_3 (⟨rdOf ByteArray.empty t215 x12_3, ((⟨#[60]⟩ : ByteArray) ++ (rdOf ByteArray.empty t215 x12_3)) ++ (⟨#[62]⟩ : ByteArray)⟩ : S37) [.string (rdOf ByteArray.empty t215 x12_3), .string (((⟨#[60]⟩ : ByteArray) ++ (rdOf ByteArray.empty t215 x12_3)) ++ (⟨#[62]⟩ : ByteArray))] (fun _ => True) (fun _ => False) rfl rfl ?aP (fun _ hk => hk.elim) ?aF ?aO ?aB ?aS ?aL ?_
                              (case aP => exact k37_mkM _ _ _ (⟨rdOf ByteArray.empty t215 x12_3, ((⟨#[60]⟩ : ByteArray) ++ (rdOf ByteArray.empty t215 x12_3)) ++ (⟨#[62]⟩ : ByteArray)⟩ : S37))
                              (case aB => exact (by repeat (first | (with_reducible first | exact HB.out | apply below_alloc | apply pw_below_drewN | apply below_drew1) | exact HB.out)))
                              (case aF => exact (fun _ _ => trivial))
                              (case aO => exact (by (with_reducible repeat (first | apply Kd.R_alloc | apply Kd.R_drewN | apply Kd.R_drew)); exact HO_11.out))
                              (case aS => exact (below_size (by repeat (first | (with_reducible first | exact HB.out | apply below_alloc | apply pw_below_drewN | apply below_drew1) | exact HB.out))))
                              (case aL => have := LMc25.out; omega)
                              intro v223 w28 ho hb hg hat
                              rw [← Ny222.out] at ho
                              have n0_ := Aside0.mk (Kd.R_over' (by (with_reducible repeat (first | apply Kd.R_alloc | apply Kd.R_drewN | apply Kd.R_drew)); exact HO_9.out) (Kd.R_typed (by (with_reducible repeat (first | apply Kd.R_alloc | apply Kd.R_drewN | apply Kd.R_drew)); exact HO_11.out)) (by decide) hg)
                              have n1_ := Aside0.mk (hb)
                              have n2_ := Aside0.mk (ho)
                              clear HO_9
                              clear HB
                              clear HO_11
                              have HO_9 := n0_
                              have HB := n1_
                              have HO224 := n2_
                              clear n0_ n1_ n2_
                              clear ho hb hg hat
                              refine hK.out _ _ ?_
                              clear hK K
                              refine norm_ (a' := ?_) ?_ ?_
                              rotate_left
                              · show Act.put _ (some 81) _ = _
                                simp only [Act.put, List.setIfInBounds_toArray, List.set_cons_zero, List.set_cons_succ, i64_w, i32_w]
                                rfl
                              refine pure_ (i := 14) (N := some 11) (v := ?_) (a' := ?_) #[true, true, true, true, true, true, true, true, true, true, true, true, true, true, true] rfl rfl (any_of HT_.out (by kernel_rfl)) (fun _ _ _ h => h) (Or.inl ⟨by rfl, ?_⟩) ?_ ?_
                              rotate_left
                              · intro w'
                                go_simp
                                with_reducible rfl
                              rotate_left
                              · simp only [Act.put, List.setIfInBounds_toArray, List.set_cons_zero, List.set_cons_succ, i64_w, i32_w]
                                rfl
                              refine done_ (done_of HT_.out (by kernel_rfl)) ?_
                              try go_wp2
                              go_roundg k3
                              case measure => have := HJ2.out; have := HJ12.out; have := HK3.out; omega
                              case rel => exact ⟨(y222), (wrap64 (x12_3 + 1)), (by first | rfl | (simp; done) | (simp [*]; done)), H', ⟨by have := HJ2.out; have := HJ12.out; have := HK3.out; omega⟩, ⟨by (with_reducible repeat (first | apply Kd.R_alloc | apply Kd.R_drewN | apply Kd.R_drew)); exact HO_9.out⟩, ⟨by (with_reducible repeat (first | apply Kd.R_alloc | apply Kd.R_drewN | apply Kd.R_drew)); exact HO224.out⟩, ⟨by repeat (first | (with_reducible first | exact HB.out | apply below_alloc | apply pw_below_drewN | apply below_drew1) | exact HB.out)⟩⟩
                            · rw [if_neg c25] at H
                              exact absurd H (by simp)
                          · rw [if_neg c24] at H
                            exact absurd H (by simp)
                        · rw [if_neg c23] at H
                          exact absurd H (by simp)
                      · rw [if_neg c22] at H
                        exact absurd H (by simp)
                    · rw [if_neg c21] at H
                      have c21b0 : decide (x12_3 < (t215.length : Int)) = false := decide_eq_false c21
                      clear c21
                      replace H := Option.bind_eq_some_iff.mp H
                      obtain ⟨⟨t225, t226⟩, A290, H⟩ := H
                      replace H : (belvederelaw21_MacroQuotes.l1 k3 a0 t225 t226 (⟨#[]⟩ : ByteArray) false 0) = some r := H
                      have A29 := Aside0.mk A290
                      clear A290
                      have H' := Aside0.mk H
                      clear H
                      obtain ⟨Ao30, co30, eo30⟩ := Kd.R_slice HO_9.out
                      subst eo30
                      obtain ⟨Ao31, co31, eo31⟩ := Kd.R_slice HO_11.out
                      subst eo31
                      go_wp2_with (first | ((with_reducible refine gate_callee (f := 10) rfl ?_); refine goesL_ (some 85) rfl rfl Tryd.func10 (by kernel_rfl) rfl #[.string a0, .slice Ao31 x11_3.length co31] rfl (by (try simp only [List.map_toArray, List.map_cons, List.map_nil]); first | done | rfl | (simp only [List.length_drop, List.length_take]; rfl)) ?_; (with_reducible refine (macro_Expand.calls a0 _ _ x11_3 t225 t226 _ ?side1 ?side2 ?side3 A29.out).mono ?_); (case side1 => repeat (first | exact (Kd.R_reads' HO_11.out).2.2 | (with_reducible refine Kd.C_alloc ?_ _) | (with_reducible refine Kd.C_drewN ?_ _) | (with_reducible refine Kd.C_drew ?_))); (case side2 => exact (Kd.R_reads' HO_11.out).2.1); (case side3 => first | exact HG.out | exact Glob.below HG.out (by repeat (first | (with_reducible first | exact HB.out | apply below_alloc | apply pw_below_drewN | apply below_drew1) | exact HB.out))); rintro e w32 ⟨rfl, hb⟩; refine ⟨_, rfl, ?_⟩; have n0_ := Aside0.mk (Kd.R_below (by (with_reducible repeat (first | apply Kd.R_alloc | apply Kd.R_drewN | apply Kd.R_drew)); exact HO_9.out) hb); have n1_ := Aside0.mk (Kd.R_below (by (with_reducible repeat (first | apply Kd.R_alloc | apply Kd.R_drewN | apply Kd.R_drew)); exact HO_11.out) hb); have n2_ := Aside0.mk (below_step (by repeat (first | (with_reducible first | exact HB.out | apply below_alloc | apply pw_below_drewN | apply below_drew1) | exact HB.out)) hb); clear HO_9; clear HO_11; clear HB; have HO_9 := n0_; have HO_11 := n1_; have HB := n2_; clear n0_ n1_ n2_; (try clear hb); (try clear hb2); (try clear hk); (try clear hi); (try simp only [errW_none, errW_some])))
                      go_loopg [15, 16, 17] k3 (fun kq v15 v16 v17 w' => ∃ (x15_4 : ByteArray) (x16_4 : Bool) (x17_4 : Int), v15 = .string x15_4 ∧ v16 = .bool x16_4 ∧ v17 = .int .i64 x17_4 ∧ Aside0 (belvederelaw21_MacroQuotes.l1 kq a0 t225 t226 x15_4 x16_4 x17_4 = some r) ∧ Aside0 (kq ≤ k3) ∧ Aside0 (Below w.heap.size w w'))
                      case atStart => exact ⟨((⟨#[]⟩ : ByteArray)), (false), (0), (by first | rfl | (simp; done) | (simp [*]; done)), (by first | rfl | (simp; done) | (simp [*]; done)), (by first | rfl | (simp; done) | (simp [*]; done)), H', ⟨Nat.le_refl _⟩, ⟨by repeat (first | (with_reducible first | exact HB.out | apply below_alloc | apply pw_below_drewN | apply below_drew1) | exact HB.out)⟩⟩
                      case round =>
                        clear H'
                        try clear c1
                        try clear c2
                        try clear p2
                        try clear q2
                        try clear hx2
                        try clear c4
                        try clear c4b0
                        try clear c4b1
                        try clear p6
                        try clear c7
                        try clear c9
                        try clear c10
                        try clear c11
                        try clear c14
                        try clear c16
                        try clear c18
                        try clear c21
                        try clear c21b0
                        try clear q21
                        try clear c22
                        try clear c22b0
                        try clear p22
                        try clear q22
                        try clear hx22
                        try clear c23
                        try clear c23b0
                        try clear c23b1
                        try clear c23b2
                        try clear c24
                        try clear c24b0
                        try clear c24b1
                        try clear c24b2
                        try clear c25
                        try clear hx220_0
                        try clear hx221_0
                        try clear p2
                        try clear p220
                        try clear p221
                        try clear q2
                        try clear q213
                        try clear q214
                        try clear q219
                        try clear q220
                        try clear q221
                        obtain ⟨x15_4, x16_4, x17_4, rfl, rfl, rfl, HA, HK4, HB⟩ := hrel
                        cases gk with
                        | zero => exact absurd HA.out (by simp [belvederelaw21_MacroQuotes.l1])
                        | succ k4 =>
                          have H := HA.out
                          clear HA
                          simp only [belvederelaw21_MacroQuotes.l1] at H
                          by_cases c33 : x17_4 < (a0.size : Int)
                          · rw [if_pos c33] at H
                            have c33b0 : decide (x17_4 < (a0.size : Int)) = true := decide_eq_true c33
                            clear c33
                            by_cases c34 : 0 ≤ x17_4
                            · rw [if_pos c34] at H
                              have c34b0 : decide (0 ≤ x17_4) = true := decide_eq_true c34
                              clear c34
                              by_cases c36 : (bt a0 x17_4) = 36
                              · rw [if_pos c36] at H
                                have c36b0 : ((bt a0 x17_4) == 36) = true := beq_iff_eq.mpr c36
                                have c36b1 : ((bt a0 x17_4) != 36) = false := bne_eq_false_iff_eq.mpr c36
                                clear c36
                                have HC37 := Aside0.mk H
                                clear H
                                have p35 : 0 ≤ (x17_4 : Int) := of_decide_eq_true (by first | (with_reducible assumption) | assumption)
                                have q35 : x17_4 < (a0.size : Int) := of_decide_eq_true (by first | (with_reducible assumption) | assumption)
                                have hx35 := bt_at a0 x17_4
                                replace p35 := eq_true p35
                                replace q35 := eq_true q35
                                go_upto_region 24 with (fail)
                                go_cut [108] (fun v108 wc => ∃ (kq : Nat) (x108_36 : Bool), v108 = .bool x108_36 ∧ Aside0 (belvederelaw21_MacroQuotes.j4 kq a0 t225 t226 x15_4 x16_4 x17_4 x108_36 = some r) ∧ Aside0 (kq ≤ k4) ∧ Aside0 (Below w.heap.size w wc))
                                case first =>
                                  have H := HC37.out
                                  clear HC37
                                  by_cases c38 : x16_4 = true
                                  · subst c38
                                    have H1 : (belvederelaw21_MacroQuotes.j4 k4 a0 t225 t226 x15_4 true x17_4 false) = some r := by rw [if_pos rfl] at H; exact H
                                    clear H
                                    have H := H1
                                    clear H1
                                    have H' := Aside0.mk H
                                    clear H
                                    go_wp2
                                    go_meet
                                    case rel => exact ⟨_, (false), (by first | rfl | (simp; done) | (simp [*]; done)), H', ⟨by have := HJ2.out; have := HJ12.out; have := HK3.out; have := HK4.out; first | omega | exact Nat.le_refl _⟩, ⟨by repeat (first | (with_reducible first | exact HB.out | apply below_alloc | apply pw_below_drewN | apply below_drew1) | exact HB.out)⟩⟩
                                  · replace c38 := Bool.eq_false_iff.mpr c38
                                    subst c38
                                    have H1 : (if (wrap64 (x17_4 + 1)) < (a0.size : Int) then (if 0 ≤ (wrap64 (x17_4 + 1)) then (belvederelaw21_MacroQuotes.j4 k4 a0 t225 t226 x15_4 false x17_4 ((bt a0 (wrap64 (x17_4 + 1))) == 36)) else (none)) else (belvederelaw21_MacroQuotes.j4 k4 a0 t225 t226 x15_4 false x17_4 false)) = some r := by rw [if_neg (show ¬ (false = true) by decide)] at H; exact H
                                    clear H
                                    have H := H1
                                    clear H1
                                    by_cases c39 : (wrap64 (x17_4 + 1)) < (a0.size : Int)
                                    · rw [if_pos c39] at H
                                      have c39b0 : decide ((wrap64 (x17_4 + 1)) < (a0.size : Int)) = true := decide_eq_true c39
                                      clear c39
                                      (first | rw [c39b0] | (simp only [i64_w, i32_w]; rw [c39b0]) | skip)
                                      obtain ⟨ji40, hji40⟩ : ∃ j_ : Int, (wrap64 (x17_4 + 1)) = j_ := ⟨_, rfl⟩
                                      replace H : (if 0 ≤ (ji40) then (belvederelaw21_MacroQuotes.j4 k4 a0 t225 t226 x15_4 false x17_4 ((bt a0 (ji40)) == 36)) else (none)) = some r := by first | (rw [hji40] at H; exact H) | (simp only [hji40] at H ⊢; exact H)
                                      (try rw [hji40] at c39b0)
                                      have hji40w : (IntKind.i64.wrap (x17_4 + 1)) = ji40 := (i64_w _).trans hji40
                                      by_cases c41 : 0 ≤ (ji40)
                                      · rw [if_pos c41] at H
                                        have c41b0 : decide (0 ≤ (ji40)) = true := decide_eq_true c41
                                        clear c41
                                        have H' := Aside0.mk H
                                        clear H
                                        have p42 : 0 ≤ ((ji40) : Int) := of_decide_eq_true (by first | (with_reducible assumption) | assumption)
                                        have q42 : (ji40) < (a0.size : Int) := of_decide_eq_true (by first | (with_reducible assumption) | assumption)
                                        have hx42 := bt_at a0 (ji40)
                                        replace p42 := eq_true p42
                                        replace q42 := eq_true q42
                                        go_wp2
                                        go_meet
                                        case rel => exact ⟨_, (((bt a0 (ji40)) == 36)), (by first | rfl | (simp; done) | (simp only [← hji40] <;> (first | rfl | simp)) | (simp [*]; done)), H', ⟨by have := HJ2.out; have := HJ12.out; have := HK3.out; have := HK4.out; first | omega | exact Nat.le_refl _⟩, ⟨by repeat (first | (with_reducible first | exact HB.out | apply below_alloc | apply pw_below_drewN | apply below_drew1) | exact HB.out)⟩⟩
                                      · rw [if_neg c41] at H
                                        exact absurd H (by simp)
                                    · rw [if_neg c39] at H
                                      have c39b0 : decide ((wrap64 (x17_4 + 1)) < (a0.size : Int)) = false := decide_eq_false c39
                                      clear c39
                                      (first | rw [c39b0] | (simp only [i64_w, i32_w]; rw [c39b0]) | skip)
                                      have H' := Aside0.mk H
                                      clear H
                                      go_wp2
                                      go_meet
                                      case rel => exact ⟨_, (false), (by first | rfl | (simp; done) | (simp [*]; done)), H', ⟨by have := HJ2.out; have := HJ12.out; have := HK3.out; have := HK4.out; first | omega | exact Nat.le_refl _⟩, ⟨by repeat (first | (with_reducible first | exact HB.out | apply below_alloc | apply pw_below_drewN | apply below_drew1) | exact HB.out)⟩⟩
                                case rest =>
                                  clear HC37
                                  try clear c1
                                  try clear c2
                                  try clear p2
                                  try clear q2
                                  try clear hx2
                                  try clear c3
                                  try clear p3
                                  try clear q3
                                  try clear hx3
                                  try clear c4
                                  try clear c4b0
                                  try clear c4b1
                                  try clear p4
                                  try clear q4
                                  try clear hx4
                                  try clear p6
                                  try clear c7
                                  try clear c9
                                  try clear c10
                                  try clear c11
                                  try clear c14
                                  try clear c16
                                  try clear c18
                                  try clear c21
                                  try clear c21b0
                                  try clear q21
                                  try clear c22
                                  try clear c22b0
                                  try clear p22
                                  try clear q22
                                  try clear hx22
                                  try clear c23
                                  try clear c23b0
                                  try clear c23b1
                                  try clear c23b2
                                  try clear c24
                                  try clear c24b0
                                  try clear c24b1
                                  try clear c24b2
                                  try clear c25
                                  try clear c33
                                  try clear c33b0
                                  try clear c34
                                  try clear c34b0
                                  try clear p35
                                  try clear q35
                                  try clear hx35
                                  try clear c36
                                  try clear c36b0
                                  try clear c36b1
                                  try clear c38
                                  try clear c39
                                  try clear c39b0
                                  try clear c41
                                  try clear c41b0
                                  try clear p42
                                  try clear q42
                                  try clear hx42
                                  try clear hx220_0
                                  try clear hx221_0
                                  try clear p2
                                  try clear p22
                                  try clear p220
                                  try clear p221
                                  try clear p35
                                  try clear p42
                                  try clear p6
                                  try clear q2
                                  try clear q21
                                  try clear q213
                                  try clear q214
                                  try clear q219
                                  try clear q22
                                  try clear q220
                                  try clear q221
                                  try clear q35
                                  try clear q42
                                  obtain ⟨kq, x108_36, rfl, HA, HJ36, HB⟩ := hcut
                                  cases kq with
                                  | zero => exact absurd HA.out (by simp [belvederelaw21_MacroQuotes.j4])
                                  | succ kj36 =>
                                    have H := HA.out
                                    clear HA
                                    simp only [belvederelaw21_MacroQuotes.j4] at H
                                    by_cases c43 : x108_36 = true
                                    · subst c43
                                      have H1 : (if x15_4.size + 1 ≤ 9223372036854775807 then (belvederelaw21_MacroQuotes.l1 kj36 a0 t225 t226 (x15_4 ++ (⟨#[36]⟩ : ByteArray)) x16_4 (wrap64 ((wrap64 (x17_4 + 1)) + 1))) else (none)) = some r := by rw [if_pos rfl] at H; exact H
                                      clear H
                                      have H := H1
                                      clear H1
                                      by_cases c44 : x15_4.size + 1 ≤ 9223372036854775807
                                      · rw [if_pos c44] at H
                                        have c44b0 := eq_true c44
                                        have c44b1 : decide (x15_4.size + 1 ≤ 9223372036854775807) = true := decide_eq_true c44
                                        (try (have c44b6 : (x15_4.size + 1 ≤ 9223372036854775807) = True := eq_true (by have h_ := c44; (try simp only [ByteArray.size_append, ByteArray.size_extract] at h_); (try simp only [decide_eq_true_eq] at *); omega)))
                                        (try (have c44b7 : decide (x15_4.size + 1 ≤ 9223372036854775807) = true := decide_eq_true (by have h_ := c44; (try simp only [ByteArray.size_append, ByteArray.size_extract] at h_); (try simp only [decide_eq_true_eq] at *); omega)))
                                        (try (have c44b8 : (9223372036854775807 < x15_4.size + 1) = False := eq_false (by intro g_; have h_ := c44; (try simp only [ByteArray.size_append, ByteArray.size_extract] at h_); (try simp only [decide_eq_true_eq] at *); omega)))
                                        (try (have c44b3 : (x15_4.size ≤ 9223372036854775806) = True := eq_true (by have h_ := c44; (try simp only [ByteArray.size_append, ByteArray.size_extract] at h_); (try simp only [decide_eq_true_eq] at *); omega)))
                                        (try (have c44b4 : decide (x15_4.size ≤ 9223372036854775806) = true := decide_eq_true (by have h_ := c44; (try simp only [ByteArray.size_append, ByteArray.size_extract] at h_); (try simp only [decide_eq_true_eq] at *); omega)))
                                        (try (have c44b5 : (9223372036854775806 < x15_4.size) = False := eq_false (by intro g_; have h_ := c44; (try simp only [ByteArray.size_append, ByteArray.size_extract] at h_); (try simp only [decide_eq_true_eq] at *); omega)))
                                        try have c44b2 : (9223372036854775807 < x15_4.size + 1) = False := eq_false (Nat.not_lt.2 c44)
                                        have H' := Aside0.mk H
                                        clear H
                                        go_wp2
                                        go_roundg kj36
                                        case measure => have := HJ2.out; have := HJ12.out; have := HK3.out; have := HK4.out; have := HJ36.out; omega
                                        case rel => exact ⟨(x15_4 ++ (⟨#[36]⟩ : ByteArray)), (x16_4), (wrap64 ((wrap64 (x17_4 + 1)) + 1)), (by first | rfl | (simp; done) | (simp [*]; done)), (by first | rfl | (simp; done) | (simp [*]; done)), (by first | rfl | (simp; done) | (simp [*]; done)), H', ⟨by have := HJ2.out; have := HJ12.out; have := HK3.out; have := HK4.out; have := HJ36.out; omega⟩, ⟨by repeat (first | (with_reducible first | exact HB.out | apply below_alloc | apply pw_below_drewN | apply below_drew1) | exact HB.out)⟩⟩
                                      · rw [if_neg c44] at H
                                        exact absurd H (by simp)
                                    · replace c43 := Bool.eq_false_iff.mpr c43
                                      subst c43
                                      have H1 : (if x16_4 = true then (if x15_4.size + 1 ≤ 9223372036854775807 then (belvederelaw21_MacroQuotes.l1 kj36 a0 t225 t226 (x15_4 ++ (⟨#[62]⟩ : ByteArray)) false (wrap64 (x17_4 + 1))) else (none)) else (if x15_4.size + 1 ≤ 9223372036854775807 then (belvederelaw21_MacroQuotes.l1 kj36 a0 t225 t226 (x15_4 ++ (⟨#[60]⟩ : ByteArray)) true (wrap64 (x17_4 + 1))) else (none))) = some r := by rw [if_neg (show ¬ (false = true) by decide)] at H; exact H
                                      clear H
                                      have H := H1
                                      clear H1
                                      by_cases c45 : x16_4 = true
                                      · subst c45
                                        have H1 : (if x15_4.size + 1 ≤ 9223372036854775807 then (belvederelaw21_MacroQuotes.l1 kj36 a0 t225 t226 (x15_4 ++ (⟨#[62]⟩ : ByteArray)) false (wrap64 (x17_4 + 1))) else (none)) = some r := by rw [if_pos rfl] at H; exact H
                                        clear H
                                        have H := H1
                                        clear H1
                                        by_cases c46 : x15_4.size + 1 ≤ 9223372036854775807
                                        · rw [if_pos c46] at H
                                          have c46b0 := eq_true c46
                                          have c46b1 : decide (x15_4.size + 1 ≤ 9223372036854775807) = true := decide_eq_true c46
                                          (try (have c46b6 : (x15_4.size + 1 ≤ 9223372036854775807) = True := eq_true (by have h_ := c46; (try simp only [ByteArray.size_append, ByteArray.size_extract] at h_); (try simp only [decide_eq_true_eq] at *); omega)))
                                          (try (have c46b7 : decide (x15_4.size + 1 ≤ 9223372036854775807) = true := decide_eq_true (by have h_ := c46; (try simp only [ByteArray.size_append, ByteArray.size_extract] at h_); (try simp only [decide_eq_true_eq] at *); omega)))
                                          (try (have c46b8 : (9223372036854775807 < x15_4.size + 1) = False := eq_false (by intro g_; have h_ := c46; (try simp only [ByteArray.size_append, ByteArray.size_extract] at h_); (try simp only [decide_eq_true_eq] at *); omega)))
                                          (try (have c46b3 : (x15_4.size ≤ 9223372036854775806) = True := eq_true (by have h_ := c46; (try simp only [ByteArray.size_append, ByteArray.size_extract] at h_); (try simp only [decide_eq_true_eq] at *); omega)))
                                          (try (have c46b4 : decide (x15_4.size ≤ 9223372036854775806) = true := decide_eq_true (by have h_ := c46; (try simp only [ByteArray.size_append, ByteArray.size_extract] at h_); (try simp only [decide_eq_true_eq] at *); omega)))
                                          (try (have c46b5 : (9223372036854775806 < x15_4.size) = False := eq_false (by intro g_; have h_ := c46; (try simp only [ByteArray.size_append, ByteArray.size_extract] at h_); (try simp only [decide_eq_true_eq] at *); omega)))
                                          try have c46b2 : (9223372036854775807 < x15_4.size + 1) = False := eq_false (Nat.not_lt.2 c46)
                                          have H' := Aside0.mk H
                                          clear H
                                          go_wp2
                                          go_roundg kj36
                                          case measure => have := HJ2.out; have := HJ12.out; have := HK3.out; have := HK4.out; have := HJ36.out; omega
                                          case rel => exact ⟨(x15_4 ++ (⟨#[62]⟩ : ByteArray)), (false), (wrap64 (x17_4 + 1)), (by first | rfl | (simp; done) | (simp [*]; done)), (by first | rfl | (simp; done) | (simp [*]; done)), (by first | rfl | (simp; done) | (simp [*]; done)), H', ⟨by have := HJ2.out; have := HJ12.out; have := HK3.out; have := HK4.out; have := HJ36.out; omega⟩, ⟨by repeat (first | (with_reducible first | exact HB.out | apply below_alloc | apply pw_below_drewN | apply below_drew1) | exact HB.out)⟩⟩
                                        · rw [if_neg c46] at H
                                          exact absurd H (by simp)
                                      · replace c45 := Bool.eq_false_iff.mpr c45
                                        subst c45
                                        have H1 : (if x15_4.size + 1 ≤ 9223372036854775807 then (belvederelaw21_MacroQuotes.l1 kj36 a0 t225 t226 (x15_4 ++ (⟨#[60]⟩ : ByteArray)) true (wrap64 (x17_4 + 1))) else (none)) = some r := by rw [if_neg (show ¬ (false = true) by decide)] at H; exact H
                                        clear H
                                        have H := H1
                                        clear H1
                                        by_cases c47 : x15_4.size + 1 ≤ 9223372036854775807
                                        · rw [if_pos c47] at H
                                          have c47b0 := eq_true c47
                                          have c47b1 : decide (x15_4.size + 1 ≤ 9223372036854775807) = true := decide_eq_true c47
                                          (try (have c47b6 : (x15_4.size + 1 ≤ 9223372036854775807) = True := eq_true (by have h_ := c47; (try simp only [ByteArray.size_append, ByteArray.size_extract] at h_); (try simp only [decide_eq_true_eq] at *); omega)))
                                          (try (have c47b7 : decide (x15_4.size + 1 ≤ 9223372036854775807) = true := decide_eq_true (by have h_ := c47; (try simp only [ByteArray.size_append, ByteArray.size_extract] at h_); (try simp only [decide_eq_true_eq] at *); omega)))
                                          (try (have c47b8 : (9223372036854775807 < x15_4.size + 1) = False := eq_false (by intro g_; have h_ := c47; (try simp only [ByteArray.size_append, ByteArray.size_extract] at h_); (try simp only [decide_eq_true_eq] at *); omega)))
                                          (try (have c47b3 : (x15_4.size ≤ 9223372036854775806) = True := eq_true (by have h_ := c47; (try simp only [ByteArray.size_append, ByteArray.size_extract] at h_); (try simp only [decide_eq_true_eq] at *); omega)))
                                          (try (have c47b4 : decide (x15_4.size ≤ 9223372036854775806) = true := decide_eq_true (by have h_ := c47; (try simp only [ByteArray.size_append, ByteArray.size_extract] at h_); (try simp only [decide_eq_true_eq] at *); omega)))
                                          (try (have c47b5 : (9223372036854775806 < x15_4.size) = False := eq_false (by intro g_; have h_ := c47; (try simp only [ByteArray.size_append, ByteArray.size_extract] at h_); (try simp only [decide_eq_true_eq] at *); omega)))
                                          try have c47b2 : (9223372036854775807 < x15_4.size + 1) = False := eq_false (Nat.not_lt.2 c47)
                                          have H' := Aside0.mk H
                                          clear H
                                          go_wp2
                                          go_roundg kj36
                                          case measure => have := HJ2.out; have := HJ12.out; have := HK3.out; have := HK4.out; have := HJ36.out; omega
                                          case rel => exact ⟨(x15_4 ++ (⟨#[60]⟩ : ByteArray)), (true), (wrap64 (x17_4 + 1)), (by first | rfl | (simp; done) | (simp [*]; done)), (by first | rfl | (simp; done) | (simp [*]; done)), (by first | rfl | (simp; done) | (simp [*]; done)), H', ⟨by have := HJ2.out; have := HJ12.out; have := HK3.out; have := HK4.out; have := HJ36.out; omega⟩, ⟨by repeat (first | (with_reducible first | exact HB.out | apply below_alloc | apply pw_below_drewN | apply below_drew1) | exact HB.out)⟩⟩
                                        · rw [if_neg c47] at H
                                          exact absurd H (by simp)
                              · rw [if_neg c36] at H
                                have c36b0 : ((bt a0 x17_4) == 36) = false := beq_eq_false_iff_ne.mpr c36
                                have c36b1 : ((bt a0 x17_4) != 36) = true := bne_iff_ne.mpr c36
                                have c48b0 := eq_true (of_decide_eq_true (by first | (with_reducible assumption) | assumption) : 0 ≤ x17_4)
                                by_cases c49 : x17_4 ≤ (wrap64 (x17_4 + 1))
                                · rw [if_pos c49] at H
                                  have c49b0 := eq_true c49
                                  have c49b1 : decide (x17_4 ≤ (wrap64 (x17_4 + 1))) = true := decide_eq_true c49
                                  by_cases c50 : (wrap64 (x17_4 + 1)) ≤ (a0.size : Int)
                                  · rw [if_pos c50] at H
                                    have c50b0 := eq_true c50
                                    have c50b1 : decide ((wrap64 (x17_4 + 1)) ≤ (a0.size : Int)) = true := decide_eq_true c50
                                    by_cases c51 : x15_4.size + (a0.extract (x17_4 : Int).toNat ((wrap64 (x17_4 + 1)) : Int).toNat).size ≤ 9223372036854775807
                                    · rw [if_pos c51] at H
                                      have c51b0 := eq_true c51
                                      have c51b1 : decide (x15_4.size + (a0.extract (x17_4 : Int).toNat ((wrap64 (x17_4 + 1)) : Int).toNat).size ≤ 9223372036854775807) = true := decide_eq_true c51
                                      (try (have c51b3 : (x15_4.size + (((wrap64 (x17_4 + 1)) : Int).toNat - (x17_4 : Int).toNat) ≤ 9223372036854775807) = True := eq_true (by have h_ := c51; (try simp only [ByteArray.size_append, ByteArray.size_extract] at h_); (try simp only [decide_eq_true_eq] at *); omega)))
                                      (try (have c51b4 : decide (x15_4.size + (((wrap64 (x17_4 + 1)) : Int).toNat - (x17_4 : Int).toNat) ≤ 9223372036854775807) = true := decide_eq_true (by have h_ := c51; (try simp only [ByteArray.size_append, ByteArray.size_extract] at h_); (try simp only [decide_eq_true_eq] at *); omega)))
                                      (try (have c51b5 : (9223372036854775807 < x15_4.size + (((wrap64 (x17_4 + 1)) : Int).toNat - (x17_4 : Int).toNat)) = False := eq_false (by intro g_; have h_ := c51; (try simp only [ByteArray.size_append, ByteArray.size_extract] at h_); (try simp only [decide_eq_true_eq] at *); omega)))
                                      try have c51b2 : (9223372036854775807 < x15_4.size + (a0.extract (x17_4 : Int).toNat ((wrap64 (x17_4 + 1)) : Int).toNat).size) = False := eq_false (Nat.not_lt.2 c51)
                                      have H' := Aside0.mk H
                                      clear H
                                      have p35 : 0 ≤ (x17_4 : Int) := of_decide_eq_true (by first | (with_reducible assumption) | assumption)
                                      have q35 : x17_4 < (a0.size : Int) := of_decide_eq_true (by first | (with_reducible assumption) | assumption)
                                      have hx35 := bt_at a0 x17_4
                                      replace p35 := eq_true p35
                                      replace q35 := eq_true q35
                                      go_wp2
                                      go_roundg k4
                                      case measure => have := HJ2.out; have := HJ12.out; have := HK3.out; have := HK4.out; omega
                                      case rel => exact ⟨(x15_4 ++ (a0.extract (x17_4 : Int).toNat ((wrap64 (x17_4 + 1)) : Int).toNat)), (x16_4), (wrap64 (x17_4 + 1)), (by first | rfl | (simp; done) | (simp [*]; done)), (by first | rfl | (simp; done) | (simp [*]; done)), (by first | rfl | (simp; done) | (simp [*]; done)), H', ⟨by have := HJ2.out; have := HJ12.out; have := HK3.out; have := HK4.out; omega⟩, ⟨by repeat (first | (with_reducible first | exact HB.out | apply below_alloc | apply pw_below_drewN | apply below_drew1) | exact HB.out)⟩⟩
                                    · rw [if_neg c51] at H
                                      exact absurd H (by simp)
                                  · rw [if_neg c50] at H
                                    exact absurd H (by simp)
                                · rw [if_neg c49] at H
                                  exact absurd H (by simp)
                            · rw [if_neg c34] at H
                              exact absurd H (by simp)
                          · rw [if_neg c33] at H
                            have c33b0 : decide (x17_4 < (a0.size : Int)) = false := decide_eq_false c33
                            clear c33
                            rcases t226 with _ | q227
                            · have H1 : (if t225.toList = x15_4.toList then ((belvederelaw21_sure.f).bind fun t228 => (some t228)) else (some false)) = some r := by rw [if_pos (show (none : Option Int).isNone = true by rfl)] at H; exact H
                              clear H
                              have H := H1
                              clear H1
                              try simp only [errW_none, errW_some]
                              by_cases c52 : t225.toList = x15_4.toList
                              · rw [if_pos c52] at H
                                have c52b0 : (t225.toList == x15_4.toList) = true := beq_iff_eq.mpr c52
                                have c52b1 : (t225.toList != x15_4.toList) = false := bne_eq_false_iff_eq.mpr c52
                                clear c52
                                replace H := Option.bind_eq_some_iff.mp H
                                obtain ⟨t228, A530, H⟩ := H
                                replace H : (some t228) = some r := H
                                have A53 := Aside0.mk A530
                                clear A530
                                obtain rfl := Option.some.inj H
                                go_wp2_with (first | (go_at_call 9; (with_reducible refine (belvederelaw21_sure.calls  t228 _ ?side1 A53.out).mono ?_); (case side1 => first | exact HG.out | exact Glob.below HG.out (by repeat (first | (with_reducible first | exact HB.out | apply below_alloc | apply pw_below_drewN | apply below_drew1) | exact HB.out))); rintro e w54 ⟨rfl, hb⟩; have n0_ := Aside0.mk (below_step (by repeat (first | (with_reducible first | exact HB.out | apply below_alloc | apply pw_below_drewN | apply below_drew1) | exact HB.out)) hb); clear HB; have HB := n0_; clear n0_; (try clear hb); (try clear hb2); (try clear hk); (try clear hi)))
                                go_ret
                                exact ⟨by first | rfl | (simp [errW_none, errW_some] <;> rfl) | (simp [*, errW_none, errW_some] <;> rfl), by repeat (first | (with_reducible first | exact HB.out | apply below_alloc | apply pw_below_drewN | apply below_drew1) | exact HB.out)⟩
                              · rw [if_neg c52] at H
                                have c52b0 : (t225.toList == x15_4.toList) = false := beq_eq_false_iff_ne.mpr c52
                                have c52b1 : (t225.toList != x15_4.toList) = true := bne_iff_ne.mpr c52
                                obtain rfl := Option.some.inj H
                                go_wp2
                                go_ret
                                exact ⟨by first | rfl | (simp [errW_none, errW_some] <;> rfl) | (simp [*, errW_none, errW_some] <;> rfl), by repeat (first | (with_reducible first | exact HB.out | apply below_alloc | apply pw_below_drewN | apply below_drew1) | exact HB.out)⟩
                            · have H1 : (some false) = some r := by rw [if_neg (show ¬ (some q227).isNone = true by simp)] at H; exact H
                              clear H
                              have H := H1
                              clear H1
                              try simp only [errW_none, errW_some]
                              obtain rfl := Option.some.inj H
                              go_wp2
                              go_ret
                              exact ⟨by first | rfl | (simp [errW_none, errW_some] <;> rfl) | (simp [*, errW_none, errW_some] <;> rfl), by repeat (first | (with_reducible first | exact HB.out | apply below_alloc | apply pw_below_drewN | apply below_drew1) | exact HB.out)⟩
              · have H1 : ((belvederelaw21_num.f (some q219)).bind fun t229 => (if t229 = 3 then ((belvederelaw21_sure.f).bind fun t230 => (some t230)) else (some false))) = some r := by rw [if_neg (show ¬ (some q219).isNone = true by simp)] at H; exact H
                clear H
                have H := H1
                clear H1
                try simp only [errW_none, errW_some]
                replace H := Option.bind_eq_some_iff.mp H
                obtain ⟨t229, A550, H⟩ := H
                replace H : (if t229 = 3 then ((belvederelaw21_sure.f).bind fun t230 => (some t230)) else (some false)) = some r := H
                have A55 := Aside0.mk A550
                clear A550
                by_cases c56 : t229 = 3
                · rw [if_pos c56] at H
                  have c56b0 : (t229 == 3) = true := beq_iff_eq.mpr c56
                  have c56b1 : (t229 != 3) = false := bne_eq_false_iff_eq.mpr c56
                  clear c56
                  replace H := Option.bind_eq_some_iff.mp H
                  obtain ⟨t230, A570, H⟩ := H
                  replace H : (some t230) = some r := H
                  have A57 := Aside0.mk A570
                  clear A570
                  obtain rfl := Option.some.inj H
                  go_wp2_with (first | ((with_reducible refine gate_callee (f := 14) rfl ?_); refine goesL_ (some 51) rfl rfl Tryd.func14 (by kernel_rfl) rfl #[.string a0] rfl (by (try simp only [List.map_toArray, List.map_cons, List.map_nil]); first | done | rfl | (simp only [List.length_drop, List.length_take]; rfl)) ?_; (with_reducible refine (macro_Names.calls a0 t215 (some q219) _ ?side1 A19.out).mono ?_); (case side1 => first | exact HG.out | exact Glob.below HG.out (by repeat (first | (with_reducible first | exact HB.out | apply below_alloc | apply pw_below_drewN | apply below_drew1) | exact HB.out))); rintro e w58 ⟨v217, rfl, ho0, hb⟩; refine ⟨_, rfl, ?_⟩; have n0_ := Aside0.mk (Kd.R_lower ho0 (below_size (by repeat (first | (with_reducible first | exact HB.out | apply below_alloc | apply pw_below_drewN | apply below_drew1) | exact HB.out)))); have n1_ := Aside0.mk (below_step (by repeat (first | (with_reducible first | exact HB.out | apply below_alloc | apply pw_below_drewN | apply below_drew1) | exact HB.out)) hb); clear HB; have HO218 := n0_; have HB := n1_; clear n0_ n1_; (try clear hb); (try clear hb2); (try clear hk); (try clear hi); (try clear ho0); (try simp only [errW_none, errW_some]); have CA55 := fun W hg_ => belvederelaw21_num.calls (some q219) t229 W hg_ A55.out; try simp only [errW_none, errW_some] at CA55) | (go_at_call 13; (with_reducible refine (CA55 _ ?side1).mono ?_); (case side1 => first | exact HG.out | exact Glob.below HG.out (by repeat (first | (with_reducible first | exact HB.out | apply below_alloc | apply pw_below_drewN | apply below_drew1) | exact HB.out))); rintro e w59 ⟨rfl, hb⟩; have n0_ := Aside0.mk (Kd.R_below (by (with_reducible repeat (first | apply Kd.R_alloc | apply Kd.R_drewN | apply Kd.R_drew)); exact HO218.out) hb); have n1_ := Aside0.mk (below_step (by repeat (first | (with_reducible first | exact HB.out | apply below_alloc | apply pw_below_drewN | apply below_drew1) | exact HB.out)) hb); clear HO218; clear HB; have HO218 := n0_; have HB := n1_; clear n0_ n1_; (try clear hb); (try clear hb2); (try clear hk); (try clear hi)) | (go_at_call 9; (with_reducible refine (belvederelaw21_sure.calls  t230 _ ?side1 A57.out).mono ?_); (case side1 => first | exact HG.out | exact Glob.below HG.out (by repeat (first | (with_reducible first | exact HB.out | apply below_alloc | apply pw_below_drewN | apply below_drew1) | exact HB.out))); rintro e w60 ⟨rfl, hb⟩; have n0_ := Aside0.mk (Kd.R_below (by (with_reducible repeat (first | apply Kd.R_alloc | apply Kd.R_drewN | apply Kd.R_drew)); exact HO218.out) hb); have n1_ := Aside0.mk (below_step (by repeat (first | (with_reducible first | exact HB.out | apply below_alloc | apply pw_below_drewN | apply below_drew1) | exact HB.out)) hb); clear HO218; clear HB; have HO218 := n0_; have HB := n1_; clear n0_ n1_; (try clear hb); (try clear hb2); (try clear hk); (try clear hi)))
                  go_ret
                  exact ⟨by first | rfl | (simp [errW_none, errW_some] <;> rfl) | (simp [*, errW_none, errW_some] <;> rfl), by repeat (first | (with_reducible first | exact HB.out | apply below_alloc | apply pw_below_drewN | apply below_drew1) | exact HB.out)⟩
                · rw [if_neg c56] at H
                  have c56b0 : (t229 == 3) = false := beq_eq_false_iff_ne.mpr c56
                  have c56b1 : (t229 != 3) = true := bne_iff_ne.mpr c56
                  obtain rfl := Option.some.inj H
                  go_wp2_with (first | ((with_reducible refine gate_callee (f := 14) rfl ?_); refine goesL_ (some 51) rfl rfl Tryd.func14 (by kernel_rfl) rfl #[.string a0] rfl (by (try simp only [List.map_toArray, List.map_cons, List.map_nil]); first | done | rfl | (simp only [List.length_drop, List.length_take]; rfl)) ?_; (with_reducible refine (macro_Names.calls a0 t215 (some q219) _ ?side1 A19.out).mono ?_); (case side1 => first | exact HG.out | exact Glob.below HG.out (by repeat (first | (with_reducible first | exact HB.out | apply below_alloc | apply pw_below_drewN | apply below_drew1) | exact HB.out))); rintro e w61 ⟨v217, rfl, ho0, hb⟩; refine ⟨_, rfl, ?_⟩; have n0_ := Aside0.mk (Kd.R_lower ho0 (below_size (by repeat (first | (with_reducible first | exact HB.out | apply below_alloc | apply pw_below_drewN | apply below_drew1) | exact HB.out)))); have n1_ := Aside0.mk (below_step (by repeat (first | (with_reducible first | exact HB.out | apply below_alloc | apply pw_below_drewN | apply below_drew1) | exact HB.out)) hb); clear HB; have HO218 := n0_; have HB := n1_; clear n0_ n1_; (try clear hb); (try clear hb2); (try clear hk); (try clear hi); (try clear ho0); (try simp only [errW_none, errW_some]); have CA55 := fun W hg_ => belvederelaw21_num.calls (some q219) t229 W hg_ A55.out; try simp only [errW_none, errW_some] at CA55) | (go_at_call 13; (with_reducible refine (CA55 _ ?side1).mono ?_); (case side1 => first | exact HG.out | exact Glob.below HG.out (by repeat (first | (with_reducible first | exact HB.out | apply below_alloc | apply pw_below_drewN | apply below_drew1) | exact HB.out))); rintro e w62 ⟨rfl, hb⟩; have n0_ := Aside0.mk (Kd.R_below (by (with_reducible repeat (first | apply Kd.R_alloc | apply Kd.R_drewN | apply Kd.R_drew)); exact HO218.out) hb); have n1_ := Aside0.mk (below_step (by repeat (first | (with_reducible first | exact HB.out | apply below_alloc | apply pw_below_drewN | apply below_drew1) | exact HB.out)) hb); clear HO218; clear HB; have HO218 := n0_; have HB := n1_; clear n0_ n1_; (try clear hb); (try clear hb2); (try clear hk); (try clear hi)))
                  go_ret
                  exact ⟨by first | rfl | (simp [errW_none, errW_some] <;> rfl) | (simp [*, errW_none, errW_some] <;> rfl), by repeat (first | (with_reducible first | exact HB.out | apply below_alloc | apply pw_below_drewN | apply below_drew1) | exact HB.out)⟩

end Go.Proofs.YtdjnpjakbiehdaaDoor.Pr
