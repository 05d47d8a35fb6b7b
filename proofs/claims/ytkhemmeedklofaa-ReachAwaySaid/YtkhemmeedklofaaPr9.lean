-- written by wip/tools/myprint.py out of Lean's own print of the program
import Derived.Test.YtkhemmeedklofaaPr0
import Derived.Test.YtkhemmeedklofaaPr5
import Derived.Test.YtkhemmeedklofaaPr8
import Derived.Test.YtkhemmeedklofaaGHosts
namespace Go.Proofs.Ytkhemmeedklofaa.Pr
open Go.RowKit Go.Proofs.YtkhemmeedklofaaW.PrintWords Go.Proofs.YtkhemmeedklofaaW.PrintLast Go.Proofs.YtkhemmeedklofaaW.PrintMore
attribute [local go_sem] max2_int min2_int max_two min_two max_three min_three max_four min_four   -- for this text's walks alone
set_option linter.unusedVariables false
set_option linter.unusedSimpArgs false

/-! ### belvederelaw19_ReachAway: function 3 -/
mutual
noncomputable def belvederelaw19_ReachAway.l0 : Nat → List (List Int) → List Bool → Int → List Int → Int → Option (Bool)
  | 0, _, _, _, _, _ => none
  | k + 1, x0, x1, x2, x7, x9 => if x9 < (x7.length : Int) then (belvederelaw19_ReachAway.l1 k x0 x1 x2 x7 x9 false 0) else (if (x7.length : Int) = 0 then ((belvederelaw19_sure.f k).bind fun t163 => (some t163)) else (if ([] : List Bool).length + x1.length < 140737488355328 then ((some (([] : List Bool) ++ x1 : List Bool)).bind fun y164 => (if (IntKind.u64.wrap ((x7.length : Int))) = 0 then (none) else (if 0 ≤ (wrap64 (Int.tmod (IntKind.u64.wrap (x2)) (IntKind.u64.wrap ((x7.length : Int))))) then (if (wrap64 (Int.tmod (IntKind.u64.wrap (x2)) (IntKind.u64.wrap ((x7.length : Int))))) < (y164.length : Int) then ((reach_Hosts.f x0 (y164.set ((wrap64 (Int.tmod (IntKind.u64.wrap (x2)) (IntKind.u64.wrap ((x7.length : Int))))) : Int).toNat true)).bind fun bt168 => (if bt168.2.isNone = true then (belvederelaw19_ReachAway.j3 k x7 bt168.1 ((bt168.1.length : Int) != (x7.length : Int))) else (belvederelaw19_ReachAway.j3 k x7 bt168.1 true))) else (none)) else (none)))) else (none)))
noncomputable def belvederelaw19_ReachAway.l1 : Nat → List (List Int) → List Bool → Int → List Int → Int → Bool → Int → Option (Bool)
  | 0, _, _, _, _, _, _, _ => none
  | k + 1, x0, x1, x2, x7, x9, x10, x11 => if 0 ≤ x9 then (if x9 < (x0.length : Int) then (if x11 < ((rd_L2 x0 x9).length : Int) then (if x10 = true then (belvederelaw19_ReachAway.l1 k x0 x1 x2 x7 x9 true (wrap64 (x11 + 1))) else (if 0 ≤ x11 then (if 0 ≤ (rd (rd_L2 x0 x9) x11) then (if (rd (rd_L2 x0 x9) x11) < (x7.length : Int) then (belvederelaw19_ReachAway.l1 k x0 x1 x2 x7 x9 ((rd x7 (rd (rd_L2 x0 x9) x11)) == 0) (wrap64 (x11 + 1))) else (none)) else (none)) else (none))) else (if x9 < (x1.length : Int) then (if rdOf false x1 x9 = true then (if x10 = true then (belvederelaw19_ReachAway.j2 k x0 x1 x2 x7 x9 3 true) else (belvederelaw19_ReachAway.j2 k x0 x1 x2 x7 x9 3 (((rd_L2 x0 x9).length : Int) == 0))) else (if x9 < (x7.length : Int) then (if (rd x7 x9) = 0 then (belvederelaw19_ReachAway.l0 k x0 x1 x2 x7 (wrap64 (x9 + 1))) else (some false)) else (none))) else (none))) else (none)) else (none)
noncomputable def belvederelaw19_ReachAway.j2 : Nat → List (List Int) → List Bool → Int → List Int → Int → Int → Bool → Option (Bool)
  | 0, _, _, _, _, _, _, _ => none
  | k + 1, x0, x1, x2, x7, x9, x12, x80 => if x80 = true then (if 0 ≤ x9 then (if x9 < (x7.length : Int) then (if (rd x7 x9) = 2 then (belvederelaw19_ReachAway.l0 k x0 x1 x2 x7 (wrap64 (x9 + 1))) else (some false)) else (none)) else (none)) else (if 0 ≤ x9 then (if x9 < (x7.length : Int) then (if (rd x7 x9) = x12 then (belvederelaw19_ReachAway.l0 k x0 x1 x2 x7 (wrap64 (x9 + 1))) else (some false)) else (none)) else (none))
noncomputable def belvederelaw19_ReachAway.j3 : Nat → List Int → List Int → Bool → Option (Bool)
  | 0, _, _, _ => none
  | k + 1, x7, x14, x117 => if x117 = true then (some false) else (belvederelaw19_ReachAway.l2 k x7 x14 0)
noncomputable def belvederelaw19_ReachAway.l2 : Nat → List Int → List Int → Int → Option (Bool)
  | 0, _, _, _ => none
  | k + 1, x7, x14, x16 => if x16 < (x7.length : Int) then (if 0 ≤ x16 then (if (rd x7 x16) = 0 then (if (rd x7 x16) = 3 then (if x16 < (x14.length : Int) then (if (rd x14 x16) = 3 then (belvederelaw19_ReachAway.l2 k x7 x14 (wrap64 (x16 + 1))) else (some false)) else (none)) else (belvederelaw19_ReachAway.l2 k x7 x14 (wrap64 (x16 + 1)))) else (if x16 < (x14.length : Int) then (if (rd x14 x16) = 0 then (some false) else (if (rd x7 x16) = 3 then (if (rd x14 x16) = 3 then (belvederelaw19_ReachAway.l2 k x7 x14 (wrap64 (x16 + 1))) else (some false)) else (belvederelaw19_ReachAway.l2 k x7 x14 (wrap64 (x16 + 1))))) else (none))) else (none)) else ((belvederelaw19_sure.f k).bind fun t179 => (some t179))
end
noncomputable def belvederelaw19_ReachAway.f (k : Nat) (l0 : List (List Int)) (l1 : List Bool) (a2 : Int) : Option (Bool) := (belvederelaw19_huge.f k l0).bind fun t147 => (if t147 = true then ((belvederelaw19_sure.f k).bind fun t148 => (some t148)) else ((reach_Hosts.f l0 l1).bind fun bt149 => (if bt149.2.isNone = true then (if (bt149.1.length : Int) = (l0.length : Int) then (belvederelaw19_ReachAway.l0 k l0 l1 a2 bt149.1 0) else (some false)) else (if (bt149.1.length : Int) = 0 then ((belvederelaw19_sure.f k).bind fun t180 => (some t180)) else (some false)))))
theorem belvederelaw19_ReachAway.mono_l : ∀ k, (∀ y0 y1 y2 y3 y4, LeO (belvederelaw19_ReachAway.l0 k y0 y1 y2 y3 y4) (belvederelaw19_ReachAway.l0 (k + 1) y0 y1 y2 y3 y4)) ∧ (∀ y0 y1 y2 y3 y4 y5 y6, LeO (belvederelaw19_ReachAway.l1 k y0 y1 y2 y3 y4 y5 y6) (belvederelaw19_ReachAway.l1 (k + 1) y0 y1 y2 y3 y4 y5 y6)) ∧ (∀ y0 y1 y2 y3 y4 y5 y6, LeO (belvederelaw19_ReachAway.j2 k y0 y1 y2 y3 y4 y5 y6) (belvederelaw19_ReachAway.j2 (k + 1) y0 y1 y2 y3 y4 y5 y6)) ∧ (∀ y0 y1 y2, LeO (belvederelaw19_ReachAway.j3 k y0 y1 y2) (belvederelaw19_ReachAway.j3 (k + 1) y0 y1 y2)) ∧ (∀ y0 y1 y2, LeO (belvederelaw19_ReachAway.l2 k y0 y1 y2) (belvederelaw19_ReachAway.l2 (k + 1) y0 y1 y2))
  | 0 => ⟨fun _ _ _ _ _ r h => by simp [belvederelaw19_ReachAway.l0] at h, fun _ _ _ _ _ _ _ r h => by simp [belvederelaw19_ReachAway.l1] at h, fun _ _ _ _ _ _ _ r h => by simp [belvederelaw19_ReachAway.j2] at h, fun _ _ _ r h => by simp [belvederelaw19_ReachAway.j3] at h, fun _ _ _ r h => by simp [belvederelaw19_ReachAway.l2] at h⟩
  | k + 1 => by
    obtain ⟨ih0, ih1, ih2, ih3, ih4⟩ := belvederelaw19_ReachAway.mono_l k
    refine ⟨?_, ?_, ?_, ?_, ?_⟩
    · intro y0 y1 y2 y3 y4
      unfold belvederelaw19_ReachAway.l0
      repeat' first
      | (with_reducible exact ih0 _ _ _ _ _)
      | (with_reducible exact ih1 _ _ _ _ _ _ _)
      | (with_reducible exact ih2 _ _ _ _ _ _ _)
      | (with_reducible exact ih3 _ _ _)
      | (with_reducible exact ih4 _ _ _)
      | (with_reducible exact belvederelaw19_huge.mono _ _)
      | (with_reducible exact belvederelaw19_sure.mono _)
      | (with_reducible exact LeO.refl _)
      | (with_reducible exact LeO.none _)
      | (with_reducible refine LeO.ite ?_ ?_)
      | (with_reducible refine LeO.bind ?_ (fun _ => ?_))
      | exact ih0 _ _ _ _ _
      | exact ih1 _ _ _ _ _ _ _
      | exact ih2 _ _ _ _ _ _ _
      | exact ih3 _ _ _
      | exact ih4 _ _ _
      | exact belvederelaw19_huge.mono _ _
      | exact belvederelaw19_sure.mono _
      | exact LeO.none _
      | refine LeO.ite ?_ ?_
      | refine LeO.bind ?_ (fun _ => ?_)
    · intro y0 y1 y2 y3 y4 y5 y6
      unfold belvederelaw19_ReachAway.l1
      repeat' first
      | (with_reducible exact ih0 _ _ _ _ _)
      | (with_reducible exact ih1 _ _ _ _ _ _ _)
      | (with_reducible exact ih2 _ _ _ _ _ _ _)
      | (with_reducible exact ih3 _ _ _)
      | (with_reducible exact ih4 _ _ _)
      | (with_reducible exact belvederelaw19_huge.mono _ _)
      | (with_reducible exact belvederelaw19_sure.mono _)
      | (with_reducible exact LeO.refl _)
      | (with_reducible exact LeO.none _)
      | (with_reducible refine LeO.ite ?_ ?_)
      | (with_reducible refine LeO.bind ?_ (fun _ => ?_))
      | exact ih0 _ _ _ _ _
      | exact ih1 _ _ _ _ _ _ _
      | exact ih2 _ _ _ _ _ _ _
      | exact ih3 _ _ _
      | exact ih4 _ _ _
      | exact belvederelaw19_huge.mono _ _
      | exact belvederelaw19_sure.mono _
      | exact LeO.none _
      | refine LeO.ite ?_ ?_
      | refine LeO.bind ?_ (fun _ => ?_)
    · intro y0 y1 y2 y3 y4 y5 y6
      unfold belvederelaw19_ReachAway.j2
      repeat' first
      | (with_reducible exact ih0 _ _ _ _ _)
      | (with_reducible exact ih1 _ _ _ _ _ _ _)
      | (with_reducible exact ih2 _ _ _ _ _ _ _)
      | (with_reducible exact ih3 _ _ _)
      | (with_reducible exact ih4 _ _ _)
      | (with_reducible exact belvederelaw19_huge.mono _ _)
      | (with_reducible exact belvederelaw19_sure.mono _)
      | (with_reducible exact LeO.refl _)
      | (with_reducible exact LeO.none _)
      | (with_reducible refine LeO.ite ?_ ?_)
      | (with_reducible refine LeO.bind ?_ (fun _ => ?_))
      | exact ih0 _ _ _ _ _
      | exact ih1 _ _ _ _ _ _ _
      | exact ih2 _ _ _ _ _ _ _
      | exact ih3 _ _ _
      | exact ih4 _ _ _
      | exact belvederelaw19_huge.mono _ _
      | exact belvederelaw19_sure.mono _
      | exact LeO.none _
      | refine LeO.ite ?_ ?_
      | refine LeO.bind ?_ (fun _ => ?_)
    · intro y0 y1 y2
      unfold belvederelaw19_ReachAway.j3
      repeat' first
      | (with_reducible exact ih0 _ _ _ _ _)
      | (with_reducible exact ih1 _ _ _ _ _ _ _)
      | (with_reducible exact ih2 _ _ _ _ _ _ _)
      | (with_reducible exact ih3 _ _ _)
      | (with_reducible exact ih4 _ _ _)
      | (with_reducible exact belvederelaw19_huge.mono _ _)
      | (with_reducible exact belvederelaw19_sure.mono _)
      | (with_reducible exact LeO.refl _)
      | (with_reducible exact LeO.none _)
      | (with_reducible refine LeO.ite ?_ ?_)
      | (with_reducible refine LeO.bind ?_ (fun _ => ?_))
      | exact ih0 _ _ _ _ _
      | exact ih1 _ _ _ _ _ _ _
      | exact ih2 _ _ _ _ _ _ _
      | exact ih3 _ _ _
      | exact ih4 _ _ _
      | exact belvederelaw19_huge.mono _ _
      | exact belvederelaw19_sure.mono _
      | exact LeO.none _
      | refine LeO.ite ?_ ?_
      | refine LeO.bind ?_ (fun _ => ?_)
    · intro y0 y1 y2
      unfold belvederelaw19_ReachAway.l2
      repeat' first
      | (with_reducible exact ih0 _ _ _ _ _)
      | (with_reducible exact ih1 _ _ _ _ _ _ _)
      | (with_reducible exact ih2 _ _ _ _ _ _ _)
      | (with_reducible exact ih3 _ _ _)
      | (with_reducible exact ih4 _ _ _)
      | (with_reducible exact belvederelaw19_huge.mono _ _)
      | (with_reducible exact belvederelaw19_sure.mono _)
      | (with_reducible exact LeO.refl _)
      | (with_reducible exact LeO.none _)
      | (with_reducible refine LeO.ite ?_ ?_)
      | (with_reducible refine LeO.bind ?_ (fun _ => ?_))
      | exact ih0 _ _ _ _ _
      | exact ih1 _ _ _ _ _ _ _
      | exact ih2 _ _ _ _ _ _ _
      | exact ih3 _ _ _
      | exact ih4 _ _ _
      | exact belvederelaw19_huge.mono _ _
      | exact belvederelaw19_sure.mono _
      | exact LeO.none _
      | refine LeO.ite ?_ ?_
      | refine LeO.bind ?_ (fun _ => ?_)
theorem belvederelaw19_ReachAway.mono : ∀ a0 a1 a2 k, LeO (belvederelaw19_ReachAway.f k a0 a1 a2) (belvederelaw19_ReachAway.f (k + 1) a0 a1 a2) := by
  intro a0 a1 a2 k
  obtain ⟨ih0, ih1, ih2, ih3, ih4⟩ := belvederelaw19_ReachAway.mono_l k
  unfold belvederelaw19_ReachAway.f
  repeat' first
      | (with_reducible exact ih0 _ _ _ _ _)
      | (with_reducible exact ih1 _ _ _ _ _ _ _)
      | (with_reducible exact ih2 _ _ _ _ _ _ _)
      | (with_reducible exact ih3 _ _ _)
      | (with_reducible exact ih4 _ _ _)
      | (with_reducible exact belvederelaw19_huge.mono _ _)
      | (with_reducible exact belvederelaw19_sure.mono _)
      | (with_reducible exact LeO.refl _)
      | (with_reducible exact LeO.none _)
      | (with_reducible refine LeO.ite ?_ ?_)
      | (with_reducible refine LeO.bind ?_ (fun _ => ?_))
      | exact ih0 _ _ _ _ _
      | exact ih1 _ _ _ _ _ _ _
      | exact ih2 _ _ _ _ _ _ _
      | exact ih3 _ _ _
      | exact ih4 _ _ _
      | exact belvederelaw19_huge.mono _ _
      | exact belvederelaw19_sure.mono _
      | exact LeO.none _
      | refine LeO.ite ?_ ?_
      | refine LeO.bind ?_ (fun _ => ?_)
set_option maxHeartbeats 8000000 in
set_option maxRecDepth 100000 in
theorem belvederelaw19_ReachAway.calls (k : Nat) (A0 : Option Addr) (c0 : Nat) (l0 : List (List Int)) (A1 : Option Addr) (c1 : Nat) (l1 : List Bool) (a2 : Int) (r : Bool) (w : World) (hr0 : Kd.C (Kd.slice 3 (Kd.int .i64)) w A0 l0.length l0) (hc0 : l0.length ≤ c0) (hr1 : Kd.C Kd.bool w A1 l1.length l1) (hc1 : l1.length ≤ c1) (h : belvederelaw19_ReachAway.f k l0 l1 a2 = some r) :
    Calls Try.prog 3 #[.slice A0 l0.length c0, .slice A1 l1.length c1, .int .i64 a2] w fun e w' => e = .returned (.bool r) ∧ Below w.heap.size w w' := by
  have hu28 := Try.underlying28
  have hu35 := Try.underlying35
  have HR0 := Aside0.mk hr0
  have HC0 := Aside0.mk hc0
  clear hr0 hc0
  have HR1 := Aside0.mk hr1
  have HC1 := Aside0.mk hc1
  clear hr1 hc1
  have HB := Aside0.mk (Below.refl w.heap.size w)
  have H : ((belvederelaw19_huge.f k l0).bind fun t147 => (if t147 = true then ((belvederelaw19_sure.f k).bind fun t148 => (some t148)) else ((reach_Hosts.f l0 l1).bind fun bt149 => (if bt149.2.isNone = true then (if (bt149.1.length : Int) = (l0.length : Int) then (belvederelaw19_ReachAway.l0 k l0 l1 a2 bt149.1 0) else (some false)) else (if (bt149.1.length : Int) = 0 then ((belvederelaw19_sure.f k).bind fun t180 => (some t180)) else (some false)))))) = some r := h
  clear h
  replace H := Option.bind_eq_some_iff.mp H
  obtain ⟨t147, A40, H⟩ := H
  replace H : (if t147 = true then ((belvederelaw19_sure.f k).bind fun t148 => (some t148)) else ((reach_Hosts.f l0 l1).bind fun bt149 => (if bt149.2.isNone = true then (if (bt149.1.length : Int) = (l0.length : Int) then (belvederelaw19_ReachAway.l0 k l0 l1 a2 bt149.1 0) else (some false)) else (if (bt149.1.length : Int) = 0 then ((belvederelaw19_sure.f k).bind fun t180 => (some t180)) else (some false))))) = some r := H
  have A4 := Aside0.mk A40
  clear A40
  by_cases c5 : t147 = true
  · subst c5
    have H1 : ((belvederelaw19_sure.f k).bind fun t148 => (some t148)) = some r := by rw [if_pos rfl] at H; exact H
    clear H
    have H := H1
    clear H1
    replace H := Option.bind_eq_some_iff.mp H
    obtain ⟨t148, A60, H⟩ := H
    replace H : (some t148) = some r := H
    have A6 := Aside0.mk A60
    clear A60
    obtain rfl := Option.some.inj H
    go_enter Try.func3, Try.ntmps3
    go_wp2_with (first | ((with_reducible refine gate_callee (f := 5) rfl ?_); refine goesL_ (some 18) rfl rfl Try.func5 (by kernel_rfl) rfl #[.slice A0 l0.length c0] rfl (by (try simp only [List.map_toArray, List.map_cons, List.map_nil]); first | done | rfl | (simp only [List.length_drop, List.length_take]; rfl)) ?_; (with_reducible refine (belvederelaw19_huge.calls k _ _ l0 true _ ?side1 ?side2 A4.out).mono ?_); (case side1 => repeat (first | exact HR0.out | (with_reducible refine Kd.C_alloc ?_ _) | (with_reducible refine Kd.C_drewN ?_ _) | (with_reducible refine Kd.C_drew ?_))); (case side2 => exact HC0.out); rintro e w7 ⟨rfl, hb⟩; refine ⟨_, rfl, ?_⟩; have n0_ := Aside0.mk (below_step (by repeat (first | (with_reducible first | exact HB.out | apply below_alloc | apply pw_below_drewN | apply below_drew1) | exact HB.out)) hb); clear HB; have HB := n0_; clear n0_; (try clear hb); (try clear hb2); (try clear hk); (try clear hi)) | ((with_reducible refine gate_callee (f := 6) rfl ?_); refine goesL_ (some 19) rfl rfl Try.func6 (by kernel_rfl) rfl #[] rfl (by (try simp only [List.map_toArray, List.map_cons, List.map_nil]); first | done | rfl | (simp only [List.length_drop, List.length_take]; rfl)) ?_; (with_reducible refine (belvederelaw19_sure.calls k  t148 _ A6.out).mono ?_); rintro e w8 ⟨rfl, hb⟩; refine ⟨_, rfl, ?_⟩; have n0_ := Aside0.mk (below_step (by repeat (first | (with_reducible first | exact HB.out | apply below_alloc | apply pw_below_drewN | apply below_drew1) | exact HB.out)) hb); clear HB; have HB := n0_; clear n0_; (try clear hb); (try clear hb2); (try clear hk); (try clear hi)))
    go_ret
    exact ⟨by first | rfl | (simp [errW_none, errW_some] <;> rfl) | (simp [*, errW_none, errW_some] <;> rfl), by repeat (first | (with_reducible first | exact HB.out | apply below_alloc | apply pw_below_drewN | apply below_drew1) | exact HB.out)⟩
  · replace c5 := Bool.eq_false_iff.mpr c5
    subst c5
    have H1 : ((reach_Hosts.f l0 l1).bind fun bt149 => (if bt149.2.isNone = true then (if (bt149.1.length : Int) = (l0.length : Int) then (belvederelaw19_ReachAway.l0 k l0 l1 a2 bt149.1 0) else (some false)) else (if (bt149.1.length : Int) = 0 then ((belvederelaw19_sure.f k).bind fun t180 => (some t180)) else (some false)))) = some r := by rw [if_neg (show ¬ (false = true) by decide)] at H; exact H
    clear H
    have H := H1
    clear H1
    replace H := Option.bind_eq_some_iff.mp H
    obtain ⟨⟨t149, t150⟩, A90, H⟩ := H
    replace H : (if t150.isNone = true then (if (t149.length : Int) = (l0.length : Int) then (belvederelaw19_ReachAway.l0 k l0 l1 a2 t149 0) else (some false)) else (if (t149.length : Int) = 0 then ((belvederelaw19_sure.f k).bind fun t180 => (some t180)) else (some false))) = some r := H
    have A9 := Aside0.mk A90
    clear A90
    rcases t150 with _ | q153
    · have H1 : (if (t149.length : Int) = (l0.length : Int) then (belvederelaw19_ReachAway.l0 k l0 l1 a2 t149 0) else (some false)) = some r := by rw [if_pos (show (none : Option Int).isNone = true by rfl)] at H; exact H
      clear H
      have H := H1
      clear H1
      try simp only [errW_none, errW_some]
      by_cases c10 : (t149.length : Int) = (l0.length : Int)
      · rw [if_pos c10] at H
        have c10b0 : ((t149.length : Int) == (l0.length : Int)) = true := beq_iff_eq.mpr c10
        have c10b1 : ((t149.length : Int) != (l0.length : Int)) = false := bne_eq_false_iff_eq.mpr c10
        have c10b2 : (t149.length == l0.length) = true := by first | simpa using c10 | (simp at c10 ⊢; omega)
        clear c10
        have H' := Aside0.mk H
        clear H
        go_enter Try.func3, Try.ntmps3
        go_wp2_with (first | ((with_reducible refine gate_callee (f := 5) rfl ?_); refine goesL_ (some 18) rfl rfl Try.func5 (by kernel_rfl) rfl #[.slice A0 l0.length c0] rfl (by (try simp only [List.map_toArray, List.map_cons, List.map_nil]); first | done | rfl | (simp only [List.length_drop, List.length_take]; rfl)) ?_; (with_reducible refine (belvederelaw19_huge.calls k _ _ l0 false _ ?side1 ?side2 A4.out).mono ?_); (case side1 => repeat (first | exact HR0.out | (with_reducible refine Kd.C_alloc ?_ _) | (with_reducible refine Kd.C_drewN ?_ _) | (with_reducible refine Kd.C_drew ?_))); (case side2 => exact HC0.out); rintro e w11 ⟨rfl, hb⟩; refine ⟨_, rfl, ?_⟩; have n0_ := Aside0.mk (below_step (by repeat (first | (with_reducible first | exact HB.out | apply below_alloc | apply pw_below_drewN | apply below_drew1) | exact HB.out)) hb); clear HB; have HB := n0_; clear n0_; (try clear hb); (try clear hb2); (try clear hk); (try clear hi)) | ((with_reducible refine gate_callee (f := 7) rfl ?_); refine goesL_ (some 23) rfl rfl Try.func7 (by kernel_rfl) rfl #[.slice A0 l0.length c0, .slice A1 l1.length c1] rfl (by (try simp only [List.map_toArray, List.map_cons, List.map_nil]); first | done | rfl | (simp only [List.length_drop, List.length_take]; rfl)) ?_; (with_reducible refine (reach_Hosts.calls _ _ l0 _ _ l1 t149 none _ ?side1 ?side2 ?side3 ?side4 A9.out).mono ?_); (case side1 => repeat (first | exact (Kd.C_below HR0.out HB.out) | (with_reducible refine Kd.C_alloc ?_ _) | (with_reducible refine Kd.C_drewN ?_ _) | (with_reducible refine Kd.C_drew ?_))); (case side2 => exact HC0.out); (case side3 => repeat (first | exact (Kd.C_below HR1.out HB.out) | (with_reducible refine Kd.C_alloc ?_ _) | (with_reducible refine Kd.C_drewN ?_ _) | (with_reducible refine Kd.C_drew ?_))); (case side4 => exact HC1.out); rintro e w12 ⟨v151, rfl, ho0, hb⟩; refine ⟨_, rfl, ?_⟩; have n0_ := Aside0.mk (Kd.R_lower ho0 (below_size (by repeat (first | (with_reducible first | exact HB.out | apply below_alloc | apply pw_below_drewN | apply below_drew1) | exact HB.out)))); have n1_ := Aside0.mk (below_step (by repeat (first | (with_reducible first | exact HB.out | apply below_alloc | apply pw_below_drewN | apply below_drew1) | exact HB.out)) hb); clear HB; have HO152 := n0_; have HB := n1_; clear n0_ n1_; (try clear hb); (try clear hb2); (try clear hk); (try clear hi); (try clear ho0); (try simp only [errW_none, errW_some]); obtain ⟨Ao13, co13, eo13⟩ := Kd.R_slice HO152.out; subst eo13))
        go_loopg [9] k (fun kq v9 w' => ∃ (x9_1 : Int), v9 = .int .i64 x9_1 ∧ Aside0 (belvederelaw19_ReachAway.l0 kq l0 l1 a2 t149 x9_1 = some r) ∧ Aside0 (kq ≤ k) ∧ Aside0 (Kd.R (Kd.int .i64) 3 w' w.heap.size (fun _ => True) (.slice Ao13 t149.length co13) t149) ∧ Aside0 (Below w.heap.size w w'))
        case atStart => exact ⟨(0), (by first | rfl | (simp; done) | (simp [*]; done)), H', ⟨Nat.le_refl _⟩, ⟨by (with_reducible repeat (first | apply Kd.R_alloc | apply Kd.R_drewN | apply Kd.R_drew)); exact HO152.out⟩, ⟨by repeat (first | (with_reducible first | exact HB.out | apply below_alloc | apply pw_below_drewN | apply below_drew1) | exact HB.out)⟩⟩
        case round =>
          clear H'
          try clear c1
          try clear q1
          try clear p2
          try clear c3
          try clear c5
          try clear c6
          try clear c7
          try clear c10
          try clear c10b0
          try clear c10b1
          try clear c10b2
          try clear q153
          obtain ⟨x9_1, rfl, HA, HK1, HO_7, HB⟩ := hrel
          cases gk with
          | zero => exact absurd HA.out (by simp [belvederelaw19_ReachAway.l0])
          | succ k1 =>
            have H := HA.out
            clear HA
            simp only [belvederelaw19_ReachAway.l0] at H
            by_cases c14 : x9_1 < (t149.length : Int)
            · rw [if_pos c14] at H
              have c14b0 : decide (x9_1 < (t149.length : Int)) = true := decide_eq_true c14
              clear c14
              have H' := Aside0.mk H
              clear H
              go_wp2
              go_loopg [10, 11] k1 (fun kq v10 v11 w' => ∃ (x10_2 : Bool) (x11_2 : Int), v10 = .bool x10_2 ∧ v11 = .int .i64 x11_2 ∧ Aside0 (belvederelaw19_ReachAway.l1 kq l0 l1 a2 t149 x9_1 x10_2 x11_2 = some r) ∧ Aside0 (kq ≤ k1) ∧ Aside0 (Kd.R (Kd.int .i64) 3 w' w.heap.size (fun _ => True) (.slice Ao13 t149.length co13) t149) ∧ Aside0 (Below w.heap.size w w'))
              case atStart => exact ⟨(false), (0), (by first | rfl | (simp; done) | (simp [*]; done)), (by first | rfl | (simp; done) | (simp [*]; done)), H', ⟨Nat.le_refl _⟩, ⟨by (with_reducible repeat (first | apply Kd.R_alloc | apply Kd.R_drewN | apply Kd.R_drew)); exact HO_7.out⟩, ⟨by repeat (first | (with_reducible first | exact HB.out | apply below_alloc | apply pw_below_drewN | apply below_drew1) | exact HB.out)⟩⟩
              case round =>
                clear H'
                try clear c1
                try clear q1
                try clear p2
                try clear c3
                try clear c5
                try clear c6
                try clear c7
                try clear c10
                try clear c10b0
                try clear c10b1
                try clear c10b2
                try clear c14
                try clear c14b0
                try clear p2
                try clear q1
                try clear q153
                obtain ⟨x10_2, x11_2, rfl, rfl, HA, HK2, HO_7, HB⟩ := hrel
                cases gk with
                | zero => exact absurd HA.out (by simp [belvederelaw19_ReachAway.l1])
                | succ k2 =>
                  have H := HA.out
                  clear HA
                  simp only [belvederelaw19_ReachAway.l1] at H
                  by_cases c15 : 0 ≤ x9_1
                  · rw [if_pos c15] at H
                    have c15b0 : decide (0 ≤ x9_1) = true := decide_eq_true c15
                    clear c15
                    by_cases c16 : x9_1 < (l0.length : Int)
                    · rw [if_pos c16] at H
                      have c16b0 : decide (x9_1 < (l0.length : Int)) = true := decide_eq_true c16
                      clear c16
                      by_cases c17 : x11_2 < ((rd_L2 l0 x9_1).length : Int)
                      · rw [if_pos c17] at H
                        have c17b0 : decide (x11_2 < ((rd_L2 l0 x9_1).length : Int)) = true := decide_eq_true c17
                        clear c17
                        by_cases c18 : x10_2 = true
                        · subst c18
                          have H1 : (belvederelaw19_ReachAway.l1 k2 l0 l1 a2 t149 x9_1 true (wrap64 (x11_2 + 1))) = some r := by rw [if_pos rfl] at H; exact H
                          clear H
                          have H := H1
                          clear H1
                          have H' := Aside0.mk H
                          clear H
                          have p154 : 0 ≤ (x9_1 : Int) := of_decide_eq_true (by first | (with_reducible assumption) | assumption)
                          have q154 : x9_1 < (l0.length : Int) := of_decide_eq_true (by first | (with_reducible assumption) | assumption)
                          obtain ⟨ad154, A154_0, c154_0, e154, hx154_0, hl154_0, hi154_0⟩ := at_L2 HR0.out x9_1 p154 q154
                          cases e154
                          replace hx154_0 := (HB.out.cell (World.block_lt_of_cell? w _ hx154_0)).trans hx154_0
                          have HR154_0 := Aside0.mk hi154_0
                          have HC154_0 := Aside0.mk hl154_0
                          clear hi154_0 hl154_0
                          replace p154 := eq_true p154
                          replace q154 := eq_true q154
                          go_wp2
                          go_roundg k2
                          case measure => have := HK1.out; have := HK2.out; omega
                          case rel => exact ⟨(true), (wrap64 (x11_2 + 1)), (by first | rfl | (simp; done) | (simp [*]; done)), (by first | rfl | (simp; done) | (simp [*]; done)), H', ⟨by have := HK1.out; have := HK2.out; omega⟩, ⟨by (with_reducible repeat (first | apply Kd.R_alloc | apply Kd.R_drewN | apply Kd.R_drew)); exact HO_7.out⟩, ⟨by repeat (first | (with_reducible first | exact HB.out | apply below_alloc | apply pw_below_drewN | apply below_drew1) | exact HB.out)⟩⟩
                        · replace c18 := Bool.eq_false_iff.mpr c18
                          subst c18
                          have H1 : (if 0 ≤ x11_2 then (if 0 ≤ (rd (rd_L2 l0 x9_1) x11_2) then (if (rd (rd_L2 l0 x9_1) x11_2) < (t149.length : Int) then (belvederelaw19_ReachAway.l1 k2 l0 l1 a2 t149 x9_1 ((rd t149 (rd (rd_L2 l0 x9_1) x11_2)) == 0) (wrap64 (x11_2 + 1))) else (none)) else (none)) else (none)) = some r := by rw [if_neg (show ¬ (false = true) by decide)] at H; exact H
                          clear H
                          have H := H1
                          clear H1
                          by_cases c19 : 0 ≤ x11_2
                          · rw [if_pos c19] at H
                            have c19b0 : decide (0 ≤ x11_2) = true := decide_eq_true c19
                            clear c19
                            by_cases c20 : 0 ≤ (rd (rd_L2 l0 x9_1) x11_2)
                            · rw [if_pos c20] at H
                              have c20b0 : decide (0 ≤ (rd (rd_L2 l0 x9_1) x11_2)) = true := decide_eq_true c20
                              clear c20
                              by_cases c21 : (rd (rd_L2 l0 x9_1) x11_2) < (t149.length : Int)
                              · rw [if_pos c21] at H
                                have c21b0 : decide ((rd (rd_L2 l0 x9_1) x11_2) < (t149.length : Int)) = true := decide_eq_true c21
                                clear c21
                                have H' := Aside0.mk H
                                clear H
                                have p154 : 0 ≤ (x9_1 : Int) := of_decide_eq_true (by first | (with_reducible assumption) | assumption)
                                have q154 : x9_1 < (l0.length : Int) := of_decide_eq_true (by first | (with_reducible assumption) | assumption)
                                obtain ⟨ad154, A154_0, c154_0, e154, hx154_0, hl154_0, hi154_0⟩ := at_L2 HR0.out x9_1 p154 q154
                                cases e154
                                replace hx154_0 := (HB.out.cell (World.block_lt_of_cell? w _ hx154_0)).trans hx154_0
                                have HR154_0 := Aside0.mk hi154_0
                                have HC154_0 := Aside0.mk hl154_0
                                clear hi154_0 hl154_0
                                replace p154 := eq_true p154
                                replace q154 := eq_true q154
                                have p155 : 0 ≤ (x9_1 : Int) := of_decide_eq_true (by first | (with_reducible assumption) | assumption)
                                have q155 : x9_1 < (l0.length : Int) := of_decide_eq_true (by first | (with_reducible assumption) | assumption)
                                obtain ⟨ad155, A155_0, c155_0, e155, hx155_0, hl155_0, hi155_0⟩ := at_L2 HR0.out x9_1 p155 q155
                                obtain rfl : ad154 = ad155 := (by injection e155)
                                replace hx155_0 := (HB.out.cell (World.block_lt_of_cell? w _ hx155_0)).trans hx155_0
                                have HR155_0 := Aside0.mk hi155_0
                                have HC155_0 := Aside0.mk hl155_0
                                clear hi155_0 hl155_0
                                replace p155 := eq_true p155
                                replace q155 := eq_true q155
                                have ea_ := Option.some.inj (hx154_0.symm.trans hx155_0)
                                injection ea_ with ea_ en_ ec_
                                subst ea_
                                subst ec_
                                clear en_
                                have p156 : 0 ≤ (x11_2 : Int) := of_decide_eq_true (by first | (with_reducible assumption) | assumption)
                                have q156 : x11_2 < ((rd_L2 l0 x9_1).length : Int) := of_decide_eq_true (by first | (with_reducible assumption) | assumption)
                                obtain ⟨ad156, e156, hx156_0⟩ := Kd.at_int HR155_0.out x11_2 p156 q156
                                cases e156
                                replace hx156_0 := (HB.out.cell (World.block_lt_of_cell? w _ hx156_0)).trans hx156_0
                                replace p156 := eq_true p156
                                replace q156 := eq_true q156
                                have p157 : 0 ≤ ((rd (rd_L2 l0 x9_1) x11_2) : Int) := of_decide_eq_true (by first | (with_reducible assumption) | assumption)
                                have q157 : (rd (rd_L2 l0 x9_1) x11_2) < (t149.length : Int) := of_decide_eq_true (by first | (with_reducible assumption) | assumption)
                                obtain ⟨ad157, e157, hx157_0⟩ := Kd.at_int (Kd.R_reads' HO_7.out).2.2 (rd (rd_L2 l0 x9_1) x11_2) p157 q157
                                cases e157
                                replace p157 := eq_true p157
                                replace q157 := eq_true q157
                                go_wp2
                                go_roundg k2
                                case measure => have := HK1.out; have := HK2.out; omega
                                case rel => exact ⟨(((rd t149 (rd (rd_L2 l0 x9_1) x11_2)) == 0)), (wrap64 (x11_2 + 1)), (by first | rfl | (simp; done) | (simp [*]; done)), (by first | rfl | (simp; done) | (simp [*]; done)), H', ⟨by have := HK1.out; have := HK2.out; omega⟩, ⟨by (with_reducible repeat (first | apply Kd.R_alloc | apply Kd.R_drewN | apply Kd.R_drew)); exact HO_7.out⟩, ⟨by repeat (first | (with_reducible first | exact HB.out | apply below_alloc | apply pw_below_drewN | apply below_drew1) | exact HB.out)⟩⟩
                              · rw [if_neg c21] at H
                                exact absurd H (by simp)
                            · rw [if_neg c20] at H
                              exact absurd H (by simp)
                          · rw [if_neg c19] at H
                            exact absurd H (by simp)
                      · rw [if_neg c17] at H
                        have c17b0 : decide (x11_2 < ((rd_L2 l0 x9_1).length : Int)) = false := decide_eq_false c17
                        clear c17
                        by_cases c22 : x9_1 < (l1.length : Int)
                        · rw [if_pos c22] at H
                          have c22b0 : decide (x9_1 < (l1.length : Int)) = true := decide_eq_true c22
                          clear c22
                          obtain ⟨bq23, hbq23⟩ : ∃ b_ : Bool, b_ = (rdOf false l1 x9_1) := ⟨_, rfl⟩
                          replace H : (if bq23 = true then (if x10_2 = true then (belvederelaw19_ReachAway.j2 k2 l0 l1 a2 t149 x9_1 3 true) else (belvederelaw19_ReachAway.j2 k2 l0 l1 a2 t149 x9_1 3 (((rd_L2 l0 x9_1).length : Int) == 0))) else (if x9_1 < (t149.length : Int) then (if (rd t149 x9_1) = 0 then (belvederelaw19_ReachAway.l0 k2 l0 l1 a2 t149 (wrap64 (x9_1 + 1))) else (some false)) else (none))) = some r := by rw [← hbq23] at H; exact H
                          have Nbq23 := Aside0.mk hbq23
                          clear hbq23
                          by_cases c24 : bq23 = true
                          · subst c24
                            have H1 : (if x10_2 = true then (belvederelaw19_ReachAway.j2 k2 l0 l1 a2 t149 x9_1 3 true) else (belvederelaw19_ReachAway.j2 k2 l0 l1 a2 t149 x9_1 3 (((rd_L2 l0 x9_1).length : Int) == 0))) = some r := by rw [if_pos rfl] at H; exact H
                            clear H
                            have H := H1
                            clear H1
                            have HC25 := Aside0.mk H
                            clear H
                            have p154 : 0 ≤ (x9_1 : Int) := of_decide_eq_true (by first | (with_reducible assumption) | assumption)
                            have q154 : x9_1 < (l0.length : Int) := of_decide_eq_true (by first | (with_reducible assumption) | assumption)
                            obtain ⟨ad154, A154_0, c154_0, e154, hx154_0, hl154_0, hi154_0⟩ := at_L2 HR0.out x9_1 p154 q154
                            cases e154
                            replace hx154_0 := (HB.out.cell (World.block_lt_of_cell? w _ hx154_0)).trans hx154_0
                            have HR154_0 := Aside0.mk hi154_0
                            have HC154_0 := Aside0.mk hl154_0
                            clear hi154_0 hl154_0
                            replace p154 := eq_true p154
                            replace q154 := eq_true q154
                            have p158 : 0 ≤ (x9_1 : Int) := of_decide_eq_true (by first | (with_reducible assumption) | assumption)
                            have q158 : x9_1 < (l1.length : Int) := of_decide_eq_true (by first | (with_reducible assumption) | assumption)
                            obtain ⟨ad158, e158, hx158_0⟩ := Kd.at_bool HR1.out x9_1 p158 q158
                            (try rw [← Nbq23.out] at hx158_0)
                            cases e158
                            replace hx158_0 := (HB.out.cell (World.block_lt_of_cell? w _ hx158_0)).trans hx158_0
                            replace p158 := eq_true p158
                            replace q158 := eq_true q158
                            go_upto_region 19 with (fail)
                            go_cut [80] (fun v80 wc => ∃ (kq : Nat) (x80_24 : Bool), v80 = .bool x80_24 ∧ Aside0 (belvederelaw19_ReachAway.j2 kq l0 l1 a2 t149 x9_1 3 x80_24 = some r) ∧ Aside0 (kq ≤ k2) ∧ Aside0 (Kd.R (Kd.int .i64) 3 wc w.heap.size (fun _ => True) (.slice Ao13 t149.length co13) t149) ∧ Aside0 (Below w.heap.size w wc))
                            case first =>
                              have H := HC25.out
                              clear HC25
                              by_cases c26 : x10_2 = true
                              · subst c26
                                have H1 : (belvederelaw19_ReachAway.j2 k2 l0 l1 a2 t149 x9_1 3 true) = some r := by rw [if_pos rfl] at H; exact H
                                clear H
                                have H := H1
                                clear H1
                                have H' := Aside0.mk H
                                clear H
                                go_wp2
                                go_meet
                                case rel => exact ⟨_, (true), (by first | rfl | (simp; done) | (simp [*]; done)), H', ⟨by have := HK1.out; have := HK2.out; first | omega | exact Nat.le_refl _⟩, ⟨by (with_reducible repeat (first | apply Kd.R_alloc | apply Kd.R_drewN | apply Kd.R_drew)); exact HO_7.out⟩, ⟨by repeat (first | (with_reducible first | exact HB.out | apply below_alloc | apply pw_below_drewN | apply below_drew1) | exact HB.out)⟩⟩
                              · replace c26 := Bool.eq_false_iff.mpr c26
                                subst c26
                                have H1 : (belvederelaw19_ReachAway.j2 k2 l0 l1 a2 t149 x9_1 3 (((rd_L2 l0 x9_1).length : Int) == 0)) = some r := by rw [if_neg (show ¬ (false = true) by decide)] at H; exact H
                                clear H
                                have H := H1
                                clear H1
                                have H' := Aside0.mk H
                                clear H
                                have p159 : 0 ≤ (x9_1 : Int) := of_decide_eq_true (by first | (with_reducible assumption) | assumption)
                                have q159 : x9_1 < (l0.length : Int) := of_decide_eq_true (by first | (with_reducible assumption) | assumption)
                                obtain ⟨ad159, A159_0, c159_0, e159, hx159_0, hl159_0, hi159_0⟩ := at_L2 HR0.out x9_1 p159 q159
                                obtain rfl : ad154 = ad159 := (by injection e159)
                                replace hx159_0 := (HB.out.cell (World.block_lt_of_cell? w _ hx159_0)).trans hx159_0
                                have HR159_0 := Aside0.mk hi159_0
                                have HC159_0 := Aside0.mk hl159_0
                                clear hi159_0 hl159_0
                                replace p159 := eq_true p159
                                replace q159 := eq_true q159
                                go_wp2
                                go_meet
                                case rel => exact ⟨_, ((((rd_L2 l0 x9_1).length : Int) == 0)), (by first | rfl | (simp; done) | (simp [*]; done)), H', ⟨by have := HK1.out; have := HK2.out; first | omega | exact Nat.le_refl _⟩, ⟨by (with_reducible repeat (first | apply Kd.R_alloc | apply Kd.R_drewN | apply Kd.R_drew)); exact HO_7.out⟩, ⟨by repeat (first | (with_reducible first | exact HB.out | apply below_alloc | apply pw_below_drewN | apply below_drew1) | exact HB.out)⟩⟩
                            case rest =>
                              clear HC25
                              try clear c1
                              try clear p1
                              try clear q1
                              try clear hx1
                              try clear c2
                              try clear p2
                              try clear q2
                              try clear c3
                              try clear c5
                              try clear c6
                              try clear p6
                              try clear c7
                              try clear c10
                              try clear c10b0
                              try clear c10b1
                              try clear c10b2
                              try clear c14
                              try clear c14b0
                              try clear c15
                              try clear c15b0
                              try clear p15
                              try clear q15
                              try clear hx15
                              try clear c16
                              try clear c16b0
                              try clear c17
                              try clear c17b0
                              try clear c18
                              try clear c19
                              try clear c19b0
                              try clear c20
                              try clear c20b0
                              try clear c21
                              try clear c21b0
                              try clear c22
                              try clear c22b0
                              try clear q23
                              try clear c24
                              try clear c26
                              try clear hx154_0
                              try clear hx155_0
                              try clear hx156_0
                              try clear hx157_0
                              try clear hx158_0
                              try clear hx159_0
                              try clear p154
                              try clear p155
                              try clear p156
                              try clear p157
                              try clear p158
                              try clear p159
                              try clear p2
                              try clear q1
                              try clear q153
                              try clear q154
                              try clear q155
                              try clear q156
                              try clear q157
                              try clear q158
                              try clear q159
                              obtain ⟨kq, x80_24, rfl, HA, HJ24, HO_7, HB⟩ := hcut
                              cases kq with
                              | zero => exact absurd HA.out (by simp [belvederelaw19_ReachAway.j2])
                              | succ kj24 =>
                                have H := HA.out
                                clear HA
                                simp only [belvederelaw19_ReachAway.j2] at H
                                by_cases c27 : x80_24 = true
                                · subst c27
                                  have H1 : (if 0 ≤ x9_1 then (if x9_1 < (t149.length : Int) then (if (rd t149 x9_1) = 2 then (belvederelaw19_ReachAway.l0 kj24 l0 l1 a2 t149 (wrap64 (x9_1 + 1))) else (some false)) else (none)) else (none)) = some r := by rw [if_pos rfl] at H; exact H
                                  clear H
                                  have H := H1
                                  clear H1
                                  by_cases c28 : 0 ≤ x9_1
                                  · rw [if_pos c28] at H
                                    have c28b0 : decide (0 ≤ x9_1) = true := decide_eq_true c28
                                    clear c28
                                    by_cases c29 : x9_1 < (t149.length : Int)
                                    · rw [if_pos c29] at H
                                      have c29b0 : decide (x9_1 < (t149.length : Int)) = true := decide_eq_true c29
                                      clear c29
                                      by_cases c30 : (rd t149 x9_1) = 2
                                      · rw [if_pos c30] at H
                                        have c30b0 : ((rd t149 x9_1) == 2) = true := beq_iff_eq.mpr c30
                                        have c30b1 : ((rd t149 x9_1) != 2) = false := bne_eq_false_iff_eq.mpr c30
                                        clear c30
                                        have H' := Aside0.mk H
                                        clear H
                                        have p160 : 0 ≤ (x9_1 : Int) := of_decide_eq_true (by first | (with_reducible assumption) | assumption)
                                        have q160 : x9_1 < (t149.length : Int) := of_decide_eq_true (by first | (with_reducible assumption) | assumption)
                                        obtain ⟨ad160, e160, hx160_0⟩ := Kd.at_int (Kd.R_reads' HO_7.out).2.2 x9_1 p160 q160
                                        cases e160
                                        replace p160 := eq_true p160
                                        replace q160 := eq_true q160
                                        go_wp2
                                        go_roundg kj24
                                        case measure => have := HK1.out; have := HK2.out; have := HJ24.out; omega
                                        case rel => exact ⟨(wrap64 (x9_1 + 1)), (by first | rfl | (simp; done) | (simp [*]; done)), H', ⟨by have := HK1.out; have := HK2.out; have := HJ24.out; omega⟩, ⟨by (with_reducible repeat (first | apply Kd.R_alloc | apply Kd.R_drewN | apply Kd.R_drew)); exact HO_7.out⟩, ⟨by repeat (first | (with_reducible first | exact HB.out | apply below_alloc | apply pw_below_drewN | apply below_drew1) | exact HB.out)⟩⟩
                                      · rw [if_neg c30] at H
                                        have c30b0 : ((rd t149 x9_1) == 2) = false := beq_eq_false_iff_ne.mpr c30
                                        have c30b1 : ((rd t149 x9_1) != 2) = true := bne_iff_ne.mpr c30
                                        obtain rfl := Option.some.inj H
                                        have p160 : 0 ≤ (x9_1 : Int) := of_decide_eq_true (by first | (with_reducible assumption) | assumption)
                                        have q160 : x9_1 < (t149.length : Int) := of_decide_eq_true (by first | (with_reducible assumption) | assumption)
                                        obtain ⟨ad160, e160, hx160_0⟩ := Kd.at_int (Kd.R_reads' HO_7.out).2.2 x9_1 p160 q160
                                        cases e160
                                        replace p160 := eq_true p160
                                        replace q160 := eq_true q160
                                        go_wp2
                                        go_ret
                                        exact ⟨by first | rfl | (simp [errW_none, errW_some] <;> rfl) | (simp [*, errW_none, errW_some] <;> rfl), by repeat (first | (with_reducible first | exact HB.out | apply below_alloc | apply pw_below_drewN | apply below_drew1) | exact HB.out)⟩
                                    · rw [if_neg c29] at H
                                      exact absurd H (by simp)
                                  · rw [if_neg c28] at H
                                    exact absurd H (by simp)
                                · replace c27 := Bool.eq_false_iff.mpr c27
                                  subst c27
                                  have H1 : (if 0 ≤ x9_1 then (if x9_1 < (t149.length : Int) then (if (rd t149 x9_1) = 3 then (belvederelaw19_ReachAway.l0 kj24 l0 l1 a2 t149 (wrap64 (x9_1 + 1))) else (some false)) else (none)) else (none)) = some r := by rw [if_neg (show ¬ (false = true) by decide)] at H; exact H
                                  clear H
                                  have H := H1
                                  clear H1
                                  by_cases c31 : 0 ≤ x9_1
                                  · rw [if_pos c31] at H
                                    have c31b0 : decide (0 ≤ x9_1) = true := decide_eq_true c31
                                    clear c31
                                    by_cases c32 : x9_1 < (t149.length : Int)
                                    · rw [if_pos c32] at H
                                      have c32b0 : decide (x9_1 < (t149.length : Int)) = true := decide_eq_true c32
                                      clear c32
                                      by_cases c33 : (rd t149 x9_1) = 3
                                      · rw [if_pos c33] at H
                                        have c33b0 : ((rd t149 x9_1) == 3) = true := beq_iff_eq.mpr c33
                                        have c33b1 : ((rd t149 x9_1) != 3) = false := bne_eq_false_iff_eq.mpr c33
                                        clear c33
                                        have H' := Aside0.mk H
                                        clear H
                                        have p161 : 0 ≤ (x9_1 : Int) := of_decide_eq_true (by first | (with_reducible assumption) | assumption)
                                        have q161 : x9_1 < (t149.length : Int) := of_decide_eq_true (by first | (with_reducible assumption) | assumption)
                                        obtain ⟨ad161, e161, hx161_0⟩ := Kd.at_int (Kd.R_reads' HO_7.out).2.2 x9_1 p161 q161
                                        cases e161
                                        replace p161 := eq_true p161
                                        replace q161 := eq_true q161
                                        go_wp2
                                        go_roundg kj24
                                        case measure => have := HK1.out; have := HK2.out; have := HJ24.out; omega
                                        case rel => exact ⟨(wrap64 (x9_1 + 1)), (by first | rfl | (simp; done) | (simp [*]; done)), H', ⟨by have := HK1.out; have := HK2.out; have := HJ24.out; omega⟩, ⟨by (with_reducible repeat (first | apply Kd.R_alloc | apply Kd.R_drewN | apply Kd.R_drew)); exact HO_7.out⟩, ⟨by repeat (first | (with_reducible first | exact HB.out | apply below_alloc | apply pw_below_drewN | apply below_drew1) | exact HB.out)⟩⟩
                                      · rw [if_neg c33] at H
                                        have c33b0 : ((rd t149 x9_1) == 3) = false := beq_eq_false_iff_ne.mpr c33
                                        have c33b1 : ((rd t149 x9_1) != 3) = true := bne_iff_ne.mpr c33
                                        obtain rfl := Option.some.inj H
                                        have p161 : 0 ≤ (x9_1 : Int) := of_decide_eq_true (by first | (with_reducible assumption) | assumption)
                                        have q161 : x9_1 < (t149.length : Int) := of_decide_eq_true (by first | (with_reducible assumption) | assumption)
                                        obtain ⟨ad161, e161, hx161_0⟩ := Kd.at_int (Kd.R_reads' HO_7.out).2.2 x9_1 p161 q161
                                        cases e161
                                        replace p161 := eq_true p161
                                        replace q161 := eq_true q161
                                        go_wp2
                                        go_ret
                                        exact ⟨by first | rfl | (simp [errW_none, errW_some] <;> rfl) | (simp [*, errW_none, errW_some] <;> rfl), by repeat (first | (with_reducible first | exact HB.out | apply below_alloc | apply pw_below_drewN | apply below_drew1) | exact HB.out)⟩
                                    · rw [if_neg c32] at H
                                      exact absurd H (by simp)
                                  · rw [if_neg c31] at H
                                    exact absurd H (by simp)
                          · replace c24 := Bool.eq_false_iff.mpr c24
                            subst c24
                            have H1 : (if x9_1 < (t149.length : Int) then (if (rd t149 x9_1) = 0 then (belvederelaw19_ReachAway.l0 k2 l0 l1 a2 t149 (wrap64 (x9_1 + 1))) else (some false)) else (none)) = some r := by rw [if_neg (show ¬ (false = true) by decide)] at H; exact H
                            clear H
                            have H := H1
                            clear H1
                            by_cases c34 : x9_1 < (t149.length : Int)
                            · rw [if_pos c34] at H
                              have c34b0 : decide (x9_1 < (t149.length : Int)) = true := decide_eq_true c34
                              clear c34
                              by_cases c35 : (rd t149 x9_1) = 0
                              · rw [if_pos c35] at H
                                have c35b0 : ((rd t149 x9_1) == 0) = true := beq_iff_eq.mpr c35
                                have c35b1 : ((rd t149 x9_1) != 0) = false := bne_eq_false_iff_eq.mpr c35
                                clear c35
                                have H' := Aside0.mk H
                                clear H
                                have p154 : 0 ≤ (x9_1 : Int) := of_decide_eq_true (by first | (with_reducible assumption) | assumption)
                                have q154 : x9_1 < (l0.length : Int) := of_decide_eq_true (by first | (with_reducible assumption) | assumption)
                                obtain ⟨ad154, A154_0, c154_0, e154, hx154_0, hl154_0, hi154_0⟩ := at_L2 HR0.out x9_1 p154 q154
                                cases e154
                                replace hx154_0 := (HB.out.cell (World.block_lt_of_cell? w _ hx154_0)).trans hx154_0
                                have HR154_0 := Aside0.mk hi154_0
                                have HC154_0 := Aside0.mk hl154_0
                                clear hi154_0 hl154_0
                                replace p154 := eq_true p154
                                replace q154 := eq_true q154
                                have p158 : 0 ≤ (x9_1 : Int) := of_decide_eq_true (by first | (with_reducible assumption) | assumption)
                                have q158 : x9_1 < (l1.length : Int) := of_decide_eq_true (by first | (with_reducible assumption) | assumption)
                                obtain ⟨ad158, e158, hx158_0⟩ := Kd.at_bool HR1.out x9_1 p158 q158
                                (try rw [← Nbq23.out] at hx158_0)
                                cases e158
                                replace hx158_0 := (HB.out.cell (World.block_lt_of_cell? w _ hx158_0)).trans hx158_0
                                replace p158 := eq_true p158
                                replace q158 := eq_true q158
                                have p162 : 0 ≤ (x9_1 : Int) := of_decide_eq_true (by first | (with_reducible assumption) | assumption)
                                have q162 : x9_1 < (t149.length : Int) := of_decide_eq_true (by first | (with_reducible assumption) | assumption)
                                obtain ⟨ad162, e162, hx162_0⟩ := Kd.at_int (Kd.R_reads' HO_7.out).2.2 x9_1 p162 q162
                                cases e162
                                replace p162 := eq_true p162
                                replace q162 := eq_true q162
                                go_wp2
                                go_roundg k2
                                case measure => have := HK1.out; have := HK2.out; omega
                                case rel => exact ⟨(wrap64 (x9_1 + 1)), (by first | rfl | (simp; done) | (simp [*]; done)), H', ⟨by have := HK1.out; have := HK2.out; omega⟩, ⟨by (with_reducible repeat (first | apply Kd.R_alloc | apply Kd.R_drewN | apply Kd.R_drew)); exact HO_7.out⟩, ⟨by repeat (first | (with_reducible first | exact HB.out | apply below_alloc | apply pw_below_drewN | apply below_drew1) | exact HB.out)⟩⟩
                              · rw [if_neg c35] at H
                                have c35b0 : ((rd t149 x9_1) == 0) = false := beq_eq_false_iff_ne.mpr c35
                                have c35b1 : ((rd t149 x9_1) != 0) = true := bne_iff_ne.mpr c35
                                obtain rfl := Option.some.inj H
                                have p154 : 0 ≤ (x9_1 : Int) := of_decide_eq_true (by first | (with_reducible assumption) | assumption)
                                have q154 : x9_1 < (l0.length : Int) := of_decide_eq_true (by first | (with_reducible assumption) | assumption)
                                obtain ⟨ad154, A154_0, c154_0, e154, hx154_0, hl154_0, hi154_0⟩ := at_L2 HR0.out x9_1 p154 q154
                                cases e154
                                replace hx154_0 := (HB.out.cell (World.block_lt_of_cell? w _ hx154_0)).trans hx154_0
                                have HR154_0 := Aside0.mk hi154_0
                                have HC154_0 := Aside0.mk hl154_0
                                clear hi154_0 hl154_0
                                replace p154 := eq_true p154
                                replace q154 := eq_true q154
                                have p158 : 0 ≤ (x9_1 : Int) := of_decide_eq_true (by first | (with_reducible assumption) | assumption)
                                have q158 : x9_1 < (l1.length : Int) := of_decide_eq_true (by first | (with_reducible assumption) | assumption)
                                obtain ⟨ad158, e158, hx158_0⟩ := Kd.at_bool HR1.out x9_1 p158 q158
                                (try rw [← Nbq23.out] at hx158_0)
                                cases e158
                                replace hx158_0 := (HB.out.cell (World.block_lt_of_cell? w _ hx158_0)).trans hx158_0
                                replace p158 := eq_true p158
                                replace q158 := eq_true q158
                                have p162 : 0 ≤ (x9_1 : Int) := of_decide_eq_true (by first | (with_reducible assumption) | assumption)
                                have q162 : x9_1 < (t149.length : Int) := of_decide_eq_true (by first | (with_reducible assumption) | assumption)
                                obtain ⟨ad162, e162, hx162_0⟩ := Kd.at_int (Kd.R_reads' HO_7.out).2.2 x9_1 p162 q162
                                cases e162
                                replace p162 := eq_true p162
                                replace q162 := eq_true q162
                                go_wp2
                                go_ret
                                exact ⟨by first | rfl | (simp [errW_none, errW_some] <;> rfl) | (simp [*, errW_none, errW_some] <;> rfl), by repeat (first | (with_reducible first | exact HB.out | apply below_alloc | apply pw_below_drewN | apply below_drew1) | exact HB.out)⟩
                            · rw [if_neg c34] at H
                              exact absurd H (by simp)
                        · rw [if_neg c22] at H
                          exact absurd H (by simp)
                    · rw [if_neg c16] at H
                      exact absurd H (by simp)
                  · rw [if_neg c15] at H
                    exact absurd H (by simp)
            · rw [if_neg c14] at H
              have c14b0 : decide (x9_1 < (t149.length : Int)) = false := decide_eq_false c14
              clear c14
              by_cases c36 : (t149.length : Int) = 0
              · rw [if_pos c36] at H
                have c36b0 : ((t149.length : Int) == 0) = true := beq_iff_eq.mpr c36
                have c36b1 : ((t149.length : Int) != 0) = false := bne_eq_false_iff_eq.mpr c36
                clear c36
                replace H := Option.bind_eq_some_iff.mp H
                obtain ⟨t163, A370, H⟩ := H
                replace H : (some t163) = some r := H
                have A37 := Aside0.mk A370
                clear A370
                obtain rfl := Option.some.inj H
                go_wp2_with (first | ((with_reducible refine gate_callee (f := 6) rfl ?_); refine goesL_ (some 90) rfl rfl Try.func6 (by kernel_rfl) rfl #[] rfl (by (try simp only [List.map_toArray, List.map_cons, List.map_nil]); first | done | rfl | (simp only [List.length_drop, List.length_take]; rfl)) ?_; (with_reducible refine (belvederelaw19_sure.calls k1  t163 _ A37.out).mono ?_); rintro e w38 ⟨rfl, hb⟩; refine ⟨_, rfl, ?_⟩; have n0_ := Aside0.mk (Kd.R_below (by (with_reducible repeat (first | apply Kd.R_alloc | apply Kd.R_drewN | apply Kd.R_drew)); exact HO_7.out) hb); have n1_ := Aside0.mk (below_step (by repeat (first | (with_reducible first | exact HB.out | apply below_alloc | apply pw_below_drewN | apply below_drew1) | exact HB.out)) hb); clear HO_7; clear HB; have HO_7 := n0_; have HB := n1_; clear n0_ n1_; (try clear hb); (try clear hb2); (try clear hk); (try clear hi)))
                go_ret
                exact ⟨by first | rfl | (simp [errW_none, errW_some] <;> rfl) | (simp [*, errW_none, errW_some] <;> rfl), by repeat (first | (with_reducible first | exact HB.out | apply below_alloc | apply pw_below_drewN | apply below_drew1) | exact HB.out)⟩
              · rw [if_neg c36] at H
                have c36b0 : ((t149.length : Int) == 0) = false := beq_eq_false_iff_ne.mpr c36
                have c36b1 : ((t149.length : Int) != 0) = true := bne_iff_ne.mpr c36
                have c36b2 : ¬ (t149 = []) := fun h_ => c36 (by rw [h_]; rfl)
                by_cases c39 : ([] : List Bool).length + l1.length < 140737488355328
                · rw [if_pos c39] at H
                  have LMc39 := Aside0.mk c39
                  clear c39
                  obtain ⟨y164, hy164⟩ : ∃ y_ : List Bool, y_ = (([] : List Bool) ++ l1) := ⟨_, rfl⟩
                  replace H : (if (IntKind.u64.wrap ((t149.length : Int))) = 0 then (none) else (if 0 ≤ (wrap64 (Int.tmod (IntKind.u64.wrap (a2)) (IntKind.u64.wrap ((t149.length : Int))))) then (if (wrap64 (Int.tmod (IntKind.u64.wrap (a2)) (IntKind.u64.wrap ((t149.length : Int))))) < (y164.length : Int) then ((reach_Hosts.f l0 (y164.set ((wrap64 (Int.tmod (IntKind.u64.wrap (a2)) (IntKind.u64.wrap ((t149.length : Int))))) : Int).toNat true)).bind fun bt168 => (if bt168.2.isNone = true then (belvederelaw19_ReachAway.j3 k1 t149 bt168.1 ((bt168.1.length : Int) != (t149.length : Int))) else (belvederelaw19_ReachAway.j3 k1 t149 bt168.1 true))) else (none)) else (none))) = some r := by first | (rw [hy164]; with_reducible exact H) | (have H2_ := (Option.bind_some _ _).symm.trans H; rw [hy164]; with_reducible exact H2_) | (have H2_ := (Option.bind_some _ _).symm.trans H; with_reducible exact H2_) | with_reducible exact H | (rw [hy164]; exact H) | exact H
                  have Ny164 := Aside0.mk hy164
                  clear hy164
                  by_cases c40 : (IntKind.u64.wrap ((t149.length : Int))) = 0
                  · rw [if_pos c40] at H
                    exact absurd H (by simp)
                  · rw [if_neg c40] at H
                    have c40b0 : ((IntKind.u64.wrap ((t149.length : Int))) == 0) = false := beq_eq_false_iff_ne.mpr c40
                    have c40b1 : ((IntKind.u64.wrap ((t149.length : Int))) != 0) = true := bne_iff_ne.mpr c40
                    obtain ⟨ji41, hji41⟩ : ∃ j_ : Int, (wrap64 (Int.tmod (IntKind.u64.wrap (a2)) (IntKind.u64.wrap ((t149.length : Int))))) = j_ := ⟨_, rfl⟩
                    replace H : (if 0 ≤ (ji41) then (if (ji41) < (y164.length : Int) then ((reach_Hosts.f l0 (y164.set ((ji41) : Int).toNat true)).bind fun bt168 => (if bt168.2.isNone = true then (belvederelaw19_ReachAway.j3 k1 t149 bt168.1 ((bt168.1.length : Int) != (t149.length : Int))) else (belvederelaw19_ReachAway.j3 k1 t149 bt168.1 true))) else (none)) else (none)) = some r := by first | (rw [hji41] at H; exact H) | (simp only [hji41] at H ⊢; exact H)
                    have hji41w : (IntKind.i64.wrap (Int.tmod (IntKind.u64.wrap (a2)) (IntKind.u64.wrap ((t149.length : Int))))) = ji41 := (i64_w _).trans hji41
                    by_cases c42 : 0 ≤ (ji41)
                    · rw [if_pos c42] at H
                      have c42b0 : decide (0 ≤ (ji41)) = true := decide_eq_true c42
                      clear c42
                      by_cases c43 : (ji41) < (y164.length : Int)
                      · rw [if_pos c43] at H
                        have c43b0 : decide ((ji41) < (y164.length : Int)) = true := decide_eq_true c43
                        clear c43
                        obtain ⟨y167, hy167⟩ : ∃ y_ : List Bool, y_ = (y164.set ((ji41) : Int).toNat true) := ⟨_, rfl⟩
                        replace H : ((reach_Hosts.f l0 y167).bind fun bt168 => (if bt168.2.isNone = true then (belvederelaw19_ReachAway.j3 k1 t149 bt168.1 ((bt168.1.length : Int) != (t149.length : Int))) else (belvederelaw19_ReachAway.j3 k1 t149 bt168.1 true))) = some r := by first | (rw [hy167]; with_reducible exact H) | (have H2_ := (Option.bind_some _ _).symm.trans H; rw [hy167]; with_reducible exact H2_) | (have H2_ := (Option.bind_some _ _).symm.trans H; with_reducible exact H2_) | with_reducible exact H | (rw [hy167]; exact H) | exact H
                        have Ny167 := Aside0.mk hy167
                        clear hy167
                        replace H := Option.bind_eq_some_iff.mp H
                        obtain ⟨⟨t168, t169⟩, A450, H⟩ := H
                        replace H : (if t169.isNone = true then (belvederelaw19_ReachAway.j3 k1 t149 t168 ((t168.length : Int) != (t149.length : Int))) else (belvederelaw19_ReachAway.j3 k1 t149 t168 true)) = some r := H
                        have A45 := Aside0.mk A450
                        clear A450
                        have HC46 := Aside0.mk H
                        clear H
                        go_upto_region 29 with (first | ((with_reducible refine gate_builtin (b := .append) (xs := #[.tmp 91, .tmp 92]) rfl ?_); (try (refine gate_guard (by rfl) ?_; dsimp only)); at_builtin; refine Kd.R_append_rows Kd.bool (w0 := w) w.heap.size rfl (.tmp 91) (.tmp 92) 23 4 (.bool false) 1 rfl Try.underlying23 info4 rfl (by decide) (by omega) (.slice none 0 0) ([] : List Bool) l1 _ _ _ (fun _ => True) (fun _ => False) rfl rfl ?aO ?aR (fun _ _ h => h) (fun _ h => h.elim) ?aF ?aB ?aS ?aL ?_; (case aR => repeat (first | exact (Kd.C_below HR1.out HB.out) | (with_reducible refine Kd.C_alloc ?_ _) | (with_reducible refine Kd.C_drewN ?_ _) | (with_reducible refine Kd.C_drew ?_))); (case aB => exact (by repeat (first | (with_reducible first | exact HB.out | apply below_alloc | apply pw_below_drewN | apply below_drew1) | exact HB.out))); (case aF => exact (fun _ _ => trivial)); (case aO => exact ((Kd.R_nil _ _ _ _ (fun _ => True)))); (case aS => exact (below_size (by repeat (first | (with_reducible first | exact HB.out | apply below_alloc | apply pw_below_drewN | apply below_drew1) | exact HB.out)))); (case aL => have := LMc39.out; omega); intro v165 w47 ho hb hg hat; rw [← Ny164.out] at ho; have n0_ := Aside0.mk (Kd.R_grown (by (with_reducible repeat (first | apply Kd.R_alloc | apply Kd.R_drewN | apply Kd.R_drew)); exact HO_7.out) hg (fun _ _ => by simp [Value.ownBlock])); have n1_ := Aside0.mk (hb); have n2_ := Aside0.mk (ho); clear HO_7; clear HB; have HO_7 := n0_; have HB := n1_; have HO166 := n2_; clear n0_ n1_ n2_; clear ho hb hg hat; have p44 : 0 ≤ ((ji41) : Int) := of_decide_eq_true (by first | (with_reducible assumption) | assumption); have q44 : ((ji41) : Int) < ((y164.length : Int) : Int) := of_decide_eq_true (by first | (with_reducible assumption) | assumption); obtain ⟨go44, co44, eo44, gb44, gl44, cl44, HG44⟩ := Kd.R_form HO166.out (by omega); (first | cases eo44 | (injection eo44 with ea_ en_ ec_; (first | subst ea_ | (injection ea_ with ea_; subst ea_)); subst ec_; clear en_)); have GB44 := Aside0.mk gb44; have GG44 := Aside0.mk HG44; clear gb44 gl44 HG44; obtain ⟨hx44_0, hf44_0⟩ := Kd.R_celln false HO166.out ((ji41) : Int) p44 q44; replace p44 := eq_true p44; replace q44 := eq_true q44; obtain ⟨hy48_, hz48_⟩ := Kd.R_celln false HO166.out ((ji41) : Int) (of_decide_eq_true (by first | (with_reducible assumption) | assumption)) (of_decide_eq_true (by first | (with_reducible assumption) | assumption)); have HP48 := Kd.R_putg HO166.out ((ji41) : Int) true) | ((with_reducible refine gate_store (t := 4) (p := 102) rfl ?_); refine store_event (t := 4) (p := 102) (v := ?vo_w49) (w1 := (w47.setCell ⟨go44, ((ji41) : Int).toNat, none⟩ (.bool true))) ?hg ?ho ?hn ?hr ?_; (case ho => rfl); (case hg => rfl); (case hn => rfl); (case hr => first | (go_simp; done) | (go_simp; rfl)); intro w49 hw; have hg : w47.grownBy w49 (some go44) := (by rw [hw]; exact HP48.2); have hp_ : Kd.R Kd.bool 4 w49 w.heap.size (fun _ => True) (.slice (some ⟨go44, 0, none⟩) y164.length co44) y167 := (by rw [hw, Ny167.out]; exact HP48.1); clear HP48; have n0_ := Aside0.mk (Kd.R_over' (v := (.slice (some ⟨go44, 0, none⟩) y164.length co44)) (by (with_reducible repeat (first | apply Kd.R_alloc | apply Kd.R_drewN | apply Kd.R_drew)); exact HO_7.out) (Kd.R_typed HO166.out) (by decide) hg); have n1_ := Aside0.mk (hp_); have n2_ := Aside0.mk ((by rw [hw]; exact below_set (HB.out) GB44.out : Below w.heap.size w w49)); clear HO_7; clear HO166; clear HB; have HO_7 := n0_; have HO166 := n1_; have HB := n2_; clear n0_ n1_ n2_; clear hg hw hp_) | ((with_reducible refine gate_callee (f := 7) rfl ?_); refine goesL_ (some 106) rfl rfl Try.func7 (by kernel_rfl) rfl #[.slice A0 l0.length c0, .slice (some ⟨go44, 0, none⟩) y167.length co44] rfl (by (try simp only [List.map_toArray, List.map_cons, List.map_nil]); first | done | (rw [show y167.length = y164.length from (Kd.R_reads' HO166.out).1.symm] <;> rfl) | rfl | (simp only [List.length_drop, List.length_take]; rfl)) ?_; (with_reducible refine (reach_Hosts.calls _ _ l0 _ _ y167 t168 t169 _ ?side1 ?side2 ?side3 ?side4 A45.out).mono ?_); (case side1 => repeat (first | exact (Kd.C_below HR0.out HB.out) | (with_reducible refine Kd.C_alloc ?_ _) | (with_reducible refine Kd.C_drewN ?_ _) | (with_reducible refine Kd.C_drew ?_))); (case side2 => exact HC0.out); (case side3 => repeat (first | exact (Kd.R_reads' HO166.out).2.2 | (with_reducible refine Kd.C_alloc ?_ _) | (with_reducible refine Kd.C_drewN ?_ _) | (with_reducible refine Kd.C_drew ?_))); (case side4 => rw [show y167.length = y164.length from (Kd.R_reads' HO166.out).1.symm]; exact (Kd.R_reads' HO166.out).2.1); rintro e w50 ⟨v170, rfl, ho0, hb⟩; refine ⟨_, rfl, ?_⟩; have n0_ := Aside0.mk (Kd.R_elder' (by (with_reducible repeat (first | apply Kd.R_alloc | apply Kd.R_drewN | apply Kd.R_drew)); exact HO_7.out) (Kd.R_base ho0) hb); have n1_ := Aside0.mk (Kd.R_below (by (with_reducible repeat (first | apply Kd.R_alloc | apply Kd.R_drewN | apply Kd.R_drew)); exact HO166.out) hb); have n2_ := Aside0.mk (Kd.R_lower (Kd.R_new' ho0 (Kd.R_lt (by (with_reducible repeat (first | apply Kd.R_alloc | apply Kd.R_drewN | apply Kd.R_drew)); exact HO_7.out))) (below_size (by repeat (first | (with_reducible first | exact HB.out | apply below_alloc | apply pw_below_drewN | apply below_drew1) | exact HB.out)))); have n3_ := Aside0.mk (below_step (by repeat (first | (with_reducible first | exact HB.out | apply below_alloc | apply pw_below_drewN | apply below_drew1) | exact HB.out)) hb); clear HO_7; clear HO166; clear HB; have HO_7 := n0_; have HO166 := n1_; have HO171 := n2_; have HB := n3_; clear n0_ n1_ n2_ n3_; (try clear hb); (try clear hb2); (try clear hk); (try clear hi); (try clear ho0); (try simp only [errW_none, errW_some])))
                        (try simp only [Act.put, List.setIfInBounds_toArray, List.set_cons_zero, List.set_cons_succ])
                        go_cut [117] (fun v117 wc => ∃ (kq : Nat) (x117_45 : Bool), v117 = .bool x117_45 ∧ Aside0 (belvederelaw19_ReachAway.j3 kq t149 t168 x117_45 = some r) ∧ Aside0 (kq ≤ k1) ∧ Aside0 (Kd.R (Kd.int .i64) 3 wc w.heap.size (fun k_ => some k_ ≠ (v170 : Value).ownBlock) (.slice Ao13 t149.length co13) t149) ∧ Aside0 (Kd.R (Kd.int .i64) 3 wc w.heap.size (fun k_ => some k_ ≠ ((.slice Ao13 t149.length co13) : Value).ownBlock) v170 t168) ∧ Aside0 (Below w.heap.size w wc))
                        case first =>
                          have H := HC46.out
                          clear HC46
                          rcases t169 with _ | q172
                          · have H1 : (belvederelaw19_ReachAway.j3 k1 t149 t168 ((t168.length : Int) != (t149.length : Int))) = some r := by rw [if_pos (show (none : Option Int).isNone = true by rfl)] at H; exact H
                            clear H
                            have H := H1
                            clear H1
                            try simp only [errW_none, errW_some]
                            have H' := Aside0.mk H
                            clear H
                            obtain ⟨Ao51, co51, eo51⟩ := Kd.R_slice HO171.out
                            subst eo51
                            go_wp2
                            go_meet
                            case rel => exact ⟨_, (((t168.length : Int) != (t149.length : Int))), (by first | rfl | (simp; done) | (simp [*]; done)), H', ⟨by have := HK1.out; first | omega | exact Nat.le_refl _⟩, ⟨by (with_reducible repeat (first | apply Kd.R_alloc | apply Kd.R_drewN | apply Kd.R_drew)); exact Kd.R_mono HO_7.out (fun _ hk => hk.2)⟩, ⟨by (with_reducible repeat (first | apply Kd.R_alloc | apply Kd.R_drewN | apply Kd.R_drew)); exact Kd.R_mono HO171.out (fun _ hk => hk.2)⟩, ⟨by repeat (first | (with_reducible first | exact HB.out | apply below_alloc | apply pw_below_drewN | apply below_drew1) | exact HB.out)⟩⟩
                          · have H1 : (belvederelaw19_ReachAway.j3 k1 t149 t168 true) = some r := by rw [if_neg (show ¬ (some q172).isNone = true by simp)] at H; exact H
                            clear H
                            have H := H1
                            clear H1
                            try simp only [errW_none, errW_some]
                            have H' := Aside0.mk H
                            clear H
                            go_wp2
                            go_meet
                            case rel => exact ⟨_, (true), (by first | rfl | (simp; done) | (simp [*]; done)), H', ⟨by have := HK1.out; first | omega | exact Nat.le_refl _⟩, ⟨by (with_reducible repeat (first | apply Kd.R_alloc | apply Kd.R_drewN | apply Kd.R_drew)); exact Kd.R_mono HO_7.out (fun _ hk => hk.2)⟩, ⟨by (with_reducible repeat (first | apply Kd.R_alloc | apply Kd.R_drewN | apply Kd.R_drew)); exact Kd.R_mono HO171.out (fun _ hk => hk.2)⟩, ⟨by repeat (first | (with_reducible first | exact HB.out | apply below_alloc | apply pw_below_drewN | apply below_drew1) | exact HB.out)⟩⟩
                        case rest =>
                          clear HC46
                          try clear c1
                          try clear p1
                          try clear q1
                          try clear hx1
                          try clear c2
                          try clear p2
                          try clear q2
                          try clear c3
                          try clear c4
                          try clear p4
                          try clear q4
                          try clear hx4
                          try clear hf4
                          try clear c5
                          try clear c6
                          try clear p6
                          try clear c7
                          try clear c10
                          try clear c10b0
                          try clear c10b1
                          try clear c10b2
                          try clear c14
                          try clear c14b0
                          try clear c15
                          try clear c15b0
                          try clear p15
                          try clear q15
                          try clear hx15
                          try clear c16
                          try clear c16b0
                          try clear p16
                          try clear q16
                          try clear hx16
                          try clear c17
                          try clear c17b0
                          try clear q17
                          try clear c18
                          try clear c19
                          try clear c19b0
                          try clear c20
                          try clear c20b0
                          try clear c21
                          try clear c21b0
                          try clear c22
                          try clear c22b0
                          try clear q23
                          try clear c24
                          try clear c26
                          try clear c27
                          try clear c28
                          try clear c28b0
                          try clear c29
                          try clear c29b0
                          try clear c30
                          try clear c30b0
                          try clear c30b1
                          try clear c31
                          try clear c31b0
                          try clear c32
                          try clear c32b0
                          try clear c33
                          try clear c33b0
                          try clear c33b1
                          try clear c34
                          try clear c34b0
                          try clear c35
                          try clear c35b0
                          try clear c35b1
                          try clear c36
                          try clear c36b0
                          try clear c36b1
                          try clear c36b2
                          try clear c39
                          try clear c40
                          try clear c40b0
                          try clear c40b1
                          try clear c42
                          try clear c42b0
                          try clear c43
                          try clear c43b0
                          try clear p44
                          try clear q44
                          try clear hx44
                          try clear hf44
                          try clear hx154_0
                          try clear hx155_0
                          try clear hx156_0
                          try clear hx157_0
                          try clear hx158_0
                          try clear hx159_0
                          try clear hx160_0
                          try clear hx161_0
                          try clear hx162_0
                          try clear hx44_0
                          try clear p1
                          try clear p15
                          try clear p154
                          try clear p155
                          try clear p156
                          try clear p157
                          try clear p158
                          try clear p159
                          try clear p160
                          try clear p161
                          try clear p162
                          try clear p2
                          try clear p44
                          try clear p6
                          try clear q1
                          try clear q15
                          try clear q153
                          try clear q154
                          try clear q155
                          try clear q156
                          try clear q157
                          try clear q158
                          try clear q159
                          try clear q160
                          try clear q161
                          try clear q162
                          try clear q172
                          try clear q2
                          try clear q23
                          try clear q44
                          obtain ⟨kq, x117_45, rfl, HA, HJ45, HO_7, HO_14, HB⟩ := hcut
                          cases kq with
                          | zero => exact absurd HA.out (by simp [belvederelaw19_ReachAway.j3])
                          | succ kj45 =>
                            have H := HA.out
                            clear HA
                            simp only [belvederelaw19_ReachAway.j3] at H
                            by_cases c52 : x117_45 = true
                            · subst c52
                              have H1 : (some false) = some r := by rw [if_pos rfl] at H; exact H
                              clear H
                              have H := H1
                              clear H1
                              obtain rfl := Option.some.inj H
                              go_wp2
                              go_ret
                              exact ⟨by first | rfl | (simp [errW_none, errW_some] <;> rfl) | (simp only [← hji41]; first | rfl | (simp [errW_none, errW_some] <;> rfl)) | (simp [*, errW_none, errW_some] <;> rfl), by repeat (first | (with_reducible first | exact HB.out | apply below_alloc | apply pw_below_drewN | apply below_drew1) | exact HB.out)⟩
                            · replace c52 := Bool.eq_false_iff.mpr c52
                              subst c52
                              have H1 : (belvederelaw19_ReachAway.l2 kj45 t149 t168 0) = some r := by rw [if_neg (show ¬ (false = true) by decide)] at H; exact H
                              clear H
                              have H := H1
                              clear H1
                              have H' := Aside0.mk H
                              clear H
                              go_wp2
                              go_loopg [16] kj45 (fun kq v16 w' => ∃ (x16_3 : Int), v16 = .int .i64 x16_3 ∧ Aside0 (belvederelaw19_ReachAway.l2 kq t149 t168 x16_3 = some r) ∧ Aside0 (kq ≤ kj45) ∧ Aside0 (Kd.R (Kd.int .i64) 3 w' w.heap.size (fun k_ => some k_ ≠ (v170 : Value).ownBlock) (.slice Ao13 t149.length co13) t149) ∧ Aside0 (Kd.R (Kd.int .i64) 3 w' w.heap.size (fun k_ => some k_ ≠ ((.slice Ao13 t149.length co13) : Value).ownBlock) v170 t168) ∧ Aside0 (Below w.heap.size w w'))
                              case atStart => exact ⟨(0), (by first | rfl | (simp; done) | (simp [*]; done)), H', ⟨Nat.le_refl _⟩, ⟨by (with_reducible repeat (first | apply Kd.R_alloc | apply Kd.R_drewN | apply Kd.R_drew)); exact HO_7.out⟩, ⟨by (with_reducible repeat (first | apply Kd.R_alloc | apply Kd.R_drewN | apply Kd.R_drew)); exact HO_14.out⟩, ⟨by repeat (first | (with_reducible first | exact HB.out | apply below_alloc | apply pw_below_drewN | apply below_drew1) | exact HB.out)⟩⟩
                              case round =>
                                clear H'
                                try clear c1
                                try clear p1
                                try clear q1
                                try clear hx1
                                try clear c2
                                try clear p2
                                try clear q2
                                try clear c3
                                try clear c4
                                try clear p4
                                try clear q4
                                try clear hx4
                                try clear hf4
                                try clear c5
                                try clear c6
                                try clear p6
                                try clear c7
                                try clear c10
                                try clear c10b0
                                try clear c10b1
                                try clear c10b2
                                try clear c14
                                try clear c14b0
                                try clear c15
                                try clear c15b0
                                try clear p15
                                try clear q15
                                try clear hx15
                                try clear c16
                                try clear c16b0
                                try clear p16
                                try clear q16
                                try clear hx16
                                try clear c17
                                try clear c17b0
                                try clear q17
                                try clear c18
                                try clear c19
                                try clear c19b0
                                try clear c20
                                try clear c20b0
                                try clear c21
                                try clear c21b0
                                try clear c22
                                try clear c22b0
                                try clear q23
                                try clear c24
                                try clear c26
                                try clear c27
                                try clear c28
                                try clear c28b0
                                try clear c29
                                try clear c29b0
                                try clear c30
                                try clear c30b0
                                try clear c30b1
                                try clear c31
                                try clear c31b0
                                try clear c32
                                try clear c32b0
                                try clear c33
                                try clear c33b0
                                try clear c33b1
                                try clear c34
                                try clear c34b0
                                try clear c35
                                try clear c35b0
                                try clear c35b1
                                try clear c36
                                try clear c36b0
                                try clear c36b1
                                try clear c36b2
                                try clear c39
                                try clear c40
                                try clear c40b0
                                try clear c40b1
                                try clear c42
                                try clear c42b0
                                try clear c43
                                try clear c43b0
                                try clear p44
                                try clear q44
                                try clear hx44
                                try clear hf44
                                try clear c52
                                try clear hx154_0
                                try clear hx155_0
                                try clear hx156_0
                                try clear hx157_0
                                try clear hx158_0
                                try clear hx159_0
                                try clear hx160_0
                                try clear hx161_0
                                try clear hx162_0
                                try clear hx44_0
                                try clear p1
                                try clear p15
                                try clear p154
                                try clear p155
                                try clear p156
                                try clear p157
                                try clear p158
                                try clear p159
                                try clear p16
                                try clear p160
                                try clear p161
                                try clear p162
                                try clear p2
                                try clear p4
                                try clear p44
                                try clear p6
                                try clear q1
                                try clear q15
                                try clear q153
                                try clear q154
                                try clear q155
                                try clear q156
                                try clear q157
                                try clear q158
                                try clear q159
                                try clear q16
                                try clear q160
                                try clear q161
                                try clear q162
                                try clear q17
                                try clear q172
                                try clear q2
                                try clear q23
                                try clear q4
                                try clear q44
                                obtain ⟨x16_3, rfl, HA, HK3, HO_7, HO_14, HB⟩ := hrel
                                cases gk with
                                | zero => exact absurd HA.out (by simp [belvederelaw19_ReachAway.l2])
                                | succ k3 =>
                                  have H := HA.out
                                  clear HA
                                  simp only [belvederelaw19_ReachAway.l2] at H
                                  by_cases c53 : x16_3 < (t149.length : Int)
                                  · rw [if_pos c53] at H
                                    have c53b0 : decide (x16_3 < (t149.length : Int)) = true := decide_eq_true c53
                                    clear c53
                                    by_cases c54 : 0 ≤ x16_3
                                    · rw [if_pos c54] at H
                                      have c54b0 : decide (0 ≤ x16_3) = true := decide_eq_true c54
                                      clear c54
                                      by_cases c55 : (rd t149 x16_3) = 0
                                      · rw [if_pos c55] at H
                                        have c55b0 : ((rd t149 x16_3) == 0) = true := beq_iff_eq.mpr c55
                                        have c55b1 : ((rd t149 x16_3) != 0) = false := bne_eq_false_iff_eq.mpr c55
                                        clear c55
                                        by_cases c56 : (rd t149 x16_3) = 3
                                        · rw [if_pos c56] at H
                                          have c56b0 : ((rd t149 x16_3) == 3) = true := beq_iff_eq.mpr c56
                                          have c56b1 : ((rd t149 x16_3) != 3) = false := bne_eq_false_iff_eq.mpr c56
                                          clear c56
                                          by_cases c57 : x16_3 < (t168.length : Int)
                                          · rw [if_pos c57] at H
                                            have c57b0 : decide (x16_3 < (t168.length : Int)) = true := decide_eq_true c57
                                            clear c57
                                            by_cases c58 : (rd t168 x16_3) = 3
                                            · rw [if_pos c58] at H
                                              have c58b0 : ((rd t168 x16_3) == 3) = true := beq_iff_eq.mpr c58
                                              have c58b1 : ((rd t168 x16_3) != 3) = false := bne_eq_false_iff_eq.mpr c58
                                              clear c58
                                              have H' := Aside0.mk H
                                              clear H
                                              have p173 : 0 ≤ (x16_3 : Int) := of_decide_eq_true (by first | (with_reducible assumption) | assumption)
                                              have q173 : x16_3 < (t149.length : Int) := of_decide_eq_true (by first | (with_reducible assumption) | assumption)
                                              obtain ⟨ad173, e173, hx173_0⟩ := Kd.at_int (Kd.R_reads' HO_7.out).2.2 x16_3 p173 q173
                                              cases e173
                                              replace p173 := eq_true p173
                                              replace q173 := eq_true q173
                                              have p174 : 0 ≤ (x16_3 : Int) := of_decide_eq_true (by first | (with_reducible assumption) | assumption)
                                              have q174 : x16_3 < (t149.length : Int) := of_decide_eq_true (by first | (with_reducible assumption) | assumption)
                                              obtain ⟨ad174, e174, hx174_0⟩ := Kd.at_int (Kd.R_reads' HO_7.out).2.2 x16_3 p174 q174
                                              obtain rfl : ad173 = ad174 := (by injection e174)
                                              replace p174 := eq_true p174
                                              replace q174 := eq_true q174
                                              obtain ⟨Ao59, co59, eo59⟩ := Kd.R_slice HO_14.out
                                              subst eo59
                                              have p175 : 0 ≤ (x16_3 : Int) := of_decide_eq_true (by first | (with_reducible assumption) | assumption)
                                              have q175 : x16_3 < (t168.length : Int) := of_decide_eq_true (by first | (with_reducible assumption) | assumption)
                                              obtain ⟨ad175, e175, hx175_0⟩ := Kd.at_int (Kd.R_reads' HO_14.out).2.2 x16_3 p175 q175
                                              cases e175
                                              replace p175 := eq_true p175
                                              replace q175 := eq_true q175
                                              go_wp2
                                              go_roundg k3
                                              case measure => have := HK1.out; have := HJ45.out; have := HK3.out; omega
                                              case rel => exact ⟨(wrap64 (x16_3 + 1)), (by first | rfl | (simp; done) | (simp [*]; done)), H', ⟨by have := HK1.out; have := HJ45.out; have := HK3.out; omega⟩, ⟨by (with_reducible repeat (first | apply Kd.R_alloc | apply Kd.R_drewN | apply Kd.R_drew)); exact HO_7.out⟩, ⟨by (with_reducible repeat (first | apply Kd.R_alloc | apply Kd.R_drewN | apply Kd.R_drew)); exact HO_14.out⟩, ⟨by repeat (first | (with_reducible first | exact HB.out | apply below_alloc | apply pw_below_drewN | apply below_drew1) | exact HB.out)⟩⟩
                                            · rw [if_neg c58] at H
                                              have c58b0 : ((rd t168 x16_3) == 3) = false := beq_eq_false_iff_ne.mpr c58
                                              have c58b1 : ((rd t168 x16_3) != 3) = true := bne_iff_ne.mpr c58
                                              obtain rfl := Option.some.inj H
                                              have p173 : 0 ≤ (x16_3 : Int) := of_decide_eq_true (by first | (with_reducible assumption) | assumption)
                                              have q173 : x16_3 < (t149.length : Int) := of_decide_eq_true (by first | (with_reducible assumption) | assumption)
                                              obtain ⟨ad173, e173, hx173_0⟩ := Kd.at_int (Kd.R_reads' HO_7.out).2.2 x16_3 p173 q173
                                              cases e173
                                              replace p173 := eq_true p173
                                              replace q173 := eq_true q173
                                              have p174 : 0 ≤ (x16_3 : Int) := of_decide_eq_true (by first | (with_reducible assumption) | assumption)
                                              have q174 : x16_3 < (t149.length : Int) := of_decide_eq_true (by first | (with_reducible assumption) | assumption)
                                              obtain ⟨ad174, e174, hx174_0⟩ := Kd.at_int (Kd.R_reads' HO_7.out).2.2 x16_3 p174 q174
                                              obtain rfl : ad173 = ad174 := (by injection e174)
                                              replace p174 := eq_true p174
                                              replace q174 := eq_true q174
                                              obtain ⟨Ao60, co60, eo60⟩ := Kd.R_slice HO_14.out
                                              subst eo60
                                              have p175 : 0 ≤ (x16_3 : Int) := of_decide_eq_true (by first | (with_reducible assumption) | assumption)
                                              have q175 : x16_3 < (t168.length : Int) := of_decide_eq_true (by first | (with_reducible assumption) | assumption)
                                              obtain ⟨ad175, e175, hx175_0⟩ := Kd.at_int (Kd.R_reads' HO_14.out).2.2 x16_3 p175 q175
                                              cases e175
                                              replace p175 := eq_true p175
                                              replace q175 := eq_true q175
                                              go_wp2
                                              go_ret
                                              exact ⟨by first | rfl | (simp [errW_none, errW_some] <;> rfl) | (simp only [← hji41]; first | rfl | (simp [errW_none, errW_some] <;> rfl)) | (simp [*, errW_none, errW_some] <;> rfl), by repeat (first | (with_reducible first | exact HB.out | apply below_alloc | apply pw_below_drewN | apply below_drew1) | exact HB.out)⟩
                                          · rw [if_neg c57] at H
                                            exact absurd H (by simp)
                                        · rw [if_neg c56] at H
                                          have c56b0 : ((rd t149 x16_3) == 3) = false := beq_eq_false_iff_ne.mpr c56
                                          have c56b1 : ((rd t149 x16_3) != 3) = true := bne_iff_ne.mpr c56
                                          have H' := Aside0.mk H
                                          clear H
                                          have p173 : 0 ≤ (x16_3 : Int) := of_decide_eq_true (by first | (with_reducible assumption) | assumption)
                                          have q173 : x16_3 < (t149.length : Int) := of_decide_eq_true (by first | (with_reducible assumption) | assumption)
                                          obtain ⟨ad173, e173, hx173_0⟩ := Kd.at_int (Kd.R_reads' HO_7.out).2.2 x16_3 p173 q173
                                          cases e173
                                          replace p173 := eq_true p173
                                          replace q173 := eq_true q173
                                          have p174 : 0 ≤ (x16_3 : Int) := of_decide_eq_true (by first | (with_reducible assumption) | assumption)
                                          have q174 : x16_3 < (t149.length : Int) := of_decide_eq_true (by first | (with_reducible assumption) | assumption)
                                          obtain ⟨ad174, e174, hx174_0⟩ := Kd.at_int (Kd.R_reads' HO_7.out).2.2 x16_3 p174 q174
                                          obtain rfl : ad173 = ad174 := (by injection e174)
                                          replace p174 := eq_true p174
                                          replace q174 := eq_true q174
                                          go_wp2
                                          go_roundg k3
                                          case measure => have := HK1.out; have := HJ45.out; have := HK3.out; omega
                                          case rel => exact ⟨(wrap64 (x16_3 + 1)), (by first | rfl | (simp; done) | (simp [*]; done)), H', ⟨by have := HK1.out; have := HJ45.out; have := HK3.out; omega⟩, ⟨by (with_reducible repeat (first | apply Kd.R_alloc | apply Kd.R_drewN | apply Kd.R_drew)); exact HO_7.out⟩, ⟨by (with_reducible repeat (first | apply Kd.R_alloc | apply Kd.R_drewN | apply Kd.R_drew)); exact HO_14.out⟩, ⟨by repeat (first | (with_reducible first | exact HB.out | apply below_alloc | apply pw_below_drewN | apply below_drew1) | exact HB.out)⟩⟩
                                      · rw [if_neg c55] at H
                                        have c55b0 : ((rd t149 x16_3) == 0) = false := beq_eq_false_iff_ne.mpr c55
                                        have c55b1 : ((rd t149 x16_3) != 0) = true := bne_iff_ne.mpr c55
                                        by_cases c61 : x16_3 < (t168.length : Int)
                                        · rw [if_pos c61] at H
                                          have c61b0 : decide (x16_3 < (t168.length : Int)) = true := decide_eq_true c61
                                          clear c61
                                          by_cases c62 : (rd t168 x16_3) = 0
                                          · rw [if_pos c62] at H
                                            have c62b0 : ((rd t168 x16_3) == 0) = true := beq_iff_eq.mpr c62
                                            have c62b1 : ((rd t168 x16_3) != 0) = false := bne_eq_false_iff_eq.mpr c62
                                            clear c62
                                            obtain rfl := Option.some.inj H
                                            have p173 : 0 ≤ (x16_3 : Int) := of_decide_eq_true (by first | (with_reducible assumption) | assumption)
                                            have q173 : x16_3 < (t149.length : Int) := of_decide_eq_true (by first | (with_reducible assumption) | assumption)
                                            obtain ⟨ad173, e173, hx173_0⟩ := Kd.at_int (Kd.R_reads' HO_7.out).2.2 x16_3 p173 q173
                                            cases e173
                                            replace p173 := eq_true p173
                                            replace q173 := eq_true q173
                                            obtain ⟨Ao63, co63, eo63⟩ := Kd.R_slice HO_14.out
                                            subst eo63
                                            have p176 : 0 ≤ (x16_3 : Int) := of_decide_eq_true (by first | (with_reducible assumption) | assumption)
                                            have q176 : x16_3 < (t168.length : Int) := of_decide_eq_true (by first | (with_reducible assumption) | assumption)
                                            obtain ⟨ad176, e176, hx176_0⟩ := Kd.at_int (Kd.R_reads' HO_14.out).2.2 x16_3 p176 q176
                                            cases e176
                                            replace p176 := eq_true p176
                                            replace q176 := eq_true q176
                                            go_wp2
                                            go_ret
                                            exact ⟨by first | rfl | (simp [errW_none, errW_some] <;> rfl) | (simp only [← hji41]; first | rfl | (simp [errW_none, errW_some] <;> rfl)) | (simp [*, errW_none, errW_some] <;> rfl), by repeat (first | (with_reducible first | exact HB.out | apply below_alloc | apply pw_below_drewN | apply below_drew1) | exact HB.out)⟩
                                          · rw [if_neg c62] at H
                                            have c62b0 : ((rd t168 x16_3) == 0) = false := beq_eq_false_iff_ne.mpr c62
                                            have c62b1 : ((rd t168 x16_3) != 0) = true := bne_iff_ne.mpr c62
                                            by_cases c64 : (rd t149 x16_3) = 3
                                            · rw [if_pos c64] at H
                                              have c64b0 : ((rd t149 x16_3) == 3) = true := beq_iff_eq.mpr c64
                                              have c64b1 : ((rd t149 x16_3) != 3) = false := bne_eq_false_iff_eq.mpr c64
                                              clear c64
                                              by_cases c65 : (rd t168 x16_3) = 3
                                              · rw [if_pos c65] at H
                                                have c65b0 : ((rd t168 x16_3) == 3) = true := beq_iff_eq.mpr c65
                                                have c65b1 : ((rd t168 x16_3) != 3) = false := bne_eq_false_iff_eq.mpr c65
                                                clear c65
                                                have H' := Aside0.mk H
                                                clear H
                                                have p173 : 0 ≤ (x16_3 : Int) := of_decide_eq_true (by first | (with_reducible assumption) | assumption)
                                                have q173 : x16_3 < (t149.length : Int) := of_decide_eq_true (by first | (with_reducible assumption) | assumption)
                                                obtain ⟨ad173, e173, hx173_0⟩ := Kd.at_int (Kd.R_reads' HO_7.out).2.2 x16_3 p173 q173
                                                cases e173
                                                replace p173 := eq_true p173
                                                replace q173 := eq_true q173
                                                obtain ⟨Ao66, co66, eo66⟩ := Kd.R_slice HO_14.out
                                                subst eo66
                                                have p176 : 0 ≤ (x16_3 : Int) := of_decide_eq_true (by first | (with_reducible assumption) | assumption)
                                                have q176 : x16_3 < (t168.length : Int) := of_decide_eq_true (by first | (with_reducible assumption) | assumption)
                                                obtain ⟨ad176, e176, hx176_0⟩ := Kd.at_int (Kd.R_reads' HO_14.out).2.2 x16_3 p176 q176
                                                cases e176
                                                replace p176 := eq_true p176
                                                replace q176 := eq_true q176
                                                have p177 : 0 ≤ (x16_3 : Int) := of_decide_eq_true (by first | (with_reducible assumption) | assumption)
                                                have q177 : x16_3 < (t149.length : Int) := of_decide_eq_true (by first | (with_reducible assumption) | assumption)
                                                obtain ⟨ad177, e177, hx177_0⟩ := Kd.at_int (Kd.R_reads' HO_7.out).2.2 x16_3 p177 q177
                                                obtain rfl : ad173 = ad177 := (by injection e177)
                                                replace p177 := eq_true p177
                                                replace q177 := eq_true q177
                                                have p178 : 0 ≤ (x16_3 : Int) := of_decide_eq_true (by first | (with_reducible assumption) | assumption)
                                                have q178 : x16_3 < (t168.length : Int) := of_decide_eq_true (by first | (with_reducible assumption) | assumption)
                                                obtain ⟨ad178, e178, hx178_0⟩ := Kd.at_int (Kd.R_reads' HO_14.out).2.2 x16_3 p178 q178
                                                obtain rfl : ad176 = ad178 := (by injection e178)
                                                replace p178 := eq_true p178
                                                replace q178 := eq_true q178
                                                go_wp2
                                                go_roundg k3
                                                case measure => have := HK1.out; have := HJ45.out; have := HK3.out; omega
                                                case rel => exact ⟨(wrap64 (x16_3 + 1)), (by first | rfl | (simp; done) | (simp [*]; done)), H', ⟨by have := HK1.out; have := HJ45.out; have := HK3.out; omega⟩, ⟨by (with_reducible repeat (first | apply Kd.R_alloc | apply Kd.R_drewN | apply Kd.R_drew)); exact HO_7.out⟩, ⟨by (with_reducible repeat (first | apply Kd.R_alloc | apply Kd.R_drewN | apply Kd.R_drew)); exact HO_14.out⟩, ⟨by repeat (first | (with_reducible first | exact HB.out | apply below_alloc | apply pw_below_drewN | apply below_drew1) | exact HB.out)⟩⟩
                                              · rw [if_neg c65] at H
                                                have c65b0 : ((rd t168 x16_3) == 3) = false := beq_eq_false_iff_ne.mpr c65
                                                have c65b1 : ((rd t168 x16_3) != 3) = true := bne_iff_ne.mpr c65
                                                obtain rfl := Option.some.inj H
                                                have p173 : 0 ≤ (x16_3 : Int) := of_decide_eq_true (by first | (with_reducible assumption) | assumption)
                                                have q173 : x16_3 < (t149.length : Int) := of_decide_eq_true (by first | (with_reducible assumption) | assumption)
                                                obtain ⟨ad173, e173, hx173_0⟩ := Kd.at_int (Kd.R_reads' HO_7.out).2.2 x16_3 p173 q173
                                                cases e173
                                                replace p173 := eq_true p173
                                                replace q173 := eq_true q173
                                                obtain ⟨Ao67, co67, eo67⟩ := Kd.R_slice HO_14.out
                                                subst eo67
                                                have p176 : 0 ≤ (x16_3 : Int) := of_decide_eq_true (by first | (with_reducible assumption) | assumption)
                                                have q176 : x16_3 < (t168.length : Int) := of_decide_eq_true (by first | (with_reducible assumption) | assumption)
                                                obtain ⟨ad176, e176, hx176_0⟩ := Kd.at_int (Kd.R_reads' HO_14.out).2.2 x16_3 p176 q176
                                                cases e176
                                                replace p176 := eq_true p176
                                                replace q176 := eq_true q176
                                                have p177 : 0 ≤ (x16_3 : Int) := of_decide_eq_true (by first | (with_reducible assumption) | assumption)
                                                have q177 : x16_3 < (t149.length : Int) := of_decide_eq_true (by first | (with_reducible assumption) | assumption)
                                                obtain ⟨ad177, e177, hx177_0⟩ := Kd.at_int (Kd.R_reads' HO_7.out).2.2 x16_3 p177 q177
                                                obtain rfl : ad173 = ad177 := (by injection e177)
                                                replace p177 := eq_true p177
                                                replace q177 := eq_true q177
                                                have p178 : 0 ≤ (x16_3 : Int) := of_decide_eq_true (by first | (with_reducible assumption) | assumption)
                                                have q178 : x16_3 < (t168.length : Int) := of_decide_eq_true (by first | (with_reducible assumption) | assumption)
                                                obtain ⟨ad178, e178, hx178_0⟩ := Kd.at_int (Kd.R_reads' HO_14.out).2.2 x16_3 p178 q178
                                                obtain rfl : ad176 = ad178 := (by injection e178)
                                                replace p178 := eq_true p178
                                                replace q178 := eq_true q178
                                                go_wp2
                                                go_ret
                                                exact ⟨by first | rfl | (simp [errW_none, errW_some] <;> rfl) | (simp only [← hji41]; first | rfl | (simp [errW_none, errW_some] <;> rfl)) | (simp [*, errW_none, errW_some] <;> rfl), by repeat (first | (with_reducible first | exact HB.out | apply below_alloc | apply pw_below_drewN | apply below_drew1) | exact HB.out)⟩
                                            · rw [if_neg c64] at H
                                              have c64b0 : ((rd t149 x16_3) == 3) = false := beq_eq_false_iff_ne.mpr c64
                                              have c64b1 : ((rd t149 x16_3) != 3) = true := bne_iff_ne.mpr c64
                                              have H' := Aside0.mk H
                                              clear H
                                              have p173 : 0 ≤ (x16_3 : Int) := of_decide_eq_true (by first | (with_reducible assumption) | assumption)
                                              have q173 : x16_3 < (t149.length : Int) := of_decide_eq_true (by first | (with_reducible assumption) | assumption)
                                              obtain ⟨ad173, e173, hx173_0⟩ := Kd.at_int (Kd.R_reads' HO_7.out).2.2 x16_3 p173 q173
                                              cases e173
                                              replace p173 := eq_true p173
                                              replace q173 := eq_true q173
                                              obtain ⟨Ao68, co68, eo68⟩ := Kd.R_slice HO_14.out
                                              subst eo68
                                              have p176 : 0 ≤ (x16_3 : Int) := of_decide_eq_true (by first | (with_reducible assumption) | assumption)
                                              have q176 : x16_3 < (t168.length : Int) := of_decide_eq_true (by first | (with_reducible assumption) | assumption)
                                              obtain ⟨ad176, e176, hx176_0⟩ := Kd.at_int (Kd.R_reads' HO_14.out).2.2 x16_3 p176 q176
                                              cases e176
                                              replace p176 := eq_true p176
                                              replace q176 := eq_true q176
                                              have p177 : 0 ≤ (x16_3 : Int) := of_decide_eq_true (by first | (with_reducible assumption) | assumption)
                                              have q177 : x16_3 < (t149.length : Int) := of_decide_eq_true (by first | (with_reducible assumption) | assumption)
                                              obtain ⟨ad177, e177, hx177_0⟩ := Kd.at_int (Kd.R_reads' HO_7.out).2.2 x16_3 p177 q177
                                              obtain rfl : ad173 = ad177 := (by injection e177)
                                              replace p177 := eq_true p177
                                              replace q177 := eq_true q177
                                              go_wp2
                                              go_roundg k3
                                              case measure => have := HK1.out; have := HJ45.out; have := HK3.out; omega
                                              case rel => exact ⟨(wrap64 (x16_3 + 1)), (by first | rfl | (simp; done) | (simp [*]; done)), H', ⟨by have := HK1.out; have := HJ45.out; have := HK3.out; omega⟩, ⟨by (with_reducible repeat (first | apply Kd.R_alloc | apply Kd.R_drewN | apply Kd.R_drew)); exact HO_7.out⟩, ⟨by (with_reducible repeat (first | apply Kd.R_alloc | apply Kd.R_drewN | apply Kd.R_drew)); exact HO_14.out⟩, ⟨by repeat (first | (with_reducible first | exact HB.out | apply below_alloc | apply pw_below_drewN | apply below_drew1) | exact HB.out)⟩⟩
                                        · rw [if_neg c61] at H
                                          exact absurd H (by simp)
                                    · rw [if_neg c54] at H
                                      exact absurd H (by simp)
                                  · rw [if_neg c53] at H
                                    have c53b0 : decide (x16_3 < (t149.length : Int)) = false := decide_eq_false c53
                                    clear c53
                                    replace H := Option.bind_eq_some_iff.mp H
                                    obtain ⟨t179, A690, H⟩ := H
                                    replace H : (some t179) = some r := H
                                    have A69 := Aside0.mk A690
                                    clear A690
                                    obtain rfl := Option.some.inj H
                                    go_wp2_with (first | ((with_reducible refine gate_callee (f := 6) rfl ?_); refine goesL_ (some 150) rfl rfl Try.func6 (by kernel_rfl) rfl #[] rfl (by (try simp only [List.map_toArray, List.map_cons, List.map_nil]); first | done | rfl | (simp only [List.length_drop, List.length_take]; rfl)) ?_; (with_reducible refine (belvederelaw19_sure.calls k3  t179 _ A69.out).mono ?_); rintro e w70 ⟨rfl, hb⟩; refine ⟨_, rfl, ?_⟩; have n0_ := Aside0.mk (Kd.R_below (by (with_reducible repeat (first | apply Kd.R_alloc | apply Kd.R_drewN | apply Kd.R_drew)); exact HO_7.out) hb); have n1_ := Aside0.mk (Kd.R_below (by (with_reducible repeat (first | apply Kd.R_alloc | apply Kd.R_drewN | apply Kd.R_drew)); exact HO_14.out) hb); have n2_ := Aside0.mk (below_step (by repeat (first | (with_reducible first | exact HB.out | apply below_alloc | apply pw_below_drewN | apply below_drew1) | exact HB.out)) hb); clear HO_7; clear HO_14; clear HB; have HO_7 := n0_; have HO_14 := n1_; have HB := n2_; clear n0_ n1_ n2_; (try clear hb); (try clear hb2); (try clear hk); (try clear hi)))
                                    go_ret
                                    exact ⟨by first | rfl | (simp [errW_none, errW_some] <;> rfl) | (simp only [← hji41]; first | rfl | (simp [errW_none, errW_some] <;> rfl)) | (simp [*, errW_none, errW_some] <;> rfl), by repeat (first | (with_reducible first | exact HB.out | apply below_alloc | apply pw_below_drewN | apply below_drew1) | exact HB.out)⟩
                      · rw [if_neg c43] at H
                        exact absurd H (by simp)
                    · rw [if_neg c42] at H
                      exact absurd H (by simp)
                · rw [if_neg c39] at H
                  exact absurd H (by simp)
      · rw [if_neg c10] at H
        have c10b0 : ((t149.length : Int) == (l0.length : Int)) = false := beq_eq_false_iff_ne.mpr c10
        have c10b1 : ((t149.length : Int) != (l0.length : Int)) = true := bne_iff_ne.mpr c10
        have c10b2 : (t149.length == l0.length) = false := by first | simpa using c10 | (simp at c10 ⊢; omega)
        obtain rfl := Option.some.inj H
        go_enter Try.func3, Try.ntmps3
        go_wp2_with (first | ((with_reducible refine gate_callee (f := 5) rfl ?_); refine goesL_ (some 18) rfl rfl Try.func5 (by kernel_rfl) rfl #[.slice A0 l0.length c0] rfl (by (try simp only [List.map_toArray, List.map_cons, List.map_nil]); first | done | rfl | (simp only [List.length_drop, List.length_take]; rfl)) ?_; (with_reducible refine (belvederelaw19_huge.calls k _ _ l0 false _ ?side1 ?side2 A4.out).mono ?_); (case side1 => repeat (first | exact HR0.out | (with_reducible refine Kd.C_alloc ?_ _) | (with_reducible refine Kd.C_drewN ?_ _) | (with_reducible refine Kd.C_drew ?_))); (case side2 => exact HC0.out); rintro e w71 ⟨rfl, hb⟩; refine ⟨_, rfl, ?_⟩; have n0_ := Aside0.mk (below_step (by repeat (first | (with_reducible first | exact HB.out | apply below_alloc | apply pw_below_drewN | apply below_drew1) | exact HB.out)) hb); clear HB; have HB := n0_; clear n0_; (try clear hb); (try clear hb2); (try clear hk); (try clear hi)) | ((with_reducible refine gate_callee (f := 7) rfl ?_); refine goesL_ (some 23) rfl rfl Try.func7 (by kernel_rfl) rfl #[.slice A0 l0.length c0, .slice A1 l1.length c1] rfl (by (try simp only [List.map_toArray, List.map_cons, List.map_nil]); first | done | rfl | (simp only [List.length_drop, List.length_take]; rfl)) ?_; (with_reducible refine (reach_Hosts.calls _ _ l0 _ _ l1 t149 none _ ?side1 ?side2 ?side3 ?side4 A9.out).mono ?_); (case side1 => repeat (first | exact (Kd.C_below HR0.out HB.out) | (with_reducible refine Kd.C_alloc ?_ _) | (with_reducible refine Kd.C_drewN ?_ _) | (with_reducible refine Kd.C_drew ?_))); (case side2 => exact HC0.out); (case side3 => repeat (first | exact (Kd.C_below HR1.out HB.out) | (with_reducible refine Kd.C_alloc ?_ _) | (with_reducible refine Kd.C_drewN ?_ _) | (with_reducible refine Kd.C_drew ?_))); (case side4 => exact HC1.out); rintro e w72 ⟨v151, rfl, ho0, hb⟩; refine ⟨_, rfl, ?_⟩; have n0_ := Aside0.mk (Kd.R_lower ho0 (below_size (by repeat (first | (with_reducible first | exact HB.out | apply below_alloc | apply pw_below_drewN | apply below_drew1) | exact HB.out)))); have n1_ := Aside0.mk (below_step (by repeat (first | (with_reducible first | exact HB.out | apply below_alloc | apply pw_below_drewN | apply below_drew1) | exact HB.out)) hb); clear HB; have HO152 := n0_; have HB := n1_; clear n0_ n1_; (try clear hb); (try clear hb2); (try clear hk); (try clear hi); (try clear ho0); (try simp only [errW_none, errW_some]); obtain ⟨Ao73, co73, eo73⟩ := Kd.R_slice HO152.out; subst eo73))
        go_ret
        exact ⟨by first | rfl | (simp [errW_none, errW_some] <;> rfl) | (simp [*, errW_none, errW_some] <;> rfl), by repeat (first | (with_reducible first | exact HB.out | apply below_alloc | apply pw_below_drewN | apply below_drew1) | exact HB.out)⟩
    · have H1 : (if (t149.length : Int) = 0 then ((belvederelaw19_sure.f k).bind fun t180 => (some t180)) else (some false)) = some r := by rw [if_neg (show ¬ (some q153).isNone = true by simp)] at H; exact H
      clear H
      have H := H1
      clear H1
      try simp only [errW_none, errW_some]
      by_cases c74 : (t149.length : Int) = 0
      · rw [if_pos c74] at H
        have c74b0 : ((t149.length : Int) == 0) = true := beq_iff_eq.mpr c74
        have c74b1 : ((t149.length : Int) != 0) = false := bne_eq_false_iff_eq.mpr c74
        clear c74
        replace H := Option.bind_eq_some_iff.mp H
        obtain ⟨t180, A750, H⟩ := H
        replace H : (some t180) = some r := H
        have A75 := Aside0.mk A750
        clear A750
        obtain rfl := Option.some.inj H
        go_enter Try.func3, Try.ntmps3
        go_wp2_with (first | ((with_reducible refine gate_callee (f := 5) rfl ?_); refine goesL_ (some 18) rfl rfl Try.func5 (by kernel_rfl) rfl #[.slice A0 l0.length c0] rfl (by (try simp only [List.map_toArray, List.map_cons, List.map_nil]); first | done | rfl | (simp only [List.length_drop, List.length_take]; rfl)) ?_; (with_reducible refine (belvederelaw19_huge.calls k _ _ l0 false _ ?side1 ?side2 A4.out).mono ?_); (case side1 => repeat (first | exact HR0.out | (with_reducible refine Kd.C_alloc ?_ _) | (with_reducible refine Kd.C_drewN ?_ _) | (with_reducible refine Kd.C_drew ?_))); (case side2 => exact HC0.out); rintro e w76 ⟨rfl, hb⟩; refine ⟨_, rfl, ?_⟩; have n0_ := Aside0.mk (below_step (by repeat (first | (with_reducible first | exact HB.out | apply below_alloc | apply pw_below_drewN | apply below_drew1) | exact HB.out)) hb); clear HB; have HB := n0_; clear n0_; (try clear hb); (try clear hb2); (try clear hk); (try clear hi)) | ((with_reducible refine gate_callee (f := 7) rfl ?_); refine goesL_ (some 23) rfl rfl Try.func7 (by kernel_rfl) rfl #[.slice A0 l0.length c0, .slice A1 l1.length c1] rfl (by (try simp only [List.map_toArray, List.map_cons, List.map_nil]); first | done | rfl | (simp only [List.length_drop, List.length_take]; rfl)) ?_; (with_reducible refine (reach_Hosts.calls _ _ l0 _ _ l1 t149 (some q153) _ ?side1 ?side2 ?side3 ?side4 A9.out).mono ?_); (case side1 => repeat (first | exact (Kd.C_below HR0.out HB.out) | (with_reducible refine Kd.C_alloc ?_ _) | (with_reducible refine Kd.C_drewN ?_ _) | (with_reducible refine Kd.C_drew ?_))); (case side2 => exact HC0.out); (case side3 => repeat (first | exact (Kd.C_below HR1.out HB.out) | (with_reducible refine Kd.C_alloc ?_ _) | (with_reducible refine Kd.C_drewN ?_ _) | (with_reducible refine Kd.C_drew ?_))); (case side4 => exact HC1.out); rintro e w77 ⟨v151, rfl, ho0, hb⟩; refine ⟨_, rfl, ?_⟩; have n0_ := Aside0.mk (Kd.R_lower ho0 (below_size (by repeat (first | (with_reducible first | exact HB.out | apply below_alloc | apply pw_below_drewN | apply below_drew1) | exact HB.out)))); have n1_ := Aside0.mk (below_step (by repeat (first | (with_reducible first | exact HB.out | apply below_alloc | apply pw_below_drewN | apply below_drew1) | exact HB.out)) hb); clear HB; have HO152 := n0_; have HB := n1_; clear n0_ n1_; (try clear hb); (try clear hb2); (try clear hk); (try clear hi); (try clear ho0); (try simp only [errW_none, errW_some]); obtain ⟨Ao78, co78, eo78⟩ := Kd.R_slice HO152.out; subst eo78) | (go_at_call 6; (with_reducible refine (belvederelaw19_sure.calls k  t180 _ A75.out).mono ?_); rintro e w79 ⟨rfl, hb⟩; have n0_ := Aside0.mk (Kd.R_below (by (with_reducible repeat (first | apply Kd.R_alloc | apply Kd.R_drewN | apply Kd.R_drew)); exact HO152.out) hb); have n1_ := Aside0.mk (below_step (by repeat (first | (with_reducible first | exact HB.out | apply below_alloc | apply pw_below_drewN | apply below_drew1) | exact HB.out)) hb); clear HO152; clear HB; have HO152 := n0_; have HB := n1_; clear n0_ n1_; (try clear hb); (try clear hb2); (try clear hk); (try clear hi)))
        go_ret
        exact ⟨by first | rfl | (simp [errW_none, errW_some] <;> rfl) | (simp [*, errW_none, errW_some] <;> rfl), by repeat (first | (with_reducible first | exact HB.out | apply below_alloc | apply pw_below_drewN | apply below_drew1) | exact HB.out)⟩
      · rw [if_neg c74] at H
        have c74b0 : ((t149.length : Int) == 0) = false := beq_eq_false_iff_ne.mpr c74
        have c74b1 : ((t149.length : Int) != 0) = true := bne_iff_ne.mpr c74
        have c74b2 : ¬ (t149 = []) := fun h_ => c74 (by rw [h_]; rfl)
        obtain rfl := Option.some.inj H
        go_enter Try.func3, Try.ntmps3
        go_wp2_with (first | ((with_reducible refine gate_callee (f := 5) rfl ?_); refine goesL_ (some 18) rfl rfl Try.func5 (by kernel_rfl) rfl #[.slice A0 l0.length c0] rfl (by (try simp only [List.map_toArray, List.map_cons, List.map_nil]); first | done | rfl | (simp only [List.length_drop, List.length_take]; rfl)) ?_; (with_reducible refine (belvederelaw19_huge.calls k _ _ l0 false _ ?side1 ?side2 A4.out).mono ?_); (case side1 => repeat (first | exact HR0.out | (with_reducible refine Kd.C_alloc ?_ _) | (with_reducible refine Kd.C_drewN ?_ _) | (with_reducible refine Kd.C_drew ?_))); (case side2 => exact HC0.out); rintro e w80 ⟨rfl, hb⟩; refine ⟨_, rfl, ?_⟩; have n0_ := Aside0.mk (below_step (by repeat (first | (with_reducible first | exact HB.out | apply below_alloc | apply pw_below_drewN | apply below_drew1) | exact HB.out)) hb); clear HB; have HB := n0_; clear n0_; (try clear hb); (try clear hb2); (try clear hk); (try clear hi)) | ((with_reducible refine gate_callee (f := 7) rfl ?_); refine goesL_ (some 23) rfl rfl Try.func7 (by kernel_rfl) rfl #[.slice A0 l0.length c0, .slice A1 l1.length c1] rfl (by (try simp only [List.map_toArray, List.map_cons, List.map_nil]); first | done | rfl | (simp only [List.length_drop, List.length_take]; rfl)) ?_; (with_reducible refine (reach_Hosts.calls _ _ l0 _ _ l1 t149 (some q153) _ ?side1 ?side2 ?side3 ?side4 A9.out).mono ?_); (case side1 => repeat (first | exact (Kd.C_below HR0.out HB.out) | (with_reducible refine Kd.C_alloc ?_ _) | (with_reducible refine Kd.C_drewN ?_ _) | (with_reducible refine Kd.C_drew ?_))); (case side2 => exact HC0.out); (case side3 => repeat (first | exact (Kd.C_below HR1.out HB.out) | (with_reducible refine Kd.C_alloc ?_ _) | (with_reducible refine Kd.C_drewN ?_ _) | (with_reducible refine Kd.C_drew ?_))); (case side4 => exact HC1.out); rintro e w81 ⟨v151, rfl, ho0, hb⟩; refine ⟨_, rfl, ?_⟩; have n0_ := Aside0.mk (Kd.R_lower ho0 (below_size (by repeat (first | (with_reducible first | exact HB.out | apply below_alloc | apply pw_below_drewN | apply below_drew1) | exact HB.out)))); have n1_ := Aside0.mk (below_step (by repeat (first | (with_reducible first | exact HB.out | apply below_alloc | apply pw_below_drewN | apply below_drew1) | exact HB.out)) hb); clear HB; have HO152 := n0_; have HB := n1_; clear n0_ n1_; (try clear hb); (try clear hb2); (try clear hk); (try clear hi); (try clear ho0); (try simp only [errW_none, errW_some]); obtain ⟨Ao82, co82, eo82⟩ := Kd.R_slice HO152.out; subst eo82))
        go_ret
        exact ⟨by first | rfl | (simp [errW_none, errW_some] <;> rfl) | (simp [*, errW_none, errW_some] <;> rfl), by repeat (first | (with_reducible first | exact HB.out | apply below_alloc | apply pw_below_drewN | apply below_drew1) | exact HB.out)⟩

end Go.Proofs.Ytkhemmeedklofaa.Pr
