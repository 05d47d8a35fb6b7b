-- written by wip/tools/myprint.py out of Lean's own print of the program
import Derived.Test.YtecgjkikgggoeaaDoorPr0
import Derived.Test.YtecgjkikgggoeaaDoorGRefC
namespace Go.Proofs.YtecgjkikgggoeaaDoor.Pr
open Go.RowKit Go.Proofs.YtecgjkikgggoeaaDoorW.PrintWords Go.Proofs.YtecgjkikgggoeaaDoorW.PrintLast Go.Proofs.YtecgjkikgggoeaaDoorW.PrintMore
attribute [local go_sem] max2_int min2_int max_two min_two max_three min_three max_four min_four   -- for this text's walks alone
set_option linter.unusedVariables false
set_option linter.unusedSimpArgs false

/-! ### belvedereref22_Choose: function 8 -/
mutual
def belvedereref22_Choose.l0 : Nat → List Int → Int → List (S28) → Int → Int → List Int → Bool → Int → Int → Option (List Int × Int)
  | 0, _, _, _, _, _, _, _, _, _ => none
  | k + 1, x0, x1, x2, x3, x4, x12, x13, x14, x15 => if x15 < (x2.length : Int) then (if 0 ≤ x15 then (if ((rd_T28 x2 x15).f0) = x3 then (if ((rd_T28 x2 x15).f1) ≤ x4 then (if ((rd_T28 x2 x15).f2) = 0 then (belvedereref22_Choose.j1 k x0 x1 x2 x3 x4 x12 x13 x14 x15 true ((rd_T28 x2 x15).f0) ((rd_T28 x2 x15).f1) ((rd_T28 x2 x15).f2) ((rd_T28 x2 x15).f3) ((rd_T28 x2 x15).f4)) else (belvedereref22_Choose.j1 k x0 x1 x2 x3 x4 x12 x13 x14 x15 (decide (x4 ≤ ((rd_T28 x2 x15).f2))) ((rd_T28 x2 x15).f0) ((rd_T28 x2 x15).f1) ((rd_T28 x2 x15).f2) ((rd_T28 x2 x15).f3) ((rd_T28 x2 x15).f4))) else (belvedereref22_Choose.j1 k x0 x1 x2 x3 x4 x12 x13 x14 x15 false ((rd_T28 x2 x15).f0) ((rd_T28 x2 x15).f1) ((rd_T28 x2 x15).f2) ((rd_T28 x2 x15).f3) ((rd_T28 x2 x15).f4))) else (belvedereref22_Choose.j1 k x0 x1 x2 x3 x4 x12 x13 x14 x15 false ((rd_T28 x2 x15).f0) ((rd_T28 x2 x15).f1) ((rd_T28 x2 x15).f2) ((rd_T28 x2 x15).f3) ((rd_T28 x2 x15).f4))) else (none)) else (if x13 = true then ((belvedereref22_once.f x12).bind fun t126 => (some (t126, x14))) else ((belvedereref22_once.f x0).bind fun t129 => (some (t129, mx x1 0))))
def belvedereref22_Choose.j1 : Nat → List Int → Int → List (S28) → Int → Int → List Int → Bool → Int → Int → Bool → Int → Int → Int → List Int → Int → Option (List Int × Int)
  | 0, _, _, _, _, _, _, _, _, _, _, _, _, _, _, _ => none
  | k + 1, x0, x1, x2, x3, x4, x12, x13, x14, x15, x47, x123000, x123001, x123002, x123003, x123004 => if x47 = true then (if x12.length + x123003.length < 17592186044416 then ((some (x12 ++ x123003 : List Int)).bind fun y123 => (if x123004 > 0 then (if x14 = 0 then (belvedereref22_Choose.l0 k x0 x1 x2 x3 x4 y123 true x123004 (wrap64 (x15 + 1))) else (if x123004 < x14 then (belvedereref22_Choose.l0 k x0 x1 x2 x3 x4 y123 true x123004 (wrap64 (x15 + 1))) else (belvedereref22_Choose.l0 k x0 x1 x2 x3 x4 y123 true x14 (wrap64 (x15 + 1))))) else (belvedereref22_Choose.l0 k x0 x1 x2 x3 x4 y123 true x14 (wrap64 (x15 + 1))))) else (none)) else (belvedereref22_Choose.l0 k x0 x1 x2 x3 x4 x12 x13 x14 (wrap64 (x15 + 1)))
end
def belvedereref22_Choose.f (k : Nat) (l0 : List Int) (a1 : Int) (l2 : List (S28)) (a3 : Int) (a4 : Int) : Option (List Int × Int) := belvedereref22_Choose.l0 k l0 a1 l2 a3 a4 ([] : List Int) false 0 0
theorem belvedereref22_Choose.mono_l : ∀ k, (∀ y0 y1 y2 y3 y4 y5 y6 y7 y8, LeO (belvedereref22_Choose.l0 k y0 y1 y2 y3 y4 y5 y6 y7 y8) (belvedereref22_Choose.l0 (k + 1) y0 y1 y2 y3 y4 y5 y6 y7 y8)) ∧ (∀ y0 y1 y2 y3 y4 y5 y6 y7 y8 y9 y10 y11 y12 y13 y14, LeO (belvedereref22_Choose.j1 k y0 y1 y2 y3 y4 y5 y6 y7 y8 y9 y10 y11 y12 y13 y14) (belvedereref22_Choose.j1 (k + 1) y0 y1 y2 y3 y4 y5 y6 y7 y8 y9 y10 y11 y12 y13 y14))
  | 0 => ⟨fun _ _ _ _ _ _ _ _ _ r h => by simp [belvedereref22_Choose.l0] at h, fun _ _ _ _ _ _ _ _ _ _ _ _ _ _ _ r h => by simp [belvedereref22_Choose.j1] at h⟩
  | k + 1 => by
    obtain ⟨ih0, ih1⟩ := belvedereref22_Choose.mono_l k
    refine ⟨?_, ?_⟩
    · intro y0 y1 y2 y3 y4 y5 y6 y7 y8
      unfold belvedereref22_Choose.l0
      repeat' first
      | (with_reducible exact ih0 _ _ _ _ _ _ _ _ _)
      | (with_reducible exact ih1 _ _ _ _ _ _ _ _ _ _ _ _ _ _ _)
      | (with_reducible exact LeO.refl _)
      | (with_reducible exact LeO.none _)
      | (with_reducible refine LeO.ite ?_ ?_)
      | (with_reducible refine LeO.bind ?_ (fun _ => ?_))
      | exact ih0 _ _ _ _ _ _ _ _ _
      | exact ih1 _ _ _ _ _ _ _ _ _ _ _ _ _ _ _
      | exact LeO.none _
      | refine LeO.ite ?_ ?_
      | refine LeO.bind ?_ (fun _ => ?_)
    · intro y0 y1 y2 y3 y4 y5 y6 y7 y8 y9 y10 y11 y12 y13 y14
      unfold belvedereref22_Choose.j1
      repeat' first
      | (with_reducible exact ih0 _ _ _ _ _ _ _ _ _)
      | (with_reducible exact ih1 _ _ _ _ _ _ _ _ _ _ _ _ _ _ _)
      | (with_reducible exact LeO.refl _)
      | (with_reducible exact LeO.none _)
      | (with_reducible refine LeO.ite ?_ ?_)
      | (with_reducible refine LeO.bind ?_ (fun _ => ?_))
      | exact ih0 _ _ _ _ _ _ _ _ _
      | exact ih1 _ _ _ _ _ _ _ _ _ _ _ _ _ _ _
      | exact LeO.none _
      | refine LeO.ite ?_ ?_
      | refine LeO.bind ?_ (fun _ => ?_)
theorem belvedereref22_Choose.mono : ∀ a0 a1 a2 a3 a4 k, LeO (belvedereref22_Choose.f k a0 a1 a2 a3 a4) (belvedereref22_Choose.f (k + 1) a0 a1 a2 a3 a4) := by
  intro a0 a1 a2 a3 a4 k
  obtain ⟨ih0, ih1⟩ := belvedereref22_Choose.mono_l k
  unfold belvedereref22_Choose.f
  repeat' first
      | (with_reducible exact ih0 _ _ _ _ _ _ _ _ _)
      | (with_reducible exact ih1 _ _ _ _ _ _ _ _ _ _ _ _ _ _ _)
      | (with_reducible exact LeO.refl _)
      | (with_reducible exact LeO.none _)
      | (with_reducible refine LeO.ite ?_ ?_)
      | (with_reducible refine LeO.bind ?_ (fun _ => ?_))
      | exact ih0 _ _ _ _ _ _ _ _ _
      | exact ih1 _ _ _ _ _ _ _ _ _ _ _ _ _ _ _
      | exact LeO.none _
      | refine LeO.ite ?_ ?_
      | refine LeO.bind ?_ (fun _ => ?_)
set_option maxHeartbeats 8000000 in
set_option maxRecDepth 100000 in
theorem belvedereref22_Choose.calls (k : Nat) (A0 : Option Addr) (c0 : Nat) (l0 : List Int) (a1 : Int) (A2 : Option Addr) (c2 : Nat) (l2 : List (S28)) (a3 : Int) (a4 : Int) (r1 : List Int) (r2 : Int) (w : World) (hr0 : Kd.C (Kd.int .i64) w A0 l0.length l0) (hc0 : l0.length ≤ c0) (hr2 : Kd.C k28 w A2 l2.length l2) (hc2 : l2.length ≤ c2) (h : belvedereref22_Choose.f k l0 a1 l2 a3 a4 = some (r1, r2)) :
    Calls Tryd.prog 8 #[.slice A0 l0.length c0, .int .i64 a1, .slice A2 l2.length c2, .int .i64 a3, .int .i64 a4] w fun e w' => ∃ v0_ : Value, e = .returned (.tuple #[v0_, .int .i64 r2]) ∧ Kd.R (Kd.int .i64) 3 w' w.heap.size (fun _ => True) v0_ r1 ∧ Below w.heap.size w w' := by
  have hu28 := Tryd.underlying28
  have HR0 := Aside0.mk hr0
  have HC0 := Aside0.mk hc0
  clear hr0 hc0
  have HR2 := Aside0.mk hr2
  have HC2 := Aside0.mk hc2
  clear hr2 hc2
  have HB := Aside0.mk (Below.refl w.heap.size w)
  have H : (belvedereref22_Choose.l0 k l0 a1 l2 a3 a4 ([] : List Int) false 0 0) = some (r1, r2) := h
  clear h
  have H' := Aside0.mk H
  clear H
  go_enter Tryd.func8, Tryd.ntmps8
  go_wp2
  go_loopg [12, 13, 14, 15] k (fun kq v12 v13 v14 v15 w' => ∃ (x12_1 : List Int) (x13_1 : Bool) (x14_1 : Int) (x15_1 : Int), v13 = .bool x13_1 ∧ v14 = .int .i64 x14_1 ∧ v15 = .int .i64 x15_1 ∧ Aside0 (belvedereref22_Choose.l0 kq l0 a1 l2 a3 a4 x12_1 x13_1 x14_1 x15_1 = some (r1, r2)) ∧ Aside0 (kq ≤ k) ∧ Aside0 (Kd.R (Kd.int .i64) 3 w' w.heap.size (fun _ => True) v12 x12_1) ∧ Aside0 (Below w.heap.size w w'))
  case atStart => exact ⟨(([] : List Int)), (false), (0), (0), (by first | rfl | (simp; done) | (simp [*]; done)), (by first | rfl | (simp; done) | (simp [*]; done)), (by first | rfl | (simp; done) | (simp [*]; done)), H', ⟨Nat.le_refl _⟩, ⟨by first | exact Kd.R_nil _ _ _ _ _ | exact Kd.N_nil _ _ _ _ _ | exact Kd.V_nil _ _ _ _ _ | exact Kd.Q_nil _ _ _ _ _ | exact Kd.S_nil _ _ _ _ _⟩, ⟨by repeat (first | (with_reducible first | exact HB.out | apply below_alloc | apply pw_below_drewN | apply below_drew1) | exact HB.out)⟩⟩
  case round =>
    clear H'
    try clear c2
    try clear p2
    obtain ⟨x12_1, x13_1, x14_1, x15_1, rfl, rfl, rfl, HA, HK1, HO_12, HB⟩ := hrel
    cases gk with
    | zero => exact absurd HA.out (by simp [belvedereref22_Choose.l0])
    | succ k1 =>
      have H := HA.out
      clear HA
      simp only [belvedereref22_Choose.l0] at H
      by_cases c6 : x15_1 < (l2.length : Int)
      · rw [if_pos c6] at H
        have c6b0 : decide (x15_1 < (l2.length : Int)) = true := decide_eq_true c6
        clear c6
        by_cases c7 : 0 ≤ x15_1
        · rw [if_pos c7] at H
          have c7b0 : decide (0 ≤ x15_1) = true := decide_eq_true c7
          clear c7
          have HC8 := Aside0.mk H
          clear H
          have p121 : 0 ≤ (x15_1 : Int) := of_decide_eq_true (by first | (with_reducible assumption) | assumption)
          have q121 : x15_1 < (l2.length : Int) := of_decide_eq_true (by first | (with_reducible assumption) | assumption)
          obtain ⟨ad121, A121_3, c121_3, e121, hx121_0, hx121_1, hx121_2, hx121_3, hx121_4, hl121_3, hi121_3⟩ := at_T28 HR2.out x15_1 p121 q121
          cases e121
          replace hx121_0 := (HB.out.cell (World.block_lt_of_cell? w _ hx121_0)).trans hx121_0
          replace hx121_1 := (HB.out.cell (World.block_lt_of_cell? w _ hx121_1)).trans hx121_1
          replace hx121_2 := (HB.out.cell (World.block_lt_of_cell? w _ hx121_2)).trans hx121_2
          replace hx121_3 := (HB.out.cell (World.block_lt_of_cell? w _ hx121_3)).trans hx121_3
          replace hx121_4 := (HB.out.cell (World.block_lt_of_cell? w _ hx121_4)).trans hx121_4
          have HR121_3 := Aside0.mk hi121_3
          have HC121_3 := Aside0.mk hl121_3
          clear hi121_3 hl121_3
          replace p121 := eq_true p121
          replace q121 := eq_true q121
          go_upto_region 7 with (first | ((with_reducible refine gate_dst (N := 16) rfl ?_); refine box_event ?hg (N := 16) ?hd (cs := #[.int .i64 0, .int .i64 0, .int .i64 0, .slice none 0 0, .int .i64 0]) (t := 28) ?hr ?_; (case hd => rfl); (case hg => rfl); (case hr => first | (go_simp; done) | (go_simp; rfl)); intro gb122 hg w9 hbox hb; have n0_ := Aside0.mk (Kd.R_below (by (with_reducible repeat (first | apply Kd.R_alloc | apply Kd.R_drewN | apply Kd.R_drew)); exact HO_12.out) hb); have n1_ := Aside0.mk (below_step (by repeat (first | (with_reducible first | exact HB.out | apply below_alloc | apply pw_below_drewN | apply below_drew1) | exact HB.out)) hb); have n2_ := Aside0.mk (hbox); have n3_ := Aside0.mk ((by rw [hg]; exact (below_size (by repeat (first | (with_reducible first | exact HB.out | apply below_alloc | apply pw_below_drewN | apply below_drew1) | exact HB.out))) : w.heap.size ≤ gb122)); have n4_ := Aside0.mk ((by rw [hg]; exact (below_size (by repeat (first | (with_reducible first | exact HB.out | apply below_alloc | apply pw_below_drewN | apply below_drew1) | exact HB.out))) : w.heap.size ≤ gb122)); clear HO_12; clear HB; have HO_12 := n0_; have HB := n1_; have BK122 := n2_; have GW122 := n3_; have GE122 := n4_; clear n0_ n1_ n2_ n3_ n4_; clear hb hbox hg; have hcz10_0 : w9.cell? ⟨gb122, 0, none⟩ = some (.int .i64 0) := (blk_cell BK122.out 0).trans rfl; have hcz10_1 : w9.cell? ⟨gb122, 1, none⟩ = some (.int .i64 0) := (blk_cell BK122.out 1).trans rfl; have hcz10_2 : w9.cell? ⟨gb122, 2, none⟩ = some (.int .i64 0) := (blk_cell BK122.out 2).trans rfl; have hcz10_3 : w9.cell? ⟨gb122, 3, none⟩ = some (.slice none 0 0) := (blk_cell BK122.out 3).trans rfl; have hcz10_4 : w9.cell? ⟨gb122, 4, none⟩ = some (.int .i64 0) := (blk_cell BK122.out 4).trans rfl; have hfz10_0 := blk_frozen BK122.out 0; have hfz10_1 := blk_frozen BK122.out 1; have hfz10_2 := blk_frozen BK122.out 2; have hfz10_3 := blk_frozen BK122.out 3; have hfz10_4 := blk_frozen BK122.out 4))
          (try simp only [Act.put, List.setIfInBounds_toArray, List.set_cons_zero, List.set_cons_succ])
          go_cut [47] (fun v47 wc => ∃ (kq : Nat) (x47_7 : Bool), v47 = .bool x47_7 ∧ Aside0 (belvedereref22_Choose.j1 kq l0 a1 l2 a3 a4 x12_1 x13_1 x14_1 x15_1 x47_7 ((rd_T28 l2 x15_1).f0) ((rd_T28 l2 x15_1).f1) ((rd_T28 l2 x15_1).f2) ((rd_T28 l2 x15_1).f3) ((rd_T28 l2 x15_1).f4) = some (r1, r2)) ∧ Aside0 (kq ≤ k1) ∧ Aside0 (Kd.R (Kd.int .i64) 3 wc w.heap.size (fun _ => True) u12 x12_1) ∧ Aside0 (wc.heap[gb122]? = some (.cells #[.int .i64 ((rd_T28 l2 x15_1).f0), .int .i64 ((rd_T28 l2 x15_1).f1), .int .i64 ((rd_T28 l2 x15_1).f2), (.slice A121_3 ((rd_T28 l2 x15_1).f3).length c121_3), .int .i64 ((rd_T28 l2 x15_1).f4)] 28 (0, 0))) ∧ Aside0 (Below w.heap.size w wc))
          case first =>
            have H := HC8.out
            clear HC8
            by_cases c11 : ((rd_T28 l2 x15_1).f0) = a3
            · rw [if_pos c11] at H
              have c11b0 : (((rd_T28 l2 x15_1).f0) == a3) = true := beq_iff_eq.mpr c11
              have c11b1 : (((rd_T28 l2 x15_1).f0) != a3) = false := bne_eq_false_iff_eq.mpr c11
              clear c11
              (first | rw [c11b0] | (simp only [i64_w, i32_w]; rw [c11b0]) | skip)
              by_cases c12 : ((rd_T28 l2 x15_1).f1) ≤ a4
              · rw [if_pos c12] at H
                have c12b0 : decide (((rd_T28 l2 x15_1).f1) ≤ a4) = true := decide_eq_true c12
                clear c12
                by_cases c13 : ((rd_T28 l2 x15_1).f2) = 0
                · rw [if_pos c13] at H
                  have c13b0 : (((rd_T28 l2 x15_1).f2) == 0) = true := beq_iff_eq.mpr c13
                  have c13b1 : (((rd_T28 l2 x15_1).f2) != 0) = false := bne_eq_false_iff_eq.mpr c13
                  clear c13
                  have H' := Aside0.mk H
                  clear H
                  have hcz14_0 : w9.cell? ⟨gb122, 0, none⟩ = some (.int .i64 0) := (blk_cell BK122.out 0).trans rfl
                  have hcz14_1 : w9.cell? ⟨gb122, 1, none⟩ = some (.int .i64 0) := (blk_cell BK122.out 1).trans rfl
                  have hcz14_2 : w9.cell? ⟨gb122, 2, none⟩ = some (.int .i64 0) := (blk_cell BK122.out 2).trans rfl
                  have hcz14_3 : w9.cell? ⟨gb122, 3, none⟩ = some (.slice none 0 0) := (blk_cell BK122.out 3).trans rfl
                  have hcz14_4 : w9.cell? ⟨gb122, 4, none⟩ = some (.int .i64 0) := (blk_cell BK122.out 4).trans rfl
                  have hfz14_0 := blk_frozen BK122.out 0
                  have hfz14_1 := blk_frozen BK122.out 1
                  have hfz14_2 := blk_frozen BK122.out 2
                  have hfz14_3 := blk_frozen BK122.out 3
                  have hfz14_4 := blk_frozen BK122.out 4
                  go_wp2
                  go_meet
                  case rel => exact ⟨_, (true), (by first | rfl | (simp; done) | (simp [*]; done)), H', ⟨by have := HK1.out; first | omega | exact Nat.le_refl _⟩, ⟨by (with_reducible repeat (first | apply Kd.R_alloc | apply Kd.R_drewN | apply Kd.R_drew)); exact Kd.R_mono (Kd.R_far (p := ⟨gb122, 4, none⟩) (Kd.R_far (p := ⟨gb122, 3, none⟩) (Kd.R_far (p := ⟨gb122, 2, none⟩) (Kd.R_far (p := ⟨gb122, 1, none⟩) (Kd.R_far (p := ⟨gb122, 0, none⟩) (Kd.R_types HO_12.out BK122.out (by decide)) (fun _ hk => hk.2) (.int .i64 ((rd_T28 l2 x15_1).f0))) (fun _ hk => hk.2) (.int .i64 ((rd_T28 l2 x15_1).f1))) (fun _ hk => hk.2) (.int .i64 ((rd_T28 l2 x15_1).f2))) (fun _ hk => hk.2) (.slice A121_3 ((rd_T28 l2 x15_1).f3).length c121_3)) (fun _ hk => hk.2) (.int .i64 ((rd_T28 l2 x15_1).f4))) (fun _ hk => trivial)⟩, ⟨by (with_reducible repeat (first | refine blk_drewN ?_ _ | refine blk_drew ?_ | refine blk_alloc ?_ _)); refine blk_put (cs := #[.int .i64 ((rd_T28 l2 x15_1).f0), .int .i64 ((rd_T28 l2 x15_1).f1), .int .i64 ((rd_T28 l2 x15_1).f2), .slice A121_3 ((rd_T28 l2 x15_1).f3).length c121_3, .int .i64 0]) ?_ 4 _ rfl; (with_reducible repeat (first | refine blk_drewN ?_ _ | refine blk_drew ?_ | refine blk_alloc ?_ _)); refine blk_put (cs := #[.int .i64 ((rd_T28 l2 x15_1).f0), .int .i64 ((rd_T28 l2 x15_1).f1), .int .i64 ((rd_T28 l2 x15_1).f2), .slice none 0 0, .int .i64 0]) ?_ 3 _ rfl; (with_reducible repeat (first | refine blk_drewN ?_ _ | refine blk_drew ?_ | refine blk_alloc ?_ _)); refine blk_put (cs := #[.int .i64 ((rd_T28 l2 x15_1).f0), .int .i64 ((rd_T28 l2 x15_1).f1), .int .i64 0, .slice none 0 0, .int .i64 0]) ?_ 2 _ rfl; (with_reducible repeat (first | refine blk_drewN ?_ _ | refine blk_drew ?_ | refine blk_alloc ?_ _)); refine blk_put (cs := #[.int .i64 ((rd_T28 l2 x15_1).f0), .int .i64 0, .int .i64 0, .slice none 0 0, .int .i64 0]) ?_ 1 _ rfl; (with_reducible repeat (first | refine blk_drewN ?_ _ | refine blk_drew ?_ | refine blk_alloc ?_ _)); refine blk_put (cs := #[.int .i64 0, .int .i64 0, .int .i64 0, .slice none 0 0, .int .i64 0]) ?_ 0 _ rfl; (with_reducible repeat (first | refine blk_drewN ?_ _ | refine blk_drew ?_ | refine blk_alloc ?_ _)); exact BK122.out⟩, ⟨by repeat (first | (with_reducible first | exact HB.out | apply below_alloc | apply pw_below_drewN | apply below_drew1 | refine below_set ?_ GE122.out) | exact HB.out)⟩⟩
                · rw [if_neg c13] at H
                  have c13b0 : (((rd_T28 l2 x15_1).f2) == 0) = false := beq_eq_false_iff_ne.mpr c13
                  have c13b1 : (((rd_T28 l2 x15_1).f2) != 0) = true := bne_iff_ne.mpr c13
                  have H' := Aside0.mk H
                  clear H
                  have hcz15_0 : w9.cell? ⟨gb122, 0, none⟩ = some (.int .i64 0) := (blk_cell BK122.out 0).trans rfl
                  have hcz15_1 : w9.cell? ⟨gb122, 1, none⟩ = some (.int .i64 0) := (blk_cell BK122.out 1).trans rfl
                  have hcz15_2 : w9.cell? ⟨gb122, 2, none⟩ = some (.int .i64 0) := (blk_cell BK122.out 2).trans rfl
                  have hcz15_3 : w9.cell? ⟨gb122, 3, none⟩ = some (.slice none 0 0) := (blk_cell BK122.out 3).trans rfl
                  have hcz15_4 : w9.cell? ⟨gb122, 4, none⟩ = some (.int .i64 0) := (blk_cell BK122.out 4).trans rfl
                  have hfz15_0 := blk_frozen BK122.out 0
                  have hfz15_1 := blk_frozen BK122.out 1
                  have hfz15_2 := blk_frozen BK122.out 2
                  have hfz15_3 := blk_frozen BK122.out 3
                  have hfz15_4 := blk_frozen BK122.out 4
                  go_wp2
                  go_meet
                  case rel => exact ⟨_, (decide (a4 ≤ ((rd_T28 l2 x15_1).f2))), (by first | rfl | (simp; done) | (simp [*]; done)), H', ⟨by have := HK1.out; first | omega | exact Nat.le_refl _⟩, ⟨by (with_reducible repeat (first | apply Kd.R_alloc | apply Kd.R_drewN | apply Kd.R_drew)); exact Kd.R_mono (Kd.R_far (p := ⟨gb122, 4, none⟩) (Kd.R_far (p := ⟨gb122, 3, none⟩) (Kd.R_far (p := ⟨gb122, 2, none⟩) (Kd.R_far (p := ⟨gb122, 1, none⟩) (Kd.R_far (p := ⟨gb122, 0, none⟩) (Kd.R_types HO_12.out BK122.out (by decide)) (fun _ hk => hk.2) (.int .i64 ((rd_T28 l2 x15_1).f0))) (fun _ hk => hk.2) (.int .i64 ((rd_T28 l2 x15_1).f1))) (fun _ hk => hk.2) (.int .i64 ((rd_T28 l2 x15_1).f2))) (fun _ hk => hk.2) (.slice A121_3 ((rd_T28 l2 x15_1).f3).length c121_3)) (fun _ hk => hk.2) (.int .i64 ((rd_T28 l2 x15_1).f4))) (fun _ hk => trivial)⟩, ⟨by (with_reducible repeat (first | refine blk_drewN ?_ _ | refine blk_drew ?_ | refine blk_alloc ?_ _)); refine blk_put (cs := #[.int .i64 ((rd_T28 l2 x15_1).f0), .int .i64 ((rd_T28 l2 x15_1).f1), .int .i64 ((rd_T28 l2 x15_1).f2), .slice A121_3 ((rd_T28 l2 x15_1).f3).length c121_3, .int .i64 0]) ?_ 4 _ rfl; (with_reducible repeat (first | refine blk_drewN ?_ _ | refine blk_drew ?_ | refine blk_alloc ?_ _)); refine blk_put (cs := #[.int .i64 ((rd_T28 l2 x15_1).f0), .int .i64 ((rd_T28 l2 x15_1).f1), .int .i64 ((rd_T28 l2 x15_1).f2), .slice none 0 0, .int .i64 0]) ?_ 3 _ rfl; (with_reducible repeat (first | refine blk_drewN ?_ _ | refine blk_drew ?_ | refine blk_alloc ?_ _)); refine blk_put (cs := #[.int .i64 ((rd_T28 l2 x15_1).f0), .int .i64 ((rd_T28 l2 x15_1).f1), .int .i64 0, .slice none 0 0, .int .i64 0]) ?_ 2 _ rfl; (with_reducible repeat (first | refine blk_drewN ?_ _ | refine blk_drew ?_ | refine blk_alloc ?_ _)); refine blk_put (cs := #[.int .i64 ((rd_T28 l2 x15_1).f0), .int .i64 0, .int .i64 0, .slice none 0 0, .int .i64 0]) ?_ 1 _ rfl; (with_reducible repeat (first | refine blk_drewN ?_ _ | refine blk_drew ?_ | refine blk_alloc ?_ _)); refine blk_put (cs := #[.int .i64 0, .int .i64 0, .int .i64 0, .slice none 0 0, .int .i64 0]) ?_ 0 _ rfl; (with_reducible repeat (first | refine blk_drewN ?_ _ | refine blk_drew ?_ | refine blk_alloc ?_ _)); exact BK122.out⟩, ⟨by repeat (first | (with_reducible first | exact HB.out | apply below_alloc | apply pw_below_drewN | apply below_drew1 | refine below_set ?_ GE122.out) | exact HB.out)⟩⟩
              · rw [if_neg c12] at H
                have c12b0 : decide (((rd_T28 l2 x15_1).f1) ≤ a4) = false := decide_eq_false c12
                clear c12
                have H' := Aside0.mk H
                clear H
                have hcz16_0 : w9.cell? ⟨gb122, 0, none⟩ = some (.int .i64 0) := (blk_cell BK122.out 0).trans rfl
                have hcz16_1 : w9.cell? ⟨gb122, 1, none⟩ = some (.int .i64 0) := (blk_cell BK122.out 1).trans rfl
                have hcz16_2 : w9.cell? ⟨gb122, 2, none⟩ = some (.int .i64 0) := (blk_cell BK122.out 2).trans rfl
                have hcz16_3 : w9.cell? ⟨gb122, 3, none⟩ = some (.slice none 0 0) := (blk_cell BK122.out 3).trans rfl
                have hcz16_4 : w9.cell? ⟨gb122, 4, none⟩ = some (.int .i64 0) := (blk_cell BK122.out 4).trans rfl
                have hfz16_0 := blk_frozen BK122.out 0
                have hfz16_1 := blk_frozen BK122.out 1
                have hfz16_2 := blk_frozen BK122.out 2
                have hfz16_3 := blk_frozen BK122.out 3
                have hfz16_4 := blk_frozen BK122.out 4
                go_wp2
                go_meet
                case rel => exact ⟨_, (false), (by first | rfl | (simp; done) | (simp [*]; done)), H', ⟨by have := HK1.out; first | omega | exact Nat.le_refl _⟩, ⟨by (with_reducible repeat (first | apply Kd.R_alloc | apply Kd.R_drewN | apply Kd.R_drew)); exact Kd.R_mono (Kd.R_far (p := ⟨gb122, 4, none⟩) (Kd.R_far (p := ⟨gb122, 3, none⟩) (Kd.R_far (p := ⟨gb122, 2, none⟩) (Kd.R_far (p := ⟨gb122, 1, none⟩) (Kd.R_far (p := ⟨gb122, 0, none⟩) (Kd.R_types HO_12.out BK122.out (by decide)) (fun _ hk => hk.2) (.int .i64 ((rd_T28 l2 x15_1).f0))) (fun _ hk => hk.2) (.int .i64 ((rd_T28 l2 x15_1).f1))) (fun _ hk => hk.2) (.int .i64 ((rd_T28 l2 x15_1).f2))) (fun _ hk => hk.2) (.slice A121_3 ((rd_T28 l2 x15_1).f3).length c121_3)) (fun _ hk => hk.2) (.int .i64 ((rd_T28 l2 x15_1).f4))) (fun _ hk => trivial)⟩, ⟨by (with_reducible repeat (first | refine blk_drewN ?_ _ | refine blk_drew ?_ | refine blk_alloc ?_ _)); refine blk_put (cs := #[.int .i64 ((rd_T28 l2 x15_1).f0), .int .i64 ((rd_T28 l2 x15_1).f1), .int .i64 ((rd_T28 l2 x15_1).f2), .slice A121_3 ((rd_T28 l2 x15_1).f3).length c121_3, .int .i64 0]) ?_ 4 _ rfl; (with_reducible repeat (first | refine blk_drewN ?_ _ | refine blk_drew ?_ | refine blk_alloc ?_ _)); refine blk_put (cs := #[.int .i64 ((rd_T28 l2 x15_1).f0), .int .i64 ((rd_T28 l2 x15_1).f1), .int .i64 ((rd_T28 l2 x15_1).f2), .slice none 0 0, .int .i64 0]) ?_ 3 _ rfl; (with_reducible repeat (first | refine blk_drewN ?_ _ | refine blk_drew ?_ | refine blk_alloc ?_ _)); refine blk_put (cs := #[.int .i64 ((rd_T28 l2 x15_1).f0), .int .i64 ((rd_T28 l2 x15_1).f1), .int .i64 0, .slice none 0 0, .int .i64 0]) ?_ 2 _ rfl; (with_reducible repeat (first | refine blk_drewN ?_ _ | refine blk_drew ?_ | refine blk_alloc ?_ _)); refine blk_put (cs := #[.int .i64 ((rd_T28 l2 x15_1).f0), .int .i64 0, .int .i64 0, .slice none 0 0, .int .i64 0]) ?_ 1 _ rfl; (with_reducible repeat (first | refine blk_drewN ?_ _ | refine blk_drew ?_ | refine blk_alloc ?_ _)); refine blk_put (cs := #[.int .i64 0, .int .i64 0, .int .i64 0, .slice none 0 0, .int .i64 0]) ?_ 0 _ rfl; (with_reducible repeat (first | refine blk_drewN ?_ _ | refine blk_drew ?_ | refine blk_alloc ?_ _)); exact BK122.out⟩, ⟨by repeat (first | (with_reducible first | exact HB.out | apply below_alloc | apply pw_below_drewN | apply below_drew1 | refine below_set ?_ GE122.out) | exact HB.out)⟩⟩
            · rw [if_neg c11] at H
              have c11b0 : (((rd_T28 l2 x15_1).f0) == a3) = false := beq_eq_false_iff_ne.mpr c11
              have c11b1 : (((rd_T28 l2 x15_1).f0) != a3) = true := bne_iff_ne.mpr c11
              (first | rw [c11b0] | (simp only [i64_w, i32_w]; rw [c11b0]) | skip)
              have H' := Aside0.mk H
              clear H
              have hcz17_0 : w9.cell? ⟨gb122, 0, none⟩ = some (.int .i64 0) := (blk_cell BK122.out 0).trans rfl
              have hcz17_1 : w9.cell? ⟨gb122, 1, none⟩ = some (.int .i64 0) := (blk_cell BK122.out 1).trans rfl
              have hcz17_2 : w9.cell? ⟨gb122, 2, none⟩ = some (.int .i64 0) := (blk_cell BK122.out 2).trans rfl
              have hcz17_3 : w9.cell? ⟨gb122, 3, none⟩ = some (.slice none 0 0) := (blk_cell BK122.out 3).trans rfl
              have hcz17_4 : w9.cell? ⟨gb122, 4, none⟩ = some (.int .i64 0) := (blk_cell BK122.out 4).trans rfl
              have hfz17_0 := blk_frozen BK122.out 0
              have hfz17_1 := blk_frozen BK122.out 1
              have hfz17_2 := blk_frozen BK122.out 2
              have hfz17_3 := blk_frozen BK122.out 3
              have hfz17_4 := blk_frozen BK122.out 4
              go_wp2
              go_meet
              case rel => exact ⟨_, (false), (by first | rfl | (simp; done) | (simp [*]; done)), H', ⟨by have := HK1.out; first | omega | exact Nat.le_refl _⟩, ⟨by (with_reducible repeat (first | apply Kd.R_alloc | apply Kd.R_drewN | apply Kd.R_drew)); exact Kd.R_mono (Kd.R_far (p := ⟨gb122, 4, none⟩) (Kd.R_far (p := ⟨gb122, 3, none⟩) (Kd.R_far (p := ⟨gb122, 2, none⟩) (Kd.R_far (p := ⟨gb122, 1, none⟩) (Kd.R_far (p := ⟨gb122, 0, none⟩) (Kd.R_types HO_12.out BK122.out (by decide)) (fun _ hk => hk.2) (.int .i64 ((rd_T28 l2 x15_1).f0))) (fun _ hk => hk.2) (.int .i64 ((rd_T28 l2 x15_1).f1))) (fun _ hk => hk.2) (.int .i64 ((rd_T28 l2 x15_1).f2))) (fun _ hk => hk.2) (.slice A121_3 ((rd_T28 l2 x15_1).f3).length c121_3)) (fun _ hk => hk.2) (.int .i64 ((rd_T28 l2 x15_1).f4))) (fun _ hk => trivial)⟩, ⟨by (with_reducible repeat (first | refine blk_drewN ?_ _ | refine blk_drew ?_ | refine blk_alloc ?_ _)); refine blk_put (cs := #[.int .i64 ((rd_T28 l2 x15_1).f0), .int .i64 ((rd_T28 l2 x15_1).f1), .int .i64 ((rd_T28 l2 x15_1).f2), .slice A121_3 ((rd_T28 l2 x15_1).f3).length c121_3, .int .i64 0]) ?_ 4 _ rfl; (with_reducible repeat (first | refine blk_drewN ?_ _ | refine blk_drew ?_ | refine blk_alloc ?_ _)); refine blk_put (cs := #[.int .i64 ((rd_T28 l2 x15_1).f0), .int .i64 ((rd_T28 l2 x15_1).f1), .int .i64 ((rd_T28 l2 x15_1).f2), .slice none 0 0, .int .i64 0]) ?_ 3 _ rfl; (with_reducible repeat (first | refine blk_drewN ?_ _ | refine blk_drew ?_ | refine blk_alloc ?_ _)); refine blk_put (cs := #[.int .i64 ((rd_T28 l2 x15_1).f0), .int .i64 ((rd_T28 l2 x15_1).f1), .int .i64 0, .slice none 0 0, .int .i64 0]) ?_ 2 _ rfl; (with_reducible repeat (first | refine blk_drewN ?_ _ | refine blk_drew ?_ | refine blk_alloc ?_ _)); refine blk_put (cs := #[.int .i64 ((rd_T28 l2 x15_1).f0), .int .i64 0, .int .i64 0, .slice none 0 0, .int .i64 0]) ?_ 1 _ rfl; (with_reducible repeat (first | refine blk_drewN ?_ _ | refine blk_drew ?_ | refine blk_alloc ?_ _)); refine blk_put (cs := #[.int .i64 0, .int .i64 0, .int .i64 0, .slice none 0 0, .int .i64 0]) ?_ 0 _ rfl; (with_reducible repeat (first | refine blk_drewN ?_ _ | refine blk_drew ?_ | refine blk_alloc ?_ _)); exact BK122.out⟩, ⟨by repeat (first | (with_reducible first | exact HB.out | apply below_alloc | apply pw_below_drewN | apply below_drew1 | refine below_set ?_ GE122.out) | exact HB.out)⟩⟩
          case rest =>
            clear HC8
            try clear c1
            try clear p1
            try clear q1
            try clear hx1
            try clear c2
            try clear p2
            try clear c6
            try clear c6b0
            try clear c7
            try clear c7b0
            try clear c8
            try clear c11
            try clear c11b0
            try clear c11b1
            try clear c12
            try clear c12b0
            try clear p12
            try clear q12
            try clear hx12
            try clear c13
            try clear c13b0
            try clear c13b1
            try clear hcz10_0
            try clear hcz10_1
            try clear hcz10_2
            try clear hcz10_3
            try clear hcz10_4
            try clear hcz14_0
            try clear hcz14_1
            try clear hcz14_2
            try clear hcz14_3
            try clear hcz14_4
            try clear hcz15_0
            try clear hcz15_1
            try clear hcz15_2
            try clear hcz15_3
            try clear hcz15_4
            try clear hcz16_0
            try clear hcz16_1
            try clear hcz16_2
            try clear hcz16_3
            try clear hcz16_4
            try clear hcz17_0
            try clear hcz17_1
            try clear hcz17_2
            try clear hcz17_3
            try clear hcz17_4
            try clear hfz10_0
            try clear hfz10_1
            try clear hfz10_2
            try clear hfz10_3
            try clear hfz10_4
            try clear hfz14_0
            try clear hfz14_1
            try clear hfz14_2
            try clear hfz14_3
            try clear hfz14_4
            try clear hfz15_0
            try clear hfz15_1
            try clear hfz15_2
            try clear hfz15_3
            try clear hfz15_4
            try clear hfz16_0
            try clear hfz16_1
            try clear hfz16_2
            try clear hfz16_3
            try clear hfz16_4
            try clear hfz17_0
            try clear hfz17_1
            try clear hfz17_2
            try clear hfz17_3
            try clear hfz17_4
            try clear hx121_0
            try clear hx121_1
            try clear hx121_2
            try clear hx121_3
            try clear hx121_4
            try clear p121
            try clear p2
            try clear q121
            obtain ⟨kq, x47_7, rfl, HA, HJ7, HO_12, BK122, HB⟩ := hcut
            cases kq with
            | zero => exact absurd HA.out (by simp [belvedereref22_Choose.j1])
            | succ kj7 =>
              have H := HA.out
              clear HA
              simp only [belvedereref22_Choose.j1] at H
              by_cases c18 : x47_7 = true
              · subst c18
                have H1 : (if x12_1.length + ((rd_T28 l2 x15_1).f3).length < 17592186044416 then ((some (x12_1 ++ ((rd_T28 l2 x15_1).f3) : List Int)).bind fun y123 => (if ((rd_T28 l2 x15_1).f4) > 0 then (if x14_1 = 0 then (belvedereref22_Choose.l0 kj7 l0 a1 l2 a3 a4 y123 true ((rd_T28 l2 x15_1).f4) (wrap64 (x15_1 + 1))) else (if ((rd_T28 l2 x15_1).f4) < x14_1 then (belvedereref22_Choose.l0 kj7 l0 a1 l2 a3 a4 y123 true ((rd_T28 l2 x15_1).f4) (wrap64 (x15_1 + 1))) else (belvedereref22_Choose.l0 kj7 l0 a1 l2 a3 a4 y123 true x14_1 (wrap64 (x15_1 + 1))))) else (belvedereref22_Choose.l0 kj7 l0 a1 l2 a3 a4 y123 true x14_1 (wrap64 (x15_1 + 1))))) else (none)) = some (r1, r2) := by rw [if_pos rfl] at H; exact H
                clear H
                have H := H1
                clear H1
                by_cases c19 : x12_1.length + ((rd_T28 l2 x15_1).f3).length < 17592186044416
                · rw [if_pos c19] at H
                  have LMc19 := Aside0.mk c19
                  clear c19
                  obtain ⟨y123, hy123⟩ : ∃ y_ : List Int, y_ = (x12_1 ++ ((rd_T28 l2 x15_1).f3)) := ⟨_, rfl⟩
                  replace H : (if ((rd_T28 l2 x15_1).f4) > 0 then (if x14_1 = 0 then (belvedereref22_Choose.l0 kj7 l0 a1 l2 a3 a4 y123 true ((rd_T28 l2 x15_1).f4) (wrap64 (x15_1 + 1))) else (if ((rd_T28 l2 x15_1).f4) < x14_1 then (belvedereref22_Choose.l0 kj7 l0 a1 l2 a3 a4 y123 true ((rd_T28 l2 x15_1).f4) (wrap64 (x15_1 + 1))) else (belvedereref22_Choose.l0 kj7 l0 a1 l2 a3 a4 y123 true x14_1 (wrap64 (x15_1 + 1))))) else (belvedereref22_Choose.l0 kj7 l0 a1 l2 a3 a4 y123 true x14_1 (wrap64 (x15_1 + 1)))) = some (r1, r2) := by first | (rw [hy123]; with_reducible exact H) | (have H2_ := (Option.bind_some _ _).symm.trans H; rw [hy123]; with_reducible exact H2_) | (have H2_ := (Option.bind_some _ _).symm.trans H; with_reducible exact H2_) | with_reducible exact H | (rw [hy123]; exact H) | exact H
                  have Ny123 := Aside0.mk hy123
                  clear hy123
                  by_cases c20 : ((rd_T28 l2 x15_1).f4) > 0
                  · rw [if_pos c20] at H
                    have c20b0 : decide (0 < ((rd_T28 l2 x15_1).f4)) = true := decide_eq_true c20
                    clear c20
                    by_cases c21 : x14_1 = 0
                    · rw [if_pos c21] at H
                      have c21b0 : (x14_1 == 0) = true := beq_iff_eq.mpr c21
                      have c21b1 : (x14_1 != 0) = false := bne_eq_false_iff_eq.mpr c21
                      clear c21
                      have H' := Aside0.mk H
                      clear H
                      have hcz22_0 : wc.cell? ⟨gb122, 0, none⟩ = some (.int .i64 ((rd_T28 l2 x15_1).f0)) := (blk_cell BK122.out 0).trans rfl
                      have hcz22_1 : wc.cell? ⟨gb122, 1, none⟩ = some (.int .i64 ((rd_T28 l2 x15_1).f1)) := (blk_cell BK122.out 1).trans rfl
                      have hcz22_2 : wc.cell? ⟨gb122, 2, none⟩ = some (.int .i64 ((rd_T28 l2 x15_1).f2)) := (blk_cell BK122.out 2).trans rfl
                      have hcz22_3 : wc.cell? ⟨gb122, 3, none⟩ = some (.slice A121_3 ((rd_T28 l2 x15_1).f3).length c121_3) := (blk_cell BK122.out 3).trans rfl
                      have hcz22_4 : wc.cell? ⟨gb122, 4, none⟩ = some (.int .i64 ((rd_T28 l2 x15_1).f4)) := (blk_cell BK122.out 4).trans rfl
                      have hfz22_0 := blk_frozen BK122.out 0
                      have hfz22_1 := blk_frozen BK122.out 1
                      have hfz22_2 := blk_frozen BK122.out 2
                      have hfz22_3 := blk_frozen BK122.out 3
                      have hfz22_4 := blk_frozen BK122.out 4
                      go_wp2_with (first | ((with_reducible refine gate_builtin (b := .append) (xs := #[.tmp 48, .tmp 50]) rfl ?_); at_builtin; refine Kd.R_append_rows (Kd.int .i64) (w0 := w) w.heap.size rfl (.tmp 48) (.tmp 50) 22 3 (.int .i64 0) 8 rfl Tryd.underlying22 info3 rfl (by decide) (by omega) u12 x12_1 ((rd_T28 l2 x15_1).f3) _ _ _ (fun _ => True) (fun _ => False) rfl rfl ?aO ?aR (fun _ _ h => h) (fun _ h => h.elim) ?aF ?aB ?aS ?aL ?_; (case aR => repeat (first | exact (Kd.C_below HR121_3.out HB.out) | (with_reducible refine Kd.C_alloc ?_ _) | (with_reducible refine Kd.C_drewN ?_ _) | (with_reducible refine Kd.C_drew ?_))); (case aB => exact (by repeat (first | (with_reducible first | exact HB.out | apply below_alloc | apply pw_below_drewN | apply below_drew1 | refine below_set ?_ GE122.out) | exact HB.out))); (case aF => exact (fun _ _ => trivial)); (case aO => exact (by (with_reducible repeat (first | apply Kd.R_alloc | apply Kd.R_drewN | apply Kd.R_drew)); exact HO_12.out)); (case aS => exact (below_size (by repeat (first | (with_reducible first | exact HB.out | apply below_alloc | apply pw_below_drewN | apply below_drew1 | refine below_set ?_ GE122.out) | exact HB.out)))); (case aL => have := LMc19.out; omega); intro v124 w23 ho hb hg hat; rw [← Ny123.out] at ho; have n0_ := Aside0.mk (blk_grown (g := gb122) (o := .cells #[.int .i64 ((rd_T28 l2 x15_1).f0), .int .i64 ((rd_T28 l2 x15_1).f1), .int .i64 ((rd_T28 l2 x15_1).f2), .slice A121_3 ((rd_T28 l2 x15_1).f3).length c121_3, .int .i64 ((rd_T28 l2 x15_1).f4)] 28 (0, 0)) (by (with_reducible repeat (first | refine blk_drewN ?_ _ | refine blk_drew ?_ | refine blk_alloc ?_ _)); exact BK122.out) hg (Kd.R_ne HO_12.out BK122.out (by decide))); have n1_ := Aside0.mk (hb); have n2_ := Aside0.mk (ho); clear BK122; clear HB; clear HO_12; have BK122 := n0_; have HB := n1_; have HO125 := n2_; clear n0_ n1_ n2_; clear ho hb hg hat; have hcz24_0 : w23.cell? ⟨gb122, 0, none⟩ = some (.int .i64 ((rd_T28 l2 x15_1).f0)) := (blk_cell BK122.out 0).trans rfl; have hcz24_1 : w23.cell? ⟨gb122, 1, none⟩ = some (.int .i64 ((rd_T28 l2 x15_1).f1)) := (blk_cell BK122.out 1).trans rfl; have hcz24_2 : w23.cell? ⟨gb122, 2, none⟩ = some (.int .i64 ((rd_T28 l2 x15_1).f2)) := (blk_cell BK122.out 2).trans rfl; have hcz24_3 : w23.cell? ⟨gb122, 3, none⟩ = some (.slice A121_3 ((rd_T28 l2 x15_1).f3).length c121_3) := (blk_cell BK122.out 3).trans rfl; have hcz24_4 : w23.cell? ⟨gb122, 4, none⟩ = some (.int .i64 ((rd_T28 l2 x15_1).f4)) := (blk_cell BK122.out 4).trans rfl; have hfz24_0 := blk_frozen BK122.out 0; have hfz24_1 := blk_frozen BK122.out 1; have hfz24_2 := blk_frozen BK122.out 2; have hfz24_3 := blk_frozen BK122.out 3; have hfz24_4 := blk_frozen BK122.out 4))
                      go_roundg kj7
                      case measure => have := HK1.out; have := HJ7.out; omega
                      case rel => exact ⟨(y123), (true), (((rd_T28 l2 x15_1).f4)), (wrap64 (x15_1 + 1)), (by first | rfl | (simp; done) | (simp [*]; done)), (by first | rfl | (simp; done) | (simp [*]; done)), (by first | rfl | (simp; done) | (simp [*]; done)), H', ⟨by have := HK1.out; have := HJ7.out; omega⟩, ⟨by (with_reducible repeat (first | apply Kd.R_alloc | apply Kd.R_drewN | apply Kd.R_drew)); exact HO125.out⟩, ⟨by repeat (first | (with_reducible first | exact HB.out | apply below_alloc | apply pw_below_drewN | apply below_drew1 | refine below_set ?_ GE122.out) | exact HB.out)⟩⟩
                    · rw [if_neg c21] at H
                      have c21b0 : (x14_1 == 0) = false := beq_eq_false_iff_ne.mpr c21
                      have c21b1 : (x14_1 != 0) = true := bne_iff_ne.mpr c21
                      by_cases c25 : ((rd_T28 l2 x15_1).f4) < x14_1
                      · rw [if_pos c25] at H
                        have c25b0 : decide (((rd_T28 l2 x15_1).f4) < x14_1) = true := decide_eq_true c25
                        clear c25
                        have H' := Aside0.mk H
                        clear H
                        have hcz26_0 : wc.cell? ⟨gb122, 0, none⟩ = some (.int .i64 ((rd_T28 l2 x15_1).f0)) := (blk_cell BK122.out 0).trans rfl
                        have hcz26_1 : wc.cell? ⟨gb122, 1, none⟩ = some (.int .i64 ((rd_T28 l2 x15_1).f1)) := (blk_cell BK122.out 1).trans rfl
                        have hcz26_2 : wc.cell? ⟨gb122, 2, none⟩ = some (.int .i64 ((rd_T28 l2 x15_1).f2)) := (blk_cell BK122.out 2).trans rfl
                        have hcz26_3 : wc.cell? ⟨gb122, 3, none⟩ = some (.slice A121_3 ((rd_T28 l2 x15_1).f3).length c121_3) := (blk_cell BK122.out 3).trans rfl
                        have hcz26_4 : wc.cell? ⟨gb122, 4, none⟩ = some (.int .i64 ((rd_T28 l2 x15_1).f4)) := (blk_cell BK122.out 4).trans rfl
                        have hfz26_0 := blk_frozen BK122.out 0
                        have hfz26_1 := blk_frozen BK122.out 1
                        have hfz26_2 := blk_frozen BK122.out 2
                        have hfz26_3 := blk_frozen BK122.out 3
                        have hfz26_4 := blk_frozen BK122.out 4
                        go_wp2_with (first | ((with_reducible refine gate_builtin (b := .append) (xs := #[.tmp 48, .tmp 50]) rfl ?_); at_builtin; refine Kd.R_append_rows (Kd.int .i64) (w0 := w) w.heap.size rfl (.tmp 48) (.tmp 50) 22 3 (.int .i64 0) 8 rfl Tryd.underlying22 info3 rfl (by decide) (by omega) u12 x12_1 ((rd_T28 l2 x15_1).f3) _ _ _ (fun _ => True) (fun _ => False) rfl rfl ?aO ?aR (fun _ _ h => h) (fun _ h => h.elim) ?aF ?aB ?aS ?aL ?_; (case aR => repeat (first | exact (Kd.C_below HR121_3.out HB.out) | (with_reducible refine Kd.C_alloc ?_ _) | (with_reducible refine Kd.C_drewN ?_ _) | (with_reducible refine Kd.C_drew ?_))); (case aB => exact (by repeat (first | (with_reducible first | exact HB.out | apply below_alloc | apply pw_below_drewN | apply below_drew1 | refine below_set ?_ GE122.out) | exact HB.out))); (case aF => exact (fun _ _ => trivial)); (case aO => exact (by (with_reducible repeat (first | apply Kd.R_alloc | apply Kd.R_drewN | apply Kd.R_drew)); exact HO_12.out)); (case aS => exact (below_size (by repeat (first | (with_reducible first | exact HB.out | apply below_alloc | apply pw_below_drewN | apply below_drew1 | refine below_set ?_ GE122.out) | exact HB.out)))); (case aL => have := LMc19.out; omega); intro v124 w27 ho hb hg hat; rw [← Ny123.out] at ho; have n0_ := Aside0.mk (blk_grown (g := gb122) (o := .cells #[.int .i64 ((rd_T28 l2 x15_1).f0), .int .i64 ((rd_T28 l2 x15_1).f1), .int .i64 ((rd_T28 l2 x15_1).f2), .slice A121_3 ((rd_T28 l2 x15_1).f3).length c121_3, .int .i64 ((rd_T28 l2 x15_1).f4)] 28 (0, 0)) (by (with_reducible repeat (first | refine blk_drewN ?_ _ | refine blk_drew ?_ | refine blk_alloc ?_ _)); exact BK122.out) hg (Kd.R_ne HO_12.out BK122.out (by decide))); have n1_ := Aside0.mk (hb); have n2_ := Aside0.mk (ho); clear BK122; clear HB; clear HO_12; have BK122 := n0_; have HB := n1_; have HO125 := n2_; clear n0_ n1_ n2_; clear ho hb hg hat; have hcz28_0 : w27.cell? ⟨gb122, 0, none⟩ = some (.int .i64 ((rd_T28 l2 x15_1).f0)) := (blk_cell BK122.out 0).trans rfl; have hcz28_1 : w27.cell? ⟨gb122, 1, none⟩ = some (.int .i64 ((rd_T28 l2 x15_1).f1)) := (blk_cell BK122.out 1).trans rfl; have hcz28_2 : w27.cell? ⟨gb122, 2, none⟩ = some (.int .i64 ((rd_T28 l2 x15_1).f2)) := (blk_cell BK122.out 2).trans rfl; have hcz28_3 : w27.cell? ⟨gb122, 3, none⟩ = some (.slice A121_3 ((rd_T28 l2 x15_1).f3).length c121_3) := (blk_cell BK122.out 3).trans rfl; have hcz28_4 : w27.cell? ⟨gb122, 4, none⟩ = some (.int .i64 ((rd_T28 l2 x15_1).f4)) := (blk_cell BK122.out 4).trans rfl; have hfz28_0 := blk_frozen BK122.out 0; have hfz28_1 := blk_frozen BK122.out 1; have hfz28_2 := blk_frozen BK122.out 2; have hfz28_3 := blk_frozen BK122.out 3; have hfz28_4 := blk_frozen BK122.out 4))
                        go_roundg kj7
                        case measure => have := HK1.out; have := HJ7.out; omega
                        case rel => exact ⟨(y123), (true), (((rd_T28 l2 x15_1).f4)), (wrap64 (x15_1 + 1)), (by first | rfl | (simp; done) | (simp [*]; done)), (by first | rfl | (simp; done) | (simp [*]; done)), (by first | rfl | (simp; done) | (simp [*]; done)), H', ⟨by have := HK1.out; have := HJ7.out; omega⟩, ⟨by (with_reducible repeat (first | apply Kd.R_alloc | apply Kd.R_drewN | apply Kd.R_drew)); exact HO125.out⟩, ⟨by repeat (first | (with_reducible first | exact HB.out | apply below_alloc | apply pw_below_drewN | apply below_drew1 | refine below_set ?_ GE122.out) | exact HB.out)⟩⟩
                      · rw [if_neg c25] at H
                        have c25b0 : decide (((rd_T28 l2 x15_1).f4) < x14_1) = false := decide_eq_false c25
                        clear c25
                        have H' := Aside0.mk H
                        clear H
                        have hcz29_0 : wc.cell? ⟨gb122, 0, none⟩ = some (.int .i64 ((rd_T28 l2 x15_1).f0)) := (blk_cell BK122.out 0).trans rfl
                        have hcz29_1 : wc.cell? ⟨gb122, 1, none⟩ = some (.int .i64 ((rd_T28 l2 x15_1).f1)) := (blk_cell BK122.out 1).trans rfl
                        have hcz29_2 : wc.cell? ⟨gb122, 2, none⟩ = some (.int .i64 ((rd_T28 l2 x15_1).f2)) := (blk_cell BK122.out 2).trans rfl
                        have hcz29_3 : wc.cell? ⟨gb122, 3, none⟩ = some (.slice A121_3 ((rd_T28 l2 x15_1).f3).length c121_3) := (blk_cell BK122.out 3).trans rfl
                        have hcz29_4 : wc.cell? ⟨gb122, 4, none⟩ = some (.int .i64 ((rd_T28 l2 x15_1).f4)) := (blk_cell BK122.out 4).trans rfl
                        have hfz29_0 := blk_frozen BK122.out 0
                        have hfz29_1 := blk_frozen BK122.out 1
                        have hfz29_2 := blk_frozen BK122.out 2
                        have hfz29_3 := blk_frozen BK122.out 3
                        have hfz29_4 := blk_frozen BK122.out 4
                        go_wp2_with (first | ((with_reducible refine gate_builtin (b := .append) (xs := #[.tmp 48, .tmp 50]) rfl ?_); at_builtin; refine Kd.R_append_rows (Kd.int .i64) (w0 := w) w.heap.size rfl (.tmp 48) (.tmp 50) 22 3 (.int .i64 0) 8 rfl Tryd.underlying22 info3 rfl (by decide) (by omega) u12 x12_1 ((rd_T28 l2 x15_1).f3) _ _ _ (fun _ => True) (fun _ => False) rfl rfl ?aO ?aR (fun _ _ h => h) (fun _ h => h.elim) ?aF ?aB ?aS ?aL ?_; (case aR => repeat (first | exact (Kd.C_below HR121_3.out HB.out) | (with_reducible refine Kd.C_alloc ?_ _) | (with_reducible refine Kd.C_drewN ?_ _) | (with_reducible refine Kd.C_drew ?_))); (case aB => exact (by repeat (first | (with_reducible first | exact HB.out | apply below_alloc | apply pw_below_drewN | apply below_drew1 | refine below_set ?_ GE122.out) | exact HB.out))); (case aF => exact (fun _ _ => trivial)); (case aO => exact (by (with_reducible repeat (first | apply Kd.R_alloc | apply Kd.R_drewN | apply Kd.R_drew)); exact HO_12.out)); (case aS => exact (below_size (by repeat (first | (with_reducible first | exact HB.out | apply below_alloc | apply pw_below_drewN | apply below_drew1 | refine below_set ?_ GE122.out) | exact HB.out)))); (case aL => have := LMc19.out; omega); intro v124 w30 ho hb hg hat; rw [← Ny123.out] at ho; have n0_ := Aside0.mk (blk_grown (g := gb122) (o := .cells #[.int .i64 ((rd_T28 l2 x15_1).f0), .int .i64 ((rd_T28 l2 x15_1).f1), .int .i64 ((rd_T28 l2 x15_1).f2), .slice A121_3 ((rd_T28 l2 x15_1).f3).length c121_3, .int .i64 ((rd_T28 l2 x15_1).f4)] 28 (0, 0)) (by (with_reducible repeat (first | refine blk_drewN ?_ _ | refine blk_drew ?_ | refine blk_alloc ?_ _)); exact BK122.out) hg (Kd.R_ne HO_12.out BK122.out (by decide))); have n1_ := Aside0.mk (hb); have n2_ := Aside0.mk (ho); clear BK122; clear HB; clear HO_12; have BK122 := n0_; have HB := n1_; have HO125 := n2_; clear n0_ n1_ n2_; clear ho hb hg hat; have hcz31_0 : w30.cell? ⟨gb122, 0, none⟩ = some (.int .i64 ((rd_T28 l2 x15_1).f0)) := (blk_cell BK122.out 0).trans rfl; have hcz31_1 : w30.cell? ⟨gb122, 1, none⟩ = some (.int .i64 ((rd_T28 l2 x15_1).f1)) := (blk_cell BK122.out 1).trans rfl; have hcz31_2 : w30.cell? ⟨gb122, 2, none⟩ = some (.int .i64 ((rd_T28 l2 x15_1).f2)) := (blk_cell BK122.out 2).trans rfl; have hcz31_3 : w30.cell? ⟨gb122, 3, none⟩ = some (.slice A121_3 ((rd_T28 l2 x15_1).f3).length c121_3) := (blk_cell BK122.out 3).trans rfl; have hcz31_4 : w30.cell? ⟨gb122, 4, none⟩ = some (.int .i64 ((rd_T28 l2 x15_1).f4)) := (blk_cell BK122.out 4).trans rfl; have hfz31_0 := blk_frozen BK122.out 0; have hfz31_1 := blk_frozen BK122.out 1; have hfz31_2 := blk_frozen BK122.out 2; have hfz31_3 := blk_frozen BK122.out 3; have hfz31_4 := blk_frozen BK122.out 4))
                        go_roundg kj7
                        case measure => have := HK1.out; have := HJ7.out; omega
                        case rel => exact ⟨(y123), (true), (x14_1), (wrap64 (x15_1 + 1)), (by first | rfl | (simp; done) | (simp [*]; done)), (by first | rfl | (simp; done) | (simp [*]; done)), (by first | rfl | (simp; done) | (simp [*]; done)), H', ⟨by have := HK1.out; have := HJ7.out; omega⟩, ⟨by (with_reducible repeat (first | apply Kd.R_alloc | apply Kd.R_drewN | apply Kd.R_drew)); exact HO125.out⟩, ⟨by repeat (first | (with_reducible first | exact HB.out | apply below_alloc | apply pw_below_drewN | apply below_drew1 | refine below_set ?_ GE122.out) | exact HB.out)⟩⟩
                  · rw [if_neg c20] at H
                    have c20b0 : decide (0 < ((rd_T28 l2 x15_1).f4)) = false := decide_eq_false c20
                    clear c20
                    have H' := Aside0.mk H
                    clear H
                    have hcz32_0 : wc.cell? ⟨gb122, 0, none⟩ = some (.int .i64 ((rd_T28 l2 x15_1).f0)) := (blk_cell BK122.out 0).trans rfl
                    have hcz32_1 : wc.cell? ⟨gb122, 1, none⟩ = some (.int .i64 ((rd_T28 l2 x15_1).f1)) := (blk_cell BK122.out 1).trans rfl
                    have hcz32_2 : wc.cell? ⟨gb122, 2, none⟩ = some (.int .i64 ((rd_T28 l2 x15_1).f2)) := (blk_cell BK122.out 2).trans rfl
                    have hcz32_3 : wc.cell? ⟨gb122, 3, none⟩ = some (.slice A121_3 ((rd_T28 l2 x15_1).f3).length c121_3) := (blk_cell BK122.out 3).trans rfl
                    have hcz32_4 : wc.cell? ⟨gb122, 4, none⟩ = some (.int .i64 ((rd_T28 l2 x15_1).f4)) := (blk_cell BK122.out 4).trans rfl
                    have hfz32_0 := blk_frozen BK122.out 0
                    have hfz32_1 := blk_frozen BK122.out 1
                    have hfz32_2 := blk_frozen BK122.out 2
                    have hfz32_3 := blk_frozen BK122.out 3
                    have hfz32_4 := blk_frozen BK122.out 4
                    go_wp2_with (first | ((with_reducible refine gate_builtin (b := .append) (xs := #[.tmp 48, .tmp 50]) rfl ?_); at_builtin; refine Kd.R_append_rows (Kd.int .i64) (w0 := w) w.heap.size rfl (.tmp 48) (.tmp 50) 22 3 (.int .i64 0) 8 rfl Tryd.underlying22 info3 rfl (by decide) (by omega) u12 x12_1 ((rd_T28 l2 x15_1).f3) _ _ _ (fun _ => True) (fun _ => False) rfl rfl ?aO ?aR (fun _ _ h => h) (fun _ h => h.elim) ?aF ?aB ?aS ?aL ?_; (case aR => repeat (first | exact (Kd.C_below HR121_3.out HB.out) | (with_reducible refine Kd.C_alloc ?_ _) | (with_reducible refine Kd.C_drewN ?_ _) | (with_reducible refine Kd.C_drew ?_))); (case aB => exact (by repeat (first | (with_reducible first | exact HB.out | apply below_alloc | apply pw_below_drewN | apply below_drew1 | refine below_set ?_ GE122.out) | exact HB.out))); (case aF => exact (fun _ _ => trivial)); (case aO => exact (by (with_reducible repeat (first | apply Kd.R_alloc | apply Kd.R_drewN | apply Kd.R_drew)); exact HO_12.out)); (case aS => exact (below_size (by repeat (first | (with_reducible first | exact HB.out | apply below_alloc | apply pw_below_drewN | apply below_drew1 | refine below_set ?_ GE122.out) | exact HB.out)))); (case aL => have := LMc19.out; omega); intro v124 w33 ho hb hg hat; rw [← Ny123.out] at ho; have n0_ := Aside0.mk (blk_grown (g := gb122) (o := .cells #[.int .i64 ((rd_T28 l2 x15_1).f0), .int .i64 ((rd_T28 l2 x15_1).f1), .int .i64 ((rd_T28 l2 x15_1).f2), .slice A121_3 ((rd_T28 l2 x15_1).f3).length c121_3, .int .i64 ((rd_T28 l2 x15_1).f4)] 28 (0, 0)) (by (with_reducible repeat (first | refine blk_drewN ?_ _ | refine blk_drew ?_ | refine blk_alloc ?_ _)); exact BK122.out) hg (Kd.R_ne HO_12.out BK122.out (by decide))); have n1_ := Aside0.mk (hb); have n2_ := Aside0.mk (ho); clear BK122; clear HB; clear HO_12; have BK122 := n0_; have HB := n1_; have HO125 := n2_; clear n0_ n1_ n2_; clear ho hb hg hat; have hcz34_0 : w33.cell? ⟨gb122, 0, none⟩ = some (.int .i64 ((rd_T28 l2 x15_1).f0)) := (blk_cell BK122.out 0).trans rfl; have hcz34_1 : w33.cell? ⟨gb122, 1, none⟩ = some (.int .i64 ((rd_T28 l2 x15_1).f1)) := (blk_cell BK122.out 1).trans rfl; have hcz34_2 : w33.cell? ⟨gb122, 2, none⟩ = some (.int .i64 ((rd_T28 l2 x15_1).f2)) := (blk_cell BK122.out 2).trans rfl; have hcz34_3 : w33.cell? ⟨gb122, 3, none⟩ = some (.slice A121_3 ((rd_T28 l2 x15_1).f3).length c121_3) := (blk_cell BK122.out 3).trans rfl; have hcz34_4 : w33.cell? ⟨gb122, 4, none⟩ = some (.int .i64 ((rd_T28 l2 x15_1).f4)) := (blk_cell BK122.out 4).trans rfl; have hfz34_0 := blk_frozen BK122.out 0; have hfz34_1 := blk_frozen BK122.out 1; have hfz34_2 := blk_frozen BK122.out 2; have hfz34_3 := blk_frozen BK122.out 3; have hfz34_4 := blk_frozen BK122.out 4))
                    go_roundg kj7
                    case measure => have := HK1.out; have := HJ7.out; omega
                    case rel => exact ⟨(y123), (true), (x14_1), (wrap64 (x15_1 + 1)), (by first | rfl | (simp; done) | (simp [*]; done)), (by first | rfl | (simp; done) | (simp [*]; done)), (by first | rfl | (simp; done) | (simp [*]; done)), H', ⟨by have := HK1.out; have := HJ7.out; omega⟩, ⟨by (with_reducible repeat (first | apply Kd.R_alloc | apply Kd.R_drewN | apply Kd.R_drew)); exact HO125.out⟩, ⟨by repeat (first | (with_reducible first | exact HB.out | apply below_alloc | apply pw_below_drewN | apply below_drew1 | refine below_set ?_ GE122.out) | exact HB.out)⟩⟩
                · rw [if_neg c19] at H
                  exact absurd H (by simp)
              · replace c18 := Bool.eq_false_iff.mpr c18
                subst c18
                have H1 : (belvedereref22_Choose.l0 kj7 l0 a1 l2 a3 a4 x12_1 x13_1 x14_1 (wrap64 (x15_1 + 1))) = some (r1, r2) := by rw [if_neg (show ¬ (false = true) by decide)] at H; exact H
                clear H
                have H := H1
                clear H1
                have H' := Aside0.mk H
                clear H
                go_wp2
                go_roundg kj7
                case measure => have := HK1.out; have := HJ7.out; omega
                case rel => exact ⟨(x12_1), (x13_1), (x14_1), (wrap64 (x15_1 + 1)), (by first | rfl | (simp; done) | (simp [*]; done)), (by first | rfl | (simp; done) | (simp [*]; done)), (by first | rfl | (simp; done) | (simp [*]; done)), H', ⟨by have := HK1.out; have := HJ7.out; omega⟩, ⟨by (with_reducible repeat (first | apply Kd.R_alloc | apply Kd.R_drewN | apply Kd.R_drew)); exact HO_12.out⟩, ⟨by repeat (first | (with_reducible first | exact HB.out | apply below_alloc | apply pw_below_drewN | apply below_drew1 | refine below_set ?_ GE122.out) | exact HB.out)⟩⟩
        · rw [if_neg c7] at H
          exact absurd H (by simp)
      · rw [if_neg c6] at H
        have c6b0 : decide (x15_1 < (l2.length : Int)) = false := decide_eq_false c6
        clear c6
        by_cases c35 : x13_1 = true
        · subst c35
          have H1 : ((belvedereref22_once.f x12_1).bind fun t126 => (some (t126, x14_1))) = some (r1, r2) := by rw [if_pos rfl] at H; exact H
          clear H
          have H := H1
          clear H1
          replace H := Option.bind_eq_some_iff.mp H
          obtain ⟨t126, A360, H⟩ := H
          replace H : (some (t126, x14_1)) = some (r1, r2) := H
          have A36 := Aside0.mk A360
          clear A360
          simp only [Option.some.injEq, Prod.mk.injEq] at H
          obtain ⟨rfl, rfl⟩ := H
          obtain ⟨Ao37, co37, eo37⟩ := Kd.R_slice HO_12.out
          subst eo37
          go_wp2_with (first | ((with_reducible refine gate_callee (f := 13) rfl ?_); refine goesL_ (some 69) rfl rfl Tryd.func13 (by kernel_rfl) rfl #[.slice Ao37 x12_1.length co37] rfl (by (try simp only [List.map_toArray, List.map_cons, List.map_nil]); first | done | rfl | (simp only [List.length_drop, List.length_take]; rfl)) ?_; (with_reducible refine (belvedereref22_once.calls _ _ x12_1 t126 _ ?side1 ?side2 A36.out).mono ?_); (case side1 => repeat (first | exact (Kd.R_reads' HO_12.out).2.2 | (with_reducible refine Kd.C_alloc ?_ _) | (with_reducible refine Kd.C_drewN ?_ _) | (with_reducible refine Kd.C_drew ?_))); (case side2 => exact (Kd.R_reads' HO_12.out).2.1); rintro e w38 ⟨v127, rfl, ho0, hb⟩; refine ⟨_, rfl, ?_⟩; have n0_ := Aside0.mk (Kd.R_elder' (by (with_reducible repeat (first | apply Kd.R_alloc | apply Kd.R_drewN | apply Kd.R_drew)); exact HO_12.out) (Kd.R_base ho0) hb); have n1_ := Aside0.mk (Kd.R_lower (Kd.R_new' ho0 (Kd.R_lt (by (with_reducible repeat (first | apply Kd.R_alloc | apply Kd.R_drewN | apply Kd.R_drew)); exact HO_12.out))) (below_size (by repeat (first | (with_reducible first | exact HB.out | apply below_alloc | apply pw_below_drewN | apply below_drew1) | exact HB.out)))); have n2_ := Aside0.mk (below_step (by repeat (first | (with_reducible first | exact HB.out | apply below_alloc | apply pw_below_drewN | apply below_drew1) | exact HB.out)) hb); clear HO_12; clear HB; have HO_12 := n0_; have HO128 := n1_; have HB := n2_; clear n0_ n1_ n2_; (try clear hb); (try clear hb2); (try clear hk); (try clear hi); (try clear ho0)))
          go_ret2
          exact ⟨_, by first | rfl | (simp [errW_none, errW_some] <;> rfl) | (simp [*, errW_none, errW_some] <;> rfl), by (with_reducible repeat (first | apply Kd.R_alloc | apply Kd.R_drewN | apply Kd.R_drew)); exact Kd.R_mono HO128.out (fun _ hk => trivial), by repeat (first | (with_reducible first | exact HB.out | apply below_alloc | apply pw_below_drewN | apply below_drew1) | exact HB.out)⟩
        · replace c35 := Bool.eq_false_iff.mpr c35
          subst c35
          have H1 : ((belvedereref22_once.f l0).bind fun t129 => (some (t129, mx a1 0))) = some (r1, r2) := by rw [if_neg (show ¬ (false = true) by decide)] at H; exact H
          clear H
          have H := H1
          clear H1
          replace H := Option.bind_eq_some_iff.mp H
          obtain ⟨t129, A390, H⟩ := H
          replace H : (some (t129, mx a1 0)) = some (r1, r2) := H
          have A39 := Aside0.mk A390
          clear A390
          obtain ⟨ji40, hji40⟩ : ∃ j_ : Int, (mx a1 0) = j_ := ⟨_, rfl⟩
          replace H : (some (t129, ji40)) = some (r1, r2) := by first | (rw [hji40] at H; exact H) | (simp only [hji40] at H ⊢; exact H)
          (try rw [hji40] at A39)
          have hji40_ : (if a1 < 0 then 0 else a1) = ji40 := hji40
          simp only [Option.some.injEq, Prod.mk.injEq] at H
          obtain ⟨rfl, rfl⟩ := H
          go_wp2_with (first | ((with_reducible refine gate_callee (f := 13) rfl ?_); refine goesL_ (some 72) rfl rfl Tryd.func13 (by kernel_rfl) rfl #[.slice A0 l0.length c0] rfl (by (try simp only [List.map_toArray, List.map_cons, List.map_nil]); first | done | rfl | (simp only [List.length_drop, List.length_take]; rfl)) ?_; (with_reducible refine (belvedereref22_once.calls _ _ l0 t129 _ ?side1 ?side2 A39.out).mono ?_); (case side1 => repeat (first | exact (Kd.C_below HR0.out HB.out) | (with_reducible refine Kd.C_alloc ?_ _) | (with_reducible refine Kd.C_drewN ?_ _) | (with_reducible refine Kd.C_drew ?_))); (case side2 => exact HC0.out); rintro e w41 ⟨v130, rfl, ho0, hb⟩; refine ⟨_, rfl, ?_⟩; have n0_ := Aside0.mk (Kd.R_elder' (by (with_reducible repeat (first | apply Kd.R_alloc | apply Kd.R_drewN | apply Kd.R_drew)); exact HO_12.out) (Kd.R_base ho0) hb); have n1_ := Aside0.mk (Kd.R_lower (Kd.R_new' ho0 (Kd.R_lt (by (with_reducible repeat (first | apply Kd.R_alloc | apply Kd.R_drewN | apply Kd.R_drew)); exact HO_12.out))) (below_size (by repeat (first | (with_reducible first | exact HB.out | apply below_alloc | apply pw_below_drewN | apply below_drew1) | exact HB.out)))); have n2_ := Aside0.mk (below_step (by repeat (first | (with_reducible first | exact HB.out | apply below_alloc | apply pw_below_drewN | apply below_drew1) | exact HB.out)) hb); clear HO_12; clear HB; have HO_12 := n0_; have HO131 := n1_; have HB := n2_; clear n0_ n1_ n2_; (try clear hb); (try clear hb2); (try clear hk); (try clear hi); (try clear ho0)))
          go_ret2
          exact ⟨_, by first | rfl | (simp [errW_none, errW_some] <;> rfl) | (simp only [← hji40]; first | rfl | (simp [errW_none, errW_some] <;> rfl)) | (simp [*, errW_none, errW_some] <;> rfl), by (with_reducible repeat (first | apply Kd.R_alloc | apply Kd.R_drewN | apply Kd.R_drew)); exact Kd.R_mono HO131.out (fun _ hk => trivial), by repeat (first | (with_reducible first | exact HB.out | apply below_alloc | apply pw_below_drewN | apply below_drew1) | exact HB.out)⟩

end Go.Proofs.YtecgjkikgggoeaaDoor.Pr
