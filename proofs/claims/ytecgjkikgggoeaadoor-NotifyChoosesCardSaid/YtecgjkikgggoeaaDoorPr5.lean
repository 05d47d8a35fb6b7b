-- written by wip/tools/myprint.py out of Lean's own print of the program
import Derived.Test.YtecgjkikgggoeaaDoorPr0
import Derived.Test.YtecgjkikgggoeaaDoorGOnce
namespace Go.Proofs.YtecgjkikgggoeaaDoor.Pr
open Go.RowKit Go.Proofs.YtecgjkikgggoeaaDoorW.PrintWords Go.Proofs.YtecgjkikgggoeaaDoorW.PrintLast Go.Proofs.YtecgjkikgggoeaaDoorW.PrintMore
attribute [local go_sem] max2_int min2_int max_two min_two max_three min_three max_four min_four   -- for this text's walks alone
set_option linter.unusedVariables false
set_option linter.unusedSimpArgs false

/-! ### notify_Choose: function 6 -/
mutual
def notify_Choose.l0 : Nat → List Int → Int → Int → Int → List Int → Int → Bool → List (S40) → Int → Int → Option (List Int × Int)
  | 0, _, _, _, _, _, _, _, _, _, _ => none
  | k + 1, x0, x1, x3, x4, x12, x13, x14, x17, x18, x19 => if x19 < x18 then (if 0 ≤ x19 then (if x19 < (x17.length : Int) then (if ((rd_T40 x17 x19).f0) = x3 then (if ((rd_T40 x17 x19).f1) > x4 then (notify_Choose.j1 k x0 x1 x3 x4 x12 x13 x14 x17 x18 x19 true ((rd_T40 x17 x19).f0) ((rd_T40 x17 x19).f1) ((rd_T40 x17 x19).f2) ((rd_T40 x17 x19).f3) ((rd_T40 x17 x19).f4)) else (if ((rd_T40 x17 x19).f2) = 0 then (notify_Choose.j1 k x0 x1 x3 x4 x12 x13 x14 x17 x18 x19 false ((rd_T40 x17 x19).f0) ((rd_T40 x17 x19).f1) ((rd_T40 x17 x19).f2) ((rd_T40 x17 x19).f3) ((rd_T40 x17 x19).f4)) else (notify_Choose.j1 k x0 x1 x3 x4 x12 x13 x14 x17 x18 x19 (decide (((rd_T40 x17 x19).f2) < x4)) ((rd_T40 x17 x19).f0) ((rd_T40 x17 x19).f1) ((rd_T40 x17 x19).f2) ((rd_T40 x17 x19).f3) ((rd_T40 x17 x19).f4)))) else (notify_Choose.j1 k x0 x1 x3 x4 x12 x13 x14 x17 x18 x19 true ((rd_T40 x17 x19).f0) ((rd_T40 x17 x19).f1) ((rd_T40 x17 x19).f2) ((rd_T40 x17 x19).f3) ((rd_T40 x17 x19).f4))) else (none)) else (none)) else (if x14 = true then ((notify_once.f x12).bind fun t111 => (some (t111, x13))) else ((notify_once.f x0).bind fun t114 => (some (t114, mx x1 0))))
def notify_Choose.j1 : Nat → List Int → Int → Int → Int → List Int → Int → Bool → List (S40) → Int → Int → Bool → Int → Int → Int → List Int → Int → Option (List Int × Int)
  | 0, _, _, _, _, _, _, _, _, _, _, _, _, _, _, _, _ => none
  | k + 1, x0, x1, x3, x4, x12, x13, x14, x17, x18, x19, x43, x108000, x108001, x108002, x108003, x108004 => if x43 = true then (notify_Choose.l0 k x0 x1 x3 x4 x12 x13 x14 x17 x18 (wrap64 (x19 + 1))) else (if x12.length + x108003.length < 17592186044416 then ((some (x12 ++ x108003 : List Int)).bind fun y108 => (if x108004 > 0 then (if x13 = 0 then (notify_Choose.l0 k x0 x1 x3 x4 y108 x108004 true x17 x18 (wrap64 (x19 + 1))) else (if x108004 < x13 then (notify_Choose.l0 k x0 x1 x3 x4 y108 x108004 true x17 x18 (wrap64 (x19 + 1))) else (notify_Choose.l0 k x0 x1 x3 x4 y108 x13 true x17 x18 (wrap64 (x19 + 1))))) else (notify_Choose.l0 k x0 x1 x3 x4 y108 x13 true x17 x18 (wrap64 (x19 + 1))))) else (none))
end
def notify_Choose.f (k : Nat) (l0 : List Int) (a1 : Int) (l2 : List (S40)) (a3 : Int) (a4 : Int) : Option (List Int × Int) := notify_Choose.l0 k l0 a1 a3 a4 ([] : List Int) 0 false l2 (l2.length : Int) 0
theorem notify_Choose.mono_l : ∀ k, (∀ y0 y1 y2 y3 y4 y5 y6 y7 y8 y9, LeO (notify_Choose.l0 k y0 y1 y2 y3 y4 y5 y6 y7 y8 y9) (notify_Choose.l0 (k + 1) y0 y1 y2 y3 y4 y5 y6 y7 y8 y9)) ∧ (∀ y0 y1 y2 y3 y4 y5 y6 y7 y8 y9 y10 y11 y12 y13 y14 y15, LeO (notify_Choose.j1 k y0 y1 y2 y3 y4 y5 y6 y7 y8 y9 y10 y11 y12 y13 y14 y15) (notify_Choose.j1 (k + 1) y0 y1 y2 y3 y4 y5 y6 y7 y8 y9 y10 y11 y12 y13 y14 y15))
  | 0 => ⟨fun _ _ _ _ _ _ _ _ _ _ r h => by simp [notify_Choose.l0] at h, fun _ _ _ _ _ _ _ _ _ _ _ _ _ _ _ _ r h => by simp [notify_Choose.j1] at h⟩
  | k + 1 => by
    obtain ⟨ih0, ih1⟩ := notify_Choose.mono_l k
    refine ⟨?_, ?_⟩
    · intro y0 y1 y2 y3 y4 y5 y6 y7 y8 y9
      unfold notify_Choose.l0
      repeat' first
      | (with_reducible exact ih0 _ _ _ _ _ _ _ _ _ _)
      | (with_reducible exact ih1 _ _ _ _ _ _ _ _ _ _ _ _ _ _ _ _)
      | (with_reducible exact LeO.refl _)
      | (with_reducible exact LeO.none _)
      | (with_reducible refine LeO.ite ?_ ?_)
      | (with_reducible refine LeO.bind ?_ (fun _ => ?_))
      | exact ih0 _ _ _ _ _ _ _ _ _ _
      | exact ih1 _ _ _ _ _ _ _ _ _ _ _ _ _ _ _ _
      | exact LeO.none _
      | refine LeO.ite ?_ ?_
      | refine LeO.bind ?_ (fun _ => ?_)
    · intro y0 y1 y2 y3 y4 y5 y6 y7 y8 y9 y10 y11 y12 y13 y14 y15
      unfold notify_Choose.j1
      repeat' first
      | (with_reducible exact ih0 _ _ _ _ _ _ _ _ _ _)
      | (with_reducible exact ih1 _ _ _ _ _ _ _ _ _ _ _ _ _ _ _ _)
      | (with_reducible exact LeO.refl _)
      | (with_reducible exact LeO.none _)
      | (with_reducible refine LeO.ite ?_ ?_)
      | (with_reducible refine LeO.bind ?_ (fun _ => ?_))
      | exact ih0 _ _ _ _ _ _ _ _ _ _
      | exact ih1 _ _ _ _ _ _ _ _ _ _ _ _ _ _ _ _
      | exact LeO.none _
      | refine LeO.ite ?_ ?_
      | refine LeO.bind ?_ (fun _ => ?_)
theorem notify_Choose.mono : ∀ a0 a1 a2 a3 a4 k, LeO (notify_Choose.f k a0 a1 a2 a3 a4) (notify_Choose.f (k + 1) a0 a1 a2 a3 a4) := by
  intro a0 a1 a2 a3 a4 k
  obtain ⟨ih0, ih1⟩ := notify_Choose.mono_l k
  unfold notify_Choose.f
  repeat' first
      | (with_reducible exact ih0 _ _ _ _ _ _ _ _ _ _)
      | (with_reducible exact ih1 _ _ _ _ _ _ _ _ _ _ _ _ _ _ _ _)
      | (with_reducible exact LeO.refl _)
      | (with_reducible exact LeO.none _)
      | (with_reducible refine LeO.ite ?_ ?_)
      | (with_reducible refine LeO.bind ?_ (fun _ => ?_))
      | exact ih0 _ _ _ _ _ _ _ _ _ _
      | exact ih1 _ _ _ _ _ _ _ _ _ _ _ _ _ _ _ _
      | exact LeO.none _
      | refine LeO.ite ?_ ?_
      | refine LeO.bind ?_ (fun _ => ?_)
set_option maxHeartbeats 8000000 in
set_option maxRecDepth 100000 in
theorem notify_Choose.calls (k : Nat) (A0 : Option Addr) (c0 : Nat) (l0 : List Int) (a1 : Int) (A2 : Option Addr) (c2 : Nat) (l2 : List (S40)) (a3 : Int) (a4 : Int) (r1 : List Int) (r2 : Int) (w : World) (hr0 : Kd.C (Kd.int .i64) w A0 l0.length l0) (hc0 : l0.length ≤ c0) (hr2 : Kd.C k40 w A2 l2.length l2) (hc2 : l2.length ≤ c2) (h : notify_Choose.f k l0 a1 l2 a3 a4 = some (r1, r2)) :
    Calls Tryd.prog 6 #[.slice A0 l0.length c0, .int .i64 a1, .slice A2 l2.length c2, .int .i64 a3, .int .i64 a4] w fun e w' => ∃ v0_ : Value, e = .returned (.tuple #[v0_, .int .i64 r2]) ∧ Kd.R (Kd.int .i64) 3 w' w.heap.size (fun _ => True) v0_ r1 ∧ Below w.heap.size w w' := by
  have hu40 := Tryd.underlying40
  have HR0 := Aside0.mk hr0
  have HC0 := Aside0.mk hc0
  clear hr0 hc0
  have HR2 := Aside0.mk hr2
  have HC2 := Aside0.mk hc2
  clear hr2 hc2
  have HB := Aside0.mk (Below.refl w.heap.size w)
  have H : (notify_Choose.l0 k l0 a1 a3 a4 ([] : List Int) 0 false l2 (l2.length : Int) 0) = some (r1, r2) := h
  clear h
  have H' := Aside0.mk H
  clear H
  go_enter Tryd.func6, Tryd.ntmps6
  go_wp2
  go_loopg [12, 13, 14, 19] k (fun kq v12 v13 v14 v19 w' => ∃ (x12_1 : List Int) (x13_1 : Int) (x14_1 : Bool) (x19_1 : Int), v13 = .int .i64 x13_1 ∧ v14 = .bool x14_1 ∧ v19 = .int .i64 x19_1 ∧ Aside0 (notify_Choose.l0 kq l0 a1 a3 a4 x12_1 x13_1 x14_1 l2 (l2.length : Int) x19_1 = some (r1, r2)) ∧ Aside0 (kq ≤ k) ∧ Aside0 (Kd.R (Kd.int .i64) 3 w' w.heap.size (fun _ => True) v12 x12_1) ∧ Aside0 (Below w.heap.size w w'))
  case atStart => exact ⟨(([] : List Int)), (0), (false), (0), (by first | rfl | (simp; done) | (simp [*]; done)), (by first | rfl | (simp; done) | (simp [*]; done)), (by first | rfl | (simp; done) | (simp [*]; done)), H', ⟨Nat.le_refl _⟩, ⟨by first | exact Kd.R_nil _ _ _ _ _ | exact Kd.N_nil _ _ _ _ _ | exact Kd.V_nil _ _ _ _ _ | exact Kd.Q_nil _ _ _ _ _ | exact Kd.S_nil _ _ _ _ _⟩, ⟨by repeat (first | (with_reducible first | exact HB.out | apply below_alloc | apply pw_below_drewN | apply below_drew1) | exact HB.out)⟩⟩
  case round =>
    clear H'
    try clear c2
    try clear p2
    obtain ⟨x12_1, x13_1, x14_1, x19_1, rfl, rfl, rfl, HA, HK1, HO_12, HB⟩ := hrel
    cases gk with
    | zero => exact absurd HA.out (by simp [notify_Choose.l0])
    | succ k1 =>
      have H := HA.out
      clear HA
      simp only [notify_Choose.l0] at H
      by_cases c6 : x19_1 < (l2.length : Int)
      · rw [if_pos c6] at H
        have c6b0 : decide (x19_1 < (l2.length : Int)) = true := decide_eq_true c6
        clear c6
        by_cases c7 : 0 ≤ x19_1
        · rw [if_pos c7] at H
          have c7b0 : decide (0 ≤ x19_1) = true := decide_eq_true c7
          clear c7
          by_cases c8 : x19_1 < (l2.length : Int)
          · rw [if_pos c8] at H
            have c8b0 : decide (x19_1 < (l2.length : Int)) = true := decide_eq_true c8
            clear c8
            have HC9 := Aside0.mk H
            clear H
            have p106 : 0 ≤ (x19_1 : Int) := of_decide_eq_true (by first | (with_reducible assumption) | assumption)
            have q106 : x19_1 < (l2.length : Int) := of_decide_eq_true (by first | (with_reducible assumption) | assumption)
            obtain ⟨ad106, A106_3, c106_3, e106, hx106_0, hx106_1, hx106_2, hx106_3, hx106_4, hl106_3, hi106_3⟩ := at_T40 HR2.out x19_1 p106 q106
            cases e106
            replace hx106_0 := (HB.out.cell (World.block_lt_of_cell? w _ hx106_0)).trans hx106_0
            replace hx106_1 := (HB.out.cell (World.block_lt_of_cell? w _ hx106_1)).trans hx106_1
            replace hx106_2 := (HB.out.cell (World.block_lt_of_cell? w _ hx106_2)).trans hx106_2
            replace hx106_3 := (HB.out.cell (World.block_lt_of_cell? w _ hx106_3)).trans hx106_3
            replace hx106_4 := (HB.out.cell (World.block_lt_of_cell? w _ hx106_4)).trans hx106_4
            have HR106_3 := Aside0.mk hi106_3
            have HC106_3 := Aside0.mk hl106_3
            clear hi106_3 hl106_3
            replace p106 := eq_true p106
            replace q106 := eq_true q106
            go_upto_region 6 with (first | ((with_reducible refine gate_dst (N := 16) rfl ?_); refine box_event ?hg (N := 16) ?hd (cs := #[.int .i64 0, .int .i64 0, .int .i64 0, .slice none 0 0, .int .i64 0]) (t := 40) ?hr ?_; (case hd => rfl); (case hg => rfl); (case hr => first | (go_simp; done) | (go_simp; rfl)); intro gb107 hg w10 hbox hb; have n0_ := Aside0.mk (Kd.R_below (by (with_reducible repeat (first | apply Kd.R_alloc | apply Kd.R_drewN | apply Kd.R_drew)); exact HO_12.out) hb); have n1_ := Aside0.mk (below_step (by repeat (first | (with_reducible first | exact HB.out | apply below_alloc | apply pw_below_drewN | apply below_drew1) | exact HB.out)) hb); have n2_ := Aside0.mk (hbox); have n3_ := Aside0.mk ((by rw [hg]; exact (below_size (by repeat (first | (with_reducible first | exact HB.out | apply below_alloc | apply pw_below_drewN | apply below_drew1) | exact HB.out))) : w.heap.size ≤ gb107)); have n4_ := Aside0.mk ((by rw [hg]; exact (below_size (by repeat (first | (with_reducible first | exact HB.out | apply below_alloc | apply pw_below_drewN | apply below_drew1) | exact HB.out))) : w.heap.size ≤ gb107)); clear HO_12; clear HB; have HO_12 := n0_; have HB := n1_; have BK107 := n2_; have GW107 := n3_; have GE107 := n4_; clear n0_ n1_ n2_ n3_ n4_; clear hb hbox hg; have hcz11_0 : w10.cell? ⟨gb107, 0, none⟩ = some (.int .i64 0) := (blk_cell BK107.out 0).trans rfl; have hcz11_1 : w10.cell? ⟨gb107, 1, none⟩ = some (.int .i64 0) := (blk_cell BK107.out 1).trans rfl; have hcz11_2 : w10.cell? ⟨gb107, 2, none⟩ = some (.int .i64 0) := (blk_cell BK107.out 2).trans rfl; have hcz11_3 : w10.cell? ⟨gb107, 3, none⟩ = some (.slice none 0 0) := (blk_cell BK107.out 3).trans rfl; have hcz11_4 : w10.cell? ⟨gb107, 4, none⟩ = some (.int .i64 0) := (blk_cell BK107.out 4).trans rfl; have hfz11_0 := blk_frozen BK107.out 0; have hfz11_1 := blk_frozen BK107.out 1; have hfz11_2 := blk_frozen BK107.out 2; have hfz11_3 := blk_frozen BK107.out 3; have hfz11_4 := blk_frozen BK107.out 4))
            (try simp only [Act.put, List.setIfInBounds_toArray, List.set_cons_zero, List.set_cons_succ])
            go_cut [43] (fun v43 wc => ∃ (kq : Nat) (x43_8 : Bool), v43 = .bool x43_8 ∧ Aside0 (notify_Choose.j1 kq l0 a1 a3 a4 x12_1 x13_1 x14_1 l2 (l2.length : Int) x19_1 x43_8 ((rd_T40 l2 x19_1).f0) ((rd_T40 l2 x19_1).f1) ((rd_T40 l2 x19_1).f2) ((rd_T40 l2 x19_1).f3) ((rd_T40 l2 x19_1).f4) = some (r1, r2)) ∧ Aside0 (kq ≤ k1) ∧ Aside0 (Kd.R (Kd.int .i64) 3 wc w.heap.size (fun _ => True) u12 x12_1) ∧ Aside0 (wc.heap[gb107]? = some (.cells #[.int .i64 ((rd_T40 l2 x19_1).f0), .int .i64 ((rd_T40 l2 x19_1).f1), .int .i64 ((rd_T40 l2 x19_1).f2), (.slice A106_3 ((rd_T40 l2 x19_1).f3).length c106_3), .int .i64 ((rd_T40 l2 x19_1).f4)] 40 (0, 0))) ∧ Aside0 (Below w.heap.size w wc))
            case first =>
              have H := HC9.out
              clear HC9
              by_cases c12 : ((rd_T40 l2 x19_1).f0) = a3
              · rw [if_pos c12] at H
                have c12b0 : (((rd_T40 l2 x19_1).f0) == a3) = true := beq_iff_eq.mpr c12
                have c12b1 : (((rd_T40 l2 x19_1).f0) != a3) = false := bne_eq_false_iff_eq.mpr c12
                clear c12
                (first | rw [c12b0] | (simp only [i64_w, i32_w]; rw [c12b0]) | skip)
                by_cases c13 : ((rd_T40 l2 x19_1).f1) > a4
                · rw [if_pos c13] at H
                  have c13b0 : decide (a4 < ((rd_T40 l2 x19_1).f1)) = true := decide_eq_true c13
                  clear c13
                  have H' := Aside0.mk H
                  clear H
                  have hcz14_0 : w10.cell? ⟨gb107, 0, none⟩ = some (.int .i64 0) := (blk_cell BK107.out 0).trans rfl
                  have hcz14_1 : w10.cell? ⟨gb107, 1, none⟩ = some (.int .i64 0) := (blk_cell BK107.out 1).trans rfl
                  have hcz14_2 : w10.cell? ⟨gb107, 2, none⟩ = some (.int .i64 0) := (blk_cell BK107.out 2).trans rfl
                  have hcz14_3 : w10.cell? ⟨gb107, 3, none⟩ = some (.slice none 0 0) := (blk_cell BK107.out 3).trans rfl
                  have hcz14_4 : w10.cell? ⟨gb107, 4, none⟩ = some (.int .i64 0) := (blk_cell BK107.out 4).trans rfl
                  have hfz14_0 := blk_frozen BK107.out 0
                  have hfz14_1 := blk_frozen BK107.out 1
                  have hfz14_2 := blk_frozen BK107.out 2
                  have hfz14_3 := blk_frozen BK107.out 3
                  have hfz14_4 := blk_frozen BK107.out 4
                  go_wp2
                  go_meet
                  case rel => exact ⟨_, (true), (by first | rfl | (simp; done) | (simp [*]; done)), H', ⟨by have := HK1.out; first | omega | exact Nat.le_refl _⟩, ⟨by (with_reducible repeat (first | apply Kd.R_alloc | apply Kd.R_drewN | apply Kd.R_drew)); exact Kd.R_mono (Kd.R_far (p := ⟨gb107, 4, none⟩) (Kd.R_far (p := ⟨gb107, 3, none⟩) (Kd.R_far (p := ⟨gb107, 2, none⟩) (Kd.R_far (p := ⟨gb107, 1, none⟩) (Kd.R_far (p := ⟨gb107, 0, none⟩) (Kd.R_types HO_12.out BK107.out (by decide)) (fun _ hk => hk.2) (.int .i64 ((rd_T40 l2 x19_1).f0))) (fun _ hk => hk.2) (.int .i64 ((rd_T40 l2 x19_1).f1))) (fun _ hk => hk.2) (.int .i64 ((rd_T40 l2 x19_1).f2))) (fun _ hk => hk.2) (.slice A106_3 ((rd_T40 l2 x19_1).f3).length c106_3)) (fun _ hk => hk.2) (.int .i64 ((rd_T40 l2 x19_1).f4))) (fun _ hk => trivial)⟩, ⟨by (with_reducible repeat (first | refine blk_drewN ?_ _ | refine blk_drew ?_ | refine blk_alloc ?_ _)); refine blk_put (cs := #[.int .i64 ((rd_T40 l2 x19_1).f0), .int .i64 ((rd_T40 l2 x19_1).f1), .int .i64 ((rd_T40 l2 x19_1).f2), .slice A106_3 ((rd_T40 l2 x19_1).f3).length c106_3, .int .i64 0]) ?_ 4 _ rfl; (with_reducible repeat (first | refine blk_drewN ?_ _ | refine blk_drew ?_ | refine blk_alloc ?_ _)); refine blk_put (cs := #[.int .i64 ((rd_T40 l2 x19_1).f0), .int .i64 ((rd_T40 l2 x19_1).f1), .int .i64 ((rd_T40 l2 x19_1).f2), .slice none 0 0, .int .i64 0]) ?_ 3 _ rfl; (with_reducible repeat (first | refine blk_drewN ?_ _ | refine blk_drew ?_ | refine blk_alloc ?_ _)); refine blk_put (cs := #[.int .i64 ((rd_T40 l2 x19_1).f0), .int .i64 ((rd_T40 l2 x19_1).f1), .int .i64 0, .slice none 0 0, .int .i64 0]) ?_ 2 _ rfl; (with_reducible repeat (first | refine blk_drewN ?_ _ | refine blk_drew ?_ | refine blk_alloc ?_ _)); refine blk_put (cs := #[.int .i64 ((rd_T40 l2 x19_1).f0), .int .i64 0, .int .i64 0, .slice none 0 0, .int .i64 0]) ?_ 1 _ rfl; (with_reducible repeat (first | refine blk_drewN ?_ _ | refine blk_drew ?_ | refine blk_alloc ?_ _)); refine blk_put (cs := #[.int .i64 0, .int .i64 0, .int .i64 0, .slice none 0 0, .int .i64 0]) ?_ 0 _ rfl; (with_reducible repeat (first | refine blk_drewN ?_ _ | refine blk_drew ?_ | refine blk_alloc ?_ _)); exact BK107.out⟩, ⟨by repeat (first | (with_reducible first | exact HB.out | apply below_alloc | apply pw_below_drewN | apply below_drew1 | refine below_set ?_ GE107.out) | exact HB.out)⟩⟩
                · rw [if_neg c13] at H
                  have c13b0 : decide (a4 < ((rd_T40 l2 x19_1).f1)) = false := decide_eq_false c13
                  clear c13
                  by_cases c15 : ((rd_T40 l2 x19_1).f2) = 0
                  · rw [if_pos c15] at H
                    have c15b0 : (((rd_T40 l2 x19_1).f2) == 0) = true := beq_iff_eq.mpr c15
                    have c15b1 : (((rd_T40 l2 x19_1).f2) != 0) = false := bne_eq_false_iff_eq.mpr c15
                    clear c15
                    have H' := Aside0.mk H
                    clear H
                    have hcz16_0 : w10.cell? ⟨gb107, 0, none⟩ = some (.int .i64 0) := (blk_cell BK107.out 0).trans rfl
                    have hcz16_1 : w10.cell? ⟨gb107, 1, none⟩ = some (.int .i64 0) := (blk_cell BK107.out 1).trans rfl
                    have hcz16_2 : w10.cell? ⟨gb107, 2, none⟩ = some (.int .i64 0) := (blk_cell BK107.out 2).trans rfl
                    have hcz16_3 : w10.cell? ⟨gb107, 3, none⟩ = some (.slice none 0 0) := (blk_cell BK107.out 3).trans rfl
                    have hcz16_4 : w10.cell? ⟨gb107, 4, none⟩ = some (.int .i64 0) := (blk_cell BK107.out 4).trans rfl
                    have hfz16_0 := blk_frozen BK107.out 0
                    have hfz16_1 := blk_frozen BK107.out 1
                    have hfz16_2 := blk_frozen BK107.out 2
                    have hfz16_3 := blk_frozen BK107.out 3
                    have hfz16_4 := blk_frozen BK107.out 4
                    go_wp2
                    go_meet
                    case rel => exact ⟨_, (false), (by first | rfl | (simp; done) | (simp [*]; done)), H', ⟨by have := HK1.out; first | omega | exact Nat.le_refl _⟩, ⟨by (with_reducible repeat (first | apply Kd.R_alloc | apply Kd.R_drewN | apply Kd.R_drew)); exact Kd.R_mono (Kd.R_far (p := ⟨gb107, 4, none⟩) (Kd.R_far (p := ⟨gb107, 3, none⟩) (Kd.R_far (p := ⟨gb107, 2, none⟩) (Kd.R_far (p := ⟨gb107, 1, none⟩) (Kd.R_far (p := ⟨gb107, 0, none⟩) (Kd.R_types HO_12.out BK107.out (by decide)) (fun _ hk => hk.2) (.int .i64 ((rd_T40 l2 x19_1).f0))) (fun _ hk => hk.2) (.int .i64 ((rd_T40 l2 x19_1).f1))) (fun _ hk => hk.2) (.int .i64 ((rd_T40 l2 x19_1).f2))) (fun _ hk => hk.2) (.slice A106_3 ((rd_T40 l2 x19_1).f3).length c106_3)) (fun _ hk => hk.2) (.int .i64 ((rd_T40 l2 x19_1).f4))) (fun _ hk => trivial)⟩, ⟨by (with_reducible repeat (first | refine blk_drewN ?_ _ | refine blk_drew ?_ | refine blk_alloc ?_ _)); refine blk_put (cs := #[.int .i64 ((rd_T40 l2 x19_1).f0), .int .i64 ((rd_T40 l2 x19_1).f1), .int .i64 ((rd_T40 l2 x19_1).f2), .slice A106_3 ((rd_T40 l2 x19_1).f3).length c106_3, .int .i64 0]) ?_ 4 _ rfl; (with_reducible repeat (first | refine blk_drewN ?_ _ | refine blk_drew ?_ | refine blk_alloc ?_ _)); refine blk_put (cs := #[.int .i64 ((rd_T40 l2 x19_1).f0), .int .i64 ((rd_T40 l2 x19_1).f1), .int .i64 ((rd_T40 l2 x19_1).f2), .slice none 0 0, .int .i64 0]) ?_ 3 _ rfl; (with_reducible repeat (first | refine blk_drewN ?_ _ | refine blk_drew ?_ | refine blk_alloc ?_ _)); refine blk_put (cs := #[.int .i64 ((rd_T40 l2 x19_1).f0), .int .i64 ((rd_T40 l2 x19_1).f1), .int .i64 0, .slice none 0 0, .int .i64 0]) ?_ 2 _ rfl; (with_reducible repeat (first | refine blk_drewN ?_ _ | refine blk_drew ?_ | refine blk_alloc ?_ _)); refine blk_put (cs := #[.int .i64 ((rd_T40 l2 x19_1).f0), .int .i64 0, .int .i64 0, .slice none 0 0, .int .i64 0]) ?_ 1 _ rfl; (with_reducible repeat (first | refine blk_drewN ?_ _ | refine blk_drew ?_ | refine blk_alloc ?_ _)); refine blk_put (cs := #[.int .i64 0, .int .i64 0, .int .i64 0, .slice none 0 0, .int .i64 0]) ?_ 0 _ rfl; (with_reducible repeat (first | refine blk_drewN ?_ _ | refine blk_drew ?_ | refine blk_alloc ?_ _)); exact BK107.out⟩, ⟨by repeat (first | (with_reducible first | exact HB.out | apply below_alloc | apply pw_below_drewN | apply below_drew1 | refine below_set ?_ GE107.out) | exact HB.out)⟩⟩
                  · rw [if_neg c15] at H
                    have c15b0 : (((rd_T40 l2 x19_1).f2) == 0) = false := beq_eq_false_iff_ne.mpr c15
                    have c15b1 : (((rd_T40 l2 x19_1).f2) != 0) = true := bne_iff_ne.mpr c15
                    have H' := Aside0.mk H
                    clear H
                    have hcz17_0 : w10.cell? ⟨gb107, 0, none⟩ = some (.int .i64 0) := (blk_cell BK107.out 0).trans rfl
                    have hcz17_1 : w10.cell? ⟨gb107, 1, none⟩ = some (.int .i64 0) := (blk_cell BK107.out 1).trans rfl
                    have hcz17_2 : w10.cell? ⟨gb107, 2, none⟩ = some (.int .i64 0) := (blk_cell BK107.out 2).trans rfl
                    have hcz17_3 : w10.cell? ⟨gb107, 3, none⟩ = some (.slice none 0 0) := (blk_cell BK107.out 3).trans rfl
                    have hcz17_4 : w10.cell? ⟨gb107, 4, none⟩ = some (.int .i64 0) := (blk_cell BK107.out 4).trans rfl
                    have hfz17_0 := blk_frozen BK107.out 0
                    have hfz17_1 := blk_frozen BK107.out 1
                    have hfz17_2 := blk_frozen BK107.out 2
                    have hfz17_3 := blk_frozen BK107.out 3
                    have hfz17_4 := blk_frozen BK107.out 4
                    go_wp2
                    go_meet
                    case rel => exact ⟨_, (decide (((rd_T40 l2 x19_1).f2) < a4)), (by first | rfl | (simp; done) | (simp [*]; done)), H', ⟨by have := HK1.out; first | omega | exact Nat.le_refl _⟩, ⟨by (with_reducible repeat (first | apply Kd.R_alloc | apply Kd.R_drewN | apply Kd.R_drew)); exact Kd.R_mono (Kd.R_far (p := ⟨gb107, 4, none⟩) (Kd.R_far (p := ⟨gb107, 3, none⟩) (Kd.R_far (p := ⟨gb107, 2, none⟩) (Kd.R_far (p := ⟨gb107, 1, none⟩) (Kd.R_far (p := ⟨gb107, 0, none⟩) (Kd.R_types HO_12.out BK107.out (by decide)) (fun _ hk => hk.2) (.int .i64 ((rd_T40 l2 x19_1).f0))) (fun _ hk => hk.2) (.int .i64 ((rd_T40 l2 x19_1).f1))) (fun _ hk => hk.2) (.int .i64 ((rd_T40 l2 x19_1).f2))) (fun _ hk => hk.2) (.slice A106_3 ((rd_T40 l2 x19_1).f3).length c106_3)) (fun _ hk => hk.2) (.int .i64 ((rd_T40 l2 x19_1).f4))) (fun _ hk => trivial)⟩, ⟨by (with_reducible repeat (first | refine blk_drewN ?_ _ | refine blk_drew ?_ | refine blk_alloc ?_ _)); refine blk_put (cs := #[.int .i64 ((rd_T40 l2 x19_1).f0), .int .i64 ((rd_T40 l2 x19_1).f1), .int .i64 ((rd_T40 l2 x19_1).f2), .slice A106_3 ((rd_T40 l2 x19_1).f3).length c106_3, .int .i64 0]) ?_ 4 _ rfl; (with_reducible repeat (first | refine blk_drewN ?_ _ | refine blk_drew ?_ | refine blk_alloc ?_ _)); refine blk_put (cs := #[.int .i64 ((rd_T40 l2 x19_1).f0), .int .i64 ((rd_T40 l2 x19_1).f1), .int .i64 ((rd_T40 l2 x19_1).f2), .slice none 0 0, .int .i64 0]) ?_ 3 _ rfl; (with_reducible repeat (first | refine blk_drewN ?_ _ | refine blk_drew ?_ | refine blk_alloc ?_ _)); refine blk_put (cs := #[.int .i64 ((rd_T40 l2 x19_1).f0), .int .i64 ((rd_T40 l2 x19_1).f1), .int .i64 0, .slice none 0 0, .int .i64 0]) ?_ 2 _ rfl; (with_reducible repeat (first | refine blk_drewN ?_ _ | refine blk_drew ?_ | refine blk_alloc ?_ _)); refine blk_put (cs := #[.int .i64 ((rd_T40 l2 x19_1).f0), .int .i64 0, .int .i64 0, .slice none 0 0, .int .i64 0]) ?_ 1 _ rfl; (with_reducible repeat (first | refine blk_drewN ?_ _ | refine blk_drew ?_ | refine blk_alloc ?_ _)); refine blk_put (cs := #[.int .i64 0, .int .i64 0, .int .i64 0, .slice none 0 0, .int .i64 0]) ?_ 0 _ rfl; (with_reducible repeat (first | refine blk_drewN ?_ _ | refine blk_drew ?_ | refine blk_alloc ?_ _)); exact BK107.out⟩, ⟨by repeat (first | (with_reducible first | exact HB.out | apply below_alloc | apply pw_below_drewN | apply below_drew1 | refine below_set ?_ GE107.out) | exact HB.out)⟩⟩
              · rw [if_neg c12] at H
                have c12b0 : (((rd_T40 l2 x19_1).f0) == a3) = false := beq_eq_false_iff_ne.mpr c12
                have c12b1 : (((rd_T40 l2 x19_1).f0) != a3) = true := bne_iff_ne.mpr c12
                (first | rw [c12b0] | (simp only [i64_w, i32_w]; rw [c12b0]) | skip)
                have H' := Aside0.mk H
                clear H
                have hcz18_0 : w10.cell? ⟨gb107, 0, none⟩ = some (.int .i64 0) := (blk_cell BK107.out 0).trans rfl
                have hcz18_1 : w10.cell? ⟨gb107, 1, none⟩ = some (.int .i64 0) := (blk_cell BK107.out 1).trans rfl
                have hcz18_2 : w10.cell? ⟨gb107, 2, none⟩ = some (.int .i64 0) := (blk_cell BK107.out 2).trans rfl
                have hcz18_3 : w10.cell? ⟨gb107, 3, none⟩ = some (.slice none 0 0) := (blk_cell BK107.out 3).trans rfl
                have hcz18_4 : w10.cell? ⟨gb107, 4, none⟩ = some (.int .i64 0) := (blk_cell BK107.out 4).trans rfl
                have hfz18_0 := blk_frozen BK107.out 0
                have hfz18_1 := blk_frozen BK107.out 1
                have hfz18_2 := blk_frozen BK107.out 2
                have hfz18_3 := blk_frozen BK107.out 3
                have hfz18_4 := blk_frozen BK107.out 4
                go_wp2
                go_meet
                case rel => exact ⟨_, (true), (by first | rfl | (simp; done) | (simp [*]; done)), H', ⟨by have := HK1.out; first | omega | exact Nat.le_refl _⟩, ⟨by (with_reducible repeat (first | apply Kd.R_alloc | apply Kd.R_drewN | apply Kd.R_drew)); exact Kd.R_mono (Kd.R_far (p := ⟨gb107, 4, none⟩) (Kd.R_far (p := ⟨gb107, 3, none⟩) (Kd.R_far (p := ⟨gb107, 2, none⟩) (Kd.R_far (p := ⟨gb107, 1, none⟩) (Kd.R_far (p := ⟨gb107, 0, none⟩) (Kd.R_types HO_12.out BK107.out (by decide)) (fun _ hk => hk.2) (.int .i64 ((rd_T40 l2 x19_1).f0))) (fun _ hk => hk.2) (.int .i64 ((rd_T40 l2 x19_1).f1))) (fun _ hk => hk.2) (.int .i64 ((rd_T40 l2 x19_1).f2))) (fun _ hk => hk.2) (.slice A106_3 ((rd_T40 l2 x19_1).f3).length c106_3)) (fun _ hk => hk.2) (.int .i64 ((rd_T40 l2 x19_1).f4))) (fun _ hk => trivial)⟩, ⟨by (with_reducible repeat (first | refine blk_drewN ?_ _ | refine blk_drew ?_ | refine blk_alloc ?_ _)); refine blk_put (cs := #[.int .i64 ((rd_T40 l2 x19_1).f0), .int .i64 ((rd_T40 l2 x19_1).f1), .int .i64 ((rd_T40 l2 x19_1).f2), .slice A106_3 ((rd_T40 l2 x19_1).f3).length c106_3, .int .i64 0]) ?_ 4 _ rfl; (with_reducible repeat (first | refine blk_drewN ?_ _ | refine blk_drew ?_ | refine blk_alloc ?_ _)); refine blk_put (cs := #[.int .i64 ((rd_T40 l2 x19_1).f0), .int .i64 ((rd_T40 l2 x19_1).f1), .int .i64 ((rd_T40 l2 x19_1).f2), .slice none 0 0, .int .i64 0]) ?_ 3 _ rfl; (with_reducible repeat (first | refine blk_drewN ?_ _ | refine blk_drew ?_ | refine blk_alloc ?_ _)); refine blk_put (cs := #[.int .i64 ((rd_T40 l2 x19_1).f0), .int .i64 ((rd_T40 l2 x19_1).f1), .int .i64 0, .slice none 0 0, .int .i64 0]) ?_ 2 _ rfl; (with_reducible repeat (first | refine blk_drewN ?_ _ | refine blk_drew ?_ | refine blk_alloc ?_ _)); refine blk_put (cs := #[.int .i64 ((rd_T40 l2 x19_1).f0), .int .i64 0, .int .i64 0, .slice none 0 0, .int .i64 0]) ?_ 1 _ rfl; (with_reducible repeat (first | refine blk_drewN ?_ _ | refine blk_drew ?_ | refine blk_alloc ?_ _)); refine blk_put (cs := #[.int .i64 0, .int .i64 0, .int .i64 0, .slice none 0 0, .int .i64 0]) ?_ 0 _ rfl; (with_reducible repeat (first | refine blk_drewN ?_ _ | refine blk_drew ?_ | refine blk_alloc ?_ _)); exact BK107.out⟩, ⟨by repeat (first | (with_reducible first | exact HB.out | apply below_alloc | apply pw_below_drewN | apply below_drew1 | refine below_set ?_ GE107.out) | exact HB.out)⟩⟩
            case rest =>
              clear HC9
              try clear c1
              try clear p1
              try clear q1
              try clear hx1
              try clear c2
              try clear p2
              try clear c6
              try clear c6b0
              try clear c7
              try clear c7b0
              try clear c8
              try clear c8b0
              try clear c10
              try clear p10
              try clear q10
              try clear hx10
              try clear c12
              try clear c12b0
              try clear c12b1
              try clear c13
              try clear c13b0
              try clear c15
              try clear c15b0
              try clear c15b1
              try clear hcz11_0
              try clear hcz11_1
              try clear hcz11_2
              try clear hcz11_3
              try clear hcz11_4
              try clear hcz14_0
              try clear hcz14_1
              try clear hcz14_2
              try clear hcz14_3
              try clear hcz14_4
              try clear hcz16_0
              try clear hcz16_1
              try clear hcz16_2
              try clear hcz16_3
              try clear hcz16_4
              try clear hcz17_0
              try clear hcz17_1
              try clear hcz17_2
              try clear hcz17_3
              try clear hcz17_4
              try clear hcz18_0
              try clear hcz18_1
              try clear hcz18_2
              try clear hcz18_3
              try clear hcz18_4
              try clear hfz11_0
              try clear hfz11_1
              try clear hfz11_2
              try clear hfz11_3
              try clear hfz11_4
              try clear hfz14_0
              try clear hfz14_1
              try clear hfz14_2
              try clear hfz14_3
              try clear hfz14_4
              try clear hfz16_0
              try clear hfz16_1
              try clear hfz16_2
              try clear hfz16_3
              try clear hfz16_4
              try clear hfz17_0
              try clear hfz17_1
              try clear hfz17_2
              try clear hfz17_3
              try clear hfz17_4
              try clear hfz18_0
              try clear hfz18_1
              try clear hfz18_2
              try clear hfz18_3
              try clear hfz18_4
              try clear hx106_0
              try clear hx106_1
              try clear hx106_2
              try clear hx106_3
              try clear hx106_4
              try clear p106
              try clear p2
              try clear q106
              obtain ⟨kq, x43_8, rfl, HA, HJ8, HO_12, BK107, HB⟩ := hcut
              cases kq with
              | zero => exact absurd HA.out (by simp [notify_Choose.j1])
              | succ kj8 =>
                have H := HA.out
                clear HA
                simp only [notify_Choose.j1] at H
                by_cases c19 : x43_8 = true
                · subst c19
                  have H1 : (notify_Choose.l0 kj8 l0 a1 a3 a4 x12_1 x13_1 x14_1 l2 (l2.length : Int) (wrap64 (x19_1 + 1))) = some (r1, r2) := by rw [if_pos rfl] at H; exact H
                  clear H
                  have H := H1
                  clear H1
                  have H' := Aside0.mk H
                  clear H
                  go_wp2
                  go_roundg kj8
                  case measure => have := HK1.out; have := HJ8.out; omega
                  case rel => exact ⟨(x12_1), (x13_1), (x14_1), (wrap64 (x19_1 + 1)), (by first | rfl | (simp; done) | (simp [*]; done)), (by first | rfl | (simp; done) | (simp [*]; done)), (by first | rfl | (simp; done) | (simp [*]; done)), H', ⟨by have := HK1.out; have := HJ8.out; omega⟩, ⟨by (with_reducible repeat (first | apply Kd.R_alloc | apply Kd.R_drewN | apply Kd.R_drew)); exact HO_12.out⟩, ⟨by repeat (first | (with_reducible first | exact HB.out | apply below_alloc | apply pw_below_drewN | apply below_drew1 | refine below_set ?_ GE107.out) | exact HB.out)⟩⟩
                · replace c19 := Bool.eq_false_iff.mpr c19
                  subst c19
                  have H1 : (if x12_1.length + ((rd_T40 l2 x19_1).f3).length < 17592186044416 then ((some (x12_1 ++ ((rd_T40 l2 x19_1).f3) : List Int)).bind fun y108 => (if ((rd_T40 l2 x19_1).f4) > 0 then (if x13_1 = 0 then (notify_Choose.l0 kj8 l0 a1 a3 a4 y108 ((rd_T40 l2 x19_1).f4) true l2 (l2.length : Int) (wrap64 (x19_1 + 1))) else (if ((rd_T40 l2 x19_1).f4) < x13_1 then (notify_Choose.l0 kj8 l0 a1 a3 a4 y108 ((rd_T40 l2 x19_1).f4) true l2 (l2.length : Int) (wrap64 (x19_1 + 1))) else (notify_Choose.l0 kj8 l0 a1 a3 a4 y108 x13_1 true l2 (l2.length : Int) (wrap64 (x19_1 + 1))))) else (notify_Choose.l0 kj8 l0 a1 a3 a4 y108 x13_1 true l2 (l2.length : Int) (wrap64 (x19_1 + 1))))) else (none)) = some (r1, r2) := by rw [if_neg (show ¬ (false = true) by decide)] at H; exact H
                  clear H
                  have H := H1
                  clear H1
                  by_cases c20 : x12_1.length + ((rd_T40 l2 x19_1).f3).length < 17592186044416
                  · rw [if_pos c20] at H
                    have LMc20 := Aside0.mk c20
                    clear c20
                    obtain ⟨y108, hy108⟩ : ∃ y_ : List Int, y_ = (x12_1 ++ ((rd_T40 l2 x19_1).f3)) := ⟨_, rfl⟩
                    replace H : (if ((rd_T40 l2 x19_1).f4) > 0 then (if x13_1 = 0 then (notify_Choose.l0 kj8 l0 a1 a3 a4 y108 ((rd_T40 l2 x19_1).f4) true l2 (l2.length : Int) (wrap64 (x19_1 + 1))) else (if ((rd_T40 l2 x19_1).f4) < x13_1 then (notify_Choose.l0 kj8 l0 a1 a3 a4 y108 ((rd_T40 l2 x19_1).f4) true l2 (l2.length : Int) (wrap64 (x19_1 + 1))) else (notify_Choose.l0 kj8 l0 a1 a3 a4 y108 x13_1 true l2 (l2.length : Int) (wrap64 (x19_1 + 1))))) else (notify_Choose.l0 kj8 l0 a1 a3 a4 y108 x13_1 true l2 (l2.length : Int) (wrap64 (x19_1 + 1)))) = some (r1, r2) := by first | (rw [hy108]; with_reducible exact H) | (have H2_ := (Option.bind_some _ _).symm.trans H; rw [hy108]; with_reducible exact H2_) | (have H2_ := (Option.bind_some _ _).symm.trans H; with_reducible exact H2_) | with_reducible exact H | (rw [hy108]; exact H) | exact H
                    have Ny108 := Aside0.mk hy108
                    clear hy108
                    by_cases c21 : ((rd_T40 l2 x19_1).f4) > 0
                    · rw [if_pos c21] at H
                      have c21b0 : decide (0 < ((rd_T40 l2 x19_1).f4)) = true := decide_eq_true c21
                      clear c21
                      by_cases c22 : x13_1 = 0
                      · rw [if_pos c22] at H
                        have c22b0 : (x13_1 == 0) = true := beq_iff_eq.mpr c22
                        have c22b1 : (x13_1 != 0) = false := bne_eq_false_iff_eq.mpr c22
                        clear c22
                        have H' := Aside0.mk H
                        clear H
                        have hcz23_0 : wc.cell? ⟨gb107, 0, none⟩ = some (.int .i64 ((rd_T40 l2 x19_1).f0)) := (blk_cell BK107.out 0).trans rfl
                        have hcz23_1 : wc.cell? ⟨gb107, 1, none⟩ = some (.int .i64 ((rd_T40 l2 x19_1).f1)) := (blk_cell BK107.out 1).trans rfl
                        have hcz23_2 : wc.cell? ⟨gb107, 2, none⟩ = some (.int .i64 ((rd_T40 l2 x19_1).f2)) := (blk_cell BK107.out 2).trans rfl
                        have hcz23_3 : wc.cell? ⟨gb107, 3, none⟩ = some (.slice A106_3 ((rd_T40 l2 x19_1).f3).length c106_3) := (blk_cell BK107.out 3).trans rfl
                        have hcz23_4 : wc.cell? ⟨gb107, 4, none⟩ = some (.int .i64 ((rd_T40 l2 x19_1).f4)) := (blk_cell BK107.out 4).trans rfl
                        have hfz23_0 := blk_frozen BK107.out 0
                        have hfz23_1 := blk_frozen BK107.out 1
                        have hfz23_2 := blk_frozen BK107.out 2
                        have hfz23_3 := blk_frozen BK107.out 3
                        have hfz23_4 := blk_frozen BK107.out 4
                        go_wp2_with (first | ((with_reducible refine gate_builtin (b := .append) (xs := #[.tmp 44, .tmp 46]) rfl ?_); at_builtin; refine Kd.R_append_rows (Kd.int .i64) (w0 := w) w.heap.size rfl (.tmp 44) (.tmp 46) 22 3 (.int .i64 0) 8 rfl Tryd.underlying22 info3 rfl (by decide) (by omega) u12 x12_1 ((rd_T40 l2 x19_1).f3) _ _ _ (fun _ => True) (fun _ => False) rfl rfl ?aO ?aR (fun _ _ h => h) (fun _ h => h.elim) ?aF ?aB ?aS ?aL ?_; (case aR => repeat (first | exact (Kd.C_below HR106_3.out HB.out) | (with_reducible refine Kd.C_alloc ?_ _) | (with_reducible refine Kd.C_drewN ?_ _) | (with_reducible refine Kd.C_drew ?_))); (case aB => exact (by repeat (first | (with_reducible first | exact HB.out | apply below_alloc | apply pw_below_drewN | apply below_drew1 | refine below_set ?_ GE107.out) | exact HB.out))); (case aF => exact (fun _ _ => trivial)); (case aO => exact (by (with_reducible repeat (first | apply Kd.R_alloc | apply Kd.R_drewN | apply Kd.R_drew)); exact HO_12.out)); (case aS => exact (below_size (by repeat (first | (with_reducible first | exact HB.out | apply below_alloc | apply pw_below_drewN | apply below_drew1 | refine below_set ?_ GE107.out) | exact HB.out)))); (case aL => have := LMc20.out; omega); intro v109 w24 ho hb hg hat; rw [← Ny108.out] at ho; have n0_ := Aside0.mk (blk_grown (g := gb107) (o := .cells #[.int .i64 ((rd_T40 l2 x19_1).f0), .int .i64 ((rd_T40 l2 x19_1).f1), .int .i64 ((rd_T40 l2 x19_1).f2), .slice A106_3 ((rd_T40 l2 x19_1).f3).length c106_3, .int .i64 ((rd_T40 l2 x19_1).f4)] 40 (0, 0)) (by (with_reducible repeat (first | refine blk_drewN ?_ _ | refine blk_drew ?_ | refine blk_alloc ?_ _)); exact BK107.out) hg (Kd.R_ne HO_12.out BK107.out (by decide))); have n1_ := Aside0.mk (hb); have n2_ := Aside0.mk (ho); clear BK107; clear HB; clear HO_12; have BK107 := n0_; have HB := n1_; have HO110 := n2_; clear n0_ n1_ n2_; clear ho hb hg hat; have hcz25_0 : w24.cell? ⟨gb107, 0, none⟩ = some (.int .i64 ((rd_T40 l2 x19_1).f0)) := (blk_cell BK107.out 0).trans rfl; have hcz25_1 : w24.cell? ⟨gb107, 1, none⟩ = some (.int .i64 ((rd_T40 l2 x19_1).f1)) := (blk_cell BK107.out 1).trans rfl; have hcz25_2 : w24.cell? ⟨gb107, 2, none⟩ = some (.int .i64 ((rd_T40 l2 x19_1).f2)) := (blk_cell BK107.out 2).trans rfl; have hcz25_3 : w24.cell? ⟨gb107, 3, none⟩ = some (.slice A106_3 ((rd_T40 l2 x19_1).f3).length c106_3) := (blk_cell BK107.out 3).trans rfl; have hcz25_4 : w24.cell? ⟨gb107, 4, none⟩ = some (.int .i64 ((rd_T40 l2 x19_1).f4)) := (blk_cell BK107.out 4).trans rfl; have hfz25_0 := blk_frozen BK107.out 0; have hfz25_1 := blk_frozen BK107.out 1; have hfz25_2 := blk_frozen BK107.out 2; have hfz25_3 := blk_frozen BK107.out 3; have hfz25_4 := blk_frozen BK107.out 4))
                        go_roundg kj8
                        case measure => have := HK1.out; have := HJ8.out; omega
                        case rel => exact ⟨(y108), (((rd_T40 l2 x19_1).f4)), (true), (wrap64 (x19_1 + 1)), (by first | rfl | (simp; done) | (simp [*]; done)), (by first | rfl | (simp; done) | (simp [*]; done)), (by first | rfl | (simp; done) | (simp [*]; done)), H', ⟨by have := HK1.out; have := HJ8.out; omega⟩, ⟨by (with_reducible repeat (first | apply Kd.R_alloc | apply Kd.R_drewN | apply Kd.R_drew)); exact HO110.out⟩, ⟨by repeat (first | (with_reducible first | exact HB.out | apply below_alloc | apply pw_below_drewN | apply below_drew1 | refine below_set ?_ GE107.out) | exact HB.out)⟩⟩
                      · rw [if_neg c22] at H
                        have c22b0 : (x13_1 == 0) = false := beq_eq_false_iff_ne.mpr c22
                        have c22b1 : (x13_1 != 0) = true := bne_iff_ne.mpr c22
                        by_cases c26 : ((rd_T40 l2 x19_1).f4) < x13_1
                        · rw [if_pos c26] at H
                          have c26b0 : decide (((rd_T40 l2 x19_1).f4) < x13_1) = true := decide_eq_true c26
                          clear c26
                          have H' := Aside0.mk H
                          clear H
                          have hcz27_0 : wc.cell? ⟨gb107, 0, none⟩ = some (.int .i64 ((rd_T40 l2 x19_1).f0)) := (blk_cell BK107.out 0).trans rfl
                          have hcz27_1 : wc.cell? ⟨gb107, 1, none⟩ = some (.int .i64 ((rd_T40 l2 x19_1).f1)) := (blk_cell BK107.out 1).trans rfl
                          have hcz27_2 : wc.cell? ⟨gb107, 2, none⟩ = some (.int .i64 ((rd_T40 l2 x19_1).f2)) := (blk_cell BK107.out 2).trans rfl
                          have hcz27_3 : wc.cell? ⟨gb107, 3, none⟩ = some (.slice A106_3 ((rd_T40 l2 x19_1).f3).length c106_3) := (blk_cell BK107.out 3).trans rfl
                          have hcz27_4 : wc.cell? ⟨gb107, 4, none⟩ = some (.int .i64 ((rd_T40 l2 x19_1).f4)) := (blk_cell BK107.out 4).trans rfl
                          have hfz27_0 := blk_frozen BK107.out 0
                          have hfz27_1 := blk_frozen BK107.out 1
                          have hfz27_2 := blk_frozen BK107.out 2
                          have hfz27_3 := blk_frozen BK107.out 3
                          have hfz27_4 := blk_frozen BK107.out 4
                          go_wp2_with (first | ((with_reducible refine gate_builtin (b := .append) (xs := #[.tmp 44, .tmp 46]) rfl ?_); at_builtin; refine Kd.R_append_rows (Kd.int .i64) (w0 := w) w.heap.size rfl (.tmp 44) (.tmp 46) 22 3 (.int .i64 0) 8 rfl Tryd.underlying22 info3 rfl (by decide) (by omega) u12 x12_1 ((rd_T40 l2 x19_1).f3) _ _ _ (fun _ => True) (fun _ => False) rfl rfl ?aO ?aR (fun _ _ h => h) (fun _ h => h.elim) ?aF ?aB ?aS ?aL ?_; (case aR => repeat (first | exact (Kd.C_below HR106_3.out HB.out) | (with_reducible refine Kd.C_alloc ?_ _) | (with_reducible refine Kd.C_drewN ?_ _) | (with_reducible refine Kd.C_drew ?_))); (case aB => exact (by repeat (first | (with_reducible first | exact HB.out | apply below_alloc | apply pw_below_drewN | apply below_drew1 | refine below_set ?_ GE107.out) | exact HB.out))); (case aF => exact (fun _ _ => trivial)); (case aO => exact (by (with_reducible repeat (first | apply Kd.R_alloc | apply Kd.R_drewN | apply Kd.R_drew)); exact HO_12.out)); (case aS => exact (below_size (by repeat (first | (with_reducible first | exact HB.out | apply below_alloc | apply pw_below_drewN | apply below_drew1 | refine below_set ?_ GE107.out) | exact HB.out)))); (case aL => have := LMc20.out; omega); intro v109 w28 ho hb hg hat; rw [← Ny108.out] at ho; have n0_ := Aside0.mk (blk_grown (g := gb107) (o := .cells #[.int .i64 ((rd_T40 l2 x19_1).f0), .int .i64 ((rd_T40 l2 x19_1).f1), .int .i64 ((rd_T40 l2 x19_1).f2), .slice A106_3 ((rd_T40 l2 x19_1).f3).length c106_3, .int .i64 ((rd_T40 l2 x19_1).f4)] 40 (0, 0)) (by (with_reducible repeat (first | refine blk_drewN ?_ _ | refine blk_drew ?_ | refine blk_alloc ?_ _)); exact BK107.out) hg (Kd.R_ne HO_12.out BK107.out (by decide))); have n1_ := Aside0.mk (hb); have n2_ := Aside0.mk (ho); clear BK107; clear HB; clear HO_12; have BK107 := n0_; have HB := n1_; have HO110 := n2_; clear n0_ n1_ n2_; clear ho hb hg hat; have hcz29_0 : w28.cell? ⟨gb107, 0, none⟩ = some (.int .i64 ((rd_T40 l2 x19_1).f0)) := (blk_cell BK107.out 0).trans rfl; have hcz29_1 : w28.cell? ⟨gb107, 1, none⟩ = some (.int .i64 ((rd_T40 l2 x19_1).f1)) := (blk_cell BK107.out 1).trans rfl; have hcz29_2 : w28.cell? ⟨gb107, 2, none⟩ = some (.int .i64 ((rd_T40 l2 x19_1).f2)) := (blk_cell BK107.out 2).trans rfl; have hcz29_3 : w28.cell? ⟨gb107, 3, none⟩ = some (.slice A106_3 ((rd_T40 l2 x19_1).f3).length c106_3) := (blk_cell BK107.out 3).trans rfl; have hcz29_4 : w28.cell? ⟨gb107, 4, none⟩ = some (.int .i64 ((rd_T40 l2 x19_1).f4)) := (blk_cell BK107.out 4).trans rfl; have hfz29_0 := blk_frozen BK107.out 0; have hfz29_1 := blk_frozen BK107.out 1; have hfz29_2 := blk_frozen BK107.out 2; have hfz29_3 := blk_frozen BK107.out 3; have hfz29_4 := blk_frozen BK107.out 4))
                          go_roundg kj8
                          case measure => have := HK1.out; have := HJ8.out; omega
                          case rel => exact ⟨(y108), (((rd_T40 l2 x19_1).f4)), (true), (wrap64 (x19_1 + 1)), (by first | rfl | (simp; done) | (simp [*]; done)), (by first | rfl | (simp; done) | (simp [*]; done)), (by first | rfl | (simp; done) | (simp [*]; done)), H', ⟨by have := HK1.out; have := HJ8.out; omega⟩, ⟨by (with_reducible repeat (first | apply Kd.R_alloc | apply Kd.R_drewN | apply Kd.R_drew)); exact HO110.out⟩, ⟨by repeat (first | (with_reducible first | exact HB.out | apply below_alloc | apply pw_below_drewN | apply below_drew1 | refine below_set ?_ GE107.out) | exact HB.out)⟩⟩
                        · rw [if_neg c26] at H
                          have c26b0 : decide (((rd_T40 l2 x19_1).f4) < x13_1) = false := decide_eq_false c26
                          clear c26
                          have H' := Aside0.mk H
                          clear H
                          have hcz30_0 : wc.cell? ⟨gb107, 0, none⟩ = some (.int .i64 ((rd_T40 l2 x19_1).f0)) := (blk_cell BK107.out 0).trans rfl
                          have hcz30_1 : wc.cell? ⟨gb107, 1, none⟩ = some (.int .i64 ((rd_T40 l2 x19_1).f1)) := (blk_cell BK107.out 1).trans rfl
                          have hcz30_2 : wc.cell? ⟨gb107, 2, none⟩ = some (.int .i64 ((rd_T40 l2 x19_1).f2)) := (blk_cell BK107.out 2).trans rfl
                          have hcz30_3 : wc.cell? ⟨gb107, 3, none⟩ = some (.slice A106_3 ((rd_T40 l2 x19_1).f3).length c106_3) := (blk_cell BK107.out 3).trans rfl
                          have hcz30_4 : wc.cell? ⟨gb107, 4, none⟩ = some (.int .i64 ((rd_T40 l2 x19_1).f4)) := (blk_cell BK107.out 4).trans rfl
                          have hfz30_0 := blk_frozen BK107.out 0
                          have hfz30_1 := blk_frozen BK107.out 1
                          have hfz30_2 := blk_frozen BK107.out 2
                          have hfz30_3 := blk_frozen BK107.out 3
                          have hfz30_4 := blk_frozen BK107.out 4
                          go_wp2_with (first | ((with_reducible refine gate_builtin (b := .append) (xs := #[.tmp 44, .tmp 46]) rfl ?_); at_builtin; refine Kd.R_append_rows (Kd.int .i64) (w0 := w) w.heap.size rfl (.tmp 44) (.tmp 46) 22 3 (.int .i64 0) 8 rfl Tryd.underlying22 info3 rfl (by decide) (by omega) u12 x12_1 ((rd_T40 l2 x19_1).f3) _ _ _ (fun _ => True) (fun _ => False) rfl rfl ?aO ?aR (fun _ _ h => h) (fun _ h => h.elim) ?aF ?aB ?aS ?aL ?_; (case aR => repeat (first | exact (Kd.C_below HR106_3.out HB.out) | (with_reducible refine Kd.C_alloc ?_ _) | (with_reducible refine Kd.C_drewN ?_ _) | (with_reducible refine Kd.C_drew ?_))); (case aB => exact (by repeat (first | (with_reducible first | exact HB.out | apply below_alloc | apply pw_below_drewN | apply below_drew1 | refine below_set ?_ GE107.out) | exact HB.out))); (case aF => exact (fun _ _ => trivial)); (case aO => exact (by (with_reducible repeat (first | apply Kd.R_alloc | apply Kd.R_drewN | apply Kd.R_drew)); exact HO_12.out)); (case aS => exact (below_size (by repeat (first | (with_reducible first | exact HB.out | apply below_alloc | apply pw_below_drewN | apply below_drew1 | refine below_set ?_ GE107.out) | exact HB.out)))); (case aL => have := LMc20.out; omega); intro v109 w31 ho hb hg hat; rw [← Ny108.out] at ho; have n0_ := Aside0.mk (blk_grown (g := gb107) (o := .cells #[.int .i64 ((rd_T40 l2 x19_1).f0), .int .i64 ((rd_T40 l2 x19_1).f1), .int .i64 ((rd_T40 l2 x19_1).f2), .slice A106_3 ((rd_T40 l2 x19_1).f3).length c106_3, .int .i64 ((rd_T40 l2 x19_1).f4)] 40 (0, 0)) (by (with_reducible repeat (first | refine blk_drewN ?_ _ | refine blk_drew ?_ | refine blk_alloc ?_ _)); exact BK107.out) hg (Kd.R_ne HO_12.out BK107.out (by decide))); have n1_ := Aside0.mk (hb); have n2_ := Aside0.mk (ho); clear BK107; clear HB; clear HO_12; have BK107 := n0_; have HB := n1_; have HO110 := n2_; clear n0_ n1_ n2_; clear ho hb hg hat; have hcz32_0 : w31.cell? ⟨gb107, 0, none⟩ = some (.int .i64 ((rd_T40 l2 x19_1).f0)) := (blk_cell BK107.out 0).trans rfl; have hcz32_1 : w31.cell? ⟨gb107, 1, none⟩ = some (.int .i64 ((rd_T40 l2 x19_1).f1)) := (blk_cell BK107.out 1).trans rfl; have hcz32_2 : w31.cell? ⟨gb107, 2, none⟩ = some (.int .i64 ((rd_T40 l2 x19_1).f2)) := (blk_cell BK107.out 2).trans rfl; have hcz32_3 : w31.cell? ⟨gb107, 3, none⟩ = some (.slice A106_3 ((rd_T40 l2 x19_1).f3).length c106_3) := (blk_cell BK107.out 3).trans rfl; have hcz32_4 : w31.cell? ⟨gb107, 4, none⟩ = some (.int .i64 ((rd_T40 l2 x19_1).f4)) := (blk_cell BK107.out 4).trans rfl; have hfz32_0 := blk_frozen BK107.out 0; have hfz32_1 := blk_frozen BK107.out 1; have hfz32_2 := blk_frozen BK107.out 2; have hfz32_3 := blk_frozen BK107.out 3; have hfz32_4 := blk_frozen BK107.out 4))
                          go_roundg kj8
                          case measure => have := HK1.out; have := HJ8.out; omega
                          case rel => exact ⟨(y108), (x13_1), (true), (wrap64 (x19_1 + 1)), (by first | rfl | (simp; done) | (simp [*]; done)), (by first | rfl | (simp; done) | (simp [*]; done)), (by first | rfl | (simp; done) | (simp [*]; done)), H', ⟨by have := HK1.out; have := HJ8.out; omega⟩, ⟨by (with_reducible repeat (first | apply Kd.R_alloc | apply Kd.R_drewN | apply Kd.R_drew)); exact HO110.out⟩, ⟨by repeat (first | (with_reducible first | exact HB.out | apply below_alloc | apply pw_below_drewN | apply below_drew1 | refine below_set ?_ GE107.out) | exact HB.out)⟩⟩
                    · rw [if_neg c21] at H
                      have c21b0 : decide (0 < ((rd_T40 l2 x19_1).f4)) = false := decide_eq_false c21
                      clear c21
                      have H' := Aside0.mk H
                      clear H
                      have hcz33_0 : wc.cell? ⟨gb107, 0, none⟩ = some (.int .i64 ((rd_T40 l2 x19_1).f0)) := (blk_cell BK107.out 0).trans rfl
                      have hcz33_1 : wc.cell? ⟨gb107, 1, none⟩ = some (.int .i64 ((rd_T40 l2 x19_1).f1)) := (blk_cell BK107.out 1).trans rfl
                      have hcz33_2 : wc.cell? ⟨gb107, 2, none⟩ = some (.int .i64 ((rd_T40 l2 x19_1).f2)) := (blk_cell BK107.out 2).trans rfl
                      have hcz33_3 : wc.cell? ⟨gb107, 3, none⟩ = some (.slice A106_3 ((rd_T40 l2 x19_1).f3).length c106_3) := (blk_cell BK107.out 3).trans rfl
                      have hcz33_4 : wc.cell? ⟨gb107, 4, none⟩ = some (.int .i64 ((rd_T40 l2 x19_1).f4)) := (blk_cell BK107.out 4).trans rfl
                      have hfz33_0 := blk_frozen BK107.out 0
                      have hfz33_1 := blk_frozen BK107.out 1
                      have hfz33_2 := blk_frozen BK107.out 2
                      have hfz33_3 := blk_frozen BK107.out 3
                      have hfz33_4 := blk_frozen BK107.out 4
                      go_wp2_with (first | ((with_reducible refine gate_builtin (b := .append) (xs := #[.tmp 44, .tmp 46]) rfl ?_); at_builtin; refine Kd.R_append_rows (Kd.int .i64) (w0 := w) w.heap.size rfl (.tmp 44) (.tmp 46) 22 3 (.int .i64 0) 8 rfl Tryd.underlying22 info3 rfl (by decide) (by omega) u12 x12_1 ((rd_T40 l2 x19_1).f3) _ _ _ (fun _ => True) (fun _ => False) rfl rfl ?aO ?aR (fun _ _ h => h) (fun _ h => h.elim) ?aF ?aB ?aS ?aL ?_; (case aR => repeat (first | exact (Kd.C_below HR106_3.out HB.out) | (with_reducible refine Kd.C_alloc ?_ _) | (with_reducible refine Kd.C_drewN ?_ _) | (with_reducible refine Kd.C_drew ?_))); (case aB => exact (by repeat (first | (with_reducible first | exact HB.out | apply below_alloc | apply pw_below_drewN | apply below_drew1 | refine below_set ?_ GE107.out) | exact HB.out))); (case aF => exact (fun _ _ => trivial)); (case aO => exact (by (with_reducible repeat (first | apply Kd.R_alloc | apply Kd.R_drewN | apply Kd.R_drew)); exact HO_12.out)); (case aS => exact (below_size (by repeat (first | (with_reducible first | exact HB.out | apply below_alloc | apply pw_below_drewN | apply below_drew1 | refine below_set ?_ GE107.out) | exact HB.out)))); (case aL => have := LMc20.out; omega); intro v109 w34 ho hb hg hat; rw [← Ny108.out] at ho; have n0_ := Aside0.mk (blk_grown (g := gb107) (o := .cells #[.int .i64 ((rd_T40 l2 x19_1).f0), .int .i64 ((rd_T40 l2 x19_1).f1), .int .i64 ((rd_T40 l2 x19_1).f2), .slice A106_3 ((rd_T40 l2 x19_1).f3).length c106_3, .int .i64 ((rd_T40 l2 x19_1).f4)] 40 (0, 0)) (by (with_reducible repeat (first | refine blk_drewN ?_ _ | refine blk_drew ?_ | refine blk_alloc ?_ _)); exact BK107.out) hg (Kd.R_ne HO_12.out BK107.out (by decide))); have n1_ := Aside0.mk (hb); have n2_ := Aside0.mk (ho); clear BK107; clear HB; clear HO_12; have BK107 := n0_; have HB := n1_; have HO110 := n2_; clear n0_ n1_ n2_; clear ho hb hg hat; have hcz35_0 : w34.cell? ⟨gb107, 0, none⟩ = some (.int .i64 ((rd_T40 l2 x19_1).f0)) := (blk_cell BK107.out 0).trans rfl; have hcz35_1 : w34.cell? ⟨gb107, 1, none⟩ = some (.int .i64 ((rd_T40 l2 x19_1).f1)) := (blk_cell BK107.out 1).trans rfl; have hcz35_2 : w34.cell? ⟨gb107, 2, none⟩ = some (.int .i64 ((rd_T40 l2 x19_1).f2)) := (blk_cell BK107.out 2).trans rfl; have hcz35_3 : w34.cell? ⟨gb107, 3, none⟩ = some (.slice A106_3 ((rd_T40 l2 x19_1).f3).length c106_3) := (blk_cell BK107.out 3).trans rfl; have hcz35_4 : w34.cell? ⟨gb107, 4, none⟩ = some (.int .i64 ((rd_T40 l2 x19_1).f4)) := (blk_cell BK107.out 4).trans rfl; have hfz35_0 := blk_frozen BK107.out 0; have hfz35_1 := blk_frozen BK107.out 1; have hfz35_2 := blk_frozen BK107.out 2; have hfz35_3 := blk_frozen BK107.out 3; have hfz35_4 := blk_frozen BK107.out 4))
                      go_roundg kj8
                      case measure => have := HK1.out; have := HJ8.out; omega
                      case rel => exact ⟨(y108), (x13_1), (true), (wrap64 (x19_1 + 1)), (by first | rfl | (simp; done) | (simp [*]; done)), (by first | rfl | (simp; done) | (simp [*]; done)), (by first | rfl | (simp; done) | (simp [*]; done)), H', ⟨by have := HK1.out; have := HJ8.out; omega⟩, ⟨by (with_reducible repeat (first | apply Kd.R_alloc | apply Kd.R_drewN | apply Kd.R_drew)); exact HO110.out⟩, ⟨by repeat (first | (with_reducible first | exact HB.out | apply below_alloc | apply pw_below_drewN | apply below_drew1 | refine below_set ?_ GE107.out) | exact HB.out)⟩⟩
                  · rw [if_neg c20] at H
                    exact absurd H (by simp)
          · rw [if_neg c8] at H
            exact absurd H (by simp)
        · rw [if_neg c7] at H
          exact absurd H (by simp)
      · rw [if_neg c6] at H
        have c6b0 : decide (x19_1 < (l2.length : Int)) = false := decide_eq_false c6
        clear c6
        by_cases c36 : x14_1 = true
        · subst c36
          have H1 : ((notify_once.f x12_1).bind fun t111 => (some (t111, x13_1))) = some (r1, r2) := by rw [if_pos rfl] at H; exact H
          clear H
          have H := H1
          clear H1
          replace H := Option.bind_eq_some_iff.mp H
          obtain ⟨t111, A370, H⟩ := H
          replace H : (some (t111, x13_1)) = some (r1, r2) := H
          have A37 := Aside0.mk A370
          clear A370
          simp only [Option.some.injEq, Prod.mk.injEq] at H
          obtain ⟨rfl, rfl⟩ := H
          obtain ⟨Ao38, co38, eo38⟩ := Kd.R_slice HO_12.out
          subst eo38
          go_wp2_with (first | ((with_reducible refine gate_callee (f := 12) rfl ?_); refine goesL_ (some 71) rfl rfl Tryd.func12 (by kernel_rfl) rfl #[.slice Ao38 x12_1.length co38] rfl (by (try simp only [List.map_toArray, List.map_cons, List.map_nil]); first | done | rfl | (simp only [List.length_drop, List.length_take]; rfl)) ?_; (with_reducible refine (notify_once.calls _ _ x12_1 t111 _ ?side1 ?side2 A37.out).mono ?_); (case side1 => repeat (first | exact (Kd.R_reads' HO_12.out).2.2 | (with_reducible refine Kd.C_alloc ?_ _) | (with_reducible refine Kd.C_drewN ?_ _) | (with_reducible refine Kd.C_drew ?_))); (case side2 => exact (Kd.R_reads' HO_12.out).2.1); rintro e w39 ⟨v112, rfl, ho0, hb⟩; refine ⟨_, rfl, ?_⟩; have n0_ := Aside0.mk (Kd.R_elder' (by (with_reducible repeat (first | apply Kd.R_alloc | apply Kd.R_drewN | apply Kd.R_drew)); exact HO_12.out) (Kd.R_base ho0) hb); have n1_ := Aside0.mk (Kd.R_lower (Kd.R_new' ho0 (Kd.R_lt (by (with_reducible repeat (first | apply Kd.R_alloc | apply Kd.R_drewN | apply Kd.R_drew)); exact HO_12.out))) (below_size (by repeat (first | (with_reducible first | exact HB.out | apply below_alloc | apply pw_below_drewN | apply below_drew1) | exact HB.out)))); have n2_ := Aside0.mk (below_step (by repeat (first | (with_reducible first | exact HB.out | apply below_alloc | apply pw_below_drewN | apply below_drew1) | exact HB.out)) hb); clear HO_12; clear HB; have HO_12 := n0_; have HO113 := n1_; have HB := n2_; clear n0_ n1_ n2_; (try clear hb); (try clear hb2); (try clear hk); (try clear hi); (try clear ho0)))
          go_ret2
          exact ⟨_, by first | rfl | (simp [errW_none, errW_some] <;> rfl) | (simp [*, errW_none, errW_some] <;> rfl), by (with_reducible repeat (first | apply Kd.R_alloc | apply Kd.R_drewN | apply Kd.R_drew)); exact Kd.R_mono HO113.out (fun _ hk => trivial), by repeat (first | (with_reducible first | exact HB.out | apply below_alloc | apply pw_below_drewN | apply below_drew1) | exact HB.out)⟩
        · replace c36 := Bool.eq_false_iff.mpr c36
          subst c36
          have H1 : ((notify_once.f l0).bind fun t114 => (some (t114, mx a1 0))) = some (r1, r2) := by rw [if_neg (show ¬ (false = true) by decide)] at H; exact H
          clear H
          have H := H1
          clear H1
          replace H := Option.bind_eq_some_iff.mp H
          obtain ⟨t114, A400, H⟩ := H
          replace H : (some (t114, mx a1 0)) = some (r1, r2) := H
          have A40 := Aside0.mk A400
          clear A400
          obtain ⟨ji41, hji41⟩ : ∃ j_ : Int, (mx a1 0) = j_ := ⟨_, rfl⟩
          replace H : (some (t114, ji41)) = some (r1, r2) := by first | (rw [hji41] at H; exact H) | (simp only [hji41] at H ⊢; exact H)
          (try rw [hji41] at A40)
          have hji41_ : (if a1 < 0 then 0 else a1) = ji41 := hji41
          simp only [Option.some.injEq, Prod.mk.injEq] at H
          obtain ⟨rfl, rfl⟩ := H
          go_wp2_with (first | ((with_reducible refine gate_callee (f := 12) rfl ?_); refine goesL_ (some 67) rfl rfl Tryd.func12 (by kernel_rfl) rfl #[.slice A0 l0.length c0] rfl (by (try simp only [List.map_toArray, List.map_cons, List.map_nil]); first | done | rfl | (simp only [List.length_drop, List.length_take]; rfl)) ?_; (with_reducible refine (notify_once.calls _ _ l0 t114 _ ?side1 ?side2 A40.out).mono ?_); (case side1 => repeat (first | exact (Kd.C_below HR0.out HB.out) | (with_reducible refine Kd.C_alloc ?_ _) | (with_reducible refine Kd.C_drewN ?_ _) | (with_reducible refine Kd.C_drew ?_))); (case side2 => exact HC0.out); rintro e w42 ⟨v115, rfl, ho0, hb⟩; refine ⟨_, rfl, ?_⟩; have n0_ := Aside0.mk (Kd.R_elder' (by (with_reducible repeat (first | apply Kd.R_alloc | apply Kd.R_drewN | apply Kd.R_drew)); exact HO_12.out) (Kd.R_base ho0) hb); have n1_ := Aside0.mk (Kd.R_lower (Kd.R_new' ho0 (Kd.R_lt (by (with_reducible repeat (first | apply Kd.R_alloc | apply Kd.R_drewN | apply Kd.R_drew)); exact HO_12.out))) (below_size (by repeat (first | (with_reducible first | exact HB.out | apply below_alloc | apply pw_below_drewN | apply below_drew1) | exact HB.out)))); have n2_ := Aside0.mk (below_step (by repeat (first | (with_reducible first | exact HB.out | apply below_alloc | apply pw_below_drewN | apply below_drew1) | exact HB.out)) hb); clear HO_12; clear HB; have HO_12 := n0_; have HO116 := n1_; have HB := n2_; clear n0_ n1_ n2_; (try clear hb); (try clear hb2); (try clear hk); (try clear hi); (try clear ho0)))
          go_ret2
          exact ⟨_, by first | rfl | (simp [errW_none, errW_some] <;> rfl) | (simp only [← hji41]; first | rfl | (simp [errW_none, errW_some] <;> rfl)) | (simp [*, errW_none, errW_some] <;> rfl), by (with_reducible repeat (first | apply Kd.R_alloc | apply Kd.R_drewN | apply Kd.R_drew)); exact Kd.R_mono HO116.out (fun _ hk => trivial), by repeat (first | (with_reducible first | exact HB.out | apply below_alloc | apply pw_below_drewN | apply below_drew1) | exact HB.out)⟩

end Go.Proofs.YtecgjkikgggoeaaDoor.Pr
