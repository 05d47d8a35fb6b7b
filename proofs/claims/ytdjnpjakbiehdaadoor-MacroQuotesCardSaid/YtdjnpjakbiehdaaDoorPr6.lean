-- written by wip/tools/myprint.py out of Lean's own print of the program
import Derived.Test.YtdjnpjakbiehdaaDoorPr0
import Derived.Test.YtdjnpjakbiehdaaDoorPr5
namespace Go.Proofs.YtdjnpjakbiehdaaDoor.Pr
open Go.RowKit Go.Proofs.YtdjnpjakbiehdaaDoorW.PrintWords Go.Proofs.YtdjnpjakbiehdaaDoorW.PrintLast Go.Proofs.YtdjnpjakbiehdaaDoorW.PrintMore
attribute [local go_sem] max2_int min2_int max_two min_two max_three min_three max_four min_four   -- for this text's walks alone
set_option linter.unusedVariables false
set_option linter.unusedSimpArgs false

/-! ### belvedereref21_Expand: function 12 -/
mutual
def belvedereref21_Expand.l0 : Nat → ByteArray → List (S49) → ByteArray → ByteArray → Bool → Int → Option (ByteArray × Int)
  | 0, _, _, _, _, _, _ => none
  | k + 1, x0, x1, x7, x8, x9, x10 => if x10 < (x0.size : Int) then (if 0 ≤ x10 then (if (bt x0 x10) = 36 then (belvedereref21_Expand.j1 k x0 x1 x7 x8 x9 x10 false) else (belvedereref21_Expand.j1 k x0 x1 x7 x8 x9 x10 x9)) else (none)) else (some (x7, 0))
def belvedereref21_Expand.j1 : Nat → ByteArray → List (S49) → ByteArray → ByteArray → Bool → Int → Bool → Option (ByteArray × Int)
  | 0, _, _, _, _, _, _, _ => none
  | k + 1, x0, x1, x7, x8, x9, x10, x48 => if x48 = true then (if 0 ≤ x10 then (if x10 ≤ (wrap64 (x10 + 1)) then (if (wrap64 (x10 + 1)) ≤ (x0.size : Int) then (if x8.size + (x0.extract (x10 : Int).toNat ((wrap64 (x10 + 1)) : Int).toNat).size ≤ 9223372036854775807 then (if (x7.size : Int) > 65536 then (some ((⟨#[]⟩ : ByteArray), 2)) else (belvedereref21_Expand.l0 k x0 x1 x7 (x8 ++ (x0.extract (x10 : Int).toNat ((wrap64 (x10 + 1)) : Int).toNat)) x9 (wrap64 (x10 + 1)))) else (none)) else (none)) else (none)) else (none)) else (if 0 ≤ x10 then (if x10 < (x0.size : Int) then (if (bt x0 x10) = 36 then (if x9 = true then (belvedereref21_Expand.l1 k x0 x1 x7 x8 false x10 (⟨#[]⟩ : ByteArray) (wrap64 ((x1.length : Int) - 1))) else (if (x7.size : Int) > 65536 then (some ((⟨#[]⟩ : ByteArray), 2)) else (belvedereref21_Expand.l0 k x0 x1 x7 (⟨#[]⟩ : ByteArray) true (wrap64 (x10 + 1))))) else (if x10 ≤ (wrap64 (x10 + 1)) then (if (wrap64 (x10 + 1)) ≤ (x0.size : Int) then (if x7.size + (x0.extract (x10 : Int).toNat ((wrap64 (x10 + 1)) : Int).toNat).size ≤ 9223372036854775807 then (if ((x7 ++ (x0.extract (x10 : Int).toNat ((wrap64 (x10 + 1)) : Int).toNat)).size : Int) > 65536 then (some ((⟨#[]⟩ : ByteArray), 2)) else (belvedereref21_Expand.l0 k x0 x1 (x7 ++ (x0.extract (x10 : Int).toNat ((wrap64 (x10 + 1)) : Int).toNat)) x8 x9 (wrap64 (x10 + 1)))) else (none)) else (none)) else (none))) else (none)) else (none))
def belvedereref21_Expand.l1 : Nat → ByteArray → List (S49) → ByteArray → ByteArray → Bool → Int → ByteArray → Int → Option (ByteArray × Int)
  | 0, _, _, _, _, _, _, _, _ => none
  | k + 1, x0, x1, x7, x8, x9, x10, x11, x12 => if x12 ≥ 0 then (if 0 ≤ x12 then (if x12 < (x1.length : Int) then (if ((rd_T49 x1 x12).f0).toList = x8.toList then (belvedereref21_Expand.l1 k x0 x1 x7 x8 x9 x10 ((rd_T49 x1 x12).f1) (wrap64 (x12 - 1))) else (belvedereref21_Expand.l1 k x0 x1 x7 x8 x9 x10 x11 (wrap64 (x12 - 1)))) else (none)) else (none)) else (if x8.toList = ([] : List UInt8) then (if x7.size + 1 ≤ 9223372036854775807 then (if ((x7 ++ (⟨#[36]⟩ : ByteArray)).size : Int) > 65536 then (some ((⟨#[]⟩ : ByteArray), 2)) else (belvedereref21_Expand.l0 k x0 x1 (x7 ++ (⟨#[36]⟩ : ByteArray)) x8 x9 (wrap64 (x10 + 1)))) else (none)) else (if x7.size + x11.size ≤ 9223372036854775807 then (if ((x7 ++ x11).size : Int) > 65536 then (some ((⟨#[]⟩ : ByteArray), 2)) else (belvedereref21_Expand.l0 k x0 x1 (x7 ++ x11) x8 x9 (wrap64 (x10 + 1)))) else (none)))
end
def belvedereref21_Expand.f (k : Nat) (a0 : ByteArray) (l1 : List (S49)) : Option (ByteArray × Int) := (belvedereref21_Check.f k a0).bind fun t113 => (if t113 = 0 then (belvedereref21_Expand.l0 k a0 l1 (⟨#[]⟩ : ByteArray) (⟨#[]⟩ : ByteArray) false 0) else (some ((⟨#[]⟩ : ByteArray), t113)))
theorem belvedereref21_Expand.mono_l : ∀ k, (∀ y0 y1 y2 y3 y4 y5, LeO (belvedereref21_Expand.l0 k y0 y1 y2 y3 y4 y5) (belvedereref21_Expand.l0 (k + 1) y0 y1 y2 y3 y4 y5)) ∧ (∀ y0 y1 y2 y3 y4 y5 y6, LeO (belvedereref21_Expand.j1 k y0 y1 y2 y3 y4 y5 y6) (belvedereref21_Expand.j1 (k + 1) y0 y1 y2 y3 y4 y5 y6)) ∧ (∀ y0 y1 y2 y3 y4 y5 y6 y7, LeO (belvedereref21_Expand.l1 k y0 y1 y2 y3 y4 y5 y6 y7) (belvedereref21_Expand.l1 (k + 1) y0 y1 y2 y3 y4 y5 y6 y7))
  | 0 => ⟨fun _ _ _ _ _ _ r h => by simp [belvedereref21_Expand.l0] at h, fun _ _ _ _ _ _ _ r h => by simp [belvedereref21_Expand.j1] at h, fun _ _ _ _ _ _ _ _ r h => by simp [belvedereref21_Expand.l1] at h⟩
  | k + 1 => by
    obtain ⟨ih0, ih1, ih2⟩ := belvedereref21_Expand.mono_l k
    refine ⟨?_, ?_, ?_⟩
    · intro y0 y1 y2 y3 y4 y5
      unfold belvedereref21_Expand.l0
      repeat' first
      | (with_reducible exact ih0 _ _ _ _ _ _)
      | (with_reducible exact ih1 _ _ _ _ _ _ _)
      | (with_reducible exact ih2 _ _ _ _ _ _ _ _)
      | (with_reducible exact belvedereref21_Check.mono _ _)
      | (with_reducible exact LeO.refl _)
      | (with_reducible exact LeO.none _)
      | (with_reducible refine LeO.ite ?_ ?_)
      | (with_reducible refine LeO.bind ?_ (fun _ => ?_))
      | exact ih0 _ _ _ _ _ _
      | exact ih1 _ _ _ _ _ _ _
      | exact ih2 _ _ _ _ _ _ _ _
      | exact belvedereref21_Check.mono _ _
      | exact LeO.none _
      | refine LeO.ite ?_ ?_
      | refine LeO.bind ?_ (fun _ => ?_)
    · intro y0 y1 y2 y3 y4 y5 y6
      unfold belvedereref21_Expand.j1
      repeat' first
      | (with_reducible exact ih0 _ _ _ _ _ _)
      | (with_reducible exact ih1 _ _ _ _ _ _ _)
      | (with_reducible exact ih2 _ _ _ _ _ _ _ _)
      | (with_reducible exact belvedereref21_Check.mono _ _)
      | (with_reducible exact LeO.refl _)
      | (with_reducible exact LeO.none _)
      | (with_reducible refine LeO.ite ?_ ?_)
      | (with_reducible refine LeO.bind ?_ (fun _ => ?_))
      | exact ih0 _ _ _ _ _ _
      | exact ih1 _ _ _ _ _ _ _
      | exact ih2 _ _ _ _ _ _ _ _
      | exact belvedereref21_Check.mono _ _
      | exact LeO.none _
      | refine LeO.ite ?_ ?_
      | refine LeO.bind ?_ (fun _ => ?_)
    · intro y0 y1 y2 y3 y4 y5 y6 y7
      unfold belvedereref21_Expand.l1
      repeat' first
      | (with_reducible exact ih0 _ _ _ _ _ _)
      | (with_reducible exact ih1 _ _ _ _ _ _ _)
      | (with_reducible exact ih2 _ _ _ _ _ _ _ _)
      | (with_reducible exact belvedereref21_Check.mono _ _)
      | (with_reducible exact LeO.refl _)
      | (with_reducible exact LeO.none _)
      | (with_reducible refine LeO.ite ?_ ?_)
      | (with_reducible refine LeO.bind ?_ (fun _ => ?_))
      | exact ih0 _ _ _ _ _ _
      | exact ih1 _ _ _ _ _ _ _
      | exact ih2 _ _ _ _ _ _ _ _
      | exact belvedereref21_Check.mono _ _
      | exact LeO.none _
      | refine LeO.ite ?_ ?_
      | refine LeO.bind ?_ (fun _ => ?_)
theorem belvedereref21_Expand.mono : ∀ a0 a1 k, LeO (belvedereref21_Expand.f k a0 a1) (belvedereref21_Expand.f (k + 1) a0 a1) := by
  intro a0 a1 k
  obtain ⟨ih0, ih1, ih2⟩ := belvedereref21_Expand.mono_l k
  unfold belvedereref21_Expand.f
  repeat' first
      | (with_reducible exact ih0 _ _ _ _ _ _)
      | (with_reducible exact ih1 _ _ _ _ _ _ _)
      | (with_reducible exact ih2 _ _ _ _ _ _ _ _)
      | (with_reducible exact belvedereref21_Check.mono _ _)
      | (with_reducible exact LeO.refl _)
      | (with_reducible exact LeO.none _)
      | (with_reducible refine LeO.ite ?_ ?_)
      | (with_reducible refine LeO.bind ?_ (fun _ => ?_))
      | exact ih0 _ _ _ _ _ _
      | exact ih1 _ _ _ _ _ _ _
      | exact ih2 _ _ _ _ _ _ _ _
      | exact belvedereref21_Check.mono _ _
      | exact LeO.none _
      | refine LeO.ite ?_ ?_
      | refine LeO.bind ?_ (fun _ => ?_)
set_option maxHeartbeats 8000000 in
set_option maxRecDepth 100000 in
theorem belvedereref21_Expand.calls (k : Nat) (a0 : ByteArray) (A1 : Option Addr) (c1 : Nat) (l1 : List (S49)) (r1 : ByteArray) (r2 : Int) (w : World) (hr1 : Kd.C k49 w A1 l1.length l1) (hc1 : l1.length ≤ c1) (h : belvedereref21_Expand.f k a0 l1 = some (r1, r2)) :
    Calls Tryd.prog 12 #[.string a0, .slice A1 l1.length c1] w fun e w' => e = .returned (.tuple #[.string r1, .int .i64 r2]) ∧ Drawn0 w w' := by
  have HR1 := Aside0.mk hr1
  have HC1 := Aside0.mk hc1
  clear hr1 hc1
  have H : ((belvedereref21_Check.f k a0).bind fun t113 => (if t113 = 0 then (belvedereref21_Expand.l0 k a0 l1 (⟨#[]⟩ : ByteArray) (⟨#[]⟩ : ByteArray) false 0) else (some ((⟨#[]⟩ : ByteArray), t113)))) = some (r1, r2) := h
  clear h
  replace H := Option.bind_eq_some_iff.mp H
  obtain ⟨t113, A30, H⟩ := H
  replace H : (if t113 = 0 then (belvedereref21_Expand.l0 k a0 l1 (⟨#[]⟩ : ByteArray) (⟨#[]⟩ : ByteArray) false 0) else (some ((⟨#[]⟩ : ByteArray), t113))) = some (r1, r2) := H
  have A3 := Aside0.mk A30
  clear A30
  by_cases c4 : t113 = 0
  · rw [if_pos c4] at H
    have c4b0 : (t113 == 0) = true := beq_iff_eq.mpr c4
    have c4b1 : (t113 != 0) = false := bne_eq_false_iff_eq.mpr c4
    clear c4
    have H' := Aside0.mk H
    clear H
    go_enter Tryd.func12, Tryd.ntmps12
    go_wp2_with (first | ((with_reducible refine gate_callee (f := 24) rfl ?_); refine goesL_ (some 14) rfl rfl Tryd.func24 (by kernel_rfl) rfl #[.string a0] rfl (by (try simp only [List.map_toArray, List.map_cons, List.map_nil]); first | done | rfl | (simp only [List.length_drop, List.length_take]; rfl)) ?_; (with_reducible refine (belvedereref21_Check.calls k a0 t113 _ A3.out).mono ?_); rintro e w' ⟨rfl, ⟨nd, rfl⟩⟩; refine ⟨_, rfl, ?_⟩))
    go_loopg [7, 8, 9, 10] k (fun kq v7 v8 v9 v10 w' => ∃ (x7_1 : ByteArray) (x8_1 : ByteArray) (x9_1 : Bool) (x10_1 : Int), v7 = .string x7_1 ∧ v8 = .string x8_1 ∧ v9 = .bool x9_1 ∧ v10 = .int .i64 x10_1 ∧ Aside0 (belvedereref21_Expand.l0 kq a0 l1 x7_1 x8_1 x9_1 x10_1 = some (r1, r2)) ∧ Aside0 (kq ≤ k) ∧ Drawn0 w w')
    case atStart => exact ⟨((⟨#[]⟩ : ByteArray)), ((⟨#[]⟩ : ByteArray)), (false), (0), (by first | rfl | (simp; done) | (simp [*]; done)), (by first | rfl | (simp; done) | (simp [*]; done)), (by first | rfl | (simp; done) | (simp [*]; done)), (by first | rfl | (simp; done) | (simp [*]; done)), H', ⟨Nat.le_refl _⟩, by repeat (first | exact Drawn0.refl _ | apply Drawn0.step)⟩
    case round =>
      clear H'
      try clear c1
      try clear c2
      try clear p2
      try clear c4
      try clear c4b0
      try clear c4b1
      obtain ⟨x7_1, x8_1, x9_1, x10_1, rfl, rfl, rfl, rfl, HA, HK1, ⟨m1, rfl⟩⟩ := hrel
      cases gk with
      | zero => exact absurd HA.out (by simp [belvedereref21_Expand.l0])
      | succ k1 =>
        have H := HA.out
        clear HA
        simp only [belvedereref21_Expand.l0] at H
        by_cases c5 : x10_1 < (a0.size : Int)
        · rw [if_pos c5] at H
          have c5b0 : decide (x10_1 < (a0.size : Int)) = true := decide_eq_true c5
          clear c5
          have HC6 := Aside0.mk H
          clear H
          go_upto_region 19 with (fail)
          go_cut [48] (fun v48 wc => ∃ (kq : Nat) (x48_5 : Bool), v48 = .bool x48_5 ∧ Aside0 (belvedereref21_Expand.j1 kq a0 l1 x7_1 x8_1 x9_1 x10_1 x48_5 = some (r1, r2)) ∧ Aside0 (kq ≤ k1) ∧ Drawn0 w wc)
          case first =>
            have H := HC6.out
            clear HC6
            by_cases c7 : 0 ≤ x10_1
            · rw [if_pos c7] at H
              have c7b0 : decide (0 ≤ x10_1) = true := decide_eq_true c7
              clear c7
              (first | rw [c7b0] | (simp only [i64_w, i32_w]; rw [c7b0]) | skip)
              by_cases c9 : (bt a0 x10_1) = 36
              · rw [if_pos c9] at H
                have c9b0 : ((bt a0 x10_1) == 36) = true := beq_iff_eq.mpr c9
                have c9b1 : ((bt a0 x10_1) != 36) = false := bne_eq_false_iff_eq.mpr c9
                clear c9
                have H' := Aside0.mk H
                clear H
                have p8 : 0 ≤ (x10_1 : Int) := of_decide_eq_true (by first | (with_reducible assumption) | assumption)
                have q8 : x10_1 < (a0.size : Int) := of_decide_eq_true (by first | (with_reducible assumption) | assumption)
                have hx8 := bt_at a0 x10_1
                replace p8 := eq_true p8
                replace q8 := eq_true q8
                go_wp2
                go_meet
                case rel => exact ⟨_, (false), (by first | rfl | (simp; done) | (simp [*]; done)), H', ⟨by have := HK1.out; first | omega | exact Nat.le_refl _⟩, by repeat (first | exact Drawn0.refl _ | apply Drawn0.step)⟩
              · rw [if_neg c9] at H
                have c9b0 : ((bt a0 x10_1) == 36) = false := beq_eq_false_iff_ne.mpr c9
                have c9b1 : ((bt a0 x10_1) != 36) = true := bne_iff_ne.mpr c9
                have H' := Aside0.mk H
                clear H
                have p8 : 0 ≤ (x10_1 : Int) := of_decide_eq_true (by first | (with_reducible assumption) | assumption)
                have q8 : x10_1 < (a0.size : Int) := of_decide_eq_true (by first | (with_reducible assumption) | assumption)
                have hx8 := bt_at a0 x10_1
                replace p8 := eq_true p8
                replace q8 := eq_true q8
                go_wp2
                go_meet
                case rel => exact ⟨_, (x9_1), (by first | rfl | (simp; done) | (simp [*]; done)), H', ⟨by have := HK1.out; first | omega | exact Nat.le_refl _⟩, by repeat (first | exact Drawn0.refl _ | apply Drawn0.step)⟩
            · rw [if_neg c7] at H
              exact absurd H (by simp)
          case rest =>
            clear HC6
            try clear c1
            try clear c2
            try clear p2
            try clear c4
            try clear c4b0
            try clear c4b1
            try clear c5
            try clear c5b0
            try clear c7
            try clear c7b0
            try clear p8
            try clear q8
            try clear hx8
            try clear c9
            try clear c9b0
            try clear c9b1
            try clear p2
            try clear p8
            try clear q8
            obtain ⟨kq, x48_5, rfl, HA, HJ5, ⟨mc5, rfl⟩⟩ := hcut
            cases kq with
            | zero => exact absurd HA.out (by simp [belvedereref21_Expand.j1])
            | succ kj5 =>
              have H := HA.out
              clear HA
              simp only [belvedereref21_Expand.j1] at H
              by_cases c10 : x48_5 = true
              · subst c10
                have H1 : (if 0 ≤ x10_1 then (if x10_1 ≤ (wrap64 (x10_1 + 1)) then (if (wrap64 (x10_1 + 1)) ≤ (a0.size : Int) then (if x8_1.size + (a0.extract (x10_1 : Int).toNat ((wrap64 (x10_1 + 1)) : Int).toNat).size ≤ 9223372036854775807 then (if (x7_1.size : Int) > 65536 then (some ((⟨#[]⟩ : ByteArray), 2)) else (belvedereref21_Expand.l0 kj5 a0 l1 x7_1 (x8_1 ++ (a0.extract (x10_1 : Int).toNat ((wrap64 (x10_1 + 1)) : Int).toNat)) x9_1 (wrap64 (x10_1 + 1)))) else (none)) else (none)) else (none)) else (none)) = some (r1, r2) := by rw [if_pos rfl] at H; exact H
                clear H
                have H := H1
                clear H1
                by_cases c11 : 0 ≤ x10_1
                · rw [if_pos c11] at H
                  have c11b0 := eq_true c11
                  have c11b1 : decide (0 ≤ x10_1) = true := decide_eq_true c11
                  clear c11
                  by_cases c12 : x10_1 ≤ (wrap64 (x10_1 + 1))
                  · rw [if_pos c12] at H
                    have c12b0 := eq_true c12
                    have c12b1 : decide (x10_1 ≤ (wrap64 (x10_1 + 1))) = true := decide_eq_true c12
                    by_cases c13 : (wrap64 (x10_1 + 1)) ≤ (a0.size : Int)
                    · rw [if_pos c13] at H
                      have c13b0 := eq_true c13
                      have c13b1 : decide ((wrap64 (x10_1 + 1)) ≤ (a0.size : Int)) = true := decide_eq_true c13
                      by_cases c14 : x8_1.size + (a0.extract (x10_1 : Int).toNat ((wrap64 (x10_1 + 1)) : Int).toNat).size ≤ 9223372036854775807
                      · rw [if_pos c14] at H
                        have c14b0 := eq_true c14
                        have c14b1 : decide (x8_1.size + (a0.extract (x10_1 : Int).toNat ((wrap64 (x10_1 + 1)) : Int).toNat).size ≤ 9223372036854775807) = true := decide_eq_true c14
                        (try (have c14b3 : (x8_1.size + (((wrap64 (x10_1 + 1)) : Int).toNat - (x10_1 : Int).toNat) ≤ 9223372036854775807) = True := eq_true (by have h_ := c14; (try simp only [ByteArray.size_append, ByteArray.size_extract] at h_); (try simp only [decide_eq_true_eq] at *); omega)))
                        (try (have c14b4 : decide (x8_1.size + (((wrap64 (x10_1 + 1)) : Int).toNat - (x10_1 : Int).toNat) ≤ 9223372036854775807) = true := decide_eq_true (by have h_ := c14; (try simp only [ByteArray.size_append, ByteArray.size_extract] at h_); (try simp only [decide_eq_true_eq] at *); omega)))
                        (try (have c14b5 : (9223372036854775807 < x8_1.size + (((wrap64 (x10_1 + 1)) : Int).toNat - (x10_1 : Int).toNat)) = False := eq_false (by intro g_; have h_ := c14; (try simp only [ByteArray.size_append, ByteArray.size_extract] at h_); (try simp only [decide_eq_true_eq] at *); omega)))
                        try have c14b2 : (9223372036854775807 < x8_1.size + (a0.extract (x10_1 : Int).toNat ((wrap64 (x10_1 + 1)) : Int).toNat).size) = False := eq_false (Nat.not_lt.2 c14)
                        by_cases c15 : (x7_1.size : Int) > 65536
                        · rw [if_pos c15] at H
                          have c15b0 : decide (65536 < (x7_1.size : Int)) = true := decide_eq_true c15
                          have c15b1 : decide (65536 < x7_1.size) = true := decide_eq_true (by omega)
                          clear c15
                          simp only [Option.some.injEq, Prod.mk.injEq] at H
                          obtain ⟨rfl, rfl⟩ := H
                          go_wp2
                          go_ret2
                          exact ⟨by first | rfl | (simp; done) | (simp [*]; done), by repeat (first | exact Drawn0.refl _ | apply Drawn0.step)⟩
                        · rw [if_neg c15] at H
                          have c15b0 : decide (65536 < (x7_1.size : Int)) = false := decide_eq_false c15
                          have c15b1 : decide (65536 < x7_1.size) = false := decide_eq_false (by omega)
                          clear c15
                          have H' := Aside0.mk H
                          clear H
                          go_wp2
                          go_roundg kj5
                          case measure => have := HK1.out; have := HJ5.out; omega
                          case rel => exact ⟨(x7_1), (x8_1 ++ (a0.extract (x10_1 : Int).toNat ((wrap64 (x10_1 + 1)) : Int).toNat)), (x9_1), (wrap64 (x10_1 + 1)), (by first | rfl | (simp; done) | (simp [*]; done)), (by first | rfl | (simp; done) | (simp [*]; done)), (by first | rfl | (simp; done) | (simp [*]; done)), (by first | rfl | (simp; done) | (simp [*]; done)), H', ⟨by have := HK1.out; have := HJ5.out; omega⟩, by repeat (first | exact Drawn0.refl _ | apply Drawn0.step)⟩
                      · rw [if_neg c14] at H
                        exact absurd H (by simp)
                    · rw [if_neg c13] at H
                      exact absurd H (by simp)
                  · rw [if_neg c12] at H
                    exact absurd H (by simp)
                · rw [if_neg c11] at H
                  exact absurd H (by simp)
              · replace c10 := Bool.eq_false_iff.mpr c10
                subst c10
                have H1 : (if 0 ≤ x10_1 then (if x10_1 < (a0.size : Int) then (if (bt a0 x10_1) = 36 then (if x9_1 = true then (belvedereref21_Expand.l1 kj5 a0 l1 x7_1 x8_1 false x10_1 (⟨#[]⟩ : ByteArray) (wrap64 ((l1.length : Int) - 1))) else (if (x7_1.size : Int) > 65536 then (some ((⟨#[]⟩ : ByteArray), 2)) else (belvedereref21_Expand.l0 kj5 a0 l1 x7_1 (⟨#[]⟩ : ByteArray) true (wrap64 (x10_1 + 1))))) else (if x10_1 ≤ (wrap64 (x10_1 + 1)) then (if (wrap64 (x10_1 + 1)) ≤ (a0.size : Int) then (if x7_1.size + (a0.extract (x10_1 : Int).toNat ((wrap64 (x10_1 + 1)) : Int).toNat).size ≤ 9223372036854775807 then (if ((x7_1 ++ (a0.extract (x10_1 : Int).toNat ((wrap64 (x10_1 + 1)) : Int).toNat)).size : Int) > 65536 then (some ((⟨#[]⟩ : ByteArray), 2)) else (belvedereref21_Expand.l0 kj5 a0 l1 (x7_1 ++ (a0.extract (x10_1 : Int).toNat ((wrap64 (x10_1 + 1)) : Int).toNat)) x8_1 x9_1 (wrap64 (x10_1 + 1)))) else (none)) else (none)) else (none))) else (none)) else (none)) = some (r1, r2) := by rw [if_neg (show ¬ (false = true) by decide)] at H; exact H
                clear H
                have H := H1
                clear H1
                by_cases c16 : 0 ≤ x10_1
                · rw [if_pos c16] at H
                  have c16b0 : decide (0 ≤ x10_1) = true := decide_eq_true c16
                  clear c16
                  by_cases c17 : x10_1 < (a0.size : Int)
                  · rw [if_pos c17] at H
                    have c17b0 : decide (x10_1 < (a0.size : Int)) = true := decide_eq_true c17
                    clear c17
                    by_cases c19 : (bt a0 x10_1) = 36
                    · rw [if_pos c19] at H
                      have c19b0 : ((bt a0 x10_1) == 36) = true := beq_iff_eq.mpr c19
                      have c19b1 : ((bt a0 x10_1) != 36) = false := bne_eq_false_iff_eq.mpr c19
                      clear c19
                      by_cases c20 : x9_1 = true
                      · subst c20
                        have H1 : (belvedereref21_Expand.l1 kj5 a0 l1 x7_1 x8_1 false x10_1 (⟨#[]⟩ : ByteArray) (wrap64 ((l1.length : Int) - 1))) = some (r1, r2) := by rw [if_pos rfl] at H; exact H
                        clear H
                        have H := H1
                        clear H1
                        have H' := Aside0.mk H
                        clear H
                        have p18 : 0 ≤ (x10_1 : Int) := of_decide_eq_true (by first | (with_reducible assumption) | assumption)
                        have q18 : x10_1 < (a0.size : Int) := of_decide_eq_true (by first | (with_reducible assumption) | assumption)
                        have hx18 := bt_at a0 x10_1
                        replace p18 := eq_true p18
                        replace q18 := eq_true q18
                        go_wp2
                        go_loopg [11, 12] kj5 (fun kq v11 v12 w' => ∃ (x11_3 : ByteArray) (x12_3 : Int), v11 = .string x11_3 ∧ v12 = .int .i64 x12_3 ∧ Aside0 (belvedereref21_Expand.l1 kq a0 l1 x7_1 x8_1 false x10_1 x11_3 x12_3 = some (r1, r2)) ∧ Aside0 (kq ≤ kj5) ∧ Drawn0 w w')
                        case atStart => exact ⟨((⟨#[]⟩ : ByteArray)), (wrap64 ((l1.length : Int) - 1)), (by first | rfl | (simp; done) | (simp [*]; done)), (by first | rfl | (simp; done) | (simp [*]; done)), H', ⟨Nat.le_refl _⟩, by repeat (first | exact Drawn0.refl _ | apply Drawn0.step)⟩
                        case round =>
                          clear H'
                          try clear c1
                          try clear p1
                          try clear q1
                          try clear hx1
                          try clear c2
                          try clear p2
                          try clear c4
                          try clear c4b0
                          try clear c4b1
                          try clear c5
                          try clear c5b0
                          try clear p6
                          try clear c7
                          try clear c7b0
                          try clear p8
                          try clear q8
                          try clear hx8
                          try clear c9
                          try clear c9b0
                          try clear c9b1
                          try clear c10
                          try clear c11
                          try clear c11b0
                          try clear c11b1
                          try clear c12
                          try clear c12b0
                          try clear c12b1
                          try clear c13
                          try clear c13b0
                          try clear c13b1
                          try clear c14
                          try clear c14b0
                          try clear c14b1
                          try clear c14b2
                          try clear c15
                          try clear c15b0
                          try clear c15b1
                          try clear c16
                          try clear c16b0
                          try clear c17
                          try clear c17b0
                          try clear p18
                          try clear q18
                          try clear hx18
                          try clear c19
                          try clear c19b0
                          try clear c19b1
                          try clear c20
                          try clear p18
                          try clear p2
                          try clear p8
                          try clear q18
                          try clear q8
                          obtain ⟨x11_3, x12_3, rfl, rfl, HA, HK3, ⟨m3, rfl⟩⟩ := hrel
                          cases gk with
                          | zero => exact absurd HA.out (by simp [belvedereref21_Expand.l1])
                          | succ k3 =>
                            have H := HA.out
                            clear HA
                            simp only [belvedereref21_Expand.l1] at H
                            by_cases c21 : x12_3 ≥ 0
                            · rw [if_pos c21] at H
                              have c21b0 : decide (0 ≤ x12_3) = true := decide_eq_true c21
                              clear c21
                              by_cases c22 : 0 ≤ x12_3
                              · rw [if_pos c22] at H
                                have c22b0 : decide (0 ≤ x12_3) = true := decide_eq_true c22
                                clear c22
                                by_cases c23 : x12_3 < (l1.length : Int)
                                · rw [if_pos c23] at H
                                  have c23b0 : decide (x12_3 < (l1.length : Int)) = true := decide_eq_true c23
                                  clear c23
                                  by_cases c24 : ((rd_T49 l1 x12_3).f0).toList = x8_1.toList
                                  · rw [if_pos c24] at H
                                    have c24b0 : (((rd_T49 l1 x12_3).f0).toList == x8_1.toList) = true := beq_iff_eq.mpr c24
                                    have c24b1 : (((rd_T49 l1 x12_3).f0).toList != x8_1.toList) = false := bne_eq_false_iff_eq.mpr c24
                                    clear c24
                                    have H' := Aside0.mk H
                                    clear H
                                    have p114 : 0 ≤ (x12_3 : Int) := of_decide_eq_true (by first | (with_reducible assumption) | assumption)
                                    have q114 : x12_3 < (l1.length : Int) := of_decide_eq_true (by first | (with_reducible assumption) | assumption)
                                    obtain ⟨ad114, e114, hx114_0, hx114_1⟩ := at_T49 HR1.out x12_3 p114 q114
                                    cases e114
                                    replace p114 := eq_true p114
                                    replace q114 := eq_true q114
                                    have p115 : 0 ≤ (x12_3 : Int) := of_decide_eq_true (by first | (with_reducible assumption) | assumption)
                                    have q115 : x12_3 < (l1.length : Int) := of_decide_eq_true (by first | (with_reducible assumption) | assumption)
                                    obtain ⟨ad115, e115, hx115_0, hx115_1⟩ := at_T49 HR1.out x12_3 p115 q115
                                    obtain rfl : ad114 = ad115 := (by injection e115)
                                    replace p115 := eq_true p115
                                    replace q115 := eq_true q115
                                    go_wp2
                                    go_roundg k3
                                    case measure => have := HK1.out; have := HJ5.out; have := HK3.out; omega
                                    case rel => exact ⟨((rd_T49 l1 x12_3).f1), (wrap64 (x12_3 - 1)), (by first | rfl | (simp; done) | (simp [*]; done)), (by first | rfl | (simp; done) | (simp [*]; done)), H', ⟨by have := HK1.out; have := HJ5.out; have := HK3.out; omega⟩, by repeat (first | exact Drawn0.refl _ | apply Drawn0.step)⟩
                                  · rw [if_neg c24] at H
                                    have c24b0 : (((rd_T49 l1 x12_3).f0).toList == x8_1.toList) = false := beq_eq_false_iff_ne.mpr c24
                                    have c24b1 : (((rd_T49 l1 x12_3).f0).toList != x8_1.toList) = true := bne_iff_ne.mpr c24
                                    have H' := Aside0.mk H
                                    clear H
                                    have p114 : 0 ≤ (x12_3 : Int) := of_decide_eq_true (by first | (with_reducible assumption) | assumption)
                                    have q114 : x12_3 < (l1.length : Int) := of_decide_eq_true (by first | (with_reducible assumption) | assumption)
                                    obtain ⟨ad114, e114, hx114_0, hx114_1⟩ := at_T49 HR1.out x12_3 p114 q114
                                    cases e114
                                    replace p114 := eq_true p114
                                    replace q114 := eq_true q114
                                    go_wp2
                                    go_roundg k3
                                    case measure => have := HK1.out; have := HJ5.out; have := HK3.out; omega
                                    case rel => exact ⟨(x11_3), (wrap64 (x12_3 - 1)), (by first | rfl | (simp; done) | (simp [*]; done)), (by first | rfl | (simp; done) | (simp [*]; done)), H', ⟨by have := HK1.out; have := HJ5.out; have := HK3.out; omega⟩, by repeat (first | exact Drawn0.refl _ | apply Drawn0.step)⟩
                                · rw [if_neg c23] at H
                                  exact absurd H (by simp)
                              · rw [if_neg c22] at H
                                exact absurd H (by simp)
                            · rw [if_neg c21] at H
                              have c21b0 : decide (0 ≤ x12_3) = false := decide_eq_false c21
                              clear c21
                              by_cases c25 : x8_1.toList = ([] : List UInt8)
                              · rw [if_pos c25] at H
                                have c25b0 : (x8_1.toList == ([] : List UInt8)) = true := beq_iff_eq.mpr c25
                                have c25b1 : (x8_1.toList != ([] : List UInt8)) = false := bne_eq_false_iff_eq.mpr c25
                                clear c25
                                by_cases c26 : x7_1.size + 1 ≤ 9223372036854775807
                                · rw [if_pos c26] at H
                                  have c26b0 := eq_true c26
                                  have c26b1 : decide (x7_1.size + 1 ≤ 9223372036854775807) = true := decide_eq_true c26
                                  (try (have c26b6 : (x7_1.size + 1 ≤ 9223372036854775807) = True := eq_true (by have h_ := c26; (try simp only [ByteArray.size_append, ByteArray.size_extract] at h_); (try simp only [decide_eq_true_eq] at *); omega)))
                                  (try (have c26b7 : decide (x7_1.size + 1 ≤ 9223372036854775807) = true := decide_eq_true (by have h_ := c26; (try simp only [ByteArray.size_append, ByteArray.size_extract] at h_); (try simp only [decide_eq_true_eq] at *); omega)))
                                  (try (have c26b8 : (9223372036854775807 < x7_1.size + 1) = False := eq_false (by intro g_; have h_ := c26; (try simp only [ByteArray.size_append, ByteArray.size_extract] at h_); (try simp only [decide_eq_true_eq] at *); omega)))
                                  (try (have c26b3 : (x7_1.size ≤ 9223372036854775806) = True := eq_true (by have h_ := c26; (try simp only [ByteArray.size_append, ByteArray.size_extract] at h_); (try simp only [decide_eq_true_eq] at *); omega)))
                                  (try (have c26b4 : decide (x7_1.size ≤ 9223372036854775806) = true := decide_eq_true (by have h_ := c26; (try simp only [ByteArray.size_append, ByteArray.size_extract] at h_); (try simp only [decide_eq_true_eq] at *); omega)))
                                  (try (have c26b5 : (9223372036854775806 < x7_1.size) = False := eq_false (by intro g_; have h_ := c26; (try simp only [ByteArray.size_append, ByteArray.size_extract] at h_); (try simp only [decide_eq_true_eq] at *); omega)))
                                  try have c26b2 : (9223372036854775807 < x7_1.size + 1) = False := eq_false (Nat.not_lt.2 c26)
                                  by_cases c27 : ((x7_1 ++ (⟨#[36]⟩ : ByteArray)).size : Int) > 65536
                                  · rw [if_pos c27] at H
                                    have c27b0 : decide (65536 < ((x7_1 ++ (⟨#[36]⟩ : ByteArray)).size : Int)) = true := decide_eq_true c27
                                    have c27b1 : decide (65536 < (x7_1 ++ (⟨#[36]⟩ : ByteArray)).size) = true := decide_eq_true (by omega)
                                    (try (have c27b2 : decide (65536 < (x7_1.size : Int) + 1) = true := decide_eq_true (by have h_ := c27; have e1_ : (⟨#[36]⟩ : ByteArray).size = 1 := rfl; (try simp only [ByteArray.size_append, ByteArray.size_extract] at h_); (try simp only [decide_eq_true_eq] at *); omega)))
                                    (try (have c27b3 : decide (65536 < x7_1.size + 1) = true := decide_eq_true (by have h_ := c27; have e1_ : (⟨#[36]⟩ : ByteArray).size = 1 := rfl; (try simp only [ByteArray.size_append, ByteArray.size_extract] at h_); (try simp only [decide_eq_true_eq] at *); omega)))
                                    clear c27
                                    simp only [Option.some.injEq, Prod.mk.injEq] at H
                                    obtain ⟨rfl, rfl⟩ := H
                                    go_wp2
                                    go_ret2
                                    exact ⟨by first | rfl | (simp; done) | (simp [*]; done), by repeat (first | exact Drawn0.refl _ | apply Drawn0.step)⟩
                                  · rw [if_neg c27] at H
                                    have c27b0 : decide (65536 < ((x7_1 ++ (⟨#[36]⟩ : ByteArray)).size : Int)) = false := decide_eq_false c27
                                    have c27b1 : decide (65536 < (x7_1 ++ (⟨#[36]⟩ : ByteArray)).size) = false := decide_eq_false (by omega)
                                    (try (have c27b2 : decide (65536 < (x7_1.size : Int) + 1) = false := decide_eq_false (by intro g_; have h_ := c27; have e1_ : (⟨#[36]⟩ : ByteArray).size = 1 := rfl; (try simp only [ByteArray.size_append, ByteArray.size_extract] at h_); (try simp only [decide_eq_true_eq] at *); omega)))
                                    (try (have c27b3 : decide (65536 < x7_1.size + 1) = false := decide_eq_false (by intro g_; have h_ := c27; have e1_ : (⟨#[36]⟩ : ByteArray).size = 1 := rfl; (try simp only [ByteArray.size_append, ByteArray.size_extract] at h_); (try simp only [decide_eq_true_eq] at *); omega)))
                                    clear c27
                                    have H' := Aside0.mk H
                                    clear H
                                    go_wp2
                                    go_roundg k3
                                    case measure => have := HK1.out; have := HJ5.out; have := HK3.out; omega
                                    case rel => exact ⟨(x7_1 ++ (⟨#[36]⟩ : ByteArray)), (x8_1), (false), (wrap64 (x10_1 + 1)), (by first | rfl | (simp; done) | (simp [*]; done)), (by first | rfl | (simp; done) | (simp [*]; done)), (by first | rfl | (simp; done) | (simp [*]; done)), (by first | rfl | (simp; done) | (simp [*]; done)), H', ⟨by have := HK1.out; have := HJ5.out; have := HK3.out; omega⟩, by repeat (first | exact Drawn0.refl _ | apply Drawn0.step)⟩
                                · rw [if_neg c26] at H
                                  exact absurd H (by simp)
                              · rw [if_neg c25] at H
                                have c25b0 : (x8_1.toList == ([] : List UInt8)) = false := beq_eq_false_iff_ne.mpr c25
                                have c25b1 : (x8_1.toList != ([] : List UInt8)) = true := bne_iff_ne.mpr c25
                                by_cases c28 : x7_1.size + x11_3.size ≤ 9223372036854775807
                                · rw [if_pos c28] at H
                                  have c28b0 := eq_true c28
                                  have c28b1 : decide (x7_1.size + x11_3.size ≤ 9223372036854775807) = true := decide_eq_true c28
                                  try have c28b2 : (9223372036854775807 < x7_1.size + x11_3.size) = False := eq_false (Nat.not_lt.2 c28)
                                  by_cases c29 : ((x7_1 ++ x11_3).size : Int) > 65536
                                  · rw [if_pos c29] at H
                                    have c29b0 : decide (65536 < ((x7_1 ++ x11_3).size : Int)) = true := decide_eq_true c29
                                    have c29b1 : decide (65536 < (x7_1 ++ x11_3).size) = true := decide_eq_true (by omega)
                                    (try (have c29b2 : decide (65536 < (x7_1.size : Int) + (x11_3.size : Int)) = true := decide_eq_true (by have h_ := c29; (try simp only [ByteArray.size_append, ByteArray.size_extract] at h_); (try simp only [decide_eq_true_eq] at *); omega)))
                                    (try (have c29b3 : decide (65536 < x7_1.size + x11_3.size) = true := decide_eq_true (by have h_ := c29; (try simp only [ByteArray.size_append, ByteArray.size_extract] at h_); (try simp only [decide_eq_true_eq] at *); omega)))
                                    clear c29
                                    simp only [Option.some.injEq, Prod.mk.injEq] at H
                                    obtain ⟨rfl, rfl⟩ := H
                                    go_wp2
                                    go_ret2
                                    exact ⟨by first | rfl | (simp; done) | (simp [*]; done), by repeat (first | exact Drawn0.refl _ | apply Drawn0.step)⟩
                                  · rw [if_neg c29] at H
                                    have c29b0 : decide (65536 < ((x7_1 ++ x11_3).size : Int)) = false := decide_eq_false c29
                                    have c29b1 : decide (65536 < (x7_1 ++ x11_3).size) = false := decide_eq_false (by omega)
                                    (try (have c29b2 : decide (65536 < (x7_1.size : Int) + (x11_3.size : Int)) = false := decide_eq_false (by intro g_; have h_ := c29; (try simp only [ByteArray.size_append, ByteArray.size_extract] at h_); (try simp only [decide_eq_true_eq] at *); omega)))
                                    (try (have c29b3 : decide (65536 < x7_1.size + x11_3.size) = false := decide_eq_false (by intro g_; have h_ := c29; (try simp only [ByteArray.size_append, ByteArray.size_extract] at h_); (try simp only [decide_eq_true_eq] at *); omega)))
                                    clear c29
                                    have H' := Aside0.mk H
                                    clear H
                                    go_wp2
                                    go_roundg k3
                                    case measure => have := HK1.out; have := HJ5.out; have := HK3.out; omega
                                    case rel => exact ⟨(x7_1 ++ x11_3), (x8_1), (false), (wrap64 (x10_1 + 1)), (by first | rfl | (simp; done) | (simp [*]; done)), (by first | rfl | (simp; done) | (simp [*]; done)), (by first | rfl | (simp; done) | (simp [*]; done)), (by first | rfl | (simp; done) | (simp [*]; done)), H', ⟨by have := HK1.out; have := HJ5.out; have := HK3.out; omega⟩, by repeat (first | exact Drawn0.refl _ | apply Drawn0.step)⟩
                                · rw [if_neg c28] at H
                                  exact absurd H (by simp)
                      · replace c20 := Bool.eq_false_iff.mpr c20
                        subst c20
                        have H1 : (if (x7_1.size : Int) > 65536 then (some ((⟨#[]⟩ : ByteArray), 2)) else (belvedereref21_Expand.l0 kj5 a0 l1 x7_1 (⟨#[]⟩ : ByteArray) true (wrap64 (x10_1 + 1)))) = some (r1, r2) := by rw [if_neg (show ¬ (false = true) by decide)] at H; exact H
                        clear H
                        have H := H1
                        clear H1
                        by_cases c30 : (x7_1.size : Int) > 65536
                        · rw [if_pos c30] at H
                          have c30b0 : decide (65536 < (x7_1.size : Int)) = true := decide_eq_true c30
                          have c30b1 : decide (65536 < x7_1.size) = true := decide_eq_true (by omega)
                          clear c30
                          simp only [Option.some.injEq, Prod.mk.injEq] at H
                          obtain ⟨rfl, rfl⟩ := H
                          have p18 : 0 ≤ (x10_1 : Int) := of_decide_eq_true (by first | (with_reducible assumption) | assumption)
                          have q18 : x10_1 < (a0.size : Int) := of_decide_eq_true (by first | (with_reducible assumption) | assumption)
                          have hx18 := bt_at a0 x10_1
                          replace p18 := eq_true p18
                          replace q18 := eq_true q18
                          go_wp2
                          go_ret2
                          exact ⟨by first | rfl | (simp; done) | (simp [*]; done), by repeat (first | exact Drawn0.refl _ | apply Drawn0.step)⟩
                        · rw [if_neg c30] at H
                          have c30b0 : decide (65536 < (x7_1.size : Int)) = false := decide_eq_false c30
                          have c30b1 : decide (65536 < x7_1.size) = false := decide_eq_false (by omega)
                          clear c30
                          have H' := Aside0.mk H
                          clear H
                          have p18 : 0 ≤ (x10_1 : Int) := of_decide_eq_true (by first | (with_reducible assumption) | assumption)
                          have q18 : x10_1 < (a0.size : Int) := of_decide_eq_true (by first | (with_reducible assumption) | assumption)
                          have hx18 := bt_at a0 x10_1
                          replace p18 := eq_true p18
                          replace q18 := eq_true q18
                          go_wp2
                          go_roundg kj5
                          case measure => have := HK1.out; have := HJ5.out; omega
                          case rel => exact ⟨(x7_1), ((⟨#[]⟩ : ByteArray)), (true), (wrap64 (x10_1 + 1)), (by first | rfl | (simp; done) | (simp [*]; done)), (by first | rfl | (simp; done) | (simp [*]; done)), (by first | rfl | (simp; done) | (simp [*]; done)), (by first | rfl | (simp; done) | (simp [*]; done)), H', ⟨by have := HK1.out; have := HJ5.out; omega⟩, by repeat (first | exact Drawn0.refl _ | apply Drawn0.step)⟩
                    · rw [if_neg c19] at H
                      have c19b0 : ((bt a0 x10_1) == 36) = false := beq_eq_false_iff_ne.mpr c19
                      have c19b1 : ((bt a0 x10_1) != 36) = true := bne_iff_ne.mpr c19
                      have c31b0 := eq_true (of_decide_eq_true (by first | (with_reducible assumption) | assumption) : 0 ≤ x10_1)
                      by_cases c32 : x10_1 ≤ (wrap64 (x10_1 + 1))
                      · rw [if_pos c32] at H
                        have c32b0 := eq_true c32
                        have c32b1 : decide (x10_1 ≤ (wrap64 (x10_1 + 1))) = true := decide_eq_true c32
                        by_cases c33 : (wrap64 (x10_1 + 1)) ≤ (a0.size : Int)
                        · rw [if_pos c33] at H
                          have c33b0 := eq_true c33
                          have c33b1 : decide ((wrap64 (x10_1 + 1)) ≤ (a0.size : Int)) = true := decide_eq_true c33
                          by_cases c34 : x7_1.size + (a0.extract (x10_1 : Int).toNat ((wrap64 (x10_1 + 1)) : Int).toNat).size ≤ 9223372036854775807
                          · rw [if_pos c34] at H
                            have c34b0 := eq_true c34
                            have c34b1 : decide (x7_1.size + (a0.extract (x10_1 : Int).toNat ((wrap64 (x10_1 + 1)) : Int).toNat).size ≤ 9223372036854775807) = true := decide_eq_true c34
                            (try (have c34b3 : (x7_1.size + (((wrap64 (x10_1 + 1)) : Int).toNat - (x10_1 : Int).toNat) ≤ 9223372036854775807) = True := eq_true (by have h_ := c34; (try simp only [ByteArray.size_append, ByteArray.size_extract] at h_); (try simp only [decide_eq_true_eq] at *); omega)))
                            (try (have c34b4 : decide (x7_1.size + (((wrap64 (x10_1 + 1)) : Int).toNat - (x10_1 : Int).toNat) ≤ 9223372036854775807) = true := decide_eq_true (by have h_ := c34; (try simp only [ByteArray.size_append, ByteArray.size_extract] at h_); (try simp only [decide_eq_true_eq] at *); omega)))
                            (try (have c34b5 : (9223372036854775807 < x7_1.size + (((wrap64 (x10_1 + 1)) : Int).toNat - (x10_1 : Int).toNat)) = False := eq_false (by intro g_; have h_ := c34; (try simp only [ByteArray.size_append, ByteArray.size_extract] at h_); (try simp only [decide_eq_true_eq] at *); omega)))
                            try have c34b2 : (9223372036854775807 < x7_1.size + (a0.extract (x10_1 : Int).toNat ((wrap64 (x10_1 + 1)) : Int).toNat).size) = False := eq_false (Nat.not_lt.2 c34)
                            by_cases c35 : ((x7_1 ++ (a0.extract (x10_1 : Int).toNat ((wrap64 (x10_1 + 1)) : Int).toNat)).size : Int) > 65536
                            · rw [if_pos c35] at H
                              have c35b0 : decide (65536 < ((x7_1 ++ (a0.extract (x10_1 : Int).toNat ((wrap64 (x10_1 + 1)) : Int).toNat)).size : Int)) = true := decide_eq_true c35
                              have c35b1 : decide (65536 < (x7_1 ++ (a0.extract (x10_1 : Int).toNat ((wrap64 (x10_1 + 1)) : Int).toNat)).size) = true := decide_eq_true (by omega)
                              (try (have c35b2 : decide (65536 < (x7_1.size : Int) + ((((wrap64 (x10_1 + 1)) : Int).toNat - (x10_1 : Int).toNat : Nat) : Int)) = true := decide_eq_true (by have h_ := c35; (try simp only [ByteArray.size_append, ByteArray.size_extract] at h_); (try simp only [decide_eq_true_eq] at *); omega)))
                              (try (have c35b3 : decide (65536 < x7_1.size + (((wrap64 (x10_1 + 1)) : Int).toNat - (x10_1 : Int).toNat)) = true := decide_eq_true (by have h_ := c35; (try simp only [ByteArray.size_append, ByteArray.size_extract] at h_); (try simp only [decide_eq_true_eq] at *); omega)))
                              clear c35
                              simp only [Option.some.injEq, Prod.mk.injEq] at H
                              obtain ⟨rfl, rfl⟩ := H
                              have p18 : 0 ≤ (x10_1 : Int) := of_decide_eq_true (by first | (with_reducible assumption) | assumption)
                              have q18 : x10_1 < (a0.size : Int) := of_decide_eq_true (by first | (with_reducible assumption) | assumption)
                              have hx18 := bt_at a0 x10_1
                              replace p18 := eq_true p18
                              replace q18 := eq_true q18
                              go_wp2
                              go_ret2
                              exact ⟨by first | rfl | (simp; done) | (simp [*]; done), by repeat (first | exact Drawn0.refl _ | apply Drawn0.step)⟩
                            · rw [if_neg c35] at H
                              have c35b0 : decide (65536 < ((x7_1 ++ (a0.extract (x10_1 : Int).toNat ((wrap64 (x10_1 + 1)) : Int).toNat)).size : Int)) = false := decide_eq_false c35
                              have c35b1 : decide (65536 < (x7_1 ++ (a0.extract (x10_1 : Int).toNat ((wrap64 (x10_1 + 1)) : Int).toNat)).size) = false := decide_eq_false (by omega)
                              (try (have c35b2 : decide (65536 < (x7_1.size : Int) + ((((wrap64 (x10_1 + 1)) : Int).toNat - (x10_1 : Int).toNat : Nat) : Int)) = false := decide_eq_false (by intro g_; have h_ := c35; (try simp only [ByteArray.size_append, ByteArray.size_extract] at h_); (try simp only [decide_eq_true_eq] at *); omega)))
                              (try (have c35b3 : decide (65536 < x7_1.size + (((wrap64 (x10_1 + 1)) : Int).toNat - (x10_1 : Int).toNat)) = false := decide_eq_false (by intro g_; have h_ := c35; (try simp only [ByteArray.size_append, ByteArray.size_extract] at h_); (try simp only [decide_eq_true_eq] at *); omega)))
                              clear c35
                              have H' := Aside0.mk H
                              clear H
                              have p18 : 0 ≤ (x10_1 : Int) := of_decide_eq_true (by first | (with_reducible assumption) | assumption)
                              have q18 : x10_1 < (a0.size : Int) := of_decide_eq_true (by first | (with_reducible assumption) | assumption)
                              have hx18 := bt_at a0 x10_1
                              replace p18 := eq_true p18
                              replace q18 := eq_true q18
                              go_wp2
                              go_roundg kj5
                              case measure => have := HK1.out; have := HJ5.out; omega
                              case rel => exact ⟨(x7_1 ++ (a0.extract (x10_1 : Int).toNat ((wrap64 (x10_1 + 1)) : Int).toNat)), (x8_1), (x9_1), (wrap64 (x10_1 + 1)), (by first | rfl | (simp; done) | (simp [*]; done)), (by first | rfl | (simp; done) | (simp [*]; done)), (by first | rfl | (simp; done) | (simp [*]; done)), (by first | rfl | (simp; done) | (simp [*]; done)), H', ⟨by have := HK1.out; have := HJ5.out; omega⟩, by repeat (first | exact Drawn0.refl _ | apply Drawn0.step)⟩
                          · rw [if_neg c34] at H
                            exact absurd H (by simp)
                        · rw [if_neg c33] at H
                          exact absurd H (by simp)
                      · rw [if_neg c32] at H
                        exact absurd H (by simp)
                  · rw [if_neg c17] at H
                    exact absurd H (by simp)
                · rw [if_neg c16] at H
                  exact absurd H (by simp)
        · rw [if_neg c5] at H
          have c5b0 : decide (x10_1 < (a0.size : Int)) = false := decide_eq_false c5
          clear c5
          simp only [Option.some.injEq, Prod.mk.injEq] at H
          obtain ⟨rfl, rfl⟩ := H
          go_wp2
          go_ret2
          exact ⟨by first | rfl | (simp; done) | (simp [*]; done), by repeat (first | exact Drawn0.refl _ | apply Drawn0.step)⟩
  · rw [if_neg c4] at H
    have c4b0 : (t113 == 0) = false := beq_eq_false_iff_ne.mpr c4
    have c4b1 : (t113 != 0) = true := bne_iff_ne.mpr c4
    simp only [Option.some.injEq, Prod.mk.injEq] at H
    obtain ⟨rfl, rfl⟩ := H
    go_enter Tryd.func12, Tryd.ntmps12
    go_wp2_with (first | ((with_reducible refine gate_callee (f := 24) rfl ?_); refine goesL_ (some 14) rfl rfl Tryd.func24 (by kernel_rfl) rfl #[.string a0] rfl (by (try simp only [List.map_toArray, List.map_cons, List.map_nil]); first | done | rfl | (simp only [List.length_drop, List.length_take]; rfl)) ?_; (with_reducible refine (belvedereref21_Check.calls k a0 t113 _ A3.out).mono ?_); rintro e w' ⟨rfl, ⟨nd, rfl⟩⟩; refine ⟨_, rfl, ?_⟩))
    go_ret2
    exact ⟨by first | rfl | (simp; done) | (simp [*]; done), by repeat (first | exact Drawn0.refl _ | apply Drawn0.step)⟩

end Go.Proofs.YtdjnpjakbiehdaaDoor.Pr
