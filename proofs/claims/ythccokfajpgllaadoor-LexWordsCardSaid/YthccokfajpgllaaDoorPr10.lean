-- written by wip/tools/myprint.py out of Lean's own print of the program
import Derived.Test.YthccokfajpgllaaDoorPr0
import Derived.Test.YthccokfajpgllaaDoorPr1
import Derived.Test.YthccokfajpgllaaDoorPr9
import Derived.Test.YthccokfajpgllaaDoorGlob
namespace Go.Proofs.YthccokfajpgllaaDoor.Pr
open Go.RowKit Go.Proofs.YthccokfajpgllaaDoorW.PrintWords Go.Proofs.YthccokfajpgllaaDoorW.PrintLast Go.Proofs.YthccokfajpgllaaDoorW.PrintMore
attribute [local go_sem] max2_int min2_int max_two min_two max_three min_three max_four min_four   -- for this text's walks alone
set_option linter.unusedVariables false
set_option linter.unusedSimpArgs false

attribute [local go_sem high] eqA30
/-! ### belvederelaw08_sure: function 6 -/
def belvederelaw08_sure.f (k : Nat)  : Option (Bool) := (lex_Lines.f k (⟨#[97, 32, 59, 120, 10, 35, 32, 98, 10, 99, 92, 10, 100]⟩ : ByteArray)).bind fun bt121 => (if bt121.2.2.isNone = true then (if bt121.2.1 = 0 then (if (bt121.1.length : Int) = 2 then (if 0 < (bt121.1.length : Int) then (if (((rd_T30 bt121.1 0).f0) == 1 && ((((rd_T30 bt121.1 0).f1).toList) == ([97] : List UInt8))) = true then (if 1 < (bt121.1.length : Int) then (some (((rd_T30 bt121.1 1).f0) == 3 && ((((rd_T30 bt121.1 1).f1).toList) == ([99, 100] : List UInt8)))) else (none)) else (some false)) else (none)) else (some false)) else (some false)) else (some false))
theorem belvederelaw08_sure.mono : ∀ k, LeO (belvederelaw08_sure.f k ) (belvederelaw08_sure.f (k + 1) ) := by
  intro  k
  unfold belvederelaw08_sure.f
  repeat' first
      | (with_reducible exact lex_Lines.mono _ _)
      | (with_reducible exact LeO.refl _)
      | (with_reducible exact LeO.none _)
      | (with_reducible refine LeO.ite ?_ ?_)
      | (with_reducible refine LeO.bind ?_ (fun _ => ?_))
      | exact lex_Lines.mono _ _
      | exact LeO.none _
      | refine LeO.ite ?_ ?_
      | refine LeO.bind ?_ (fun _ => ?_)
set_option maxHeartbeats 8000000 in
set_option maxRecDepth 100000 in
theorem belvederelaw08_sure.calls (k : Nat)  (r : Bool) (w : World) (hG : Glob w) (h : belvederelaw08_sure.f k  = some r) :
    Calls Tryd.prog 6 #[] w fun e w' => e = .returned (.bool r) ∧ Below w.heap.size w w' := by
  have hu30 := Tryd.underlying30
  have hu26 := Tryd.underlying26
  have hu38 := Tryd.underlying38
  have HB := Aside0.mk (Below.refl w.heap.size w)
  have HG := Aside0.mk hG
  clear hG
  have H : ((lex_Lines.f k (⟨#[97, 32, 59, 120, 10, 35, 32, 98, 10, 99, 92, 10, 100]⟩ : ByteArray)).bind fun bt121 => (if bt121.2.2.isNone = true then (if bt121.2.1 = 0 then (if (bt121.1.length : Int) = 2 then (if 0 < (bt121.1.length : Int) then (if (((rd_T30 bt121.1 0).f0) == 1 && ((((rd_T30 bt121.1 0).f1).toList) == ([97] : List UInt8))) = true then (if 1 < (bt121.1.length : Int) then (some (((rd_T30 bt121.1 1).f0) == 3 && ((((rd_T30 bt121.1 1).f1).toList) == ([99, 100] : List UInt8)))) else (none)) else (some false)) else (none)) else (some false)) else (some false)) else (some false))) = some r := h
  clear h
  replace H := Option.bind_eq_some_iff.mp H
  obtain ⟨⟨t121, t122, t123⟩, A10, H⟩ := H
  replace H : (if t123.isNone = true then (if t122 = 0 then (if (t121.length : Int) = 2 then (if 0 < (t121.length : Int) then (if (((rd_T30 t121 0).f0) == 1 && ((((rd_T30 t121 0).f1).toList) == ([97] : List UInt8))) = true then (if 1 < (t121.length : Int) then (some (((rd_T30 t121 1).f0) == 3 && ((((rd_T30 t121 1).f1).toList) == ([99, 100] : List UInt8)))) else (none)) else (some false)) else (none)) else (some false)) else (some false)) else (some false)) = some r := H
  have A1 := Aside0.mk A10
  clear A10
  rcases t123 with _ | q126
  · have H1 : (if t122 = 0 then (if (t121.length : Int) = 2 then (if 0 < (t121.length : Int) then (if (((rd_T30 t121 0).f0) == 1 && ((((rd_T30 t121 0).f1).toList) == ([97] : List UInt8))) = true then (if 1 < (t121.length : Int) then (some (((rd_T30 t121 1).f0) == 3 && ((((rd_T30 t121 1).f1).toList) == ([99, 100] : List UInt8)))) else (none)) else (some false)) else (none)) else (some false)) else (some false)) = some r := by rw [if_pos (show (none : Option Int).isNone = true by rfl)] at H; exact H
    clear H
    have H := H1
    clear H1
    try simp only [errW_none, errW_some]
    by_cases c2 : t122 = 0
    · rw [if_pos c2] at H
      have c2b0 : (t122 == 0) = true := beq_iff_eq.mpr c2
      have c2b1 : (t122 != 0) = false := bne_eq_false_iff_eq.mpr c2
      clear c2
      by_cases c3 : (t121.length : Int) = 2
      · rw [if_pos c3] at H
        have c3b0 : ((t121.length : Int) == 2) = true := beq_iff_eq.mpr c3
        have c3b1 : ((t121.length : Int) != 2) = false := bne_eq_false_iff_eq.mpr c3
        clear c3
        by_cases c4 : 0 < (t121.length : Int)
        · rw [if_pos c4] at H
          have c4b0 : decide (0 < (t121.length : Int)) = true := decide_eq_true c4
          have c4b1 : decide (0 < t121.length) = true := decide_eq_true (by omega)
          clear c4
          by_cases c5 : (((rd_T30 t121 0).f0) == 1 && ((((rd_T30 t121 0).f1).toList) == ([97] : List UInt8))) = true
          · rw [if_pos c5] at H
            have c5b0 : (((rd_T30 t121 0).f0) == 1 && ((((rd_T30 t121 0).f1).toList) == ([97] : List UInt8))) = true := c5
            (try (have c5b1 : decide (((rd_T30 t121 0).f0) = 1 && ((((rd_T30 t121 0).f1).toList) == ([97] : List UInt8))) = true := by simpa using c5))
            (try (have c5b2 : (((rd_T30 t121 0).f0) == 1 && ((((rd_T30 t121 0).f1).toList) == ([97] : List UInt8))) = true := by simpa using c5))
            clear c5
            by_cases c6 : 1 < (t121.length : Int)
            · rw [if_pos c6] at H
              have c6b0 : decide (1 < (t121.length : Int)) = true := decide_eq_true c6
              have c6b1 : decide (1 < t121.length) = true := decide_eq_true (by omega)
              clear c6
              obtain rfl := Option.some.inj H
              go_enter Tryd.func6, Tryd.ntmps6
              go_wp2_with (first | ((with_reducible refine gate_callee (f := 7) rfl ?_); refine goesL_ (some 5) rfl rfl Tryd.func7 (by kernel_rfl) rfl #[.string (⟨#[97, 32, 59, 120, 10, 35, 32, 98, 10, 99, 92, 10, 100]⟩ : ByteArray)] rfl (by (try simp only [List.map_toArray, List.map_cons, List.map_nil]); first | done | rfl | (simp only [List.length_drop, List.length_take]; rfl)) ?_; (with_reducible refine (lex_Lines.calls k (⟨#[97, 32, 59, 120, 10, 35, 32, 98, 10, 99, 92, 10, 100]⟩ : ByteArray) t121 t122 none _ ?side1 A1.out).mono ?_); (case side1 => first | exact HG.out | exact Glob.below HG.out (by repeat (first | (with_reducible first | exact HB.out | apply below_alloc | apply pw_below_drewN | apply below_drew1) | exact HB.out))); rintro e w7 ⟨v124, rfl, ho0, hb⟩; refine ⟨_, rfl, ?_⟩; have n0_ := Aside0.mk (Kd.R_lower ho0 (below_size (by repeat (first | (with_reducible first | exact HB.out | apply below_alloc | apply pw_below_drewN | apply below_drew1) | exact HB.out)))); have n1_ := Aside0.mk (below_step (by repeat (first | (with_reducible first | exact HB.out | apply below_alloc | apply pw_below_drewN | apply below_drew1) | exact HB.out)) hb); clear HB; have HO125 := n0_; have HB := n1_; clear n0_ n1_; (try clear hb); (try clear hb2); (try clear hk); (try clear hi); (try clear ho0); (try simp only [errW_none, errW_some]); obtain ⟨Ao8, co8, eo8⟩ := Kd.R_slice HO125.out; subst eo8; have p127 : 0 ≤ (0 : Int) := (by omega); have q127 : 0 < (t121.length : Int) := of_decide_eq_true (by first | (with_reducible assumption) | assumption); obtain ⟨ad127, e127, hx127_0, hx127_1⟩ := at_T30 (Kd.R_reads' HO125.out).2.2 0 p127 q127; cases e127; have qi127 : (0 < t121.length) = True := eq_true (by omega); (try rw [show ((0 : Int)).toNat = 0 from rfl] at hx127_0); (try rw [show 0 * 2 = 0 from rfl] at hx127_0); (try rw [Addr.add_zero'] at hx127_0); (try rw [show ((0 : Int)).toNat = 0 from rfl] at hx127_1); (try rw [show 0 * 2 = 0 from rfl] at hx127_1); (try rw [Addr.add_zero'] at hx127_1); replace p127 := eq_true p127; replace q127 := eq_true q127; have p128 : 0 ≤ (1 : Int) := (by omega); have q128 : 1 < (t121.length : Int) := of_decide_eq_true (by first | (with_reducible assumption) | assumption); obtain ⟨ad128, e128, hx128_0, hx128_1⟩ := at_T30 (Kd.R_reads' HO125.out).2.2 1 p128 q128; obtain rfl : ad127 = ad128 := (by injection e128); (try simp only [show (1 : Int).toNat = 1 from rfl, Nat.reduceMul, Nat.reduceEqDiff, Go.Addr.add, ↓reduceIte] at hx128_0); (try simp only [show (1 : Int).toNat = 1 from rfl, Nat.reduceMul, Nat.reduceEqDiff, Go.Addr.add, ↓reduceIte] at hx128_1); have qi128 : (1 < t121.length) = True := eq_true (by omega); (try rw [show ((1 : Int)).toNat = 1 from rfl] at hx128_0); (try rw [show 1 * 2 = 2 from rfl] at hx128_0); (try rw [show ((1 : Int)).toNat = 1 from rfl] at hx128_1); (try rw [show 1 * 2 = 2 from rfl] at hx128_1); replace p128 := eq_true p128; replace q128 := eq_true q128))
              go_ret
              exact ⟨by first | rfl | (simp [errW_none, errW_some] <;> rfl) | (simp [*, errW_none, errW_some] <;> rfl), by repeat (first | (with_reducible first | exact HB.out | apply below_alloc | apply pw_below_drewN | apply below_drew1) | exact HB.out)⟩
            · rw [if_neg c6] at H
              exact absurd H (by simp)
          · rw [if_neg c5] at H
            have c5b0 : (((rd_T30 t121 0).f0) == 1 && ((((rd_T30 t121 0).f1).toList) == ([97] : List UInt8))) = false := by simpa using c5
            (try (have c5b1 : decide (((rd_T30 t121 0).f0) = 1 && ((((rd_T30 t121 0).f1).toList) == ([97] : List UInt8))) = false := by simpa using c5))
            (try (have c5b2 : (((rd_T30 t121 0).f0) == 1 && ((((rd_T30 t121 0).f1).toList) == ([97] : List UInt8))) = false := by simpa using c5))
            (try (have c5b3 : ¬ (((rd_T30 t121 0).f0) = 1 && ((((rd_T30 t121 0).f1).toList) == ([97] : List UInt8))) := by simpa using c5))
            clear c5
            obtain rfl := Option.some.inj H
            go_enter Tryd.func6, Tryd.ntmps6
            go_wp2_with (first | ((with_reducible refine gate_callee (f := 7) rfl ?_); refine goesL_ (some 5) rfl rfl Tryd.func7 (by kernel_rfl) rfl #[.string (⟨#[97, 32, 59, 120, 10, 35, 32, 98, 10, 99, 92, 10, 100]⟩ : ByteArray)] rfl (by (try simp only [List.map_toArray, List.map_cons, List.map_nil]); first | done | rfl | (simp only [List.length_drop, List.length_take]; rfl)) ?_; (with_reducible refine (lex_Lines.calls k (⟨#[97, 32, 59, 120, 10, 35, 32, 98, 10, 99, 92, 10, 100]⟩ : ByteArray) t121 t122 none _ ?side1 A1.out).mono ?_); (case side1 => first | exact HG.out | exact Glob.below HG.out (by repeat (first | (with_reducible first | exact HB.out | apply below_alloc | apply pw_below_drewN | apply below_drew1) | exact HB.out))); rintro e w9 ⟨v124, rfl, ho0, hb⟩; refine ⟨_, rfl, ?_⟩; have n0_ := Aside0.mk (Kd.R_lower ho0 (below_size (by repeat (first | (with_reducible first | exact HB.out | apply below_alloc | apply pw_below_drewN | apply below_drew1) | exact HB.out)))); have n1_ := Aside0.mk (below_step (by repeat (first | (with_reducible first | exact HB.out | apply below_alloc | apply pw_below_drewN | apply below_drew1) | exact HB.out)) hb); clear HB; have HO125 := n0_; have HB := n1_; clear n0_ n1_; (try clear hb); (try clear hb2); (try clear hk); (try clear hi); (try clear ho0); (try simp only [errW_none, errW_some]); obtain ⟨Ao10, co10, eo10⟩ := Kd.R_slice HO125.out; subst eo10; have p127 : 0 ≤ (0 : Int) := (by omega); have q127 : 0 < (t121.length : Int) := of_decide_eq_true (by first | (with_reducible assumption) | assumption); obtain ⟨ad127, e127, hx127_0, hx127_1⟩ := at_T30 (Kd.R_reads' HO125.out).2.2 0 p127 q127; cases e127; have qi127 : (0 < t121.length) = True := eq_true (by omega); (try rw [show ((0 : Int)).toNat = 0 from rfl] at hx127_0); (try rw [show 0 * 2 = 0 from rfl] at hx127_0); (try rw [Addr.add_zero'] at hx127_0); (try rw [show ((0 : Int)).toNat = 0 from rfl] at hx127_1); (try rw [show 0 * 2 = 0 from rfl] at hx127_1); (try rw [Addr.add_zero'] at hx127_1); replace p127 := eq_true p127; replace q127 := eq_true q127))
            go_ret
            exact ⟨by first | rfl | (simp [errW_none, errW_some] <;> rfl) | (simp [*, errW_none, errW_some] <;> rfl), by repeat (first | (with_reducible first | exact HB.out | apply below_alloc | apply pw_below_drewN | apply below_drew1) | exact HB.out)⟩
        · rw [if_neg c4] at H
          exact absurd H (by simp)
      · rw [if_neg c3] at H
        have c3b0 : ((t121.length : Int) == 2) = false := beq_eq_false_iff_ne.mpr c3
        have c3b1 : ((t121.length : Int) != 2) = true := bne_iff_ne.mpr c3
        obtain rfl := Option.some.inj H
        go_enter Tryd.func6, Tryd.ntmps6
        go_wp2_with (first | ((with_reducible refine gate_callee (f := 7) rfl ?_); refine goesL_ (some 5) rfl rfl Tryd.func7 (by kernel_rfl) rfl #[.string (⟨#[97, 32, 59, 120, 10, 35, 32, 98, 10, 99, 92, 10, 100]⟩ : ByteArray)] rfl (by (try simp only [List.map_toArray, List.map_cons, List.map_nil]); first | done | rfl | (simp only [List.length_drop, List.length_take]; rfl)) ?_; (with_reducible refine (lex_Lines.calls k (⟨#[97, 32, 59, 120, 10, 35, 32, 98, 10, 99, 92, 10, 100]⟩ : ByteArray) t121 t122 none _ ?side1 A1.out).mono ?_); (case side1 => first | exact HG.out | exact Glob.below HG.out (by repeat (first | (with_reducible first | exact HB.out | apply below_alloc | apply pw_below_drewN | apply below_drew1) | exact HB.out))); rintro e w11 ⟨v124, rfl, ho0, hb⟩; refine ⟨_, rfl, ?_⟩; have n0_ := Aside0.mk (Kd.R_lower ho0 (below_size (by repeat (first | (with_reducible first | exact HB.out | apply below_alloc | apply pw_below_drewN | apply below_drew1) | exact HB.out)))); have n1_ := Aside0.mk (below_step (by repeat (first | (with_reducible first | exact HB.out | apply below_alloc | apply pw_below_drewN | apply below_drew1) | exact HB.out)) hb); clear HB; have HO125 := n0_; have HB := n1_; clear n0_ n1_; (try clear hb); (try clear hb2); (try clear hk); (try clear hi); (try clear ho0); (try simp only [errW_none, errW_some]); obtain ⟨Ao12, co12, eo12⟩ := Kd.R_slice HO125.out; subst eo12))
        go_ret
        exact ⟨by first | rfl | (simp [errW_none, errW_some] <;> rfl) | (simp [*, errW_none, errW_some] <;> rfl), by repeat (first | (with_reducible first | exact HB.out | apply below_alloc | apply pw_below_drewN | apply below_drew1) | exact HB.out)⟩
    · rw [if_neg c2] at H
      have c2b0 : (t122 == 0) = false := beq_eq_false_iff_ne.mpr c2
      have c2b1 : (t122 != 0) = true := bne_iff_ne.mpr c2
      obtain rfl := Option.some.inj H
      go_enter Tryd.func6, Tryd.ntmps6
      go_wp2_with (first | ((with_reducible refine gate_callee (f := 7) rfl ?_); refine goesL_ (some 5) rfl rfl Tryd.func7 (by kernel_rfl) rfl #[.string (⟨#[97, 32, 59, 120, 10, 35, 32, 98, 10, 99, 92, 10, 100]⟩ : ByteArray)] rfl (by (try simp only [List.map_toArray, List.map_cons, List.map_nil]); first | done | rfl | (simp only [List.length_drop, List.length_take]; rfl)) ?_; (with_reducible refine (lex_Lines.calls k (⟨#[97, 32, 59, 120, 10, 35, 32, 98, 10, 99, 92, 10, 100]⟩ : ByteArray) t121 t122 none _ ?side1 A1.out).mono ?_); (case side1 => first | exact HG.out | exact Glob.below HG.out (by repeat (first | (with_reducible first | exact HB.out | apply below_alloc | apply pw_below_drewN | apply below_drew1) | exact HB.out))); rintro e w13 ⟨v124, rfl, ho0, hb⟩; refine ⟨_, rfl, ?_⟩; have n0_ := Aside0.mk (Kd.R_lower ho0 (below_size (by repeat (first | (with_reducible first | exact HB.out | apply below_alloc | apply pw_below_drewN | apply below_drew1) | exact HB.out)))); have n1_ := Aside0.mk (below_step (by repeat (first | (with_reducible first | exact HB.out | apply below_alloc | apply pw_below_drewN | apply below_drew1) | exact HB.out)) hb); clear HB; have HO125 := n0_; have HB := n1_; clear n0_ n1_; (try clear hb); (try clear hb2); (try clear hk); (try clear hi); (try clear ho0); (try simp only [errW_none, errW_some])))
      go_ret
      exact ⟨by first | rfl | (simp [errW_none, errW_some] <;> rfl) | (simp [*, errW_none, errW_some] <;> rfl), by repeat (first | (with_reducible first | exact HB.out | apply below_alloc | apply pw_below_drewN | apply below_drew1) | exact HB.out)⟩
  · have H1 : (some false) = some r := by rw [if_neg (show ¬ (some q126).isNone = true by simp)] at H; exact H
    clear H
    have H := H1
    clear H1
    try simp only [errW_none, errW_some]
    obtain rfl := Option.some.inj H
    go_enter Tryd.func6, Tryd.ntmps6
    go_wp2_with (first | ((with_reducible refine gate_callee (f := 7) rfl ?_); refine goesL_ (some 5) rfl rfl Tryd.func7 (by kernel_rfl) rfl #[.string (⟨#[97, 32, 59, 120, 10, 35, 32, 98, 10, 99, 92, 10, 100]⟩ : ByteArray)] rfl (by (try simp only [List.map_toArray, List.map_cons, List.map_nil]); first | done | rfl | (simp only [List.length_drop, List.length_take]; rfl)) ?_; (with_reducible refine (lex_Lines.calls k (⟨#[97, 32, 59, 120, 10, 35, 32, 98, 10, 99, 92, 10, 100]⟩ : ByteArray) t121 t122 (some q126) _ ?side1 A1.out).mono ?_); (case side1 => first | exact HG.out | exact Glob.below HG.out (by repeat (first | (with_reducible first | exact HB.out | apply below_alloc | apply pw_below_drewN | apply below_drew1) | exact HB.out))); rintro e w14 ⟨v124, rfl, ho0, hb⟩; refine ⟨_, rfl, ?_⟩; have n0_ := Aside0.mk (Kd.R_lower ho0 (below_size (by repeat (first | (with_reducible first | exact HB.out | apply below_alloc | apply pw_below_drewN | apply below_drew1) | exact HB.out)))); have n1_ := Aside0.mk (below_step (by repeat (first | (with_reducible first | exact HB.out | apply below_alloc | apply pw_below_drewN | apply below_drew1) | exact HB.out)) hb); clear HB; have HO125 := n0_; have HB := n1_; clear n0_ n1_; (try clear hb); (try clear hb2); (try clear hk); (try clear hi); (try clear ho0); (try simp only [errW_none, errW_some])))
    go_ret
    exact ⟨by first | rfl | (simp [errW_none, errW_some] <;> rfl) | (simp [*, errW_none, errW_some] <;> rfl), by repeat (first | (with_reducible first | exact HB.out | apply below_alloc | apply pw_below_drewN | apply below_drew1) | exact HB.out)⟩

end Go.Proofs.YthccokfajpgllaaDoor.Pr
