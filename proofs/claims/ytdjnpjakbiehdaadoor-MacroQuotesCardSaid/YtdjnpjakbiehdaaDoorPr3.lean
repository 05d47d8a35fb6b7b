-- written by wip/tools/myprint.py out of Lean's own print of the program
import Derived.Test.YtdjnpjakbiehdaaDoorPr0
import Derived.Test.YtdjnpjakbiehdaaDoorGExpand
import Derived.Test.YtdjnpjakbiehdaaDoorGlob
namespace Go.Proofs.YtdjnpjakbiehdaaDoor.Pr
open Go.RowKit Go.Proofs.YtdjnpjakbiehdaaDoorW.PrintWords Go.Proofs.YtdjnpjakbiehdaaDoorW.PrintLast Go.Proofs.YtdjnpjakbiehdaaDoorW.PrintMore
attribute [local go_sem] max2_int min2_int max_two min_two max_three min_three max_four min_four   -- for this text's walks alone
set_option linter.unusedVariables false
set_option linter.unusedSimpArgs false

/-! ### belvederelaw21_sure: function 9 -/
def belvederelaw21_sure.f  : Option (Bool) := (macro_Expand.f (⟨#[36, 72, 36, 32, 105, 115, 32, 36, 83, 36, 58, 32, 36, 36, 53]⟩ : ByteArray) (([(⟨(⟨#[72]⟩ : ByteArray), (⟨#[97]⟩ : ByteArray)⟩ : S37), (⟨(⟨#[83]⟩ : ByteArray), (⟨#[117, 112]⟩ : ByteArray)⟩ : S37)] : List (S37)))).bind fun bt106 => (if bt106.2.isNone = true then (some (bt106.1.toList == ([97, 32, 105, 115, 32, 117, 112, 58, 32, 36, 53] : List UInt8))) else (some false))
set_option maxHeartbeats 8000000 in
set_option maxRecDepth 100000 in
theorem belvederelaw21_sure.calls  (r : Bool) (w : World) (hG : Glob w) (h : belvederelaw21_sure.f  = some r) :
    Calls Tryd.prog 9 #[] w fun e w' => e = .returned (.bool r) ∧ Below w.heap.size w w' := by
  have hu37 := Tryd.underlying37
  have hu26 := Tryd.underlying26
  have hu56 := Tryd.underlying56
  have HB := Aside0.mk (Below.refl w.heap.size w)
  have HG := Aside0.mk hG
  clear hG
  have H : ((macro_Expand.f (⟨#[36, 72, 36, 32, 105, 115, 32, 36, 83, 36, 58, 32, 36, 36, 53]⟩ : ByteArray) (([(⟨(⟨#[72]⟩ : ByteArray), (⟨#[97]⟩ : ByteArray)⟩ : S37), (⟨(⟨#[83]⟩ : ByteArray), (⟨#[117, 112]⟩ : ByteArray)⟩ : S37)] : List (S37)))).bind fun bt106 => (if bt106.2.isNone = true then (some (bt106.1.toList == ([97, 32, 105, 115, 32, 117, 112, 58, 32, 36, 53] : List UInt8))) else (some false))) = some r := h
  clear h
  obtain ⟨y103, hy103⟩ : ∃ y_ : List (S37), y_ = (([(⟨(⟨#[72]⟩ : ByteArray), (⟨#[97]⟩ : ByteArray)⟩ : S37), (⟨(⟨#[83]⟩ : ByteArray), (⟨#[117, 112]⟩ : ByteArray)⟩ : S37)] : List (S37))) := ⟨_, rfl⟩
  replace H : ((macro_Expand.f (⟨#[36, 72, 36, 32, 105, 115, 32, 36, 83, 36, 58, 32, 36, 36, 53]⟩ : ByteArray) y103).bind fun bt106 => (if bt106.2.isNone = true then (some (bt106.1.toList == ([97, 32, 105, 115, 32, 117, 112, 58, 32, 36, 53] : List UInt8))) else (some false))) = some r := by first | (rw [hy103]; with_reducible exact H) | (have H2_ := (Option.bind_some _ _).symm.trans H; rw [hy103]; with_reducible exact H2_) | (have H2_ := (Option.bind_some _ _).symm.trans H; with_reducible exact H2_) | with_reducible exact H | (rw [hy103]; exact H) | exact H
  have Ny103 := Aside0.mk hy103
  clear hy103
  replace H := Option.bind_eq_some_iff.mp H
  obtain ⟨⟨t106, t107⟩, A10, H⟩ := H
  replace H : (if t107.isNone = true then (some (t106.toList == ([97, 32, 105, 115, 32, 117, 112, 58, 32, 36, 53] : List UInt8))) else (some false)) = some r := H
  have A1 := Aside0.mk A10
  clear A10
  rcases t107 with _ | q108
  · have H1 : (some (t106.toList == ([97, 32, 105, 115, 32, 117, 112, 58, 32, 36, 53] : List UInt8))) = some r := by rw [if_pos (show (none : Option Int).isNone = true by rfl)] at H; exact H
    clear H
    have H := H1
    clear H1
    try simp only [errW_none, errW_some]
    obtain rfl := Option.some.inj H
    go_enter Tryd.func9, Tryd.ntmps9
    go_wp2_with (first | ((with_reducible refine gate_dst (N := 6) rfl ?_); refine Kd.R_lit k37 _ 37 ?hg (N := 6) ?hd (xs := ([(⟨(⟨#[72]⟩ : ByteArray), (⟨#[97]⟩ : ByteArray)⟩ : S37), (⟨(⟨#[83]⟩ : ByteArray), (⟨#[117, 112]⟩ : ByteArray)⟩ : S37)] : List (S37))) (inner := [.string (⟨#[72]⟩ : ByteArray), .string (⟨#[97]⟩ : ByteArray), .string (⟨#[83]⟩ : ByteArray), .string (⟨#[117, 112]⟩ : ByteArray)]) (ok := fun _ => True) (okp := fun _ => True) ?hr ?hp (fun _ hk => hk) trivial (Below.refl _ _) (Nat.le_refl _) (by simp) ?_; (case hd => rfl); (case hg => rfl); (case hr => first | (go_simp; done) | (go_simp; rfl)); (case hp => exact (Reps.c2 (show Kd.M k37 _ _ _ (⟨(⟨#[72]⟩ : ByteArray), (⟨#[97]⟩ : ByteArray)⟩ : S37) [.string (⟨#[72]⟩ : ByteArray), .string (⟨#[97]⟩ : ByteArray)] from (k37_mkM _ _ _ (⟨(⟨#[72]⟩ : ByteArray), (⟨#[97]⟩ : ByteArray)⟩ : S37) )) (Reps.c2 (show Kd.M k37 _ _ _ (⟨(⟨#[83]⟩ : ByteArray), (⟨#[117, 112]⟩ : ByteArray)⟩ : S37) [.string (⟨#[83]⟩ : ByteArray), .string (⟨#[117, 112]⟩ : ByteArray)] from (k37_mkM _ _ _ (⟨(⟨#[83]⟩ : ByteArray), (⟨#[117, 112]⟩ : ByteArray)⟩ : S37) )) (Reps.none _ _)))); intro v104 w2 ho3 hb hg_ hnew_; clear hg_ hnew_; (first | rw [← Ny103.out] at ho3 | (simp only [Int.reduceToNat] at ho3; rw [← Ny103.out] at ho3)); have n0_ := Aside0.mk (Kd.R_lower ho3 (below_size (by repeat (first | (with_reducible first | exact HB.out | apply below_alloc | apply pw_below_drewN | apply below_drew1) | exact HB.out)))); have n1_ := Aside0.mk (below_step (by repeat (first | (with_reducible first | exact HB.out | apply below_alloc | apply pw_below_drewN | apply below_drew1) | exact HB.out)) hb); clear HB; have HO105 := n0_; have HB := n1_; clear n0_ n1_; clear hb ho3; obtain ⟨Ao4, co4, eo4⟩ := Kd.R_slice HO105.out; subst eo4) | ((with_reducible refine gate_callee (f := 10) rfl ?_); refine goesL_ (some 7) rfl rfl Tryd.func10 (by kernel_rfl) rfl #[.string (⟨#[36, 72, 36, 32, 105, 115, 32, 36, 83, 36, 58, 32, 36, 36, 53]⟩ : ByteArray), .slice Ao4 y103.length co4] rfl (by (try simp only [List.map_toArray, List.map_cons, List.map_nil]); first | done | rfl | (simp only [List.length_drop, List.length_take]; rfl)) ?_; (with_reducible refine (macro_Expand.calls (⟨#[36, 72, 36, 32, 105, 115, 32, 36, 83, 36, 58, 32, 36, 36, 53]⟩ : ByteArray) _ _ y103 t106 none _ ?side1 ?side2 ?side3 A1.out).mono ?_); (case side1 => repeat (first | exact (Kd.R_reads' HO105.out).2.2 | (with_reducible refine Kd.C_alloc ?_ _) | (with_reducible refine Kd.C_drewN ?_ _) | (with_reducible refine Kd.C_drew ?_))); (case side2 => exact (Kd.R_reads' HO105.out).2.1); (case side3 => first | exact HG.out | exact Glob.below HG.out (by repeat (first | (with_reducible first | exact HB.out | apply below_alloc | apply pw_below_drewN | apply below_drew1) | exact HB.out))); rintro e w5 ⟨rfl, hb⟩; refine ⟨_, rfl, ?_⟩; have n0_ := Aside0.mk (Kd.R_below (by (with_reducible repeat (first | apply Kd.R_alloc | apply Kd.R_drewN | apply Kd.R_drew)); exact HO105.out) hb); have n1_ := Aside0.mk (below_step (by repeat (first | (with_reducible first | exact HB.out | apply below_alloc | apply pw_below_drewN | apply below_drew1) | exact HB.out)) hb); clear HO105; clear HB; have HO105 := n0_; have HB := n1_; clear n0_ n1_; (try clear hb); (try clear hb2); (try clear hk); (try clear hi); (try simp only [errW_none, errW_some])))
    go_ret
    exact ⟨by first | rfl | (simp [errW_none, errW_some] <;> rfl) | (simp [*, errW_none, errW_some] <;> rfl), by repeat (first | (with_reducible first | exact HB.out | apply below_alloc | apply pw_below_drewN | apply below_drew1) | exact HB.out)⟩
  · have H1 : (some false) = some r := by rw [if_neg (show ¬ (some q108).isNone = true by simp)] at H; exact H
    clear H
    have H := H1
    clear H1
    try simp only [errW_none, errW_some]
    obtain rfl := Option.some.inj H
    go_enter Tryd.func9, Tryd.ntmps9
    go_wp2_with (first | ((with_reducible refine gate_dst (N := 6) rfl ?_); refine Kd.R_lit k37 _ 37 ?hg (N := 6) ?hd (xs := ([(⟨(⟨#[72]⟩ : ByteArray), (⟨#[97]⟩ : ByteArray)⟩ : S37), (⟨(⟨#[83]⟩ : ByteArray), (⟨#[117, 112]⟩ : ByteArray)⟩ : S37)] : List (S37))) (inner := [.string (⟨#[72]⟩ : ByteArray), .string (⟨#[97]⟩ : ByteArray), .string (⟨#[83]⟩ : ByteArray), .string (⟨#[117, 112]⟩ : ByteArray)]) (ok := fun _ => True) (okp := fun _ => True) ?hr ?hp (fun _ hk => hk) trivial (Below.refl _ _) (Nat.le_refl _) (by simp) ?_; (case hd => rfl); (case hg => rfl); (case hr => first | (go_simp; done) | (go_simp; rfl)); (case hp => exact (Reps.c2 (show Kd.M k37 _ _ _ (⟨(⟨#[72]⟩ : ByteArray), (⟨#[97]⟩ : ByteArray)⟩ : S37) [.string (⟨#[72]⟩ : ByteArray), .string (⟨#[97]⟩ : ByteArray)] from (k37_mkM _ _ _ (⟨(⟨#[72]⟩ : ByteArray), (⟨#[97]⟩ : ByteArray)⟩ : S37) )) (Reps.c2 (show Kd.M k37 _ _ _ (⟨(⟨#[83]⟩ : ByteArray), (⟨#[117, 112]⟩ : ByteArray)⟩ : S37) [.string (⟨#[83]⟩ : ByteArray), .string (⟨#[117, 112]⟩ : ByteArray)] from (k37_mkM _ _ _ (⟨(⟨#[83]⟩ : ByteArray), (⟨#[117, 112]⟩ : ByteArray)⟩ : S37) )) (Reps.none _ _)))); intro v104 w6 ho7 hb hg_ hnew_; clear hg_ hnew_; (first | rw [← Ny103.out] at ho7 | (simp only [Int.reduceToNat] at ho7; rw [← Ny103.out] at ho7)); have n0_ := Aside0.mk (Kd.R_lower ho7 (below_size (by repeat (first | (with_reducible first | exact HB.out | apply below_alloc | apply pw_below_drewN | apply below_drew1) | exact HB.out)))); have n1_ := Aside0.mk (below_step (by repeat (first | (with_reducible first | exact HB.out | apply below_alloc | apply pw_below_drewN | apply below_drew1) | exact HB.out)) hb); clear HB; have HO105 := n0_; have HB := n1_; clear n0_ n1_; clear hb ho7; obtain ⟨Ao8, co8, eo8⟩ := Kd.R_slice HO105.out; subst eo8) | ((with_reducible refine gate_callee (f := 10) rfl ?_); refine goesL_ (some 7) rfl rfl Tryd.func10 (by kernel_rfl) rfl #[.string (⟨#[36, 72, 36, 32, 105, 115, 32, 36, 83, 36, 58, 32, 36, 36, 53]⟩ : ByteArray), .slice Ao8 y103.length co8] rfl (by (try simp only [List.map_toArray, List.map_cons, List.map_nil]); first | done | rfl | (simp only [List.length_drop, List.length_take]; rfl)) ?_; (with_reducible refine (macro_Expand.calls (⟨#[36, 72, 36, 32, 105, 115, 32, 36, 83, 36, 58, 32, 36, 36, 53]⟩ : ByteArray) _ _ y103 t106 (some q108) _ ?side1 ?side2 ?side3 A1.out).mono ?_); (case side1 => repeat (first | exact (Kd.R_reads' HO105.out).2.2 | (with_reducible refine Kd.C_alloc ?_ _) | (with_reducible refine Kd.C_drewN ?_ _) | (with_reducible refine Kd.C_drew ?_))); (case side2 => exact (Kd.R_reads' HO105.out).2.1); (case side3 => first | exact HG.out | exact Glob.below HG.out (by repeat (first | (with_reducible first | exact HB.out | apply below_alloc | apply pw_below_drewN | apply below_drew1) | exact HB.out))); rintro e w9 ⟨rfl, hb⟩; refine ⟨_, rfl, ?_⟩; have n0_ := Aside0.mk (Kd.R_below (by (with_reducible repeat (first | apply Kd.R_alloc | apply Kd.R_drewN | apply Kd.R_drew)); exact HO105.out) hb); have n1_ := Aside0.mk (below_step (by repeat (first | (with_reducible first | exact HB.out | apply below_alloc | apply pw_below_drewN | apply below_drew1) | exact HB.out)) hb); clear HO105; clear HB; have HO105 := n0_; have HB := n1_; clear n0_ n1_; (try clear hb); (try clear hb2); (try clear hk); (try clear hi); (try simp only [errW_none, errW_some])))
    go_ret
    exact ⟨by first | rfl | (simp [errW_none, errW_some] <;> rfl) | (simp [*, errW_none, errW_some] <;> rfl), by repeat (first | (with_reducible first | exact HB.out | apply below_alloc | apply pw_below_drewN | apply below_drew1) | exact HB.out)⟩

end Go.Proofs.YtdjnpjakbiehdaaDoor.Pr
