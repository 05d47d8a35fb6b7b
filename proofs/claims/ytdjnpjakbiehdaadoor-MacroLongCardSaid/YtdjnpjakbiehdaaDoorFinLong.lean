/- MacroLong answers true, whatever the two numbers: a walk over its three loops and its callees, contracts. -/
import Derived.Test.YtdjnpjakbiehdaaDoorAt
import Derived.WalkLawsBesides
import Derived.BigQuiet
namespace Go.Proofs.YtdjnpjakbiehdaaDoor.Pr
open Go Go.RowKit
open Go.Proofs.YtdjnpjakbiehdaaDoorW.PrintWords Go.Proofs.YtdjnpjakbiehdaaDoorW.PrintLast Go.Proofs.YtdjnpjakbiehdaaDoorW.PrintMore
set_option linter.unusedVariables false
set_option linter.unusedSimpArgs false
theorem wrap_small (a : Int) (n : Nat) (h1 : 0 < n) (h2 : n ≤ 100000) : ∃ k : Nat, wrap64 ((IntKind.u64.wrap a).tmod (n : Int)) = (k : Int) ∧ k < n := by
  have h : 0 ≤ IntKind.u64.wrap a := by simp only [IntKind.wrap, IntKind.signed, IntKind.bits]; simp; omega
  refine ⟨((IntKind.u64.wrap a).tmod (n : Int)).toNat, ?_, ?_⟩
  · rw [Int.tmod_eq_emod_of_nonneg h]
    have := Int.emod_nonneg (IntKind.u64.wrap a) (b := (n : Int)) (by omega)
    have := Int.emod_lt_of_pos (IntKind.u64.wrap a) (b := (n : Int)) (by omega)
    unfold wrap64; omega
  · rw [Int.tmod_eq_emod_of_nonneg h]
    have := Int.emod_nonneg (IntKind.u64.wrap a) (b := (n : Int)) (by omega)
    have := Int.emod_lt_of_pos (IntKind.u64.wrap a) (b := (n : Int)) (by omega)
    omega
set_option maxHeartbeats 8000000 in
set_option maxRecDepth 100000 in
theorem long_big (a0 a1 : Int) (w : World) (kk m p : Nat) (hG : Glob w) (hk : wrap64 (1 + wrap64 (Int.tmod (IntKind.u64.wrap a0) 5000)) = (kk : Int)) (hm : wrap64 (Int.tmod (IntKind.u64.wrap a1) 40) = (m : Int)) (hk1 : 1 ≤ kk) (hk2 : kk ≤ 5000) (hm2 : m ≤ 39)
    (hkw : wrap64 ((kk : Int) + 1) = (kk : Int) + 1) (hpw : wrap64 ((m : Int) * ((kk : Int) + 1)) = (p : Int)) (hp2 : 65536 < p)
    (AE : ∀ v : ByteArray, v.size = kk → ∃ t130 : ByteArray, t130 = ⟨#[]⟩ ∧ macro_Expand.f ⟨(Mac.longText m).toArray⟩ [⟨⟨#[86]⟩, v⟩] = some (t130, some 2)) :
    Calls Tryd.prog 4 #[.int .i64 a0, .int .i64 a1] w fun e w' => e = .returned (.bool true) ∧ Below w.heap.size w w' := by
  have d1 : decide (65536 < (p : Int)) = true := decide_eq_true (by omega)
  clear hp2
  have hu37 := Tryd.underlying37
  have hu26 := Tryd.underlying26
  have hu56 := Tryd.underlying56
  have HB := Aside0.mk (Below.refl w.heap.size w)
  have HG := Aside0.mk hG
  clear hG
  have AE' := Aside0.mk AE
  clear AE
  go_enter Tryd.func4, Tryd.ntmps4
  go_wp2
  go_loopg [6] kk (fun kq v6 w' => ∃ (x6_1 : ByteArray), v6 = .string x6_1 ∧ Aside0 (kq + x6_1.size = kk) ∧ Aside0 (Below w.heap.size w w'))
  case atStart => exact ⟨(⟨#[]⟩ : ByteArray), rfl, ⟨rfl⟩, ⟨by repeat (first | (with_reducible first | exact HB.out | apply below_alloc | apply pw_below_drewN | apply below_drew1) | exact HB.out)⟩⟩
  case round =>
    obtain ⟨x6_1, rfl, HK1, HB⟩ := hrel
    have z1 : x6_1.size ≤ 5000 := by have := HK1.out; omega
    have z3 : wrap64 ((x6_1.size : Int) + 64) = (x6_1.size : Int) + 64 := by unfold wrap64; omega
    by_cases c3 : x6_1.size + 64 ≤ kk
    · have c3b0 : decide ((x6_1.size : Int) + 64 ≤ (kk : Int)) = true := decide_eq_true (by omega)
      have c3b0n : decide (x6_1.size + 64 ≤ kk) = true := decide_eq_true (by omega)
      have c3b1 : (x6_1.size + 64 ≤ 9223372036854775807) = True := eq_true (by omega)
      have c3b2 : (9223372036854775807 < x6_1.size + 64) = False := eq_false (by omega)
      have c3b3 : (9223372036854775743 < x6_1.size) = False := eq_false (by omega)
      have c3b4 : (x6_1.size ≤ 9223372036854775743) = True := eq_true (by omega)
      have c3a := Aside0.mk c3
      clear c3
      go_wp2
      go_roundg (gk - 64)
      case measure => have := HK1.out; have := c3a.out; omega
      case rel => exact ⟨x6_1 ++ (⟨#[48, 49, 50, 51, 52, 53, 54, 55, 56, 57, 48, 49, 50, 51, 52, 53, 54, 55, 56, 57, 48, 49, 50, 51, 52, 53, 54, 55, 56, 57, 48, 49, 50, 51, 52, 53, 54, 55, 56, 57, 48, 49, 50, 51, 52, 53, 54, 55, 56, 57, 48, 49, 50, 51, 52, 53, 54, 55, 56, 57, 48, 49, 50, 51]⟩ : ByteArray), (by first | rfl | (simp; done) | (simp [*]; done)), ⟨by have := HK1.out; have := c3a.out; rw [ByteArray.size_append, show (⟨#[48, 49, 50, 51, 52, 53, 54, 55, 56, 57, 48, 49, 50, 51, 52, 53, 54, 55, 56, 57, 48, 49, 50, 51, 52, 53, 54, 55, 56, 57, 48, 49, 50, 51, 52, 53, 54, 55, 56, 57, 48, 49, 50, 51, 52, 53, 54, 55, 56, 57, 48, 49, 50, 51, 52, 53, 54, 55, 56, 57, 48, 49, 50, 51]⟩ : ByteArray).size = 64 by rfl]; omega⟩, ⟨by repeat (first | (with_reducible first | exact HB.out | apply below_alloc | apply pw_below_drewN | apply below_drew1) | exact HB.out)⟩⟩
    · have c3b0 : decide ((x6_1.size : Int) + 64 ≤ (kk : Int)) = false := decide_eq_false (by omega)
      have c3b0n : decide (x6_1.size + 64 ≤ kk) = false := decide_eq_false (by omega)
      clear c3
      go_wp2
      go_loopg [6] gk (fun kq v6 w' => ∃ (x6_2 : ByteArray), v6 = .string x6_2 ∧ Aside0 (kq + x6_2.size = kk) ∧ Aside0 (Below w.heap.size w w'))
      case atStart => exact ⟨x6_1, rfl, HK1, ⟨by repeat (first | (with_reducible first | exact HB.out | apply below_alloc | apply pw_below_drewN | apply below_drew1) | exact HB.out)⟩⟩
      case round =>
        clear c3b0 z3 z1 HK1
        obtain ⟨x6_2, rfl, HK2, HB⟩ := hrel
        have z2 : x6_2.size ≤ 5000 := by have := HK2.out; omega
        by_cases c5 : x6_2.size < kk
        · have c5b0 : decide ((x6_2.size : Int) < (kk : Int)) = true := decide_eq_true (by omega)
          have c5b0n : decide (x6_2.size < kk) = true := decide_eq_true (by omega)
          have c5b1 : (x6_2.size + 1 ≤ 9223372036854775807) = True := eq_true (by omega)
          have c5b2 : (9223372036854775807 < x6_2.size + 1) = False := eq_false (by omega)
          have c5b3 : (9223372036854775806 < x6_2.size) = False := eq_false (by omega)
          have c5b4 : (x6_2.size ≤ 9223372036854775806) = True := eq_true (by omega)
          have c5a := Aside0.mk c5
          clear c5
          go_wp2
          go_roundg (gk - 1)
          case measure => have := HK2.out; have := c5a.out; omega
          case rel => exact ⟨x6_2 ++ (⟨#[120]⟩ : ByteArray), (by first | rfl | (simp; done) | (simp [*]; done)), ⟨by have := HK2.out; have := c5a.out; rw [ByteArray.size_append, show (⟨#[120]⟩ : ByteArray).size = 1 by rfl]; omega⟩, ⟨by repeat (first | (with_reducible first | exact HB.out | apply below_alloc | apply pw_below_drewN | apply below_drew1) | exact HB.out)⟩⟩
        · have c5b0 : decide ((x6_2.size : Int) < (kk : Int)) = false := decide_eq_false (by omega)
          have c5b0n : decide (x6_2.size < kk) = false := decide_eq_false (by omega)
          have hx : x6_2.size = kk := by have := HK2.out; omega
          have HX := Aside0.mk hx
          clear c5 hx
          go_wp2
          go_loopg [7, 8] m (fun kq v7 v8 w' => ∃ j : Nat, v7 = .string ⟨(Mac.longText j).toArray⟩ ∧ v8 = .int .i64 (j : Int) ∧ Aside0 (kq + j = m) ∧ Aside0 (Below w.heap.size w w'))
          case atStart => exact ⟨0, rfl, rfl, ⟨rfl⟩, ⟨by repeat (first | (with_reducible first | exact HB.out | apply below_alloc | apply pw_below_drewN | apply below_drew1) | exact HB.out)⟩⟩
          case round =>
            clear c5b0 z2 HK2
            obtain ⟨j, rfl, rfl, HK3, HB⟩ := hrel
            obtain ⟨x7_3, hx7, hl7⟩ : ∃ x7_3 : ByteArray, x7_3 = ⟨(Mac.longText j).toArray⟩ ∧ x7_3.size ≤ 156 := ⟨_, rfl, by have := Mac.longText_length j; have := HK3.out; have hs : (⟨(Mac.longText j).toArray⟩ : ByteArray).size = (Mac.longText j).length := rfl; omega⟩
            rw [← hx7]
            have HX7 := Aside0.mk hx7
            clear hx7
            have z4 : (j : Int) ≤ 39 := by have := HK3.out; omega
            by_cases c7 : j < m
            · have c7b0 : decide ((j : Int) < (m : Int)) = true := decide_eq_true (by omega)
              have c7b0n : decide (j < m) = true := decide_eq_true (by omega)
              have c7b1 : (x7_3.size + 4 ≤ 9223372036854775807) = True := eq_true (by omega)
              have c7b2 : (9223372036854775807 < x7_3.size + 4) = False := eq_false (by omega)
              have c7b3 : (9223372036854775803 < x7_3.size) = False := eq_false (by omega)
              have c7b4 : (x7_3.size ≤ 9223372036854775803) = True := eq_true (by omega)
              have c7b5 : wrap64 ((j : Int) + 1) = (j : Int) + 1 := by unfold wrap64; omega
              have c7a := Aside0.mk c7
              clear c7
              go_wp2
              go_roundg (gk - 1)
              case measure => have := HK3.out; have := c7a.out; omega
              case rel => exact ⟨j + 1, (by rw [HX7.out]; show Value.string _ = Value.string _; congr 1), rfl, ⟨by have := HK3.out; have := c7a.out; omega⟩, ⟨by repeat (first | (with_reducible first | exact HB.out | apply below_alloc | apply pw_below_drewN | apply below_drew1) | exact HB.out)⟩⟩
            · have c7b0 : decide ((j : Int) < (m : Int)) = false := decide_eq_false (by omega)
              have c7b0n : decide (j < m) = false := decide_eq_false (by omega)
              have hj : j = m := by have := HK3.out; omega
              clear c7
              obtain ⟨y127, hy127⟩ : ∃ y_ : List (S37), y_ = (([(⟨(⟨#[86]⟩ : ByteArray), x6_2⟩ : S37)] : List (S37))) := ⟨_, rfl⟩
              obtain ⟨t130, ht, hA⟩ := AE'.out x6_2 HX.out
              subst ht
              have A9 : Aside0 (macro_Expand.f x7_3 y127 = some ((⟨#[]⟩ : ByteArray), some 2)) := ⟨by rw [hy127, HX7.out, hj]; exact hA⟩
              clear hA
              have Ny127 := Aside0.mk hy127
              have hm' := Aside0.mk hj
              clear hy127 hj
              go_wp2_with ((with_reducible refine gate_dst (N := 44) rfl ?_); (try (refine gate_guard (by rfl) ?_; dsimp only)); refine Kd.R_lit k37 _ 37 ?hg (N := 44) ?hd (xs := ([(⟨(⟨#[86]⟩ : ByteArray), x6_2⟩ : S37)] : List (S37))) (inner := [.string (⟨#[86]⟩ : ByteArray), .string x6_2]) (ok := fun _ => True) (okp := fun _ => True) ?hr ?hp (fun _ hk => hk) trivial (Below.refl _ _) (Nat.le_refl _) (by simp) ?_; (case hd => rfl); (case hg => rfl); (case hr => first | (go_simp; done) | (go_simp; rfl)); (case hp => exact (Reps.c2 (show Kd.M k37 _ _ _ (⟨(⟨#[86]⟩ : ByteArray), x6_2⟩ : S37) [.string (⟨#[86]⟩ : ByteArray), .string x6_2] from (k37_mkM _ _ _ (⟨(⟨#[86]⟩ : ByteArray), x6_2⟩ : S37) )) (Reps.none _ _))); intro v128 w15 ho16 hb hg_ hnew_; clear hg_ hnew_; (first | rw [← Ny127.out] at ho16 | (simp only [Int.reduceToNat] at ho16; rw [← Ny127.out] at ho16)); have n0_ := Aside0.mk (Kd.R_lower ho16 (below_size (by repeat (first | (with_reducible first | exact HB.out | apply below_alloc | apply pw_below_drewN | apply below_drew1) | exact HB.out)))); have n1_ := Aside0.mk (below_step (by repeat (first | (with_reducible first | exact HB.out | apply below_alloc | apply pw_below_drewN | apply below_drew1) | exact HB.out)) hb); clear HB; have HO129 := n0_; have HB := n1_; clear n0_ n1_; clear hb ho16; obtain ⟨Ao, co, eo⟩ := Kd.R_slice HO129.out; subst eo)
              refine (macro_Expand.calls x7_3 _ _ y127 (⟨#[]⟩ : ByteArray) (some 2) _ ?_ ?_ ?_ A9.out).mono ?_
              · exact (Kd.R_reads' HO129.out).2.2
              · exact (Kd.R_reads' HO129.out).2.1
              · exact Glob.below HG.out HB.out
              rintro e w8 ⟨rfl, hb8⟩
              replace hb8 := thenB HB.out hb8
              clear HO129
              try simp only [errW_none, errW_some]
              go_wp2_with (first | (go_at_call 13; refine (num_at_some HG.out hb8 _).mono ?_; rintro e w9 ⟨rfl, hb9⟩) | (go_at_call 9; refine (sure_at HG.out hb9).mono ?_; rintro e w10 ⟨rfl, hb10⟩))
              go_ret
              exact ⟨rfl, by assumption⟩
set_option maxHeartbeats 8000000 in
set_option maxRecDepth 100000 in
theorem long_fit (a0 a1 : Int) (w : World) (kk m p : Nat) (hG : Glob w) (hk : wrap64 (1 + wrap64 (Int.tmod (IntKind.u64.wrap a0) 5000)) = (kk : Int)) (hm : wrap64 (Int.tmod (IntKind.u64.wrap a1) 40) = (m : Int)) (hk1 : 1 ≤ kk) (hk2 : kk ≤ 5000) (hm2 : m ≤ 39)
    (hkw : wrap64 ((kk : Int) + 1) = (kk : Int) + 1) (hpw : wrap64 ((m : Int) * ((kk : Int) + 1)) = (p : Int)) (hp2 : ¬ 65536 < p)
    (AE : ∀ v : ByteArray, v.size = kk → ∃ t130 : ByteArray, t130.size = p ∧ macro_Expand.f ⟨(Mac.longText m).toArray⟩ [⟨⟨#[86]⟩, v⟩] = some (t130, none)) :
    Calls Tryd.prog 4 #[.int .i64 a0, .int .i64 a1] w fun e w' => e = .returned (.bool true) ∧ Below w.heap.size w w' := by
  have d1 : decide (65536 < (p : Int)) = false := decide_eq_false (by omega)
  clear hp2
  have hu37 := Tryd.underlying37
  have hu26 := Tryd.underlying26
  have hu56 := Tryd.underlying56
  have HB := Aside0.mk (Below.refl w.heap.size w)
  have HG := Aside0.mk hG
  clear hG
  have AE' := Aside0.mk AE
  clear AE
  go_enter Tryd.func4, Tryd.ntmps4
  go_wp2
  go_loopg [6] kk (fun kq v6 w' => ∃ (x6_1 : ByteArray), v6 = .string x6_1 ∧ Aside0 (kq + x6_1.size = kk) ∧ Aside0 (Below w.heap.size w w'))
  case atStart => exact ⟨(⟨#[]⟩ : ByteArray), rfl, ⟨rfl⟩, ⟨by repeat (first | (with_reducible first | exact HB.out | apply below_alloc | apply pw_below_drewN | apply below_drew1) | exact HB.out)⟩⟩
  case round =>
    obtain ⟨x6_1, rfl, HK1, HB⟩ := hrel
    have z1 : x6_1.size ≤ 5000 := by have := HK1.out; omega
    have z3 : wrap64 ((x6_1.size : Int) + 64) = (x6_1.size : Int) + 64 := by unfold wrap64; omega
    by_cases c3 : x6_1.size + 64 ≤ kk
    · have c3b0 : decide ((x6_1.size : Int) + 64 ≤ (kk : Int)) = true := decide_eq_true (by omega)
      have c3b0n : decide (x6_1.size + 64 ≤ kk) = true := decide_eq_true (by omega)
      have c3b1 : (x6_1.size + 64 ≤ 9223372036854775807) = True := eq_true (by omega)
      have c3b2 : (9223372036854775807 < x6_1.size + 64) = False := eq_false (by omega)
      have c3b3 : (9223372036854775743 < x6_1.size) = False := eq_false (by omega)
      have c3b4 : (x6_1.size ≤ 9223372036854775743) = True := eq_true (by omega)
      have c3a := Aside0.mk c3
      clear c3
      go_wp2
      go_roundg (gk - 64)
      case measure => have := HK1.out; have := c3a.out; omega
      case rel => exact ⟨x6_1 ++ (⟨#[48, 49, 50, 51, 52, 53, 54, 55, 56, 57, 48, 49, 50, 51, 52, 53, 54, 55, 56, 57, 48, 49, 50, 51, 52, 53, 54, 55, 56, 57, 48, 49, 50, 51, 52, 53, 54, 55, 56, 57, 48, 49, 50, 51, 52, 53, 54, 55, 56, 57, 48, 49, 50, 51, 52, 53, 54, 55, 56, 57, 48, 49, 50, 51]⟩ : ByteArray), (by first | rfl | (simp; done) | (simp [*]; done)), ⟨by have := HK1.out; have := c3a.out; rw [ByteArray.size_append, show (⟨#[48, 49, 50, 51, 52, 53, 54, 55, 56, 57, 48, 49, 50, 51, 52, 53, 54, 55, 56, 57, 48, 49, 50, 51, 52, 53, 54, 55, 56, 57, 48, 49, 50, 51, 52, 53, 54, 55, 56, 57, 48, 49, 50, 51, 52, 53, 54, 55, 56, 57, 48, 49, 50, 51, 52, 53, 54, 55, 56, 57, 48, 49, 50, 51]⟩ : ByteArray).size = 64 by rfl]; omega⟩, ⟨by repeat (first | (with_reducible first | exact HB.out | apply below_alloc | apply pw_below_drewN | apply below_drew1) | exact HB.out)⟩⟩
    · have c3b0 : decide ((x6_1.size : Int) + 64 ≤ (kk : Int)) = false := decide_eq_false (by omega)
      have c3b0n : decide (x6_1.size + 64 ≤ kk) = false := decide_eq_false (by omega)
      clear c3
      go_wp2
      go_loopg [6] gk (fun kq v6 w' => ∃ (x6_2 : ByteArray), v6 = .string x6_2 ∧ Aside0 (kq + x6_2.size = kk) ∧ Aside0 (Below w.heap.size w w'))
      case atStart => exact ⟨x6_1, rfl, HK1, ⟨by repeat (first | (with_reducible first | exact HB.out | apply below_alloc | apply pw_below_drewN | apply below_drew1) | exact HB.out)⟩⟩
      case round =>
        clear c3b0 z3 z1 HK1
        obtain ⟨x6_2, rfl, HK2, HB⟩ := hrel
        have z2 : x6_2.size ≤ 5000 := by have := HK2.out; omega
        by_cases c5 : x6_2.size < kk
        · have c5b0 : decide ((x6_2.size : Int) < (kk : Int)) = true := decide_eq_true (by omega)
          have c5b0n : decide (x6_2.size < kk) = true := decide_eq_true (by omega)
          have c5b1 : (x6_2.size + 1 ≤ 9223372036854775807) = True := eq_true (by omega)
          have c5b2 : (9223372036854775807 < x6_2.size + 1) = False := eq_false (by omega)
          have c5b3 : (9223372036854775806 < x6_2.size) = False := eq_false (by omega)
          have c5b4 : (x6_2.size ≤ 9223372036854775806) = True := eq_true (by omega)
          have c5a := Aside0.mk c5
          clear c5
          go_wp2
          go_roundg (gk - 1)
          case measure => have := HK2.out; have := c5a.out; omega
          case rel => exact ⟨x6_2 ++ (⟨#[120]⟩ : ByteArray), (by first | rfl | (simp; done) | (simp [*]; done)), ⟨by have := HK2.out; have := c5a.out; rw [ByteArray.size_append, show (⟨#[120]⟩ : ByteArray).size = 1 by rfl]; omega⟩, ⟨by repeat (first | (with_reducible first | exact HB.out | apply below_alloc | apply pw_below_drewN | apply below_drew1) | exact HB.out)⟩⟩
        · have c5b0 : decide ((x6_2.size : Int) < (kk : Int)) = false := decide_eq_false (by omega)
          have c5b0n : decide (x6_2.size < kk) = false := decide_eq_false (by omega)
          have hx : x6_2.size = kk := by have := HK2.out; omega
          have HX := Aside0.mk hx
          clear c5 hx
          go_wp2
          go_loopg [7, 8] m (fun kq v7 v8 w' => ∃ j : Nat, v7 = .string ⟨(Mac.longText j).toArray⟩ ∧ v8 = .int .i64 (j : Int) ∧ Aside0 (kq + j = m) ∧ Aside0 (Below w.heap.size w w'))
          case atStart => exact ⟨0, rfl, rfl, ⟨rfl⟩, ⟨by repeat (first | (with_reducible first | exact HB.out | apply below_alloc | apply pw_below_drewN | apply below_drew1) | exact HB.out)⟩⟩
          case round =>
            clear c5b0 z2 HK2
            obtain ⟨j, rfl, rfl, HK3, HB⟩ := hrel
            obtain ⟨x7_3, hx7, hl7⟩ : ∃ x7_3 : ByteArray, x7_3 = ⟨(Mac.longText j).toArray⟩ ∧ x7_3.size ≤ 156 := ⟨_, rfl, by have := Mac.longText_length j; have := HK3.out; have hs : (⟨(Mac.longText j).toArray⟩ : ByteArray).size = (Mac.longText j).length := rfl; omega⟩
            rw [← hx7]
            have HX7 := Aside0.mk hx7
            clear hx7
            have z4 : (j : Int) ≤ 39 := by have := HK3.out; omega
            by_cases c7 : j < m
            · have c7b0 : decide ((j : Int) < (m : Int)) = true := decide_eq_true (by omega)
              have c7b0n : decide (j < m) = true := decide_eq_true (by omega)
              have c7b1 : (x7_3.size + 4 ≤ 9223372036854775807) = True := eq_true (by omega)
              have c7b2 : (9223372036854775807 < x7_3.size + 4) = False := eq_false (by omega)
              have c7b3 : (9223372036854775803 < x7_3.size) = False := eq_false (by omega)
              have c7b4 : (x7_3.size ≤ 9223372036854775803) = True := eq_true (by omega)
              have c7b5 : wrap64 ((j : Int) + 1) = (j : Int) + 1 := by unfold wrap64; omega
              have c7a := Aside0.mk c7
              clear c7
              go_wp2
              go_roundg (gk - 1)
              case measure => have := HK3.out; have := c7a.out; omega
              case rel => exact ⟨j + 1, (by rw [HX7.out]; show Value.string _ = Value.string _; congr 1), rfl, ⟨by have := HK3.out; have := c7a.out; omega⟩, ⟨by repeat (first | (with_reducible first | exact HB.out | apply below_alloc | apply pw_below_drewN | apply below_drew1) | exact HB.out)⟩⟩
            · have c7b0 : decide ((j : Int) < (m : Int)) = false := decide_eq_false (by omega)
              have c7b0n : decide (j < m) = false := decide_eq_false (by omega)
              have hj : j = m := by have := HK3.out; omega
              clear c7
              obtain ⟨y127, hy127⟩ : ∃ y_ : List (S37), y_ = (([(⟨(⟨#[86]⟩ : ByteArray), x6_2⟩ : S37)] : List (S37))) := ⟨_, rfl⟩
              obtain ⟨t130, ht, hA⟩ := AE'.out x6_2 HX.out
              have d2 : ((t130.size : Int) == (p : Int)) = true := beq_iff_eq.mpr (by omega)
              have d3 : ((t130.size : Int) != (p : Int)) = false := bne_eq_false_iff_eq.mpr (by omega)
              clear ht
              have A9 : Aside0 (macro_Expand.f x7_3 y127 = some (t130, none)) := ⟨by rw [hy127, HX7.out, hj]; exact hA⟩
              clear hA
              have Ny127 := Aside0.mk hy127
              have hm' := Aside0.mk hj
              clear hy127 hj
              go_wp2_with ((with_reducible refine gate_dst (N := 44) rfl ?_); (try (refine gate_guard (by rfl) ?_; dsimp only)); refine Kd.R_lit k37 _ 37 ?hg (N := 44) ?hd (xs := ([(⟨(⟨#[86]⟩ : ByteArray), x6_2⟩ : S37)] : List (S37))) (inner := [.string (⟨#[86]⟩ : ByteArray), .string x6_2]) (ok := fun _ => True) (okp := fun _ => True) ?hr ?hp (fun _ hk => hk) trivial (Below.refl _ _) (Nat.le_refl _) (by simp) ?_; (case hd => rfl); (case hg => rfl); (case hr => first | (go_simp; done) | (go_simp; rfl)); (case hp => exact (Reps.c2 (show Kd.M k37 _ _ _ (⟨(⟨#[86]⟩ : ByteArray), x6_2⟩ : S37) [.string (⟨#[86]⟩ : ByteArray), .string x6_2] from (k37_mkM _ _ _ (⟨(⟨#[86]⟩ : ByteArray), x6_2⟩ : S37) )) (Reps.none _ _))); intro v128 w15 ho16 hb hg_ hnew_; clear hg_ hnew_; (first | rw [← Ny127.out] at ho16 | (simp only [Int.reduceToNat] at ho16; rw [← Ny127.out] at ho16)); have n0_ := Aside0.mk (Kd.R_lower ho16 (below_size (by repeat (first | (with_reducible first | exact HB.out | apply below_alloc | apply pw_below_drewN | apply below_drew1) | exact HB.out)))); have n1_ := Aside0.mk (below_step (by repeat (first | (with_reducible first | exact HB.out | apply below_alloc | apply pw_below_drewN | apply below_drew1) | exact HB.out)) hb); clear HB; have HO129 := n0_; have HB := n1_; clear n0_ n1_; clear hb ho16; obtain ⟨Ao, co, eo⟩ := Kd.R_slice HO129.out; subst eo)
              refine (macro_Expand.calls x7_3 _ _ y127 t130 none _ ?_ ?_ ?_ A9.out).mono ?_
              · exact (Kd.R_reads' HO129.out).2.2
              · exact (Kd.R_reads' HO129.out).2.1
              · exact Glob.below HG.out HB.out
              rintro e w8 ⟨rfl, hb8⟩
              replace hb8 := thenB HB.out hb8
              clear HO129
              try simp only [errW_none, errW_some]
              go_wp2_with (go_at_call 9; refine (sure_at HG.out hb8).mono ?_; rintro e w10 ⟨rfl, hb10⟩)
              go_ret
              exact ⟨rfl, by assumption⟩
theorem final_MacroLong (a0 a1 : Int) (w : World) (_w0 : (Lit.int .i64 a0).wf = true) (_w1 : (Lit.int .i64 a1).wf = true) (hG : Glob w) :
    Calls Tryd.prog 4 #[.int .i64 a0, .int .i64 a1] w fun e w' => e = .returned (.bool true) ∧ Below w.heap.size w w' := by
  obtain ⟨k0, hk0, hk1⟩ := wrap_small a0 5000 (by omega) (by omega)
  obtain ⟨m, hm, hm1⟩ := wrap_small a1 40 (by omega) (by omega)
  have hk : wrap64 (1 + wrap64 (Int.tmod (IntKind.u64.wrap a0) 5000)) = ((1 + k0 : Nat) : Int) := by
    rw [show wrap64 (Int.tmod (IntKind.u64.wrap a0) 5000) = (k0 : Int) from hk0]; unfold wrap64; omega
  have hb : m * (1 + k0 + 1) ≤ 39 * 5001 := Nat.mul_le_mul (by omega) (by omega)
  have hpw : wrap64 ((m : Int) * (((1 + k0 : Nat) : Int) + 1)) = ((m * (1 + k0 + 1) : Nat) : Int) := by
    rw [show (m : Int) * (((1 + k0 : Nat) : Int) + 1) = ((m * (1 + k0 + 1) : Nat) : Int) by push_cast; rfl]
    generalize m * (1 + k0 + 1) = q at *
    unfold wrap64; omega
  have hkw : wrap64 (((1 + k0 : Nat) : Int) + 1) = ((1 + k0 : Nat) : Int) + 1 := by unfold wrap64; omega
  have key : ∀ v : ByteArray, v.size = 1 + k0 → if m * (1 + k0 + 1) > 65536 then Mac.expd [([86], bl v)] (Mac.longText m) = ([], 2) else (Mac.expd [([86], bl v)] (Mac.longText m)).2 = 0 ∧ (Mac.expd [([86], bl v)] (Mac.longText m)).1.length = m * (1 + k0 + 1) := fun v hv => by
    have := Mac.expd_long (bl v) m (by omega)
    rw [bl_size, hv] at this
    exact this
  by_cases hp : 65536 < m * (1 + k0 + 1)
  · refine long_big a0 a1 w (1 + k0) m _ hG hk hm (by omega) (by omega) (by omega) hkw hpw hp fun v hv => ⟨_, rfl, ?_⟩
    have h := key v hv
    rw [if_pos hp] at h
    simp only [macro_Expand.f]
    rw [show ([(⟨⟨#[86]⟩, v⟩ : S37)] : List S37).map mac = [([86], bl v)] from rfl, show bl ⟨(Mac.longText m).toArray⟩ = Mac.longText m from rfl, h]
    rfl
  · refine long_fit a0 a1 w (1 + k0) m _ hG hk hm (by omega) (by omega) (by omega) hkw hpw hp fun v hv => ?_
    have h := key v hv
    rw [if_neg hp] at h
    simp only [macro_Expand.f]
    rw [show ([(⟨⟨#[86]⟩, v⟩ : S37)] : List S37).map mac = [([86], bl v)] from rfl, show bl ⟨(Mac.longText m).toArray⟩ = Mac.longText m from rfl, if_pos h.1]
    exact ⟨⟨(Mac.expd [([86], bl v)] (Mac.longText m)).1.toArray⟩, h.2, rfl⟩
end Go.Proofs.YtdjnpjakbiehdaaDoor.Pr
