-- written by wip/tools/myprint.py out of Lean's own print of the program
import Derived.Test.YthccokfajpgllaaDoorPr0
import Derived.Test.YthccokfajpgllaaDoorPr9
import Derived.Test.YthccokfajpgllaaDoorPr10
import Derived.Test.YthccokfajpgllaaDoorGlob
namespace Go.Proofs.YthccokfajpgllaaDoor.Pr
open Go.RowKit Go.Proofs.YthccokfajpgllaaDoorW.PrintWords Go.Proofs.YthccokfajpgllaaDoorW.PrintLast Go.Proofs.YthccokfajpgllaaDoorW.PrintMore
attribute [local go_sem] max2_int min2_int max_two min_two max_three min_three max_four min_four   -- for this text's walks alone
set_option linter.unusedVariables false
set_option linter.unusedSimpArgs false

/-! ### belvederelaw08_LexJoined: function 4 -/
mutual
def belvederelaw08_LexJoined.j0 : Nat → List ByteArray → Int → Bool → Option (Bool)
  | 0, _, _, _ => none
  | k + 1, x0, x1, x26 => if x26 = true then ((belvederelaw08_sure.f k).bind fun t157 => (some t157)) else (belvederelaw08_LexJoined.l0 k x0 x1 (⟨#[]⟩ : ByteArray) (⟨#[]⟩ : ByteArray) 0)
def belvederelaw08_LexJoined.l0 : Nat → List ByteArray → Int → ByteArray → ByteArray → Int → Option (Bool)
  | 0, _, _, _, _, _ => none
  | k + 1, x0, x1, x5, x6, x7 => if x7 < (x0.length : Int) then (if 0 ≤ x7 then (if ((rdOf ByteArray.empty x0 x7).size : Int) > 100 then ((belvederelaw08_sure.f k).bind fun t159 => (some t159)) else (belvederelaw08_LexJoined.l1 k x0 x1 x5 x6 x7 0)) else (none)) else (belvederelaw08_LexJoined.l2 k x0 x5 x6 (wrap64 (Int.tmod (IntKind.u64.wrap (x1)) 5)) (⟨#[]⟩ : ByteArray) 0)
def belvederelaw08_LexJoined.l1 : Nat → List ByteArray → Int → ByteArray → ByteArray → Int → Int → Option (Bool)
  | 0, _, _, _, _, _, _ => none
  | k + 1, x0, x1, x5, x6, x7, x8 => if 0 ≤ x7 then (if x7 < (x0.length : Int) then (if x8 < ((rdOf ByteArray.empty x0 x7).size : Int) then (if 0 ≤ x8 then (if (bt (rdOf ByteArray.empty x0 x7) x8) = 10 then ((belvederelaw08_sure.f k).bind fun t162 => (some t162)) else (if (bt (rdOf ByteArray.empty x0 x7) x8) = 92 then ((belvederelaw08_sure.f k).bind fun t164 => (some t164)) else (belvederelaw08_LexJoined.l1 k x0 x1 x5 x6 x7 (wrap64 (x8 + 1))))) else (none)) else (if x5.size + (rdOf ByteArray.empty x0 x7).size ≤ 9223372036854775807 then (if x6.size + (rdOf ByteArray.empty x0 x7).size ≤ 9223372036854775807 then (if x7 < (wrap64 ((x0.length : Int) - 1)) then (if (x6 ++ (rdOf ByteArray.empty x0 x7)).size + 2 ≤ 9223372036854775807 then (belvederelaw08_LexJoined.l0 k x0 x1 (x5 ++ (rdOf ByteArray.empty x0 x7)) ((x6 ++ (rdOf ByteArray.empty x0 x7)) ++ (⟨#[92, 10]⟩ : ByteArray)) (wrap64 (x7 + 1))) else (none)) else (belvederelaw08_LexJoined.l0 k x0 x1 (x5 ++ (rdOf ByteArray.empty x0 x7)) (x6 ++ (rdOf ByteArray.empty x0 x7)) (wrap64 (x7 + 1)))) else (none)) else (none))) else (none)) else (none)
def belvederelaw08_LexJoined.l2 : Nat → List ByteArray → ByteArray → ByteArray → Int → ByteArray → Int → Option (Bool)
  | 0, _, _, _, _, _, _ => none
  | k + 1, x0, x5, x6, x9, x10, x11 => if x11 < x9 then (if x10.size + 1 ≤ 9223372036854775807 then (belvederelaw08_LexJoined.l2 k x0 x5 x6 x9 (x10 ++ (⟨#[10]⟩ : ByteArray)) (wrap64 (x11 + 1))) else (none)) else (if x10.size + x5.size ≤ 9223372036854775807 then (if (x10 ++ x5).size + 5 ≤ 9223372036854775807 then ((lex_Lines.f k ((x10 ++ x5) ++ (⟨#[10, 108, 97, 115, 116]⟩ : ByteArray))).bind fun bt167 => (if x10.size + x6.size ≤ 9223372036854775807 then (if (x10 ++ x6).size + 5 ≤ 9223372036854775807 then ((lex_Lines.f k ((x10 ++ x6) ++ (⟨#[10, 108, 97, 115, 116]⟩ : ByteArray))).bind fun bt172 => (if bt167.2.2.isNone = true then (if bt172.2.2.isNone = true then (if (bt167.1.length : Int) = (bt172.1.length : Int) then (belvederelaw08_LexJoined.j4 k x0 x9 bt167.1 bt172.1 ((bt167.1.length : Int) == 0)) else (belvederelaw08_LexJoined.j4 k x0 x9 bt167.1 bt172.1 true)) else (belvederelaw08_LexJoined.j4 k x0 x9 bt167.1 bt172.1 true)) else (belvederelaw08_LexJoined.j4 k x0 x9 bt167.1 bt172.1 true))) else (none)) else (none))) else (none)) else (none))
def belvederelaw08_LexJoined.j4 : Nat → List ByteArray → Int → List (S30) → List (S30) → Bool → Option (Bool)
  | 0, _, _, _, _, _ => none
  | k + 1, x0, x9, x12, x15, x132 => if x132 = true then (some false) else (belvederelaw08_LexJoined.l3 k x0 x9 x12 x15 0)
def belvederelaw08_LexJoined.l3 : Nat → List ByteArray → Int → List (S30) → List (S30) → Int → Option (Bool)
  | 0, _, _, _, _, _ => none
  | k + 1, x0, x9, x12, x15, x18 => if x18 < (x12.length : Int) then (if 0 ≤ x18 then (if x18 < (x15.length : Int) then (if ((rd_T30 x12 x18).f1).toList = ((rd_T30 x15 x18).f1).toList then (belvederelaw08_LexJoined.l3 k x0 x9 x12 x15 (wrap64 (x18 + 1))) else (some false)) else (none)) else (none)) else (if 0 ≤ (wrap64 ((x15.length : Int) - 1)) then (if (wrap64 ((x15.length : Int) - 1)) < (x15.length : Int) then (if ((rd_T30 x15 (wrap64 ((x15.length : Int) - 1))).f1).toList = ([108, 97, 115, 116] : List UInt8) then (if ((rd_T30 x15 (wrap64 ((x15.length : Int) - 1))).f0) = (wrap64 ((wrap64 (x9 + (x0.length : Int))) + 1)) then (if (x15.length : Int) = 1 then ((belvederelaw08_sure.f k).bind fun t183 => (some t183)) else (if 0 < (x15.length : Int) then (if ((rd_T30 x15 0).f0) = (wrap64 (x9 + 1)) then ((belvederelaw08_sure.f k).bind fun t185 => (some t185)) else (some false)) else (none))) else (some false)) else (some false)) else (none)) else (none))
end
def belvederelaw08_LexJoined.f (k : Nat) (l0 : List ByteArray) (a1 : Int) : Option (Bool) := if (l0.length : Int) = 0 then (belvederelaw08_LexJoined.j0 k l0 a1 true) else (belvederelaw08_LexJoined.j0 k l0 a1 (decide ((l0.length : Int) > 20)))
theorem belvederelaw08_LexJoined.mono_l : ∀ k, (∀ y0 y1 y2, LeO (belvederelaw08_LexJoined.j0 k y0 y1 y2) (belvederelaw08_LexJoined.j0 (k + 1) y0 y1 y2)) ∧ (∀ y0 y1 y2 y3 y4, LeO (belvederelaw08_LexJoined.l0 k y0 y1 y2 y3 y4) (belvederelaw08_LexJoined.l0 (k + 1) y0 y1 y2 y3 y4)) ∧ (∀ y0 y1 y2 y3 y4 y5, LeO (belvederelaw08_LexJoined.l1 k y0 y1 y2 y3 y4 y5) (belvederelaw08_LexJoined.l1 (k + 1) y0 y1 y2 y3 y4 y5)) ∧ (∀ y0 y1 y2 y3 y4 y5, LeO (belvederelaw08_LexJoined.l2 k y0 y1 y2 y3 y4 y5) (belvederelaw08_LexJoined.l2 (k + 1) y0 y1 y2 y3 y4 y5)) ∧ (∀ y0 y1 y2 y3 y4, LeO (belvederelaw08_LexJoined.j4 k y0 y1 y2 y3 y4) (belvederelaw08_LexJoined.j4 (k + 1) y0 y1 y2 y3 y4)) ∧ (∀ y0 y1 y2 y3 y4, LeO (belvederelaw08_LexJoined.l3 k y0 y1 y2 y3 y4) (belvederelaw08_LexJoined.l3 (k + 1) y0 y1 y2 y3 y4))
  | 0 => ⟨fun _ _ _ r h => by simp [belvederelaw08_LexJoined.j0] at h, fun _ _ _ _ _ r h => by simp [belvederelaw08_LexJoined.l0] at h, fun _ _ _ _ _ _ r h => by simp [belvederelaw08_LexJoined.l1] at h, fun _ _ _ _ _ _ r h => by simp [belvederelaw08_LexJoined.l2] at h, fun _ _ _ _ _ r h => by simp [belvederelaw08_LexJoined.j4] at h, fun _ _ _ _ _ r h => by simp [belvederelaw08_LexJoined.l3] at h⟩
  | k + 1 => by
    obtain ⟨ih0, ih1, ih2, ih3, ih4, ih5⟩ := belvederelaw08_LexJoined.mono_l k
    refine ⟨?_, ?_, ?_, ?_, ?_, ?_⟩
    · intro y0 y1 y2
      unfold belvederelaw08_LexJoined.j0
      repeat' first
      | (with_reducible exact ih0 _ _ _)
      | (with_reducible exact ih1 _ _ _ _ _)
      | (with_reducible exact ih2 _ _ _ _ _ _)
      | (with_reducible exact ih3 _ _ _ _ _ _)
      | (with_reducible exact ih4 _ _ _ _ _)
      | (with_reducible exact ih5 _ _ _ _ _)
      | (with_reducible exact belvederelaw08_sure.mono _)
      | (with_reducible exact lex_Lines.mono _ _)
      | (with_reducible exact LeO.refl _)
      | (with_reducible exact LeO.none _)
      | (with_reducible refine LeO.ite ?_ ?_)
      | (with_reducible refine LeO.bind ?_ (fun _ => ?_))
      | exact ih0 _ _ _
      | exact ih1 _ _ _ _ _
      | exact ih2 _ _ _ _ _ _
      | exact ih3 _ _ _ _ _ _
      | exact ih4 _ _ _ _ _
      | exact ih5 _ _ _ _ _
      | exact belvederelaw08_sure.mono _
      | exact lex_Lines.mono _ _
      | exact LeO.none _
      | refine LeO.ite ?_ ?_
      | refine LeO.bind ?_ (fun _ => ?_)
    · intro y0 y1 y2 y3 y4
      unfold belvederelaw08_LexJoined.l0
      repeat' first
      | (with_reducible exact ih0 _ _ _)
      | (with_reducible exact ih1 _ _ _ _ _)
      | (with_reducible exact ih2 _ _ _ _ _ _)
      | (with_reducible exact ih3 _ _ _ _ _ _)
      | (with_reducible exact ih4 _ _ _ _ _)
      | (with_reducible exact ih5 _ _ _ _ _)
      | (with_reducible exact belvederelaw08_sure.mono _)
      | (with_reducible exact lex_Lines.mono _ _)
      | (with_reducible exact LeO.refl _)
      | (with_reducible exact LeO.none _)
      | (with_reducible refine LeO.ite ?_ ?_)
      | (with_reducible refine LeO.bind ?_ (fun _ => ?_))
      | exact ih0 _ _ _
      | exact ih1 _ _ _ _ _
      | exact ih2 _ _ _ _ _ _
      | exact ih3 _ _ _ _ _ _
      | exact ih4 _ _ _ _ _
      | exact ih5 _ _ _ _ _
      | exact belvederelaw08_sure.mono _
      | exact lex_Lines.mono _ _
      | exact LeO.none _
      | refine LeO.ite ?_ ?_
      | refine LeO.bind ?_ (fun _ => ?_)
    · intro y0 y1 y2 y3 y4 y5
      unfold belvederelaw08_LexJoined.l1
      repeat' first
      | (with_reducible exact ih0 _ _ _)
      | (with_reducible exact ih1 _ _ _ _ _)
      | (with_reducible exact ih2 _ _ _ _ _ _)
      | (with_reducible exact ih3 _ _ _ _ _ _)
      | (with_reducible exact ih4 _ _ _ _ _)
      | (with_reducible exact ih5 _ _ _ _ _)
      | (with_reducible exact belvederelaw08_sure.mono _)
      | (with_reducible exact lex_Lines.mono _ _)
      | (with_reducible exact LeO.refl _)
      | (with_reducible exact LeO.none _)
      | (with_reducible refine LeO.ite ?_ ?_)
      | (with_reducible refine LeO.bind ?_ (fun _ => ?_))
      | exact ih0 _ _ _
      | exact ih1 _ _ _ _ _
      | exact ih2 _ _ _ _ _ _
      | exact ih3 _ _ _ _ _ _
      | exact ih4 _ _ _ _ _
      | exact ih5 _ _ _ _ _
      | exact belvederelaw08_sure.mono _
      | exact lex_Lines.mono _ _
      | exact LeO.none _
      | refine LeO.ite ?_ ?_
      | refine LeO.bind ?_ (fun _ => ?_)
    · intro y0 y1 y2 y3 y4 y5
      unfold belvederelaw08_LexJoined.l2
      repeat' first
      | (with_reducible exact ih0 _ _ _)
      | (with_reducible exact ih1 _ _ _ _ _)
      | (with_reducible exact ih2 _ _ _ _ _ _)
      | (with_reducible exact ih3 _ _ _ _ _ _)
      | (with_reducible exact ih4 _ _ _ _ _)
      | (with_reducible exact ih5 _ _ _ _ _)
      | (with_reducible exact belvederelaw08_sure.mono _)
      | (with_reducible exact lex_Lines.mono _ _)
      | (with_reducible exact LeO.refl _)
      | (with_reducible exact LeO.none _)
      | (with_reducible refine LeO.ite ?_ ?_)
      | (with_reducible refine LeO.bind ?_ (fun _ => ?_))
      | exact ih0 _ _ _
      | exact ih1 _ _ _ _ _
      | exact ih2 _ _ _ _ _ _
      | exact ih3 _ _ _ _ _ _
      | exact ih4 _ _ _ _ _
      | exact ih5 _ _ _ _ _
      | exact belvederelaw08_sure.mono _
      | exact lex_Lines.mono _ _
      | exact LeO.none _
      | refine LeO.ite ?_ ?_
      | refine LeO.bind ?_ (fun _ => ?_)
    · intro y0 y1 y2 y3 y4
      unfold belvederelaw08_LexJoined.j4
      repeat' first
      | (with_reducible exact ih0 _ _ _)
      | (with_reducible exact ih1 _ _ _ _ _)
      | (with_reducible exact ih2 _ _ _ _ _ _)
      | (with_reducible exact ih3 _ _ _ _ _ _)
      | (with_reducible exact ih4 _ _ _ _ _)
      | (with_reducible exact ih5 _ _ _ _ _)
      | (with_reducible exact belvederelaw08_sure.mono _)
      | (with_reducible exact lex_Lines.mono _ _)
      | (with_reducible exact LeO.refl _)
      | (with_reducible exact LeO.none _)
      | (with_reducible refine LeO.ite ?_ ?_)
      | (with_reducible refine LeO.bind ?_ (fun _ => ?_))
      | exact ih0 _ _ _
      | exact ih1 _ _ _ _ _
      | exact ih2 _ _ _ _ _ _
      | exact ih3 _ _ _ _ _ _
      | exact ih4 _ _ _ _ _
      | exact ih5 _ _ _ _ _
      | exact belvederelaw08_sure.mono _
      | exact lex_Lines.mono _ _
      | exact LeO.none _
      | refine LeO.ite ?_ ?_
      | refine LeO.bind ?_ (fun _ => ?_)
    · intro y0 y1 y2 y3 y4
      unfold belvederelaw08_LexJoined.l3
      repeat' first
      | (with_reducible exact ih0 _ _ _)
      | (with_reducible exact ih1 _ _ _ _ _)
      | (with_reducible exact ih2 _ _ _ _ _ _)
      | (with_reducible exact ih3 _ _ _ _ _ _)
      | (with_reducible exact ih4 _ _ _ _ _)
      | (with_reducible exact ih5 _ _ _ _ _)
      | (with_reducible exact belvederelaw08_sure.mono _)
      | (with_reducible exact lex_Lines.mono _ _)
      | (with_reducible exact LeO.refl _)
      | (with_reducible exact LeO.none _)
      | (with_reducible refine LeO.ite ?_ ?_)
      | (with_reducible refine LeO.bind ?_ (fun _ => ?_))
      | exact ih0 _ _ _
      | exact ih1 _ _ _ _ _
      | exact ih2 _ _ _ _ _ _
      | exact ih3 _ _ _ _ _ _
      | exact ih4 _ _ _ _ _
      | exact ih5 _ _ _ _ _
      | exact belvederelaw08_sure.mono _
      | exact lex_Lines.mono _ _
      | exact LeO.none _
      | refine LeO.ite ?_ ?_
      | refine LeO.bind ?_ (fun _ => ?_)
theorem belvederelaw08_LexJoined.mono : ∀ a0 a1 k, LeO (belvederelaw08_LexJoined.f k a0 a1) (belvederelaw08_LexJoined.f (k + 1) a0 a1) := by
  intro a0 a1 k
  obtain ⟨ih0, ih1, ih2, ih3, ih4, ih5⟩ := belvederelaw08_LexJoined.mono_l k
  unfold belvederelaw08_LexJoined.f
  repeat' first
      | (with_reducible exact ih0 _ _ _)
      | (with_reducible exact ih1 _ _ _ _ _)
      | (with_reducible exact ih2 _ _ _ _ _ _)
      | (with_reducible exact ih3 _ _ _ _ _ _)
      | (with_reducible exact ih4 _ _ _ _ _)
      | (with_reducible exact ih5 _ _ _ _ _)
      | (with_reducible exact belvederelaw08_sure.mono _)
      | (with_reducible exact lex_Lines.mono _ _)
      | (with_reducible exact LeO.refl _)
      | (with_reducible exact LeO.none _)
      | (with_reducible refine LeO.ite ?_ ?_)
      | (with_reducible refine LeO.bind ?_ (fun _ => ?_))
      | exact ih0 _ _ _
      | exact ih1 _ _ _ _ _
      | exact ih2 _ _ _ _ _ _
      | exact ih3 _ _ _ _ _ _
      | exact ih4 _ _ _ _ _
      | exact ih5 _ _ _ _ _
      | exact belvederelaw08_sure.mono _
      | exact lex_Lines.mono _ _
      | exact LeO.none _
      | refine LeO.ite ?_ ?_
      | refine LeO.bind ?_ (fun _ => ?_)
set_option maxHeartbeats 8000000 in
set_option maxRecDepth 100000 in
theorem belvederelaw08_LexJoined.calls (k : Nat) (A0 : Option Addr) (c0 : Nat) (l0 : List ByteArray) (a1 : Int) (r : Bool) (w : World) (hr0 : Kd.C Kd.string w A0 l0.length l0) (hc0 : l0.length ≤ c0) (hG : Glob w) (h : belvederelaw08_LexJoined.f k l0 a1 = some r) :
    Calls Tryd.prog 4 #[.slice A0 l0.length c0, .int .i64 a1] w fun e w' => e = .returned (.bool r) ∧ Below w.heap.size w w' := by
  have hu26 := Tryd.underlying26
  have hu38 := Tryd.underlying38
  have HR0 := Aside0.mk hr0
  have HC0 := Aside0.mk hc0
  clear hr0 hc0
  have HB := Aside0.mk (Below.refl w.heap.size w)
  have HG := Aside0.mk hG
  clear hG
  have H : (if (l0.length : Int) = 0 then (belvederelaw08_LexJoined.j0 k l0 a1 true) else (belvederelaw08_LexJoined.j0 k l0 a1 (decide ((l0.length : Int) > 20)))) = some r := h
  clear h
  have HC3 := Aside0.mk H
  clear H
  go_enter Tryd.func4, Tryd.ntmps4
  go_upto_region 1 with (fail)
  repeat (go_quiet (fail); go_upto_region 1 with (fail))
  go_cut [26] (fun v26 wc => ∃ (kq : Nat) (x26_2 : Bool), v26 = .bool x26_2 ∧ Aside0 (belvederelaw08_LexJoined.j0 kq l0 a1 x26_2 = some r) ∧ Aside0 (kq ≤ k) ∧ Aside0 (Below w.heap.size w wc))
  case first =>
    have H := HC3.out
    clear HC3
    by_cases c4 : (l0.length : Int) = 0
    · rw [if_pos c4] at H
      have c4b0 : ((l0.length : Int) == 0) = true := beq_iff_eq.mpr c4
      have c4b1 : ((l0.length : Int) != 0) = false := bne_eq_false_iff_eq.mpr c4
      clear c4
      (first | rw [c4b0] | (simp only [i64_w, i32_w]; rw [c4b0]) | skip)
      have H' := Aside0.mk H
      clear H
      go_wp2
      repeat (go_quiet (fail); try go_wp2)
      go_meet
      case rel => exact ⟨_, (true), (by first | rfl | (simp; done) | (simp [*]; done)), H', ⟨by first | omega | exact Nat.le_refl _⟩, ⟨by repeat (first | (with_reducible first | exact HB.out | apply below_alloc | apply pw_below_drewN | apply below_drew1) | exact HB.out)⟩⟩
    · rw [if_neg c4] at H
      have c4b0 : ((l0.length : Int) == 0) = false := beq_eq_false_iff_ne.mpr c4
      have c4b1 : ((l0.length : Int) != 0) = true := bne_iff_ne.mpr c4
      have c4b2 : ¬ (l0 = []) := fun h_ => c4 (by rw [h_]; rfl)
      (first | rw [c4b0] | (simp only [i64_w, i32_w]; rw [c4b0]) | skip)
      have H' := Aside0.mk H
      clear H
      go_wp2
      repeat (go_quiet (fail); try go_wp2)
      go_meet
      case rel => exact ⟨_, (decide ((l0.length : Int) > 20)), (by first | rfl | (simp; done) | (simp [*]; done)), H', ⟨by first | omega | exact Nat.le_refl _⟩, ⟨by repeat (first | (with_reducible first | exact HB.out | apply below_alloc | apply pw_below_drewN | apply below_drew1) | exact HB.out)⟩⟩
  case rest =>
    clear HC3
    try clear p2
    try clear c4
    try clear c4b0
    try clear c4b1
    try clear c4b2
    obtain ⟨kq, x26_2, rfl, HA, HJ2, HB⟩ := hcut
    cases kq with
    | zero => exact absurd HA.out (by simp [belvederelaw08_LexJoined.j0])
    | succ kj2 =>
      have H := HA.out
      clear HA
      simp only [belvederelaw08_LexJoined.j0] at H
      by_cases c5 : x26_2 = true
      · subst c5
        have H1 : ((belvederelaw08_sure.f kj2).bind fun t157 => (some t157)) = some r := by rw [if_pos rfl] at H; exact H
        clear H
        have H := H1
        clear H1
        replace H := Option.bind_eq_some_iff.mp H
        obtain ⟨t157, A60, H⟩ := H
        replace H : (some t157) = some r := H
        have A6 := Aside0.mk A60
        clear A60
        obtain rfl := Option.some.inj H
        go_wp2_with (first | (go_at_call 6; (with_reducible refine (belvederelaw08_sure.calls kj2  t157 _ ?side1 A6.out).mono ?_); (case side1 => first | exact HG.out | exact Glob.below HG.out (by repeat (first | (with_reducible first | exact HB.out | apply below_alloc | apply pw_below_drewN | apply below_drew1) | exact HB.out))); rintro e w7 ⟨rfl, hb⟩; have n0_ := Aside0.mk (below_step (by repeat (first | (with_reducible first | exact HB.out | apply below_alloc | apply pw_below_drewN | apply below_drew1) | exact HB.out)) hb); clear HB; have HB := n0_; clear n0_; (try clear hb); (try clear hb2); (try clear hk); (try clear hi)))
        repeat (go_quiet (first | (go_at_call 6; (with_reducible refine (belvederelaw08_sure.calls kj2  t157 _ ?side1 A6.out).mono ?_); (case side1 => first | exact HG.out | exact Glob.below HG.out (by repeat (first | (with_reducible first | exact HB.out | apply below_alloc | apply pw_below_drewN | apply below_drew1) | exact HB.out))); rintro e w7 ⟨rfl, hb⟩; have n0_ := Aside0.mk (below_step (by repeat (first | (with_reducible first | exact HB.out | apply below_alloc | apply pw_below_drewN | apply below_drew1) | exact HB.out)) hb); clear HB; have HB := n0_; clear n0_; (try clear hb); (try clear hb2); (try clear hk); (try clear hi))); try go_wp2_with (first | (go_at_call 6; (with_reducible refine (belvederelaw08_sure.calls kj2  t157 _ ?side1 A6.out).mono ?_); (case side1 => first | exact HG.out | exact Glob.below HG.out (by repeat (first | (with_reducible first | exact HB.out | apply below_alloc | apply pw_below_drewN | apply below_drew1) | exact HB.out))); rintro e w7 ⟨rfl, hb⟩; have n0_ := Aside0.mk (below_step (by repeat (first | (with_reducible first | exact HB.out | apply below_alloc | apply pw_below_drewN | apply below_drew1) | exact HB.out)) hb); clear HB; have HB := n0_; clear n0_; (try clear hb); (try clear hb2); (try clear hk); (try clear hi))))
        go_ret
        exact ⟨by first | rfl | (simp [errW_none, errW_some] <;> rfl) | (simp [*, errW_none, errW_some] <;> rfl), by repeat (first | (with_reducible first | exact HB.out | apply below_alloc | apply pw_below_drewN | apply below_drew1) | exact HB.out)⟩
      · replace c5 := Bool.eq_false_iff.mpr c5
        subst c5
        have H1 : (belvederelaw08_LexJoined.l0 kj2 l0 a1 (⟨#[]⟩ : ByteArray) (⟨#[]⟩ : ByteArray) 0) = some r := by rw [if_neg (show ¬ (false = true) by decide)] at H; exact H
        clear H
        have H := H1
        clear H1
        have H' := Aside0.mk H
        clear H
        go_wp2
        repeat (go_quiet (fail); try go_wp2)
        go_loopg [5, 6, 7] kj2 (fun kq v5 v6 v7 w' => ∃ (x5_2 : ByteArray) (x6_2 : ByteArray) (x7_2 : Int), v5 = .string x5_2 ∧ v6 = .string x6_2 ∧ v7 = .int .i64 x7_2 ∧ Aside0 (belvederelaw08_LexJoined.l0 kq l0 a1 x5_2 x6_2 x7_2 = some r) ∧ Aside0 (kq ≤ kj2) ∧ Aside0 (Below w.heap.size w w'))
        case atStart => exact ⟨((⟨#[]⟩ : ByteArray)), ((⟨#[]⟩ : ByteArray)), (0), (by first | rfl | (simp; done) | (simp [*]; done)), (by first | rfl | (simp; done) | (simp [*]; done)), (by first | rfl | (simp; done) | (simp [*]; done)), H', ⟨Nat.le_refl _⟩, ⟨by repeat (first | (with_reducible first | exact HB.out | apply below_alloc | apply pw_below_drewN | apply below_drew1) | exact HB.out)⟩⟩
        case round =>
          clear H'
          try clear p2
          try clear c4
          try clear c4b0
          try clear c4b1
          try clear c4b2
          try clear c5
          try clear p2
          obtain ⟨x5_2, x6_2, x7_2, rfl, rfl, rfl, HA, HK2, HB⟩ := hrel
          cases gk with
          | zero => exact absurd HA.out (by simp [belvederelaw08_LexJoined.l0])
          | succ k2 =>
            have H := HA.out
            clear HA
            simp only [belvederelaw08_LexJoined.l0] at H
            by_cases c8 : x7_2 < (l0.length : Int)
            · rw [if_pos c8] at H
              have c8b0 : decide (x7_2 < (l0.length : Int)) = true := decide_eq_true c8
              clear c8
              by_cases c9 : 0 ≤ x7_2
              · rw [if_pos c9] at H
                have c9b0 : decide (0 ≤ x7_2) = true := decide_eq_true c9
                clear c9
                by_cases c10 : ((rdOf ByteArray.empty l0 x7_2).size : Int) > 100
                · rw [if_pos c10] at H
                  have c10b0 : decide (100 < ((rdOf ByteArray.empty l0 x7_2).size : Int)) = true := decide_eq_true c10
                  have c10b1 : decide (100 < (rdOf ByteArray.empty l0 x7_2).size) = true := decide_eq_true (by omega)
                  clear c10
                  replace H := Option.bind_eq_some_iff.mp H
                  obtain ⟨t159, A110, H⟩ := H
                  replace H : (some t159) = some r := H
                  have A11 := Aside0.mk A110
                  clear A110
                  obtain rfl := Option.some.inj H
                  have p158 : 0 ≤ (x7_2 : Int) := of_decide_eq_true (by first | (with_reducible assumption) | assumption)
                  have q158 : x7_2 < (l0.length : Int) := of_decide_eq_true (by first | (with_reducible assumption) | assumption)
                  obtain ⟨ad158, e158, hx158_0⟩ := Kd.at_string HR0.out x7_2 p158 q158
                  cases e158
                  replace hx158_0 := (HB.out.cell (World.block_lt_of_cell? w _ hx158_0)).trans hx158_0
                  replace p158 := eq_true p158
                  replace q158 := eq_true q158
                  go_wp2_with (first | (go_at_call 6; (with_reducible refine (belvederelaw08_sure.calls k2  t159 _ ?side1 A11.out).mono ?_); (case side1 => first | exact HG.out | exact Glob.below HG.out (by repeat (first | (with_reducible first | exact HB.out | apply below_alloc | apply pw_below_drewN | apply below_drew1) | exact HB.out))); rintro e w12 ⟨rfl, hb⟩; have n0_ := Aside0.mk (below_step (by repeat (first | (with_reducible first | exact HB.out | apply below_alloc | apply pw_below_drewN | apply below_drew1) | exact HB.out)) hb); clear HB; have HB := n0_; clear n0_; (try clear hb); (try clear hb2); (try clear hk); (try clear hi)))
                  repeat (go_quiet (first | (go_at_call 6; (with_reducible refine (belvederelaw08_sure.calls k2  t159 _ ?side1 A11.out).mono ?_); (case side1 => first | exact HG.out | exact Glob.below HG.out (by repeat (first | (with_reducible first | exact HB.out | apply below_alloc | apply pw_below_drewN | apply below_drew1) | exact HB.out))); rintro e w12 ⟨rfl, hb⟩; have n0_ := Aside0.mk (below_step (by repeat (first | (with_reducible first | exact HB.out | apply below_alloc | apply pw_below_drewN | apply below_drew1) | exact HB.out)) hb); clear HB; have HB := n0_; clear n0_; (try clear hb); (try clear hb2); (try clear hk); (try clear hi))); try go_wp2_with (first | (go_at_call 6; (with_reducible refine (belvederelaw08_sure.calls k2  t159 _ ?side1 A11.out).mono ?_); (case side1 => first | exact HG.out | exact Glob.below HG.out (by repeat (first | (with_reducible first | exact HB.out | apply below_alloc | apply pw_below_drewN | apply below_drew1) | exact HB.out))); rintro e w12 ⟨rfl, hb⟩; have n0_ := Aside0.mk (below_step (by repeat (first | (with_reducible first | exact HB.out | apply below_alloc | apply pw_below_drewN | apply below_drew1) | exact HB.out)) hb); clear HB; have HB := n0_; clear n0_; (try clear hb); (try clear hb2); (try clear hk); (try clear hi))))
                  go_ret
                  exact ⟨by first | rfl | (simp [errW_none, errW_some] <;> rfl) | (simp [*, errW_none, errW_some] <;> rfl), by repeat (first | (with_reducible first | exact HB.out | apply below_alloc | apply pw_below_drewN | apply below_drew1) | exact HB.out)⟩
                · rw [if_neg c10] at H
                  have c10b0 : decide (100 < ((rdOf ByteArray.empty l0 x7_2).size : Int)) = false := decide_eq_false c10
                  have c10b1 : decide (100 < (rdOf ByteArray.empty l0 x7_2).size) = false := decide_eq_false (by omega)
                  clear c10
                  have H' := Aside0.mk H
                  clear H
                  have p158 : 0 ≤ (x7_2 : Int) := of_decide_eq_true (by first | (with_reducible assumption) | assumption)
                  have q158 : x7_2 < (l0.length : Int) := of_decide_eq_true (by first | (with_reducible assumption) | assumption)
                  obtain ⟨ad158, e158, hx158_0⟩ := Kd.at_string HR0.out x7_2 p158 q158
                  cases e158
                  replace hx158_0 := (HB.out.cell (World.block_lt_of_cell? w _ hx158_0)).trans hx158_0
                  replace p158 := eq_true p158
                  replace q158 := eq_true q158
                  go_wp2
                  repeat (go_quiet (fail); try go_wp2)
                  go_loopg [8] k2 (fun kq v8 w' => ∃ (x8_3 : Int), v8 = .int .i64 x8_3 ∧ Aside0 (belvederelaw08_LexJoined.l1 kq l0 a1 x5_2 x6_2 x7_2 x8_3 = some r) ∧ Aside0 (kq ≤ k2) ∧ Aside0 (Below w.heap.size w w'))
                  case atStart => exact ⟨(0), (by first | rfl | (simp; done) | (simp [*]; done)), H', ⟨Nat.le_refl _⟩, ⟨by repeat (first | (with_reducible first | exact HB.out | apply below_alloc | apply pw_below_drewN | apply below_drew1) | exact HB.out)⟩⟩
                  case round =>
                    clear H'
                    try clear c1
                    try clear p1
                    try clear q1
                    try clear hx1
                    try clear p2
                    try clear c4
                    try clear c4b0
                    try clear c4b1
                    try clear c4b2
                    try clear c5
                    try clear c8
                    try clear c8b0
                    try clear c9
                    try clear c9b0
                    try clear c10
                    try clear c10b0
                    try clear c10b1
                    try clear hx158_0
                    try clear p158
                    try clear p2
                    try clear q158
                    obtain ⟨x8_3, rfl, HA, HK3, HB⟩ := hrel
                    cases gk with
                    | zero => exact absurd HA.out (by simp [belvederelaw08_LexJoined.l1])
                    | succ k3 =>
                      have H := HA.out
                      clear HA
                      simp only [belvederelaw08_LexJoined.l1] at H
                      by_cases c13 : 0 ≤ x7_2
                      · rw [if_pos c13] at H
                        have c13b0 : decide (0 ≤ x7_2) = true := decide_eq_true c13
                        clear c13
                        by_cases c14 : x7_2 < (l0.length : Int)
                        · rw [if_pos c14] at H
                          have c14b0 : decide (x7_2 < (l0.length : Int)) = true := decide_eq_true c14
                          clear c14
                          by_cases c15 : x8_3 < ((rdOf ByteArray.empty l0 x7_2).size : Int)
                          · rw [if_pos c15] at H
                            have c15b0 : decide (x8_3 < ((rdOf ByteArray.empty l0 x7_2).size : Int)) = true := decide_eq_true c15
                            clear c15
                            by_cases c16 : 0 ≤ x8_3
                            · rw [if_pos c16] at H
                              have c16b0 : decide (0 ≤ x8_3) = true := decide_eq_true c16
                              clear c16
                              by_cases c18 : (bt (rdOf ByteArray.empty l0 x7_2) x8_3) = 10
                              · rw [if_pos c18] at H
                                have c18b0 : ((bt (rdOf ByteArray.empty l0 x7_2) x8_3) == 10) = true := beq_iff_eq.mpr c18
                                have c18b1 : ((bt (rdOf ByteArray.empty l0 x7_2) x8_3) != 10) = false := bne_eq_false_iff_eq.mpr c18
                                clear c18
                                replace H := Option.bind_eq_some_iff.mp H
                                obtain ⟨t162, A190, H⟩ := H
                                replace H : (some t162) = some r := H
                                have A19 := Aside0.mk A190
                                clear A190
                                obtain rfl := Option.some.inj H
                                have p160 : 0 ≤ (x7_2 : Int) := of_decide_eq_true (by first | (with_reducible assumption) | assumption)
                                have q160 : x7_2 < (l0.length : Int) := of_decide_eq_true (by first | (with_reducible assumption) | assumption)
                                obtain ⟨ad160, e160, hx160_0⟩ := Kd.at_string HR0.out x7_2 p160 q160
                                obtain rfl : ad158 = ad160 := (by injection e160)
                                replace hx160_0 := (HB.out.cell (World.block_lt_of_cell? w _ hx160_0)).trans hx160_0
                                replace p160 := eq_true p160
                                replace q160 := eq_true q160
                                have p161 : 0 ≤ (x7_2 : Int) := of_decide_eq_true (by first | (with_reducible assumption) | assumption)
                                have q161 : x7_2 < (l0.length : Int) := of_decide_eq_true (by first | (with_reducible assumption) | assumption)
                                obtain ⟨ad161, e161, hx161_0⟩ := Kd.at_string HR0.out x7_2 p161 q161
                                obtain rfl : ad158 = ad161 := (by injection e161)
                                replace hx161_0 := (HB.out.cell (World.block_lt_of_cell? w _ hx161_0)).trans hx161_0
                                replace p161 := eq_true p161
                                replace q161 := eq_true q161
                                have p17 : 0 ≤ (x8_3 : Int) := of_decide_eq_true (by first | (with_reducible assumption) | assumption)
                                have q17 : x8_3 < ((rdOf ByteArray.empty l0 x7_2).size : Int) := of_decide_eq_true (by first | (with_reducible assumption) | assumption)
                                have hx17 := bt_at (rdOf ByteArray.empty l0 x7_2) x8_3
                                replace p17 := eq_true p17
                                replace q17 := eq_true q17
                                go_wp2_with (first | (go_at_call 6; (with_reducible refine (belvederelaw08_sure.calls k3  t162 _ ?side1 A19.out).mono ?_); (case side1 => first | exact HG.out | exact Glob.below HG.out (by repeat (first | (with_reducible first | exact HB.out | apply below_alloc | apply pw_below_drewN | apply below_drew1) | exact HB.out))); rintro e w20 ⟨rfl, hb⟩; have n0_ := Aside0.mk (below_step (by repeat (first | (with_reducible first | exact HB.out | apply below_alloc | apply pw_below_drewN | apply below_drew1) | exact HB.out)) hb); clear HB; have HB := n0_; clear n0_; (try clear hb); (try clear hb2); (try clear hk); (try clear hi)))
                                repeat (go_quiet (first | (go_at_call 6; (with_reducible refine (belvederelaw08_sure.calls k3  t162 _ ?side1 A19.out).mono ?_); (case side1 => first | exact HG.out | exact Glob.below HG.out (by repeat (first | (with_reducible first | exact HB.out | apply below_alloc | apply pw_below_drewN | apply below_drew1) | exact HB.out))); rintro e w20 ⟨rfl, hb⟩; have n0_ := Aside0.mk (below_step (by repeat (first | (with_reducible first | exact HB.out | apply below_alloc | apply pw_below_drewN | apply below_drew1) | exact HB.out)) hb); clear HB; have HB := n0_; clear n0_; (try clear hb); (try clear hb2); (try clear hk); (try clear hi))); try go_wp2_with (first | (go_at_call 6; (with_reducible refine (belvederelaw08_sure.calls k3  t162 _ ?side1 A19.out).mono ?_); (case side1 => first | exact HG.out | exact Glob.below HG.out (by repeat (first | (with_reducible first | exact HB.out | apply below_alloc | apply pw_below_drewN | apply below_drew1) | exact HB.out))); rintro e w20 ⟨rfl, hb⟩; have n0_ := Aside0.mk (below_step (by repeat (first | (with_reducible first | exact HB.out | apply below_alloc | apply pw_below_drewN | apply below_drew1) | exact HB.out)) hb); clear HB; have HB := n0_; clear n0_; (try clear hb); (try clear hb2); (try clear hk); (try clear hi))))
                                go_ret
                                exact ⟨by first | rfl | (simp [errW_none, errW_some] <;> rfl) | (simp [*, errW_none, errW_some] <;> rfl), by repeat (first | (with_reducible first | exact HB.out | apply below_alloc | apply pw_below_drewN | apply below_drew1) | exact HB.out)⟩
                              · rw [if_neg c18] at H
                                have c18b0 : ((bt (rdOf ByteArray.empty l0 x7_2) x8_3) == 10) = false := beq_eq_false_iff_ne.mpr c18
                                have c18b1 : ((bt (rdOf ByteArray.empty l0 x7_2) x8_3) != 10) = true := bne_iff_ne.mpr c18
                                by_cases c22 : (bt (rdOf ByteArray.empty l0 x7_2) x8_3) = 92
                                · rw [if_pos c22] at H
                                  have c22b0 : ((bt (rdOf ByteArray.empty l0 x7_2) x8_3) == 92) = true := beq_iff_eq.mpr c22
                                  have c22b1 : ((bt (rdOf ByteArray.empty l0 x7_2) x8_3) != 92) = false := bne_eq_false_iff_eq.mpr c22
                                  clear c22
                                  replace H := Option.bind_eq_some_iff.mp H
                                  obtain ⟨t164, A230, H⟩ := H
                                  replace H : (some t164) = some r := H
                                  have A23 := Aside0.mk A230
                                  clear A230
                                  obtain rfl := Option.some.inj H
                                  have p160 : 0 ≤ (x7_2 : Int) := of_decide_eq_true (by first | (with_reducible assumption) | assumption)
                                  have q160 : x7_2 < (l0.length : Int) := of_decide_eq_true (by first | (with_reducible assumption) | assumption)
                                  obtain ⟨ad160, e160, hx160_0⟩ := Kd.at_string HR0.out x7_2 p160 q160
                                  obtain rfl : ad158 = ad160 := (by injection e160)
                                  replace hx160_0 := (HB.out.cell (World.block_lt_of_cell? w _ hx160_0)).trans hx160_0
                                  replace p160 := eq_true p160
                                  replace q160 := eq_true q160
                                  have p161 : 0 ≤ (x7_2 : Int) := of_decide_eq_true (by first | (with_reducible assumption) | assumption)
                                  have q161 : x7_2 < (l0.length : Int) := of_decide_eq_true (by first | (with_reducible assumption) | assumption)
                                  obtain ⟨ad161, e161, hx161_0⟩ := Kd.at_string HR0.out x7_2 p161 q161
                                  obtain rfl : ad158 = ad161 := (by injection e161)
                                  replace hx161_0 := (HB.out.cell (World.block_lt_of_cell? w _ hx161_0)).trans hx161_0
                                  replace p161 := eq_true p161
                                  replace q161 := eq_true q161
                                  have p17 : 0 ≤ (x8_3 : Int) := of_decide_eq_true (by first | (with_reducible assumption) | assumption)
                                  have q17 : x8_3 < ((rdOf ByteArray.empty l0 x7_2).size : Int) := of_decide_eq_true (by first | (with_reducible assumption) | assumption)
                                  have hx17 := bt_at (rdOf ByteArray.empty l0 x7_2) x8_3
                                  replace p17 := eq_true p17
                                  replace q17 := eq_true q17
                                  have p163 : 0 ≤ (x7_2 : Int) := of_decide_eq_true (by first | (with_reducible assumption) | assumption)
                                  have q163 : x7_2 < (l0.length : Int) := of_decide_eq_true (by first | (with_reducible assumption) | assumption)
                                  obtain ⟨ad163, e163, hx163_0⟩ := Kd.at_string HR0.out x7_2 p163 q163
                                  obtain rfl : ad158 = ad163 := (by injection e163)
                                  replace hx163_0 := (HB.out.cell (World.block_lt_of_cell? w _ hx163_0)).trans hx163_0
                                  replace p163 := eq_true p163
                                  replace q163 := eq_true q163
                                  have p21 : 0 ≤ (x8_3 : Int) := of_decide_eq_true (by first | (with_reducible assumption) | assumption)
                                  have q21 : x8_3 < ((rdOf ByteArray.empty l0 x7_2).size : Int) := of_decide_eq_true (by first | (with_reducible assumption) | assumption)
                                  have hx21 := bt_at (rdOf ByteArray.empty l0 x7_2) x8_3
                                  replace p21 := eq_true p21
                                  replace q21 := eq_true q21
                                  go_wp2_with (first | (go_at_call 6; (with_reducible refine (belvederelaw08_sure.calls k3  t164 _ ?side1 A23.out).mono ?_); (case side1 => first | exact HG.out | exact Glob.below HG.out (by repeat (first | (with_reducible first | exact HB.out | apply below_alloc | apply pw_below_drewN | apply below_drew1) | exact HB.out))); rintro e w24 ⟨rfl, hb⟩; have n0_ := Aside0.mk (below_step (by repeat (first | (with_reducible first | exact HB.out | apply below_alloc | apply pw_below_drewN | apply below_drew1) | exact HB.out)) hb); clear HB; have HB := n0_; clear n0_; (try clear hb); (try clear hb2); (try clear hk); (try clear hi)))
                                  repeat (go_quiet (first | (go_at_call 6; (with_reducible refine (belvederelaw08_sure.calls k3  t164 _ ?side1 A23.out).mono ?_); (case side1 => first | exact HG.out | exact Glob.below HG.out (by repeat (first | (with_reducible first | exact HB.out | apply below_alloc | apply pw_below_drewN | apply below_drew1) | exact HB.out))); rintro e w24 ⟨rfl, hb⟩; have n0_ := Aside0.mk (below_step (by repeat (first | (with_reducible first | exact HB.out | apply below_alloc | apply pw_below_drewN | apply below_drew1) | exact HB.out)) hb); clear HB; have HB := n0_; clear n0_; (try clear hb); (try clear hb2); (try clear hk); (try clear hi))); try go_wp2_with (first | (go_at_call 6; (with_reducible refine (belvederelaw08_sure.calls k3  t164 _ ?side1 A23.out).mono ?_); (case side1 => first | exact HG.out | exact Glob.below HG.out (by repeat (first | (with_reducible first | exact HB.out | apply below_alloc | apply pw_below_drewN | apply below_drew1) | exact HB.out))); rintro e w24 ⟨rfl, hb⟩; have n0_ := Aside0.mk (below_step (by repeat (first | (with_reducible first | exact HB.out | apply below_alloc | apply pw_below_drewN | apply below_drew1) | exact HB.out)) hb); clear HB; have HB := n0_; clear n0_; (try clear hb); (try clear hb2); (try clear hk); (try clear hi))))
                                  go_ret
                                  exact ⟨by first | rfl | (simp [errW_none, errW_some] <;> rfl) | (simp [*, errW_none, errW_some] <;> rfl), by repeat (first | (with_reducible first | exact HB.out | apply below_alloc | apply pw_below_drewN | apply below_drew1) | exact HB.out)⟩
                                · rw [if_neg c22] at H
                                  have c22b0 : ((bt (rdOf ByteArray.empty l0 x7_2) x8_3) == 92) = false := beq_eq_false_iff_ne.mpr c22
                                  have c22b1 : ((bt (rdOf ByteArray.empty l0 x7_2) x8_3) != 92) = true := bne_iff_ne.mpr c22
                                  have H' := Aside0.mk H
                                  clear H
                                  have p160 : 0 ≤ (x7_2 : Int) := of_decide_eq_true (by first | (with_reducible assumption) | assumption)
                                  have q160 : x7_2 < (l0.length : Int) := of_decide_eq_true (by first | (with_reducible assumption) | assumption)
                                  obtain ⟨ad160, e160, hx160_0⟩ := Kd.at_string HR0.out x7_2 p160 q160
                                  obtain rfl : ad158 = ad160 := (by injection e160)
                                  replace hx160_0 := (HB.out.cell (World.block_lt_of_cell? w _ hx160_0)).trans hx160_0
                                  replace p160 := eq_true p160
                                  replace q160 := eq_true q160
                                  have p161 : 0 ≤ (x7_2 : Int) := of_decide_eq_true (by first | (with_reducible assumption) | assumption)
                                  have q161 : x7_2 < (l0.length : Int) := of_decide_eq_true (by first | (with_reducible assumption) | assumption)
                                  obtain ⟨ad161, e161, hx161_0⟩ := Kd.at_string HR0.out x7_2 p161 q161
                                  obtain rfl : ad158 = ad161 := (by injection e161)
                                  replace hx161_0 := (HB.out.cell (World.block_lt_of_cell? w _ hx161_0)).trans hx161_0
                                  replace p161 := eq_true p161
                                  replace q161 := eq_true q161
                                  have p17 : 0 ≤ (x8_3 : Int) := of_decide_eq_true (by first | (with_reducible assumption) | assumption)
                                  have q17 : x8_3 < ((rdOf ByteArray.empty l0 x7_2).size : Int) := of_decide_eq_true (by first | (with_reducible assumption) | assumption)
                                  have hx17 := bt_at (rdOf ByteArray.empty l0 x7_2) x8_3
                                  replace p17 := eq_true p17
                                  replace q17 := eq_true q17
                                  have p163 : 0 ≤ (x7_2 : Int) := of_decide_eq_true (by first | (with_reducible assumption) | assumption)
                                  have q163 : x7_2 < (l0.length : Int) := of_decide_eq_true (by first | (with_reducible assumption) | assumption)
                                  obtain ⟨ad163, e163, hx163_0⟩ := Kd.at_string HR0.out x7_2 p163 q163
                                  obtain rfl : ad158 = ad163 := (by injection e163)
                                  replace hx163_0 := (HB.out.cell (World.block_lt_of_cell? w _ hx163_0)).trans hx163_0
                                  replace p163 := eq_true p163
                                  replace q163 := eq_true q163
                                  have p21 : 0 ≤ (x8_3 : Int) := of_decide_eq_true (by first | (with_reducible assumption) | assumption)
                                  have q21 : x8_3 < ((rdOf ByteArray.empty l0 x7_2).size : Int) := of_decide_eq_true (by first | (with_reducible assumption) | assumption)
                                  have hx21 := bt_at (rdOf ByteArray.empty l0 x7_2) x8_3
                                  replace p21 := eq_true p21
                                  replace q21 := eq_true q21
                                  go_wp2
                                  repeat (go_quiet (fail); try go_wp2)
                                  go_roundg k3
                                  case measure => have := HJ2.out; have := HK2.out; have := HK3.out; omega
                                  case rel => exact ⟨(wrap64 (x8_3 + 1)), (by first | rfl | (simp; done) | (simp [*]; done)), H', ⟨by have := HJ2.out; have := HK2.out; have := HK3.out; omega⟩, ⟨by repeat (first | (with_reducible first | exact HB.out | apply below_alloc | apply pw_below_drewN | apply below_drew1) | exact HB.out)⟩⟩
                            · rw [if_neg c16] at H
                              exact absurd H (by simp)
                          · rw [if_neg c15] at H
                            have c15b0 : decide (x8_3 < ((rdOf ByteArray.empty l0 x7_2).size : Int)) = false := decide_eq_false c15
                            clear c15
                            by_cases c25 : x5_2.size + (rdOf ByteArray.empty l0 x7_2).size ≤ 9223372036854775807
                            · rw [if_pos c25] at H
                              have c25b0 := eq_true c25
                              have c25b1 : decide (x5_2.size + (rdOf ByteArray.empty l0 x7_2).size ≤ 9223372036854775807) = true := decide_eq_true c25
                              try have c25b2 : (9223372036854775807 < x5_2.size + (rdOf ByteArray.empty l0 x7_2).size) = False := eq_false (Nat.not_lt.2 c25)
                              by_cases c26 : x6_2.size + (rdOf ByteArray.empty l0 x7_2).size ≤ 9223372036854775807
                              · rw [if_pos c26] at H
                                have c26b0 := eq_true c26
                                have c26b1 : decide (x6_2.size + (rdOf ByteArray.empty l0 x7_2).size ≤ 9223372036854775807) = true := decide_eq_true c26
                                try have c26b2 : (9223372036854775807 < x6_2.size + (rdOf ByteArray.empty l0 x7_2).size) = False := eq_false (Nat.not_lt.2 c26)
                                by_cases c27 : x7_2 < (wrap64 ((l0.length : Int) - 1))
                                · rw [if_pos c27] at H
                                  have c27b0 : decide (x7_2 < (wrap64 ((l0.length : Int) - 1))) = true := decide_eq_true c27
                                  clear c27
                                  by_cases c28 : (x6_2 ++ (rdOf ByteArray.empty l0 x7_2)).size + 2 ≤ 9223372036854775807
                                  · rw [if_pos c28] at H
                                    have c28b0 := eq_true c28
                                    have c28b1 : decide ((x6_2 ++ (rdOf ByteArray.empty l0 x7_2)).size + 2 ≤ 9223372036854775807) = true := decide_eq_true c28
                                    (try (have c28b9 : (9223372036854775807 < x6_2.size + (rdOf ByteArray.empty l0 x7_2).size + 2) = False := eq_false (by intro g_; have h_ := c28; (try simp only [ByteArray.size_append, ByteArray.size_extract] at h_); (try simp only [decide_eq_true_eq] at *); omega)))
                                    (try (have c28b6 : (x6_2.size + (rdOf ByteArray.empty l0 x7_2).size + 2 ≤ 9223372036854775807) = True := eq_true (by have h_ := c28; (try simp only [ByteArray.size_append, ByteArray.size_extract] at h_); (try simp only [decide_eq_true_eq] at *); omega)))
                                    (try (have c28b7 : decide (x6_2.size + (rdOf ByteArray.empty l0 x7_2).size + 2 ≤ 9223372036854775807) = true := decide_eq_true (by have h_ := c28; (try simp only [ByteArray.size_append, ByteArray.size_extract] at h_); (try simp only [decide_eq_true_eq] at *); omega)))
                                    (try (have c28b8 : (9223372036854775807 < x6_2.size + (rdOf ByteArray.empty l0 x7_2).size + 2) = False := eq_false (by intro g_; have h_ := c28; (try simp only [ByteArray.size_append, ByteArray.size_extract] at h_); (try simp only [decide_eq_true_eq] at *); omega)))
                                    (try (have c28b3 : (x6_2.size + (rdOf ByteArray.empty l0 x7_2).size ≤ 9223372036854775805) = True := eq_true (by have h_ := c28; (try simp only [ByteArray.size_append, ByteArray.size_extract] at h_); (try simp only [decide_eq_true_eq] at *); omega)))
                                    (try (have c28b4 : decide (x6_2.size + (rdOf ByteArray.empty l0 x7_2).size ≤ 9223372036854775805) = true := decide_eq_true (by have h_ := c28; (try simp only [ByteArray.size_append, ByteArray.size_extract] at h_); (try simp only [decide_eq_true_eq] at *); omega)))
                                    (try (have c28b5 : (9223372036854775805 < x6_2.size + (rdOf ByteArray.empty l0 x7_2).size) = False := eq_false (by intro g_; have h_ := c28; (try simp only [ByteArray.size_append, ByteArray.size_extract] at h_); (try simp only [decide_eq_true_eq] at *); omega)))
                                    try have c28b2 : (9223372036854775807 < (x6_2 ++ (rdOf ByteArray.empty l0 x7_2)).size + 2) = False := eq_false (Nat.not_lt.2 c28)
                                    have H' := Aside0.mk H
                                    clear H
                                    have p160 : 0 ≤ (x7_2 : Int) := of_decide_eq_true (by first | (with_reducible assumption) | assumption)
                                    have q160 : x7_2 < (l0.length : Int) := of_decide_eq_true (by first | (with_reducible assumption) | assumption)
                                    obtain ⟨ad160, e160, hx160_0⟩ := Kd.at_string HR0.out x7_2 p160 q160
                                    obtain rfl : ad158 = ad160 := (by injection e160)
                                    replace hx160_0 := (HB.out.cell (World.block_lt_of_cell? w _ hx160_0)).trans hx160_0
                                    replace p160 := eq_true p160
                                    replace q160 := eq_true q160
                                    have p165 : 0 ≤ (x7_2 : Int) := of_decide_eq_true (by first | (with_reducible assumption) | assumption)
                                    have q165 : x7_2 < (l0.length : Int) := of_decide_eq_true (by first | (with_reducible assumption) | assumption)
                                    obtain ⟨ad165, e165, hx165_0⟩ := Kd.at_string HR0.out x7_2 p165 q165
                                    obtain rfl : ad158 = ad165 := (by injection e165)
                                    replace hx165_0 := (HB.out.cell (World.block_lt_of_cell? w _ hx165_0)).trans hx165_0
                                    replace p165 := eq_true p165
                                    replace q165 := eq_true q165
                                    have p166 : 0 ≤ (x7_2 : Int) := of_decide_eq_true (by first | (with_reducible assumption) | assumption)
                                    have q166 : x7_2 < (l0.length : Int) := of_decide_eq_true (by first | (with_reducible assumption) | assumption)
                                    obtain ⟨ad166, e166, hx166_0⟩ := Kd.at_string HR0.out x7_2 p166 q166
                                    obtain rfl : ad158 = ad166 := (by injection e166)
                                    replace hx166_0 := (HB.out.cell (World.block_lt_of_cell? w _ hx166_0)).trans hx166_0
                                    replace p166 := eq_true p166
                                    replace q166 := eq_true q166
                                    go_wp2
                                    repeat (go_quiet (fail); try go_wp2)
                                    go_roundg k3
                                    case measure => have := HJ2.out; have := HK2.out; have := HK3.out; omega
                                    case rel => exact ⟨(x5_2 ++ (rdOf ByteArray.empty l0 x7_2)), ((x6_2 ++ (rdOf ByteArray.empty l0 x7_2)) ++ (⟨#[92, 10]⟩ : ByteArray)), (wrap64 (x7_2 + 1)), (by first | rfl | (simp; done) | (simp [*]; done)), (by first | rfl | (simp; done) | (simp [*]; done)), (by first | rfl | (simp; done) | (simp [*]; done)), H', ⟨by have := HJ2.out; have := HK2.out; have := HK3.out; omega⟩, ⟨by repeat (first | (with_reducible first | exact HB.out | apply below_alloc | apply pw_below_drewN | apply below_drew1) | exact HB.out)⟩⟩
                                  · rw [if_neg c28] at H
                                    exact absurd H (by simp)
                                · rw [if_neg c27] at H
                                  have c27b0 : decide (x7_2 < (wrap64 ((l0.length : Int) - 1))) = false := decide_eq_false c27
                                  clear c27
                                  have H' := Aside0.mk H
                                  clear H
                                  have p160 : 0 ≤ (x7_2 : Int) := of_decide_eq_true (by first | (with_reducible assumption) | assumption)
                                  have q160 : x7_2 < (l0.length : Int) := of_decide_eq_true (by first | (with_reducible assumption) | assumption)
                                  obtain ⟨ad160, e160, hx160_0⟩ := Kd.at_string HR0.out x7_2 p160 q160
                                  obtain rfl : ad158 = ad160 := (by injection e160)
                                  replace hx160_0 := (HB.out.cell (World.block_lt_of_cell? w _ hx160_0)).trans hx160_0
                                  replace p160 := eq_true p160
                                  replace q160 := eq_true q160
                                  have p165 : 0 ≤ (x7_2 : Int) := of_decide_eq_true (by first | (with_reducible assumption) | assumption)
                                  have q165 : x7_2 < (l0.length : Int) := of_decide_eq_true (by first | (with_reducible assumption) | assumption)
                                  obtain ⟨ad165, e165, hx165_0⟩ := Kd.at_string HR0.out x7_2 p165 q165
                                  obtain rfl : ad158 = ad165 := (by injection e165)
                                  replace hx165_0 := (HB.out.cell (World.block_lt_of_cell? w _ hx165_0)).trans hx165_0
                                  replace p165 := eq_true p165
                                  replace q165 := eq_true q165
                                  have p166 : 0 ≤ (x7_2 : Int) := of_decide_eq_true (by first | (with_reducible assumption) | assumption)
                                  have q166 : x7_2 < (l0.length : Int) := of_decide_eq_true (by first | (with_reducible assumption) | assumption)
                                  obtain ⟨ad166, e166, hx166_0⟩ := Kd.at_string HR0.out x7_2 p166 q166
                                  obtain rfl : ad158 = ad166 := (by injection e166)
                                  replace hx166_0 := (HB.out.cell (World.block_lt_of_cell? w _ hx166_0)).trans hx166_0
                                  replace p166 := eq_true p166
                                  replace q166 := eq_true q166
                                  go_wp2
                                  repeat (go_quiet (fail); try go_wp2)
                                  go_roundg k3
                                  case measure => have := HJ2.out; have := HK2.out; have := HK3.out; omega
                                  case rel => exact ⟨(x5_2 ++ (rdOf ByteArray.empty l0 x7_2)), (x6_2 ++ (rdOf ByteArray.empty l0 x7_2)), (wrap64 (x7_2 + 1)), (by first | rfl | (simp; done) | (simp [*]; done)), (by first | rfl | (simp; done) | (simp [*]; done)), (by first | rfl | (simp; done) | (simp [*]; done)), H', ⟨by have := HJ2.out; have := HK2.out; have := HK3.out; omega⟩, ⟨by repeat (first | (with_reducible first | exact HB.out | apply below_alloc | apply pw_below_drewN | apply below_drew1) | exact HB.out)⟩⟩
                              · rw [if_neg c26] at H
                                exact absurd H (by simp)
                            · rw [if_neg c25] at H
                              exact absurd H (by simp)
                        · rw [if_neg c14] at H
                          exact absurd H (by simp)
                      · rw [if_neg c13] at H
                        exact absurd H (by simp)
              · rw [if_neg c9] at H
                exact absurd H (by simp)
            · rw [if_neg c8] at H
              have c8b0 : decide (x7_2 < (l0.length : Int)) = false := decide_eq_false c8
              clear c8
              have H' := Aside0.mk H
              clear H
              go_wp2
              repeat (go_quiet (fail); try go_wp2)
              go_loopg [10, 11] k2 (fun kq v10 v11 w' => ∃ (x10_3 : ByteArray) (x11_3 : Int), v10 = .string x10_3 ∧ v11 = .int .i64 x11_3 ∧ Aside0 (belvederelaw08_LexJoined.l2 kq l0 x5_2 x6_2 (wrap64 (Int.tmod (IntKind.u64.wrap (a1)) 5)) x10_3 x11_3 = some r) ∧ Aside0 (kq ≤ k2) ∧ Aside0 (Below w.heap.size w w'))
              case atStart => exact ⟨((⟨#[]⟩ : ByteArray)), (0), (by first | rfl | (simp; done) | (simp [*]; done)), (by first | rfl | (simp; done) | (simp [*]; done)), H', ⟨Nat.le_refl _⟩, ⟨by repeat (first | (with_reducible first | exact HB.out | apply below_alloc | apply pw_below_drewN | apply below_drew1) | exact HB.out)⟩⟩
              case round =>
                clear H'
                try clear c1
                try clear p1
                try clear q1
                try clear hx1
                try clear c2
                try clear p2
                try clear q2
                try clear hx2
                try clear c4
                try clear c4b0
                try clear c4b1
                try clear c4b2
                try clear c5
                try clear p6
                try clear c8
                try clear c8b0
                try clear c9
                try clear c9b0
                try clear c10
                try clear c10b0
                try clear c10b1
                try clear c13
                try clear c13b0
                try clear c14
                try clear c14b0
                try clear c15
                try clear c15b0
                try clear p15
                try clear q15
                try clear hx15
                try clear c16
                try clear c16b0
                try clear p16
                try clear q16
                try clear hx16
                try clear p17
                try clear q17
                try clear hx17
                try clear c18
                try clear c18b0
                try clear c18b1
                try clear p21
                try clear q21
                try clear hx21
                try clear c22
                try clear c22b0
                try clear c22b1
                try clear c25
                try clear c25b0
                try clear c25b1
                try clear c25b2
                try clear c26
                try clear c26b0
                try clear c26b1
                try clear c26b2
                try clear c27
                try clear c27b0
                try clear c28
                try clear c28b0
                try clear c28b1
                try clear c28b2
                try clear hx158_0
                try clear hx160_0
                try clear hx161_0
                try clear hx163_0
                try clear hx165_0
                try clear hx166_0
                try clear p1
                try clear p158
                try clear p160
                try clear p161
                try clear p163
                try clear p165
                try clear p166
                try clear p17
                try clear p2
                try clear p21
                try clear q1
                try clear q158
                try clear q160
                try clear q161
                try clear q163
                try clear q165
                try clear q166
                try clear q17
                try clear q21
                obtain ⟨x10_3, x11_3, rfl, rfl, HA, HK3, HB⟩ := hrel
                cases gk with
                | zero => exact absurd HA.out (by simp [belvederelaw08_LexJoined.l2])
                | succ k3 =>
                  have H := HA.out
                  clear HA
                  simp only [belvederelaw08_LexJoined.l2] at H
                  by_cases c29 : x11_3 < (wrap64 (Int.tmod (IntKind.u64.wrap (a1)) 5))
                  · rw [if_pos c29] at H
                    have c29b0 : decide (x11_3 < (wrap64 (Int.tmod (IntKind.u64.wrap (a1)) 5))) = true := decide_eq_true c29
                    clear c29
                    by_cases c30 : x10_3.size + 1 ≤ 9223372036854775807
                    · rw [if_pos c30] at H
                      have c30b0 := eq_true c30
                      have c30b1 : decide (x10_3.size + 1 ≤ 9223372036854775807) = true := decide_eq_true c30
                      (try (have c30b6 : (x10_3.size + 1 ≤ 9223372036854775807) = True := eq_true (by have h_ := c30; (try simp only [ByteArray.size_append, ByteArray.size_extract] at h_); (try simp only [decide_eq_true_eq] at *); omega)))
                      (try (have c30b7 : decide (x10_3.size + 1 ≤ 9223372036854775807) = true := decide_eq_true (by have h_ := c30; (try simp only [ByteArray.size_append, ByteArray.size_extract] at h_); (try simp only [decide_eq_true_eq] at *); omega)))
                      (try (have c30b8 : (9223372036854775807 < x10_3.size + 1) = False := eq_false (by intro g_; have h_ := c30; (try simp only [ByteArray.size_append, ByteArray.size_extract] at h_); (try simp only [decide_eq_true_eq] at *); omega)))
                      (try (have c30b3 : (x10_3.size ≤ 9223372036854775806) = True := eq_true (by have h_ := c30; (try simp only [ByteArray.size_append, ByteArray.size_extract] at h_); (try simp only [decide_eq_true_eq] at *); omega)))
                      (try (have c30b4 : decide (x10_3.size ≤ 9223372036854775806) = true := decide_eq_true (by have h_ := c30; (try simp only [ByteArray.size_append, ByteArray.size_extract] at h_); (try simp only [decide_eq_true_eq] at *); omega)))
                      (try (have c30b5 : (9223372036854775806 < x10_3.size) = False := eq_false (by intro g_; have h_ := c30; (try simp only [ByteArray.size_append, ByteArray.size_extract] at h_); (try simp only [decide_eq_true_eq] at *); omega)))
                      try have c30b2 : (9223372036854775807 < x10_3.size + 1) = False := eq_false (Nat.not_lt.2 c30)
                      have H' := Aside0.mk H
                      clear H
                      go_wp2
                      repeat (go_quiet (fail); try go_wp2)
                      go_roundg k3
                      case measure => have := HJ2.out; have := HK2.out; have := HK3.out; omega
                      case rel => exact ⟨(x10_3 ++ (⟨#[10]⟩ : ByteArray)), (wrap64 (x11_3 + 1)), (by first | rfl | (simp; done) | (simp [*]; done)), (by first | rfl | (simp; done) | (simp [*]; done)), H', ⟨by have := HJ2.out; have := HK2.out; have := HK3.out; omega⟩, ⟨by repeat (first | (with_reducible first | exact HB.out | apply below_alloc | apply pw_below_drewN | apply below_drew1) | exact HB.out)⟩⟩
                    · rw [if_neg c30] at H
                      exact absurd H (by simp)
                  · rw [if_neg c29] at H
                    have c29b0 : decide (x11_3 < (wrap64 (Int.tmod (IntKind.u64.wrap (a1)) 5))) = false := decide_eq_false c29
                    clear c29
                    by_cases c31 : x10_3.size + x5_2.size ≤ 9223372036854775807
                    · rw [if_pos c31] at H
                      have c31b0 := eq_true c31
                      have c31b1 : decide (x10_3.size + x5_2.size ≤ 9223372036854775807) = true := decide_eq_true c31
                      try have c31b2 : (9223372036854775807 < x10_3.size + x5_2.size) = False := eq_false (Nat.not_lt.2 c31)
                      by_cases c32 : (x10_3 ++ x5_2).size + 5 ≤ 9223372036854775807
                      · rw [if_pos c32] at H
                        have c32b0 := eq_true c32
                        have c32b1 : decide ((x10_3 ++ x5_2).size + 5 ≤ 9223372036854775807) = true := decide_eq_true c32
                        (try (have c32b9 : (9223372036854775807 < x10_3.size + x5_2.size + 5) = False := eq_false (by intro g_; have h_ := c32; (try simp only [ByteArray.size_append, ByteArray.size_extract] at h_); (try simp only [decide_eq_true_eq] at *); omega)))
                        (try (have c32b6 : (x10_3.size + x5_2.size + 5 ≤ 9223372036854775807) = True := eq_true (by have h_ := c32; (try simp only [ByteArray.size_append, ByteArray.size_extract] at h_); (try simp only [decide_eq_true_eq] at *); omega)))
                        (try (have c32b7 : decide (x10_3.size + x5_2.size + 5 ≤ 9223372036854775807) = true := decide_eq_true (by have h_ := c32; (try simp only [ByteArray.size_append, ByteArray.size_extract] at h_); (try simp only [decide_eq_true_eq] at *); omega)))
                        (try (have c32b8 : (9223372036854775807 < x10_3.size + x5_2.size + 5) = False := eq_false (by intro g_; have h_ := c32; (try simp only [ByteArray.size_append, ByteArray.size_extract] at h_); (try simp only [decide_eq_true_eq] at *); omega)))
                        (try (have c32b3 : (x10_3.size + x5_2.size ≤ 9223372036854775802) = True := eq_true (by have h_ := c32; (try simp only [ByteArray.size_append, ByteArray.size_extract] at h_); (try simp only [decide_eq_true_eq] at *); omega)))
                        (try (have c32b4 : decide (x10_3.size + x5_2.size ≤ 9223372036854775802) = true := decide_eq_true (by have h_ := c32; (try simp only [ByteArray.size_append, ByteArray.size_extract] at h_); (try simp only [decide_eq_true_eq] at *); omega)))
                        (try (have c32b5 : (9223372036854775802 < x10_3.size + x5_2.size) = False := eq_false (by intro g_; have h_ := c32; (try simp only [ByteArray.size_append, ByteArray.size_extract] at h_); (try simp only [decide_eq_true_eq] at *); omega)))
                        try have c32b2 : (9223372036854775807 < (x10_3 ++ x5_2).size + 5) = False := eq_false (Nat.not_lt.2 c32)
                        replace H := Option.bind_eq_some_iff.mp H
                        obtain ⟨⟨t167, t168, t169⟩, A330, H⟩ := H
                        replace H : (if x10_3.size + x6_2.size ≤ 9223372036854775807 then (if (x10_3 ++ x6_2).size + 5 ≤ 9223372036854775807 then ((lex_Lines.f k3 ((x10_3 ++ x6_2) ++ (⟨#[10, 108, 97, 115, 116]⟩ : ByteArray))).bind fun bt172 => (if t169.isNone = true then (if bt172.2.2.isNone = true then (if (t167.length : Int) = (bt172.1.length : Int) then (belvederelaw08_LexJoined.j4 k3 l0 (wrap64 (Int.tmod (IntKind.u64.wrap (a1)) 5)) t167 bt172.1 ((t167.length : Int) == 0)) else (belvederelaw08_LexJoined.j4 k3 l0 (wrap64 (Int.tmod (IntKind.u64.wrap (a1)) 5)) t167 bt172.1 true)) else (belvederelaw08_LexJoined.j4 k3 l0 (wrap64 (Int.tmod (IntKind.u64.wrap (a1)) 5)) t167 bt172.1 true)) else (belvederelaw08_LexJoined.j4 k3 l0 (wrap64 (Int.tmod (IntKind.u64.wrap (a1)) 5)) t167 bt172.1 true))) else (none)) else (none)) = some r := H
                        have A33 := Aside0.mk A330
                        clear A330
                        by_cases c34 : x10_3.size + x6_2.size ≤ 9223372036854775807
                        · rw [if_pos c34] at H
                          have c34b0 := eq_true c34
                          have c34b1 : decide (x10_3.size + x6_2.size ≤ 9223372036854775807) = true := decide_eq_true c34
                          try have c34b2 : (9223372036854775807 < x10_3.size + x6_2.size) = False := eq_false (Nat.not_lt.2 c34)
                          by_cases c35 : (x10_3 ++ x6_2).size + 5 ≤ 9223372036854775807
                          · rw [if_pos c35] at H
                            have c35b0 := eq_true c35
                            have c35b1 : decide ((x10_3 ++ x6_2).size + 5 ≤ 9223372036854775807) = true := decide_eq_true c35
                            (try (have c35b9 : (9223372036854775807 < x10_3.size + x6_2.size + 5) = False := eq_false (by intro g_; have h_ := c35; (try simp only [ByteArray.size_append, ByteArray.size_extract] at h_); (try simp only [decide_eq_true_eq] at *); omega)))
                            (try (have c35b6 : (x10_3.size + x6_2.size + 5 ≤ 9223372036854775807) = True := eq_true (by have h_ := c35; (try simp only [ByteArray.size_append, ByteArray.size_extract] at h_); (try simp only [decide_eq_true_eq] at *); omega)))
                            (try (have c35b7 : decide (x10_3.size + x6_2.size + 5 ≤ 9223372036854775807) = true := decide_eq_true (by have h_ := c35; (try simp only [ByteArray.size_append, ByteArray.size_extract] at h_); (try simp only [decide_eq_true_eq] at *); omega)))
                            (try (have c35b8 : (9223372036854775807 < x10_3.size + x6_2.size + 5) = False := eq_false (by intro g_; have h_ := c35; (try simp only [ByteArray.size_append, ByteArray.size_extract] at h_); (try simp only [decide_eq_true_eq] at *); omega)))
                            (try (have c35b3 : (x10_3.size + x6_2.size ≤ 9223372036854775802) = True := eq_true (by have h_ := c35; (try simp only [ByteArray.size_append, ByteArray.size_extract] at h_); (try simp only [decide_eq_true_eq] at *); omega)))
                            (try (have c35b4 : decide (x10_3.size + x6_2.size ≤ 9223372036854775802) = true := decide_eq_true (by have h_ := c35; (try simp only [ByteArray.size_append, ByteArray.size_extract] at h_); (try simp only [decide_eq_true_eq] at *); omega)))
                            (try (have c35b5 : (9223372036854775802 < x10_3.size + x6_2.size) = False := eq_false (by intro g_; have h_ := c35; (try simp only [ByteArray.size_append, ByteArray.size_extract] at h_); (try simp only [decide_eq_true_eq] at *); omega)))
                            try have c35b2 : (9223372036854775807 < (x10_3 ++ x6_2).size + 5) = False := eq_false (Nat.not_lt.2 c35)
                            replace H := Option.bind_eq_some_iff.mp H
                            obtain ⟨⟨t172, t173, t174⟩, A360, H⟩ := H
                            replace H : (if t169.isNone = true then (if t174.isNone = true then (if (t167.length : Int) = (t172.length : Int) then (belvederelaw08_LexJoined.j4 k3 l0 (wrap64 (Int.tmod (IntKind.u64.wrap (a1)) 5)) t167 t172 ((t167.length : Int) == 0)) else (belvederelaw08_LexJoined.j4 k3 l0 (wrap64 (Int.tmod (IntKind.u64.wrap (a1)) 5)) t167 t172 true)) else (belvederelaw08_LexJoined.j4 k3 l0 (wrap64 (Int.tmod (IntKind.u64.wrap (a1)) 5)) t167 t172 true)) else (belvederelaw08_LexJoined.j4 k3 l0 (wrap64 (Int.tmod (IntKind.u64.wrap (a1)) 5)) t167 t172 true)) = some r := H
                            have A36 := Aside0.mk A360
                            clear A360
                            have HC37 := Aside0.mk H
                            clear H
                            go_upto_region 26 with (first | (go_at_call 7; (with_reducible refine (lex_Lines.calls k3 ((x10_3 ++ x5_2) ++ (⟨#[10, 108, 97, 115, 116]⟩ : ByteArray)) t167 t168 t169 _ ?side1 A33.out).mono ?_); (case side1 => first | exact HG.out | exact Glob.below HG.out (by repeat (first | (with_reducible first | exact HB.out | apply below_alloc | apply pw_below_drewN | apply below_drew1) | exact HB.out))); rintro e w38 ⟨v170, rfl, ho0, hb⟩; have n0_ := Aside0.mk (Kd.R_lower ho0 (below_size (by repeat (first | (with_reducible first | exact HB.out | apply below_alloc | apply pw_below_drewN | apply below_drew1) | exact HB.out)))); have n1_ := Aside0.mk (below_step (by repeat (first | (with_reducible first | exact HB.out | apply below_alloc | apply pw_below_drewN | apply below_drew1) | exact HB.out)) hb); clear HB; have HO171 := n0_; have HB := n1_; clear n0_ n1_; (try clear hb); (try clear hb2); (try clear hk); (try clear hi); (try clear ho0); (try simp only [errW_none, errW_some])) | (go_at_call 7; (with_reducible refine (lex_Lines.calls k3 ((x10_3 ++ x6_2) ++ (⟨#[10, 108, 97, 115, 116]⟩ : ByteArray)) t172 t173 t174 _ ?side1 A36.out).mono ?_); (case side1 => first | exact HG.out | exact Glob.below HG.out (by repeat (first | (with_reducible first | exact HB.out | apply below_alloc | apply pw_below_drewN | apply below_drew1) | exact HB.out))); rintro e w39 ⟨v175, rfl, ho0, hb⟩; have n0_ := Aside0.mk (Kd.R_elder' (by (with_reducible repeat (first | apply Kd.R_alloc | apply Kd.R_drewN | apply Kd.R_drew)); exact HO171.out) (Kd.R_base ho0) hb); have n1_ := Aside0.mk (Kd.R_lower (Kd.R_new' ho0 (Kd.R_lt (by (with_reducible repeat (first | apply Kd.R_alloc | apply Kd.R_drewN | apply Kd.R_drew)); exact HO171.out))) (below_size (by repeat (first | (with_reducible first | exact HB.out | apply below_alloc | apply pw_below_drewN | apply below_drew1) | exact HB.out)))); have n2_ := Aside0.mk (below_step (by repeat (first | (with_reducible first | exact HB.out | apply below_alloc | apply pw_below_drewN | apply below_drew1) | exact HB.out)) hb); clear HO171; clear HB; have HO171 := n0_; have HO176 := n1_; have HB := n2_; clear n0_ n1_ n2_; (try clear hb); (try clear hb2); (try clear hk); (try clear hi); (try clear ho0); (try simp only [errW_none, errW_some])))
                            repeat (go_quiet (first | (go_at_call 7; (with_reducible refine (lex_Lines.calls k3 ((x10_3 ++ x5_2) ++ (⟨#[10, 108, 97, 115, 116]⟩ : ByteArray)) t167 t168 t169 _ ?side1 A33.out).mono ?_); (case side1 => first | exact HG.out | exact Glob.below HG.out (by repeat (first | (with_reducible first | exact HB.out | apply below_alloc | apply pw_below_drewN | apply below_drew1) | exact HB.out))); rintro e w38 ⟨v170, rfl, ho0, hb⟩; have n0_ := Aside0.mk (Kd.R_lower ho0 (below_size (by repeat (first | (with_reducible first | exact HB.out | apply below_alloc | apply pw_below_drewN | apply below_drew1) | exact HB.out)))); have n1_ := Aside0.mk (below_step (by repeat (first | (with_reducible first | exact HB.out | apply below_alloc | apply pw_below_drewN | apply below_drew1) | exact HB.out)) hb); clear HB; have HO171 := n0_; have HB := n1_; clear n0_ n1_; (try clear hb); (try clear hb2); (try clear hk); (try clear hi); (try clear ho0); (try simp only [errW_none, errW_some])) | (go_at_call 7; (with_reducible refine (lex_Lines.calls k3 ((x10_3 ++ x6_2) ++ (⟨#[10, 108, 97, 115, 116]⟩ : ByteArray)) t172 t173 t174 _ ?side1 A36.out).mono ?_); (case side1 => first | exact HG.out | exact Glob.below HG.out (by repeat (first | (with_reducible first | exact HB.out | apply below_alloc | apply pw_below_drewN | apply below_drew1) | exact HB.out))); rintro e w39 ⟨v175, rfl, ho0, hb⟩; have n0_ := Aside0.mk (Kd.R_elder' (by (with_reducible repeat (first | apply Kd.R_alloc | apply Kd.R_drewN | apply Kd.R_drew)); exact HO171.out) (Kd.R_base ho0) hb); have n1_ := Aside0.mk (Kd.R_lower (Kd.R_new' ho0 (Kd.R_lt (by (with_reducible repeat (first | apply Kd.R_alloc | apply Kd.R_drewN | apply Kd.R_drew)); exact HO171.out))) (below_size (by repeat (first | (with_reducible first | exact HB.out | apply below_alloc | apply pw_below_drewN | apply below_drew1) | exact HB.out)))); have n2_ := Aside0.mk (below_step (by repeat (first | (with_reducible first | exact HB.out | apply below_alloc | apply pw_below_drewN | apply below_drew1) | exact HB.out)) hb); clear HO171; clear HB; have HO171 := n0_; have HO176 := n1_; have HB := n2_; clear n0_ n1_ n2_; (try clear hb); (try clear hb2); (try clear hk); (try clear hi); (try clear ho0); (try simp only [errW_none, errW_some]))); go_upto_region 26 with (first | (go_at_call 7; (with_reducible refine (lex_Lines.calls k3 ((x10_3 ++ x5_2) ++ (⟨#[10, 108, 97, 115, 116]⟩ : ByteArray)) t167 t168 t169 _ ?side1 A33.out).mono ?_); (case side1 => first | exact HG.out | exact Glob.below HG.out (by repeat (first | (with_reducible first | exact HB.out | apply below_alloc | apply pw_below_drewN | apply below_drew1) | exact HB.out))); rintro e w38 ⟨v170, rfl, ho0, hb⟩; have n0_ := Aside0.mk (Kd.R_lower ho0 (below_size (by repeat (first | (with_reducible first | exact HB.out | apply below_alloc | apply pw_below_drewN | apply below_drew1) | exact HB.out)))); have n1_ := Aside0.mk (below_step (by repeat (first | (with_reducible first | exact HB.out | apply below_alloc | apply pw_below_drewN | apply below_drew1) | exact HB.out)) hb); clear HB; have HO171 := n0_; have HB := n1_; clear n0_ n1_; (try clear hb); (try clear hb2); (try clear hk); (try clear hi); (try clear ho0); (try simp only [errW_none, errW_some])) | (go_at_call 7; (with_reducible refine (lex_Lines.calls k3 ((x10_3 ++ x6_2) ++ (⟨#[10, 108, 97, 115, 116]⟩ : ByteArray)) t172 t173 t174 _ ?side1 A36.out).mono ?_); (case side1 => first | exact HG.out | exact Glob.below HG.out (by repeat (first | (with_reducible first | exact HB.out | apply below_alloc | apply pw_below_drewN | apply below_drew1) | exact HB.out))); rintro e w39 ⟨v175, rfl, ho0, hb⟩; have n0_ := Aside0.mk (Kd.R_elder' (by (with_reducible repeat (first | apply Kd.R_alloc | apply Kd.R_drewN | apply Kd.R_drew)); exact HO171.out) (Kd.R_base ho0) hb); have n1_ := Aside0.mk (Kd.R_lower (Kd.R_new' ho0 (Kd.R_lt (by (with_reducible repeat (first | apply Kd.R_alloc | apply Kd.R_drewN | apply Kd.R_drew)); exact HO171.out))) (below_size (by repeat (first | (with_reducible first | exact HB.out | apply below_alloc | apply pw_below_drewN | apply below_drew1) | exact HB.out)))); have n2_ := Aside0.mk (below_step (by repeat (first | (with_reducible first | exact HB.out | apply below_alloc | apply pw_below_drewN | apply below_drew1) | exact HB.out)) hb); clear HO171; clear HB; have HO171 := n0_; have HO176 := n1_; have HB := n2_; clear n0_ n1_ n2_; (try clear hb); (try clear hb2); (try clear hk); (try clear hi); (try clear ho0); (try simp only [errW_none, errW_some]))))
                            (try simp only [Act.put, List.setIfInBounds_toArray, List.set_cons_zero, List.set_cons_succ])
                            go_cut [132] (fun v132 wc => ∃ (kq : Nat) (x132_36 : Bool), v132 = .bool x132_36 ∧ Aside0 (belvederelaw08_LexJoined.j4 kq l0 (wrap64 (Int.tmod (IntKind.u64.wrap (a1)) 5)) t167 t172 x132_36 = some r) ∧ Aside0 (kq ≤ k3) ∧ Aside0 (Kd.R k30 30 wc w.heap.size (fun k_ => some k_ ≠ (v175 : Value).ownBlock) v170 t167) ∧ Aside0 (Kd.R k30 30 wc w.heap.size (fun k_ => some k_ ≠ (v170 : Value).ownBlock) v175 t172) ∧ Aside0 (Below w.heap.size w wc))
                            case first =>
                              have H := HC37.out
                              clear HC37
                              rcases t169 with _ | q177
                              · have H1 : (if t174.isNone = true then (if (t167.length : Int) = (t172.length : Int) then (belvederelaw08_LexJoined.j4 k3 l0 (wrap64 (Int.tmod (IntKind.u64.wrap (a1)) 5)) t167 t172 ((t167.length : Int) == 0)) else (belvederelaw08_LexJoined.j4 k3 l0 (wrap64 (Int.tmod (IntKind.u64.wrap (a1)) 5)) t167 t172 true)) else (belvederelaw08_LexJoined.j4 k3 l0 (wrap64 (Int.tmod (IntKind.u64.wrap (a1)) 5)) t167 t172 true)) = some r := by rw [if_pos (show (none : Option Int).isNone = true by rfl)] at H; exact H
                                clear H
                                have H := H1
                                clear H1
                                try simp only [errW_none, errW_some]
                                rcases t174 with _ | q178
                                · have H1 : (if (t167.length : Int) = (t172.length : Int) then (belvederelaw08_LexJoined.j4 k3 l0 (wrap64 (Int.tmod (IntKind.u64.wrap (a1)) 5)) t167 t172 ((t167.length : Int) == 0)) else (belvederelaw08_LexJoined.j4 k3 l0 (wrap64 (Int.tmod (IntKind.u64.wrap (a1)) 5)) t167 t172 true)) = some r := by rw [if_pos (show (none : Option Int).isNone = true by rfl)] at H; exact H
                                  clear H
                                  have H := H1
                                  clear H1
                                  try simp only [errW_none, errW_some]
                                  by_cases c40 : (t167.length : Int) = (t172.length : Int)
                                  · rw [if_pos c40] at H
                                    have c40b0 : ((t167.length : Int) == (t172.length : Int)) = true := beq_iff_eq.mpr c40
                                    have c40b1 : ((t167.length : Int) != (t172.length : Int)) = false := bne_eq_false_iff_eq.mpr c40
                                    have c40b2 : (t167.length == t172.length) = true := by first | simpa using c40 | (simp at c40 ⊢; omega)
                                    clear c40
                                    (first | rw [c40b0] | (simp only [i64_w, i32_w]; rw [c40b0]) | skip)
                                    have H' := Aside0.mk H
                                    clear H
                                    obtain ⟨Ao41, co41, eo41⟩ := Kd.R_slice HO171.out
                                    subst eo41
                                    obtain ⟨Ao42, co42, eo42⟩ := Kd.R_slice HO176.out
                                    subst eo42
                                    go_wp2
                                    repeat (go_quiet (fail); try go_wp2)
                                    go_meet
                                    case rel => exact ⟨_, (((t167.length : Int) == 0)), (by first | rfl | (simp; done) | (simp [*]; done)), H', ⟨by have := HJ2.out; have := HK2.out; have := HK3.out; first | omega | exact Nat.le_refl _⟩, ⟨by (with_reducible repeat (first | apply Kd.R_alloc | apply Kd.R_drewN | apply Kd.R_drew)); exact Kd.R_mono HO171.out (fun _ hk => hk.2)⟩, ⟨by (with_reducible repeat (first | apply Kd.R_alloc | apply Kd.R_drewN | apply Kd.R_drew)); exact Kd.R_mono HO176.out (fun _ hk => hk.2)⟩, ⟨by repeat (first | (with_reducible first | exact HB.out | apply below_alloc | apply pw_below_drewN | apply below_drew1) | exact HB.out)⟩⟩
                                  · rw [if_neg c40] at H
                                    have c40b0 : ((t167.length : Int) == (t172.length : Int)) = false := beq_eq_false_iff_ne.mpr c40
                                    have c40b1 : ((t167.length : Int) != (t172.length : Int)) = true := bne_iff_ne.mpr c40
                                    have c40b2 : (t167.length == t172.length) = false := by first | simpa using c40 | (simp at c40 ⊢; omega)
                                    (first | rw [c40b0] | (simp only [i64_w, i32_w]; rw [c40b0]) | skip)
                                    have H' := Aside0.mk H
                                    clear H
                                    obtain ⟨Ao43, co43, eo43⟩ := Kd.R_slice HO171.out
                                    subst eo43
                                    obtain ⟨Ao44, co44, eo44⟩ := Kd.R_slice HO176.out
                                    subst eo44
                                    go_wp2
                                    repeat (go_quiet (fail); try go_wp2)
                                    go_meet
                                    case rel => exact ⟨_, (true), (by first | rfl | (simp; done) | (simp [*]; done)), H', ⟨by have := HJ2.out; have := HK2.out; have := HK3.out; first | omega | exact Nat.le_refl _⟩, ⟨by (with_reducible repeat (first | apply Kd.R_alloc | apply Kd.R_drewN | apply Kd.R_drew)); exact Kd.R_mono HO171.out (fun _ hk => hk.2)⟩, ⟨by (with_reducible repeat (first | apply Kd.R_alloc | apply Kd.R_drewN | apply Kd.R_drew)); exact Kd.R_mono HO176.out (fun _ hk => hk.2)⟩, ⟨by repeat (first | (with_reducible first | exact HB.out | apply below_alloc | apply pw_below_drewN | apply below_drew1) | exact HB.out)⟩⟩
                                · have H1 : (belvederelaw08_LexJoined.j4 k3 l0 (wrap64 (Int.tmod (IntKind.u64.wrap (a1)) 5)) t167 t172 true) = some r := by rw [if_neg (show ¬ (some q178).isNone = true by simp)] at H; exact H
                                  clear H
                                  have H := H1
                                  clear H1
                                  try simp only [errW_none, errW_some]
                                  have H' := Aside0.mk H
                                  clear H
                                  go_wp2
                                  repeat (go_quiet (fail); try go_wp2)
                                  go_meet
                                  case rel => exact ⟨_, (true), (by first | rfl | (simp; done) | (simp [*]; done)), H', ⟨by have := HJ2.out; have := HK2.out; have := HK3.out; first | omega | exact Nat.le_refl _⟩, ⟨by (with_reducible repeat (first | apply Kd.R_alloc | apply Kd.R_drewN | apply Kd.R_drew)); exact Kd.R_mono HO171.out (fun _ hk => hk.2)⟩, ⟨by (with_reducible repeat (first | apply Kd.R_alloc | apply Kd.R_drewN | apply Kd.R_drew)); exact Kd.R_mono HO176.out (fun _ hk => hk.2)⟩, ⟨by repeat (first | (with_reducible first | exact HB.out | apply below_alloc | apply pw_below_drewN | apply below_drew1) | exact HB.out)⟩⟩
                              · have H1 : (belvederelaw08_LexJoined.j4 k3 l0 (wrap64 (Int.tmod (IntKind.u64.wrap (a1)) 5)) t167 t172 true) = some r := by rw [if_neg (show ¬ (some q177).isNone = true by simp)] at H; exact H
                                clear H
                                have H := H1
                                clear H1
                                try simp only [errW_none, errW_some]
                                have H' := Aside0.mk H
                                clear H
                                go_wp2
                                repeat (go_quiet (fail); try go_wp2)
                                go_meet
                                case rel => exact ⟨_, (true), (by first | rfl | (simp; done) | (simp [*]; done)), H', ⟨by have := HJ2.out; have := HK2.out; have := HK3.out; first | omega | exact Nat.le_refl _⟩, ⟨by (with_reducible repeat (first | apply Kd.R_alloc | apply Kd.R_drewN | apply Kd.R_drew)); exact Kd.R_mono HO171.out (fun _ hk => hk.2)⟩, ⟨by (with_reducible repeat (first | apply Kd.R_alloc | apply Kd.R_drewN | apply Kd.R_drew)); exact Kd.R_mono HO176.out (fun _ hk => hk.2)⟩, ⟨by repeat (first | (with_reducible first | exact HB.out | apply below_alloc | apply pw_below_drewN | apply below_drew1) | exact HB.out)⟩⟩
                            case rest =>
                              clear HC37
                              try clear c1
                              try clear p1
                              try clear q1
                              try clear hx1
                              try clear c2
                              try clear p2
                              try clear q2
                              try clear hx2
                              try clear c3
                              try clear c4
                              try clear c4b0
                              try clear c4b1
                              try clear c4b2
                              try clear c5
                              try clear p6
                              try clear c8
                              try clear c8b0
                              try clear c9
                              try clear c9b0
                              try clear c10
                              try clear c10b0
                              try clear c10b1
                              try clear c13
                              try clear c13b0
                              try clear c14
                              try clear c14b0
                              try clear c15
                              try clear c15b0
                              try clear p15
                              try clear q15
                              try clear hx15
                              try clear c16
                              try clear c16b0
                              try clear p16
                              try clear q16
                              try clear hx16
                              try clear p17
                              try clear q17
                              try clear hx17
                              try clear c18
                              try clear c18b0
                              try clear c18b1
                              try clear p21
                              try clear q21
                              try clear hx21
                              try clear c22
                              try clear c22b0
                              try clear c22b1
                              try clear c25
                              try clear c25b0
                              try clear c25b1
                              try clear c25b2
                              try clear c26
                              try clear c26b0
                              try clear c26b1
                              try clear c26b2
                              try clear c27
                              try clear c27b0
                              try clear c28
                              try clear c28b0
                              try clear c28b1
                              try clear c28b2
                              try clear c29
                              try clear c29b0
                              try clear c30
                              try clear c30b0
                              try clear c30b1
                              try clear c30b2
                              try clear c31
                              try clear c31b0
                              try clear c31b1
                              try clear c31b2
                              try clear c32
                              try clear c32b0
                              try clear c32b1
                              try clear c32b2
                              try clear c34
                              try clear c34b0
                              try clear c34b1
                              try clear c34b2
                              try clear c35
                              try clear c35b0
                              try clear c35b1
                              try clear c35b2
                              try clear c40
                              try clear c40b0
                              try clear c40b1
                              try clear c40b2
                              try clear hx158_0
                              try clear hx160_0
                              try clear hx161_0
                              try clear hx163_0
                              try clear hx165_0
                              try clear hx166_0
                              try clear p1
                              try clear p15
                              try clear p158
                              try clear p16
                              try clear p160
                              try clear p161
                              try clear p163
                              try clear p165
                              try clear p166
                              try clear p17
                              try clear p2
                              try clear p21
                              try clear p6
                              try clear q1
                              try clear q15
                              try clear q158
                              try clear q16
                              try clear q160
                              try clear q161
                              try clear q163
                              try clear q165
                              try clear q166
                              try clear q17
                              try clear q177
                              try clear q178
                              try clear q2
                              try clear q21
                              obtain ⟨kq, x132_36, rfl, HA, HJ36, HO_12, HO_15, HB⟩ := hcut
                              cases kq with
                              | zero => exact absurd HA.out (by simp [belvederelaw08_LexJoined.j4])
                              | succ kj36 =>
                                have H := HA.out
                                clear HA
                                simp only [belvederelaw08_LexJoined.j4] at H
                                by_cases c45 : x132_36 = true
                                · subst c45
                                  have H1 : (some false) = some r := by rw [if_pos rfl] at H; exact H
                                  clear H
                                  have H := H1
                                  clear H1
                                  obtain rfl := Option.some.inj H
                                  go_wp2
                                  repeat (go_quiet (fail); try go_wp2)
                                  go_ret
                                  exact ⟨by first | rfl | (simp [errW_none, errW_some] <;> rfl) | (simp [*, errW_none, errW_some] <;> rfl), by repeat (first | (with_reducible first | exact HB.out | apply below_alloc | apply pw_below_drewN | apply below_drew1) | exact HB.out)⟩
                                · replace c45 := Bool.eq_false_iff.mpr c45
                                  subst c45
                                  have H1 : (belvederelaw08_LexJoined.l3 kj36 l0 (wrap64 (Int.tmod (IntKind.u64.wrap (a1)) 5)) t167 t172 0) = some r := by rw [if_neg (show ¬ (false = true) by decide)] at H; exact H
                                  clear H
                                  have H := H1
                                  clear H1
                                  have H' := Aside0.mk H
                                  clear H
                                  go_wp2
                                  repeat (go_quiet (fail); try go_wp2)
                                  go_loopg [18] kj36 (fun kq v18 w' => ∃ (x18_5 : Int), v18 = .int .i64 x18_5 ∧ Aside0 (belvederelaw08_LexJoined.l3 kq l0 (wrap64 (Int.tmod (IntKind.u64.wrap (a1)) 5)) t167 t172 x18_5 = some r) ∧ Aside0 (kq ≤ kj36) ∧ Aside0 (Kd.R k30 30 w' w.heap.size (fun k_ => some k_ ≠ (v175 : Value).ownBlock) v170 t167) ∧ Aside0 (Kd.R k30 30 w' w.heap.size (fun k_ => some k_ ≠ (v170 : Value).ownBlock) v175 t172) ∧ Aside0 (Below w.heap.size w w'))
                                  case atStart => exact ⟨(0), (by first | rfl | (simp; done) | (simp [*]; done)), H', ⟨Nat.le_refl _⟩, ⟨by (with_reducible repeat (first | apply Kd.R_alloc | apply Kd.R_drewN | apply Kd.R_drew)); exact HO_12.out⟩, ⟨by (with_reducible repeat (first | apply Kd.R_alloc | apply Kd.R_drewN | apply Kd.R_drew)); exact HO_15.out⟩, ⟨by repeat (first | (with_reducible first | exact HB.out | apply below_alloc | apply pw_below_drewN | apply below_drew1) | exact HB.out)⟩⟩
                                  case round =>
                                    clear H'
                                    try clear c1
                                    try clear p1
                                    try clear q1
                                    try clear hx1
                                    try clear c2
                                    try clear p2
                                    try clear q2
                                    try clear hx2
                                    try clear c3
                                    try clear c4
                                    try clear c4b0
                                    try clear c4b1
                                    try clear c4b2
                                    try clear c5
                                    try clear p6
                                    try clear c8
                                    try clear c8b0
                                    try clear c9
                                    try clear c9b0
                                    try clear c10
                                    try clear c10b0
                                    try clear c10b1
                                    try clear c13
                                    try clear c13b0
                                    try clear c14
                                    try clear c14b0
                                    try clear c15
                                    try clear c15b0
                                    try clear p15
                                    try clear q15
                                    try clear hx15
                                    try clear c16
                                    try clear c16b0
                                    try clear p16
                                    try clear q16
                                    try clear hx16
                                    try clear p17
                                    try clear q17
                                    try clear hx17
                                    try clear c18
                                    try clear c18b0
                                    try clear c18b1
                                    try clear p21
                                    try clear q21
                                    try clear hx21
                                    try clear c22
                                    try clear c22b0
                                    try clear c22b1
                                    try clear c25
                                    try clear c25b0
                                    try clear c25b1
                                    try clear c25b2
                                    try clear c26
                                    try clear c26b0
                                    try clear c26b1
                                    try clear c26b2
                                    try clear c27
                                    try clear c27b0
                                    try clear c28
                                    try clear c28b0
                                    try clear c28b1
                                    try clear c28b2
                                    try clear c29
                                    try clear c29b0
                                    try clear c30
                                    try clear c30b0
                                    try clear c30b1
                                    try clear c30b2
                                    try clear c31
                                    try clear c31b0
                                    try clear c31b1
                                    try clear c31b2
                                    try clear c32
                                    try clear c32b0
                                    try clear c32b1
                                    try clear c32b2
                                    try clear c34
                                    try clear c34b0
                                    try clear c34b1
                                    try clear c34b2
                                    try clear c35
                                    try clear c35b0
                                    try clear c35b1
                                    try clear c35b2
                                    try clear c40
                                    try clear c40b0
                                    try clear c40b1
                                    try clear c40b2
                                    try clear c45
                                    try clear hx158_0
                                    try clear hx160_0
                                    try clear hx161_0
                                    try clear hx163_0
                                    try clear hx165_0
                                    try clear hx166_0
                                    try clear p1
                                    try clear p15
                                    try clear p158
                                    try clear p16
                                    try clear p160
                                    try clear p161
                                    try clear p163
                                    try clear p165
                                    try clear p166
                                    try clear p17
                                    try clear p2
                                    try clear p21
                                    try clear p6
                                    try clear q1
                                    try clear q15
                                    try clear q158
                                    try clear q16
                                    try clear q160
                                    try clear q161
                                    try clear q163
                                    try clear q165
                                    try clear q166
                                    try clear q17
                                    try clear q177
                                    try clear q178
                                    try clear q2
                                    try clear q21
                                    obtain ⟨x18_5, rfl, HA, HK5, HO_12, HO_15, HB⟩ := hrel
                                    cases gk with
                                    | zero => exact absurd HA.out (by simp [belvederelaw08_LexJoined.l3])
                                    | succ k5 =>
                                      have H := HA.out
                                      clear HA
                                      simp only [belvederelaw08_LexJoined.l3] at H
                                      by_cases c46 : x18_5 < (t167.length : Int)
                                      · rw [if_pos c46] at H
                                        have c46b0 : decide (x18_5 < (t167.length : Int)) = true := decide_eq_true c46
                                        clear c46
                                        by_cases c47 : 0 ≤ x18_5
                                        · rw [if_pos c47] at H
                                          have c47b0 : decide (0 ≤ x18_5) = true := decide_eq_true c47
                                          clear c47
                                          by_cases c48 : x18_5 < (t172.length : Int)
                                          · rw [if_pos c48] at H
                                            have c48b0 : decide (x18_5 < (t172.length : Int)) = true := decide_eq_true c48
                                            clear c48
                                            by_cases c49 : ((rd_T30 t167 x18_5).f1).toList = ((rd_T30 t172 x18_5).f1).toList
                                            · rw [if_pos c49] at H
                                              have c49b0 : (((rd_T30 t167 x18_5).f1).toList == ((rd_T30 t172 x18_5).f1).toList) = true := beq_iff_eq.mpr c49
                                              have c49b1 : (((rd_T30 t167 x18_5).f1).toList != ((rd_T30 t172 x18_5).f1).toList) = false := bne_eq_false_iff_eq.mpr c49
                                              clear c49
                                              have H' := Aside0.mk H
                                              clear H
                                              obtain ⟨Ao50, co50, eo50⟩ := Kd.R_slice HO_12.out
                                              subst eo50
                                              have p179 : 0 ≤ (x18_5 : Int) := of_decide_eq_true (by first | (with_reducible assumption) | assumption)
                                              have q179 : x18_5 < (t167.length : Int) := of_decide_eq_true (by first | (with_reducible assumption) | assumption)
                                              obtain ⟨ad179, e179, hx179_0, hx179_1⟩ := at_T30 (Kd.R_reads' HO_12.out).2.2 x18_5 p179 q179
                                              cases e179
                                              replace p179 := eq_true p179
                                              replace q179 := eq_true q179
                                              obtain ⟨Ao51, co51, eo51⟩ := Kd.R_slice HO_15.out
                                              subst eo51
                                              have p180 : 0 ≤ (x18_5 : Int) := of_decide_eq_true (by first | (with_reducible assumption) | assumption)
                                              have q180 : x18_5 < (t172.length : Int) := of_decide_eq_true (by first | (with_reducible assumption) | assumption)
                                              obtain ⟨ad180, e180, hx180_0, hx180_1⟩ := at_T30 (Kd.R_reads' HO_15.out).2.2 x18_5 p180 q180
                                              cases e180
                                              replace p180 := eq_true p180
                                              replace q180 := eq_true q180
                                              go_wp2
                                              repeat (go_quiet (fail); try go_wp2)
                                              go_roundg k5
                                              case measure => have := HJ2.out; have := HK2.out; have := HK3.out; have := HJ36.out; have := HK5.out; omega
                                              case rel => exact ⟨(wrap64 (x18_5 + 1)), (by first | rfl | (simp; done) | (simp [*]; done)), H', ⟨by have := HJ2.out; have := HK2.out; have := HK3.out; have := HJ36.out; have := HK5.out; omega⟩, ⟨by (with_reducible repeat (first | apply Kd.R_alloc | apply Kd.R_drewN | apply Kd.R_drew)); exact HO_12.out⟩, ⟨by (with_reducible repeat (first | apply Kd.R_alloc | apply Kd.R_drewN | apply Kd.R_drew)); exact HO_15.out⟩, ⟨by repeat (first | (with_reducible first | exact HB.out | apply below_alloc | apply pw_below_drewN | apply below_drew1) | exact HB.out)⟩⟩
                                            · rw [if_neg c49] at H
                                              have c49b0 : (((rd_T30 t167 x18_5).f1).toList == ((rd_T30 t172 x18_5).f1).toList) = false := beq_eq_false_iff_ne.mpr c49
                                              have c49b1 : (((rd_T30 t167 x18_5).f1).toList != ((rd_T30 t172 x18_5).f1).toList) = true := bne_iff_ne.mpr c49
                                              obtain rfl := Option.some.inj H
                                              obtain ⟨Ao52, co52, eo52⟩ := Kd.R_slice HO_12.out
                                              subst eo52
                                              have p179 : 0 ≤ (x18_5 : Int) := of_decide_eq_true (by first | (with_reducible assumption) | assumption)
                                              have q179 : x18_5 < (t167.length : Int) := of_decide_eq_true (by first | (with_reducible assumption) | assumption)
                                              obtain ⟨ad179, e179, hx179_0, hx179_1⟩ := at_T30 (Kd.R_reads' HO_12.out).2.2 x18_5 p179 q179
                                              cases e179
                                              replace p179 := eq_true p179
                                              replace q179 := eq_true q179
                                              obtain ⟨Ao53, co53, eo53⟩ := Kd.R_slice HO_15.out
                                              subst eo53
                                              have p180 : 0 ≤ (x18_5 : Int) := of_decide_eq_true (by first | (with_reducible assumption) | assumption)
                                              have q180 : x18_5 < (t172.length : Int) := of_decide_eq_true (by first | (with_reducible assumption) | assumption)
                                              obtain ⟨ad180, e180, hx180_0, hx180_1⟩ := at_T30 (Kd.R_reads' HO_15.out).2.2 x18_5 p180 q180
                                              cases e180
                                              replace p180 := eq_true p180
                                              replace q180 := eq_true q180
                                              go_wp2
                                              repeat (go_quiet (fail); try go_wp2)
                                              go_ret
                                              exact ⟨by first | rfl | (simp [errW_none, errW_some] <;> rfl) | (simp [*, errW_none, errW_some] <;> rfl), by repeat (first | (with_reducible first | exact HB.out | apply below_alloc | apply pw_below_drewN | apply below_drew1) | exact HB.out)⟩
                                          · rw [if_neg c48] at H
                                            exact absurd H (by simp)
                                        · rw [if_neg c47] at H
                                          exact absurd H (by simp)
                                      · rw [if_neg c46] at H
                                        have c46b0 : decide (x18_5 < (t167.length : Int)) = false := decide_eq_false c46
                                        clear c46
                                        obtain ⟨ji54, hji54⟩ : ∃ j_ : Int, (wrap64 ((t172.length : Int) - 1)) = j_ := ⟨_, rfl⟩
                                        replace H : (if 0 ≤ (ji54) then (if (ji54) < (t172.length : Int) then (if ((rd_T30 t172 (ji54)).f1).toList = ([108, 97, 115, 116] : List UInt8) then (if ((rd_T30 t172 (ji54)).f0) = (wrap64 ((wrap64 ((wrap64 (Int.tmod (IntKind.u64.wrap (a1)) 5)) + (l0.length : Int))) + 1)) then (if (t172.length : Int) = 1 then ((belvederelaw08_sure.f k5).bind fun t183 => (some t183)) else (if 0 < (t172.length : Int) then (if ((rd_T30 t172 0).f0) = (wrap64 ((wrap64 (Int.tmod (IntKind.u64.wrap (a1)) 5)) + 1)) then ((belvederelaw08_sure.f k5).bind fun t185 => (some t185)) else (some false)) else (none))) else (some false)) else (some false)) else (none)) else (none)) = some r := by first | (rw [hji54] at H; exact H) | (simp only [hji54] at H ⊢; exact H)
                                        have hji54w : (IntKind.i64.wrap ((t172.length : Int) - 1)) = ji54 := (i64_w _).trans hji54
                                        by_cases c55 : 0 ≤ (ji54)
                                        · rw [if_pos c55] at H
                                          have c55b0 : decide (0 ≤ (ji54)) = true := decide_eq_true c55
                                          clear c55
                                          by_cases c56 : (ji54) < (t172.length : Int)
                                          · rw [if_pos c56] at H
                                            have c56b0 : decide ((ji54) < (t172.length : Int)) = true := decide_eq_true c56
                                            clear c56
                                            by_cases c57 : ((rd_T30 t172 (ji54)).f1).toList = ([108, 97, 115, 116] : List UInt8)
                                            · rw [if_pos c57] at H
                                              have c57b0 : (((rd_T30 t172 (ji54)).f1).toList == ([108, 97, 115, 116] : List UInt8)) = true := beq_iff_eq.mpr c57
                                              have c57b1 : (((rd_T30 t172 (ji54)).f1).toList != ([108, 97, 115, 116] : List UInt8)) = false := bne_eq_false_iff_eq.mpr c57
                                              clear c57
                                              by_cases c58 : ((rd_T30 t172 (ji54)).f0) = (wrap64 ((wrap64 ((wrap64 (Int.tmod (IntKind.u64.wrap (a1)) 5)) + (l0.length : Int))) + 1))
                                              · rw [if_pos c58] at H
                                                have c58b0 : (((rd_T30 t172 (ji54)).f0) == (wrap64 ((wrap64 ((wrap64 (Int.tmod (IntKind.u64.wrap (a1)) 5)) + (l0.length : Int))) + 1))) = true := beq_iff_eq.mpr c58
                                                have c58b1 : (((rd_T30 t172 (ji54)).f0) != (wrap64 ((wrap64 ((wrap64 (Int.tmod (IntKind.u64.wrap (a1)) 5)) + (l0.length : Int))) + 1))) = false := bne_eq_false_iff_eq.mpr c58
                                                clear c58
                                                by_cases c59 : (t172.length : Int) = 1
                                                · rw [if_pos c59] at H
                                                  have c59b0 : ((t172.length : Int) == 1) = true := beq_iff_eq.mpr c59
                                                  have c59b1 : ((t172.length : Int) != 1) = false := bne_eq_false_iff_eq.mpr c59
                                                  clear c59
                                                  replace H := Option.bind_eq_some_iff.mp H
                                                  obtain ⟨t183, A600, H⟩ := H
                                                  replace H : (some t183) = some r := H
                                                  have A60 := Aside0.mk A600
                                                  clear A600
                                                  obtain rfl := Option.some.inj H
                                                  obtain ⟨Ao61, co61, eo61⟩ := Kd.R_slice HO_12.out
                                                  subst eo61
                                                  obtain ⟨Ao62, co62, eo62⟩ := Kd.R_slice HO_15.out
                                                  subst eo62
                                                  have p181 : 0 ≤ ((ji54) : Int) := of_decide_eq_true (by first | (with_reducible assumption) | assumption)
                                                  have q181 : (ji54) < (t172.length : Int) := of_decide_eq_true (by first | (with_reducible assumption) | assumption)
                                                  obtain ⟨ad181, e181, hx181_0, hx181_1⟩ := at_T30 (Kd.R_reads' HO_15.out).2.2 (ji54) p181 q181
                                                  cases e181
                                                  replace p181 := eq_true p181
                                                  replace q181 := eq_true q181
                                                  have p182 : 0 ≤ ((ji54) : Int) := of_decide_eq_true (by first | (with_reducible assumption) | assumption)
                                                  have q182 : (ji54) < (t172.length : Int) := of_decide_eq_true (by first | (with_reducible assumption) | assumption)
                                                  obtain ⟨ad182, e182, hx182_0, hx182_1⟩ := at_T30 (Kd.R_reads' HO_15.out).2.2 (ji54) p182 q182
                                                  obtain rfl : ad181 = ad182 := (by injection e182)
                                                  replace p182 := eq_true p182
                                                  replace q182 := eq_true q182
                                                  go_wp2_with (first | (go_at_call 6; (with_reducible refine (belvederelaw08_sure.calls k5  t183 _ ?side1 A60.out).mono ?_); (case side1 => first | exact HG.out | exact Glob.below HG.out (by repeat (first | (with_reducible first | exact HB.out | apply below_alloc | apply pw_below_drewN | apply below_drew1) | exact HB.out))); rintro e w63 ⟨rfl, hb⟩; have n0_ := Aside0.mk (Kd.R_below (by (with_reducible repeat (first | apply Kd.R_alloc | apply Kd.R_drewN | apply Kd.R_drew)); exact HO_12.out) hb); have n1_ := Aside0.mk (Kd.R_below (by (with_reducible repeat (first | apply Kd.R_alloc | apply Kd.R_drewN | apply Kd.R_drew)); exact HO_15.out) hb); have n2_ := Aside0.mk (below_step (by repeat (first | (with_reducible first | exact HB.out | apply below_alloc | apply pw_below_drewN | apply below_drew1) | exact HB.out)) hb); clear HO_12; clear HO_15; clear HB; have HO_12 := n0_; have HO_15 := n1_; have HB := n2_; clear n0_ n1_ n2_; (try clear hb); (try clear hb2); (try clear hk); (try clear hi)))
                                                  repeat (go_quiet (first | (go_at_call 6; (with_reducible refine (belvederelaw08_sure.calls k5  t183 _ ?side1 A60.out).mono ?_); (case side1 => first | exact HG.out | exact Glob.below HG.out (by repeat (first | (with_reducible first | exact HB.out | apply below_alloc | apply pw_below_drewN | apply below_drew1) | exact HB.out))); rintro e w63 ⟨rfl, hb⟩; have n0_ := Aside0.mk (Kd.R_below (by (with_reducible repeat (first | apply Kd.R_alloc | apply Kd.R_drewN | apply Kd.R_drew)); exact HO_12.out) hb); have n1_ := Aside0.mk (Kd.R_below (by (with_reducible repeat (first | apply Kd.R_alloc | apply Kd.R_drewN | apply Kd.R_drew)); exact HO_15.out) hb); have n2_ := Aside0.mk (below_step (by repeat (first | (with_reducible first | exact HB.out | apply below_alloc | apply pw_below_drewN | apply below_drew1) | exact HB.out)) hb); clear HO_12; clear HO_15; clear HB; have HO_12 := n0_; have HO_15 := n1_; have HB := n2_; clear n0_ n1_ n2_; (try clear hb); (try clear hb2); (try clear hk); (try clear hi))); try go_wp2_with (first | (go_at_call 6; (with_reducible refine (belvederelaw08_sure.calls k5  t183 _ ?side1 A60.out).mono ?_); (case side1 => first | exact HG.out | exact Glob.below HG.out (by repeat (first | (with_reducible first | exact HB.out | apply below_alloc | apply pw_below_drewN | apply below_drew1) | exact HB.out))); rintro e w63 ⟨rfl, hb⟩; have n0_ := Aside0.mk (Kd.R_below (by (with_reducible repeat (first | apply Kd.R_alloc | apply Kd.R_drewN | apply Kd.R_drew)); exact HO_12.out) hb); have n1_ := Aside0.mk (Kd.R_below (by (with_reducible repeat (first | apply Kd.R_alloc | apply Kd.R_drewN | apply Kd.R_drew)); exact HO_15.out) hb); have n2_ := Aside0.mk (below_step (by repeat (first | (with_reducible first | exact HB.out | apply below_alloc | apply pw_below_drewN | apply below_drew1) | exact HB.out)) hb); clear HO_12; clear HO_15; clear HB; have HO_12 := n0_; have HO_15 := n1_; have HB := n2_; clear n0_ n1_ n2_; (try clear hb); (try clear hb2); (try clear hk); (try clear hi))))
                                                  go_ret
                                                  exact ⟨by first | rfl | (simp [errW_none, errW_some] <;> rfl) | (simp only [← hji54]; first | rfl | (simp [errW_none, errW_some] <;> rfl)) | (simp [*, errW_none, errW_some] <;> rfl), by repeat (first | (with_reducible first | exact HB.out | apply below_alloc | apply pw_below_drewN | apply below_drew1) | exact HB.out)⟩
                                                · rw [if_neg c59] at H
                                                  have c59b0 : ((t172.length : Int) == 1) = false := beq_eq_false_iff_ne.mpr c59
                                                  have c59b1 : ((t172.length : Int) != 1) = true := bne_iff_ne.mpr c59
                                                  by_cases c64 : 0 < (t172.length : Int)
                                                  · rw [if_pos c64] at H
                                                    have c64b0 : decide (0 < (t172.length : Int)) = true := decide_eq_true c64
                                                    have c64b1 : decide (0 < t172.length) = true := decide_eq_true (by omega)
                                                    clear c64
                                                    by_cases c65 : ((rd_T30 t172 0).f0) = (wrap64 ((wrap64 (Int.tmod (IntKind.u64.wrap (a1)) 5)) + 1))
                                                    · rw [if_pos c65] at H
                                                      have c65b0 : (((rd_T30 t172 0).f0) == (wrap64 ((wrap64 (Int.tmod (IntKind.u64.wrap (a1)) 5)) + 1))) = true := beq_iff_eq.mpr c65
                                                      have c65b1 : (((rd_T30 t172 0).f0) != (wrap64 ((wrap64 (Int.tmod (IntKind.u64.wrap (a1)) 5)) + 1))) = false := bne_eq_false_iff_eq.mpr c65
                                                      clear c65
                                                      replace H := Option.bind_eq_some_iff.mp H
                                                      obtain ⟨t185, A660, H⟩ := H
                                                      replace H : (some t185) = some r := H
                                                      have A66 := Aside0.mk A660
                                                      clear A660
                                                      obtain rfl := Option.some.inj H
                                                      obtain ⟨Ao67, co67, eo67⟩ := Kd.R_slice HO_12.out
                                                      subst eo67
                                                      obtain ⟨Ao68, co68, eo68⟩ := Kd.R_slice HO_15.out
                                                      subst eo68
                                                      have p181 : 0 ≤ ((ji54) : Int) := of_decide_eq_true (by first | (with_reducible assumption) | assumption)
                                                      have q181 : (ji54) < (t172.length : Int) := of_decide_eq_true (by first | (with_reducible assumption) | assumption)
                                                      obtain ⟨ad181, e181, hx181_0, hx181_1⟩ := at_T30 (Kd.R_reads' HO_15.out).2.2 (ji54) p181 q181
                                                      cases e181
                                                      replace p181 := eq_true p181
                                                      replace q181 := eq_true q181
                                                      have p182 : 0 ≤ ((ji54) : Int) := of_decide_eq_true (by first | (with_reducible assumption) | assumption)
                                                      have q182 : (ji54) < (t172.length : Int) := of_decide_eq_true (by first | (with_reducible assumption) | assumption)
                                                      obtain ⟨ad182, e182, hx182_0, hx182_1⟩ := at_T30 (Kd.R_reads' HO_15.out).2.2 (ji54) p182 q182
                                                      obtain rfl : ad181 = ad182 := (by injection e182)
                                                      replace p182 := eq_true p182
                                                      replace q182 := eq_true q182
                                                      have p184 : 0 ≤ (0 : Int) := (by omega)
                                                      have q184 : 0 < (t172.length : Int) := of_decide_eq_true (by first | (with_reducible assumption) | assumption)
                                                      obtain ⟨ad184, e184, hx184_0, hx184_1⟩ := at_T30 (Kd.R_reads' HO_15.out).2.2 0 p184 q184
                                                      obtain rfl : ad181 = ad184 := (by injection e184)
                                                      have qi184 : (0 < t172.length) = True := eq_true (by omega)
                                                      (try rw [show ((0 : Int)).toNat = 0 from rfl] at hx184_0)
                                                      (try rw [show 0 * 2 = 0 from rfl] at hx184_0)
                                                      (try rw [Addr.add_zero'] at hx184_0)
                                                      (try rw [show ((0 : Int)).toNat = 0 from rfl] at hx184_1)
                                                      (try rw [show 0 * 2 = 0 from rfl] at hx184_1)
                                                      (try rw [Addr.add_zero'] at hx184_1)
                                                      replace p184 := eq_true p184
                                                      replace q184 := eq_true q184
                                                      go_wp2_with (first | (go_at_call 6; (with_reducible refine (belvederelaw08_sure.calls k5  t185 _ ?side1 A66.out).mono ?_); (case side1 => first | exact HG.out | exact Glob.below HG.out (by repeat (first | (with_reducible first | exact HB.out | apply below_alloc | apply pw_below_drewN | apply below_drew1) | exact HB.out))); rintro e w69 ⟨rfl, hb⟩; have n0_ := Aside0.mk (Kd.R_below (by (with_reducible repeat (first | apply Kd.R_alloc | apply Kd.R_drewN | apply Kd.R_drew)); exact HO_12.out) hb); have n1_ := Aside0.mk (Kd.R_below (by (with_reducible repeat (first | apply Kd.R_alloc | apply Kd.R_drewN | apply Kd.R_drew)); exact HO_15.out) hb); have n2_ := Aside0.mk (below_step (by repeat (first | (with_reducible first | exact HB.out | apply below_alloc | apply pw_below_drewN | apply below_drew1) | exact HB.out)) hb); clear HO_12; clear HO_15; clear HB; have HO_12 := n0_; have HO_15 := n1_; have HB := n2_; clear n0_ n1_ n2_; (try clear hb); (try clear hb2); (try clear hk); (try clear hi)))
                                                      repeat (go_quiet (first | (go_at_call 6; (with_reducible refine (belvederelaw08_sure.calls k5  t185 _ ?side1 A66.out).mono ?_); (case side1 => first | exact HG.out | exact Glob.below HG.out (by repeat (first | (with_reducible first | exact HB.out | apply below_alloc | apply pw_below_drewN | apply below_drew1) | exact HB.out))); rintro e w69 ⟨rfl, hb⟩; have n0_ := Aside0.mk (Kd.R_below (by (with_reducible repeat (first | apply Kd.R_alloc | apply Kd.R_drewN | apply Kd.R_drew)); exact HO_12.out) hb); have n1_ := Aside0.mk (Kd.R_below (by (with_reducible repeat (first | apply Kd.R_alloc | apply Kd.R_drewN | apply Kd.R_drew)); exact HO_15.out) hb); have n2_ := Aside0.mk (below_step (by repeat (first | (with_reducible first | exact HB.out | apply below_alloc | apply pw_below_drewN | apply below_drew1) | exact HB.out)) hb); clear HO_12; clear HO_15; clear HB; have HO_12 := n0_; have HO_15 := n1_; have HB := n2_; clear n0_ n1_ n2_; (try clear hb); (try clear hb2); (try clear hk); (try clear hi))); try go_wp2_with (first | (go_at_call 6; (with_reducible refine (belvederelaw08_sure.calls k5  t185 _ ?side1 A66.out).mono ?_); (case side1 => first | exact HG.out | exact Glob.below HG.out (by repeat (first | (with_reducible first | exact HB.out | apply below_alloc | apply pw_below_drewN | apply below_drew1) | exact HB.out))); rintro e w69 ⟨rfl, hb⟩; have n0_ := Aside0.mk (Kd.R_below (by (with_reducible repeat (first | apply Kd.R_alloc | apply Kd.R_drewN | apply Kd.R_drew)); exact HO_12.out) hb); have n1_ := Aside0.mk (Kd.R_below (by (with_reducible repeat (first | apply Kd.R_alloc | apply Kd.R_drewN | apply Kd.R_drew)); exact HO_15.out) hb); have n2_ := Aside0.mk (below_step (by repeat (first | (with_reducible first | exact HB.out | apply below_alloc | apply pw_below_drewN | apply below_drew1) | exact HB.out)) hb); clear HO_12; clear HO_15; clear HB; have HO_12 := n0_; have HO_15 := n1_; have HB := n2_; clear n0_ n1_ n2_; (try clear hb); (try clear hb2); (try clear hk); (try clear hi))))
                                                      go_ret
                                                      exact ⟨by first | rfl | (simp [errW_none, errW_some] <;> rfl) | (simp only [← hji54]; first | rfl | (simp [errW_none, errW_some] <;> rfl)) | (simp [*, errW_none, errW_some] <;> rfl), by repeat (first | (with_reducible first | exact HB.out | apply below_alloc | apply pw_below_drewN | apply below_drew1) | exact HB.out)⟩
                                                    · rw [if_neg c65] at H
                                                      have c65b0 : (((rd_T30 t172 0).f0) == (wrap64 ((wrap64 (Int.tmod (IntKind.u64.wrap (a1)) 5)) + 1))) = false := beq_eq_false_iff_ne.mpr c65
                                                      have c65b1 : (((rd_T30 t172 0).f0) != (wrap64 ((wrap64 (Int.tmod (IntKind.u64.wrap (a1)) 5)) + 1))) = true := bne_iff_ne.mpr c65
                                                      obtain rfl := Option.some.inj H
                                                      obtain ⟨Ao70, co70, eo70⟩ := Kd.R_slice HO_12.out
                                                      subst eo70
                                                      obtain ⟨Ao71, co71, eo71⟩ := Kd.R_slice HO_15.out
                                                      subst eo71
                                                      have p181 : 0 ≤ ((ji54) : Int) := of_decide_eq_true (by first | (with_reducible assumption) | assumption)
                                                      have q181 : (ji54) < (t172.length : Int) := of_decide_eq_true (by first | (with_reducible assumption) | assumption)
                                                      obtain ⟨ad181, e181, hx181_0, hx181_1⟩ := at_T30 (Kd.R_reads' HO_15.out).2.2 (ji54) p181 q181
                                                      cases e181
                                                      replace p181 := eq_true p181
                                                      replace q181 := eq_true q181
                                                      have p182 : 0 ≤ ((ji54) : Int) := of_decide_eq_true (by first | (with_reducible assumption) | assumption)
                                                      have q182 : (ji54) < (t172.length : Int) := of_decide_eq_true (by first | (with_reducible assumption) | assumption)
                                                      obtain ⟨ad182, e182, hx182_0, hx182_1⟩ := at_T30 (Kd.R_reads' HO_15.out).2.2 (ji54) p182 q182
                                                      obtain rfl : ad181 = ad182 := (by injection e182)
                                                      replace p182 := eq_true p182
                                                      replace q182 := eq_true q182
                                                      have p184 : 0 ≤ (0 : Int) := (by omega)
                                                      have q184 : 0 < (t172.length : Int) := of_decide_eq_true (by first | (with_reducible assumption) | assumption)
                                                      obtain ⟨ad184, e184, hx184_0, hx184_1⟩ := at_T30 (Kd.R_reads' HO_15.out).2.2 0 p184 q184
                                                      obtain rfl : ad181 = ad184 := (by injection e184)
                                                      have qi184 : (0 < t172.length) = True := eq_true (by omega)
                                                      (try rw [show ((0 : Int)).toNat = 0 from rfl] at hx184_0)
                                                      (try rw [show 0 * 2 = 0 from rfl] at hx184_0)
                                                      (try rw [Addr.add_zero'] at hx184_0)
                                                      (try rw [show ((0 : Int)).toNat = 0 from rfl] at hx184_1)
                                                      (try rw [show 0 * 2 = 0 from rfl] at hx184_1)
                                                      (try rw [Addr.add_zero'] at hx184_1)
                                                      replace p184 := eq_true p184
                                                      replace q184 := eq_true q184
                                                      go_wp2
                                                      repeat (go_quiet (fail); try go_wp2)
                                                      go_ret
                                                      exact ⟨by first | rfl | (simp [errW_none, errW_some] <;> rfl) | (simp only [← hji54]; first | rfl | (simp [errW_none, errW_some] <;> rfl)) | (simp [*, errW_none, errW_some] <;> rfl), by repeat (first | (with_reducible first | exact HB.out | apply below_alloc | apply pw_below_drewN | apply below_drew1) | exact HB.out)⟩
                                                  · rw [if_neg c64] at H
                                                    exact absurd H (by simp)
                                              · rw [if_neg c58] at H
                                                have c58b0 : (((rd_T30 t172 (ji54)).f0) == (wrap64 ((wrap64 ((wrap64 (Int.tmod (IntKind.u64.wrap (a1)) 5)) + (l0.length : Int))) + 1))) = false := beq_eq_false_iff_ne.mpr c58
                                                have c58b1 : (((rd_T30 t172 (ji54)).f0) != (wrap64 ((wrap64 ((wrap64 (Int.tmod (IntKind.u64.wrap (a1)) 5)) + (l0.length : Int))) + 1))) = true := bne_iff_ne.mpr c58
                                                obtain rfl := Option.some.inj H
                                                obtain ⟨Ao72, co72, eo72⟩ := Kd.R_slice HO_12.out
                                                subst eo72
                                                obtain ⟨Ao73, co73, eo73⟩ := Kd.R_slice HO_15.out
                                                subst eo73
                                                have p181 : 0 ≤ ((ji54) : Int) := of_decide_eq_true (by first | (with_reducible assumption) | assumption)
                                                have q181 : (ji54) < (t172.length : Int) := of_decide_eq_true (by first | (with_reducible assumption) | assumption)
                                                obtain ⟨ad181, e181, hx181_0, hx181_1⟩ := at_T30 (Kd.R_reads' HO_15.out).2.2 (ji54) p181 q181
                                                cases e181
                                                replace p181 := eq_true p181
                                                replace q181 := eq_true q181
                                                have p182 : 0 ≤ ((ji54) : Int) := of_decide_eq_true (by first | (with_reducible assumption) | assumption)
                                                have q182 : (ji54) < (t172.length : Int) := of_decide_eq_true (by first | (with_reducible assumption) | assumption)
                                                obtain ⟨ad182, e182, hx182_0, hx182_1⟩ := at_T30 (Kd.R_reads' HO_15.out).2.2 (ji54) p182 q182
                                                obtain rfl : ad181 = ad182 := (by injection e182)
                                                replace p182 := eq_true p182
                                                replace q182 := eq_true q182
                                                go_wp2
                                                repeat (go_quiet (fail); try go_wp2)
                                                go_ret
                                                exact ⟨by first | rfl | (simp [errW_none, errW_some] <;> rfl) | (simp only [← hji54]; first | rfl | (simp [errW_none, errW_some] <;> rfl)) | (simp [*, errW_none, errW_some] <;> rfl), by repeat (first | (with_reducible first | exact HB.out | apply below_alloc | apply pw_below_drewN | apply below_drew1) | exact HB.out)⟩
                                            · rw [if_neg c57] at H
                                              have c57b0 : (((rd_T30 t172 (ji54)).f1).toList == ([108, 97, 115, 116] : List UInt8)) = false := beq_eq_false_iff_ne.mpr c57
                                              have c57b1 : (((rd_T30 t172 (ji54)).f1).toList != ([108, 97, 115, 116] : List UInt8)) = true := bne_iff_ne.mpr c57
                                              obtain rfl := Option.some.inj H
                                              obtain ⟨Ao74, co74, eo74⟩ := Kd.R_slice HO_12.out
                                              subst eo74
                                              obtain ⟨Ao75, co75, eo75⟩ := Kd.R_slice HO_15.out
                                              subst eo75
                                              have p181 : 0 ≤ ((ji54) : Int) := of_decide_eq_true (by first | (with_reducible assumption) | assumption)
                                              have q181 : (ji54) < (t172.length : Int) := of_decide_eq_true (by first | (with_reducible assumption) | assumption)
                                              obtain ⟨ad181, e181, hx181_0, hx181_1⟩ := at_T30 (Kd.R_reads' HO_15.out).2.2 (ji54) p181 q181
                                              cases e181
                                              replace p181 := eq_true p181
                                              replace q181 := eq_true q181
                                              go_wp2
                                              repeat (go_quiet (fail); try go_wp2)
                                              go_ret
                                              exact ⟨by first | rfl | (simp [errW_none, errW_some] <;> rfl) | (simp only [← hji54]; first | rfl | (simp [errW_none, errW_some] <;> rfl)) | (simp [*, errW_none, errW_some] <;> rfl), by repeat (first | (with_reducible first | exact HB.out | apply below_alloc | apply pw_below_drewN | apply below_drew1) | exact HB.out)⟩
                                          · rw [if_neg c56] at H
                                            exact absurd H (by simp)
                                        · rw [if_neg c55] at H
                                          exact absurd H (by simp)
                          · rw [if_neg c35] at H
                            exact absurd H (by simp)
                        · rw [if_neg c34] at H
                          exact absurd H (by simp)
                      · rw [if_neg c32] at H
                        exact absurd H (by simp)
                    · rw [if_neg c31] at H
                      exact absurd H (by simp)

end Go.Proofs.YthccokfajpgllaaDoor.Pr
