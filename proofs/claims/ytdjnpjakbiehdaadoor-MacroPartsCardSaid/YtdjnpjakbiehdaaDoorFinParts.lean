/- MacroParts answers true, whatever the two texts and the macros: a walk over its callees' contracts. -/
import Derived.Test.YtdjnpjakbiehdaaDoorAt
import Derived.WalkLawsBesides
import Derived.BigQuiet
namespace Go.Proofs.YtdjnpjakbiehdaaDoor.Pr
open Go Go.RowKit
open Go.Proofs.YtdjnpjakbiehdaaDoorW.PrintWords Go.Proofs.YtdjnpjakbiehdaaDoorW.PrintLast
set_option linter.unusedVariables false

section
variable (s t : ByteArray) (A1 : Option Addr) (c1 : Nat) (l : List S49) (w : World)

theorem parts_sure1 (hG : Glob w) (h : 1000 < s.size) :
    Calls Tryd.prog 5 #[.string s, .string t, .slice A1 l.length c1] w fun e w' => e = .returned (.bool true) ∧ Below w.heap.size w w' := by
  have d1 : decide (1000 < (s.size : Int)) = true := decide_eq_true (by omega)
  have d2 : decide (1000 < s.size) = true := decide_eq_true h
  have hb := Below.refl w.heap.size w
  go_enter Tryd.func5, Tryd.ntmps5
  go_wp2_with (go_at_call 9; refine (sure_at hG hb).mono ?_; rintro e w' ⟨rfl, hb'⟩)
  go_ret
  exact ⟨rfl, hb'⟩
theorem parts_sure2 (hG : Glob w) (h0 : ¬ 1000 < s.size) (h : 1000 < t.size) :
    Calls Tryd.prog 5 #[.string s, .string t, .slice A1 l.length c1] w fun e w' => e = .returned (.bool true) ∧ Below w.heap.size w w' := by
  have d1 : decide (1000 < s.size) = false := decide_eq_false h0
  have d2 : decide (1000 < t.size) = true := decide_eq_true h
  have hb := Below.refl w.heap.size w
  go_enter Tryd.func5, Tryd.ntmps5
  go_wp2_with (go_at_call 9; refine (sure_at hG hb).mono ?_; rintro e w' ⟨rfl, hb'⟩)
  go_ret
  exact ⟨rfl, hb'⟩
theorem parts_sure3 (hG : Glob w) (h0 : ¬ 1000 < s.size) (h : ¬ 1000 < t.size) (hr1 : Kd.C k49 w A1 l.length l) (hc1 : l.length ≤ c1) (hh : Ev (fun k => belvederelaw21_huge.f k l) true) :
    Calls Tryd.prog 5 #[.string s, .string t, .slice A1 l.length c1] w fun e w' => e = .returned (.bool true) ∧ Below w.heap.size w w' := by
  have d1 : decide (1000 < s.size) = false := decide_eq_false h0
  have d2 : decide (1000 < t.size) = false := decide_eq_false h
  have cH := huge_at hr1 hc1 (Below.refl w.heap.size w) hh
  clear hr1
  go_enter Tryd.func5, Tryd.ntmps5
  go_wp2_with (first | (go_at_call 8; refine cH.mono ?_; rintro e w1 ⟨rfl, hb1⟩) | (go_at_call 9; refine (sure_at hG hb1).mono ?_; rintro e w' ⟨rfl, hb'⟩))
  go_ret
  exact ⟨rfl, hb'⟩

/-- the three calls of Expand -/
def ExpC (w : World) (n : Nat) (xs : List S37) (s : ByteArray) (v : Value) : Prop :=
  ∀ (W : World) (A : Option Addr) (c : Nat), Kd.C k37 W A n xs → n ≤ c → Below w.heap.size w W → Calls Tryd.prog 10 #[.string s, .slice A n c] W fun e w' => e = .returned v ∧ Below w.heap.size w w'
def GivC (w : World) (A1 : Option Addr) (m c1 n : Nat) (xs : List S37) : Prop :=
  ∀ (W : World), Below w.heap.size w W → Calls Tryd.prog 11 #[.slice A1 m c1] W fun e w' => ∃ A c, e = .returned (.slice A n c) ∧ Kd.C k37 w' A n xs ∧ n ≤ c ∧ Below w.heap.size w w'

set_option maxHeartbeats 1000000 in
set_option maxRecDepth 100000 in
theorem parts_errs (m n : Nat) (xs : List S37) (sa sb sc : ByteArray) (na nb : Int) (ec : Value) (hG : Glob w) (h0 : ¬ 1000 < s.size) (h : ¬ 1000 < t.size)
    (cH : Calls Tryd.prog 8 #[.slice A1 m c1] w fun e w' => e = .returned (.bool false) ∧ Below w.heap.size w w') (cG : GivC w A1 m c1 n xs)
    (cA : ExpC w n xs s (.tuple #[.string sa, errW (eW na)])) (cB : ExpC w n xs t (.tuple #[.string sb, errW (eW nb)])) (cC : ExpC w n xs (s ++ t) (.tuple #[.string sc, ec]))
    (ha : na = 0 ∨ na = 2 ∨ na = 3) (hb : nb = 0 ∨ nb = 2 ∨ nb = 3) (hne : ¬ (na = 0 ∧ nb = 0)) :
    Calls Tryd.prog 5 #[.string s, .string t, .slice A1 m c1] w fun e w' => e = .returned (.bool true) ∧ Below w.heap.size w w' := by
  have d1 : decide (1000 < (s.size : Int)) = false := decide_eq_false (by omega)
  have d2 : decide (1000 < (t.size : Int)) = false := decide_eq_false (by omega)
  have d3 : (s.size + t.size ≤ 9223372036854775807) = True := eq_true (by omega)
  have d4 : (9223372036854775807 < s.size + t.size) = False := eq_false (by omega)
  have hu := Tryd.underlying26
  have hu2 := Tryd.underlying56
  rcases ha with rfl | rfl | rfl <;> rcases hb with rfl | rfl | rfl
  all_goals first
    | exact absurd ⟨rfl, rfl⟩ hne
    | skip
  all_goals
    clear hne h0 h
    simp only [eW, if_true, errW_none, errW_some, show ¬ ((2 : Int) = 0) by decide, show ¬ ((3 : Int) = 0) by decide, if_false] at cA cB
    go_enter Tryd.func5, Tryd.ntmps5
    go_wp2_with fail
    refine cH.mono ?_
    rintro e w1 ⟨rfl, hb1⟩
    go_wp2_with fail
    refine (cG w1 hb1).mono ?_
    rintro e w2 ⟨A2, k2, rfl, hC2, hk2, hb2⟩
    go_wp2_with fail
    refine (cA w2 A2 k2 hC2 hk2 hb2).mono ?_
    rintro e w3 ⟨rfl, hb3⟩
    go_wp2_with fail
    refine (cG w3 hb3).mono ?_
    rintro e w4 ⟨A4, k4, rfl, hC4, hk4, hb4⟩
    go_wp2_with fail
    refine (cB w4 A4 k4 hC4 hk4 hb4).mono ?_
    rintro e w5 ⟨rfl, hb5⟩
    go_wp2_with fail
    refine (cG w5 hb5).mono ?_
    rintro e w6 ⟨A6, k6, rfl, hC6, hk6, hb6⟩
    go_wp2_with fail
    refine (cC w6 A6 k6 hC6 hk6 hb6).mono ?_
    rintro e w7 ⟨rfl, hb7⟩
    clear hC2 hC4 hC6
    go_wp2_with (first | (go_at_call 13; refine (num_at_some hG (by assumption) _).mono ?_; rintro e w8 ⟨rfl, hb8⟩) | (go_at_call 9; refine (sure_at hG (by assumption)).mono ?_; rintro e w9 ⟨rfl, hb9⟩))
    go_ret
    exact ⟨rfl, by assumption⟩

set_option maxHeartbeats 1000000 in
set_option maxRecDepth 100000 in
theorem parts_big (m n : Nat) (xs : List S37) (sa sb : ByteArray) (hG : Glob w) (h0 : ¬ 1000 < s.size) (h : ¬ 1000 < t.size) (hsa : sa.size ≤ 65536) (hsb : sb.size ≤ 65536)
    (cH : Calls Tryd.prog 8 #[.slice A1 m c1] w fun e w' => e = .returned (.bool false) ∧ Below w.heap.size w w') (cG : GivC w A1 m c1 n xs)
    (cA : ExpC w n xs s (.tuple #[.string sa, .nilIface])) (cB : ExpC w n xs t (.tuple #[.string sb, .nilIface]))
    (cC : ExpC w n xs (s ++ t) (.tuple #[.string ⟨#[]⟩, .iface 56 (.int .i64 2)])) (hbig : 65536 < sa.size + sb.size) :
    Calls Tryd.prog 5 #[.string s, .string t, .slice A1 m c1] w fun e w' => e = .returned (.bool true) ∧ Below w.heap.size w w' := by
  have d1 : decide (1000 < (s.size : Int)) = false := decide_eq_false (by omega)
  have d2 : decide (1000 < (t.size : Int)) = false := decide_eq_false (by omega)
  have d3 : (s.size + t.size ≤ 9223372036854775807) = True := eq_true (by omega)
  have d4 : (9223372036854775807 < s.size + t.size) = False := eq_false (by omega)
  have d5 : (sa.size + sb.size ≤ 9223372036854775807) = True := eq_true (by omega)
  have d6 : (9223372036854775807 < sa.size + sb.size) = False := eq_false (by omega)
  have hu := Tryd.underlying26
  have hu2 := Tryd.underlying56
  have d7 : decide (65536 < (sa.size : Int) + (sb.size : Int)) = true := decide_eq_true (by omega)
  have d8 : wrap64 ((sa.size : Int) + (sb.size : Int)) = (sa.size : Int) + (sb.size : Int) := by unfold wrap64; omega
  clear h0 h hbig
  go_enter Tryd.func5, Tryd.ntmps5
  go_wp2_with fail
  refine cH.mono ?_
  rintro e w1 ⟨rfl, hb1⟩
  go_wp2_with fail
  refine (cG w1 hb1).mono ?_
  rintro e w2 ⟨A2, k2, rfl, hC2, hk2, hb2⟩
  go_wp2_with fail
  refine (cA w2 A2 k2 hC2 hk2 hb2).mono ?_
  rintro e w3 ⟨rfl, hb3⟩
  go_wp2_with fail
  refine (cG w3 hb3).mono ?_
  rintro e w4 ⟨A4, k4, rfl, hC4, hk4, hb4⟩
  go_wp2_with fail
  refine (cB w4 A4 k4 hC4 hk4 hb4).mono ?_
  rintro e w5 ⟨rfl, hb5⟩
  go_wp2_with fail
  refine (cG w5 hb5).mono ?_
  rintro e w6 ⟨A6, k6, rfl, hC6, hk6, hb6⟩
  go_wp2_with fail
  refine (cC w6 A6 k6 hC6 hk6 hb6).mono ?_
  rintro e w7 ⟨rfl, hb7⟩
  clear hC2 hC4 hC6
  go_wp2_with (first | (go_at_call 13; refine (num_at_some hG (by assumption) _).mono ?_; rintro e w8 ⟨rfl, hb8⟩) | (go_at_call 9; refine (sure_at hG (by assumption)).mono ?_; rintro e w9 ⟨rfl, hb9⟩))
  go_ret
  exact ⟨rfl, by assumption⟩

set_option maxHeartbeats 1000000 in
set_option maxRecDepth 100000 in
theorem parts_fit (m n : Nat) (xs : List S37) (sa sb : ByteArray) (hG : Glob w) (h0 : ¬ 1000 < s.size) (h : ¬ 1000 < t.size) (hsa : sa.size ≤ 65536) (hsb : sb.size ≤ 65536)
    (cH : Calls Tryd.prog 8 #[.slice A1 m c1] w fun e w' => e = .returned (.bool false) ∧ Below w.heap.size w w') (cG : GivC w A1 m c1 n xs)
    (cA : ExpC w n xs s (.tuple #[.string sa, .nilIface])) (cB : ExpC w n xs t (.tuple #[.string sb, .nilIface]))
    (cC : ExpC w n xs (s ++ t) (.tuple #[.string (sa ++ sb), .nilIface])) (hbig : ¬ 65536 < sa.size + sb.size) :
    Calls Tryd.prog 5 #[.string s, .string t, .slice A1 m c1] w fun e w' => e = .returned (.bool true) ∧ Below w.heap.size w w' := by
  have d1 : decide (1000 < (s.size : Int)) = false := decide_eq_false (by omega)
  have d2 : decide (1000 < (t.size : Int)) = false := decide_eq_false (by omega)
  have d3 : (s.size + t.size ≤ 9223372036854775807) = True := eq_true (by omega)
  have d4 : (9223372036854775807 < s.size + t.size) = False := eq_false (by omega)
  have d5 : (sa.size + sb.size ≤ 9223372036854775807) = True := eq_true (by omega)
  have d6 : (9223372036854775807 < sa.size + sb.size) = False := eq_false (by omega)
  have hu := Tryd.underlying26
  have hu2 := Tryd.underlying56
  have d7 : decide (65536 < (sa.size : Int) + (sb.size : Int)) = false := decide_eq_false (by omega)
  have d8 : wrap64 ((sa.size : Int) + (sb.size : Int)) = (sa.size : Int) + (sb.size : Int) := by unfold wrap64; omega
  clear h0 h hbig
  go_enter Tryd.func5, Tryd.ntmps5
  go_wp2_with fail
  refine cH.mono ?_
  rintro e w1 ⟨rfl, hb1⟩
  go_wp2_with fail
  refine (cG w1 hb1).mono ?_
  rintro e w2 ⟨A2, k2, rfl, hC2, hk2, hb2⟩
  go_wp2_with fail
  refine (cA w2 A2 k2 hC2 hk2 hb2).mono ?_
  rintro e w3 ⟨rfl, hb3⟩
  go_wp2_with fail
  refine (cG w3 hb3).mono ?_
  rintro e w4 ⟨A4, k4, rfl, hC4, hk4, hb4⟩
  go_wp2_with fail
  refine (cB w4 A4 k4 hC4 hk4 hb4).mono ?_
  rintro e w5 ⟨rfl, hb5⟩
  go_wp2_with fail
  refine (cG w5 hb5).mono ?_
  rintro e w6 ⟨A6, k6, rfl, hC6, hk6, hb6⟩
  go_wp2_with fail
  refine (cC w6 A6 k6 hC6 hk6 hb6).mono ?_
  rintro e w7 ⟨rfl, hb7⟩
  clear hC2 hC4 hC6
  go_wp2_with (first | (go_at_call 13; refine (num_at_some hG (by assumption) _).mono ?_; rintro e w8 ⟨rfl, hb8⟩) | (go_at_call 9; refine (sure_at hG (by assumption)).mono ?_; rintro e w9 ⟨rfl, hb9⟩))
  go_ret
  exact ⟨rfl, by assumption⟩

theorem expd_len (L : List (Mac.B × Mac.B)) (x : Mac.B) : (Mac.expd L x).1.length ≤ 65536 := by
  rw [Mac.expd_ref L x []]
  split
  · simp
  split
  · simp
  · cases e : Mac.refSt L x [] [] false with
    | none => rw [Mac.refGo_st, e]; simp [Mac.res]
    | some y =>
      obtain ⟨o, n, i⟩ := y
      rw [Mac.refGo_st, e]
      have := (Mac.refSt_shift L [] x [] [] false o n i e).2.2 (by simp)
      rw [List.nil_append, e] at this
      by_cases hb : ([] : Mac.B).length + o.length > 65536
      · rw [if_pos hb] at this; cases this
      · simp at hb; simpa [Mac.res] using hb

theorem final_MacroParts (_hs : s.size ≤ 140737488351232) (_ht : t.size ≤ 140737488351232) (hr1 : Kd.C k49 w A1 l.length l) (hc1 : l.length ≤ c1) (hG : Glob w) :
    Calls Tryd.prog 5 #[.string s, .string t, .slice A1 l.length c1] w fun e w' => e = .returned (.bool true) ∧ Below w.heap.size w w' := by
  by_cases h1 : 1000 < s.size
  · exact parts_sure1 s t A1 c1 l w hG h1
  by_cases h2 : 1000 < t.size
  · exact parts_sure2 s t A1 c1 l w hG h1 h2
  obtain ⟨b, hb, hh⟩ := huge_ev l
  cases b
  case true => exact parts_sure3 s t A1 c1 l w hG h1 h2 hr1 hc1 hb
  obtain ⟨hl, _⟩ := hh rfl
  have cH := huge_at hr1 hc1 (Below.refl w.heap.size w) hb
  have cG : GivC w A1 l.length c1 (l.map conv).length (l.map conv) := fun W hW => give_at hr1 hc1 hl hW
  have cX : ∀ x : ByteArray, ExpC w (l.map conv).length (l.map conv) x (.tuple #[.string ⟨(Mac.expd (l.map mac9) (bl x)).1.toArray⟩, errW (eW (Mac.expd (l.map mac9) (bl x)).2)]) := fun x W A c hC hc hW => by
    rw [← mac_conv l]; exact expand_at hG x hC hc hW
  have cA := cX s
  have cB := cX t
  have cC := cX (s ++ t)
  clear cX hr1
  have ea := Mac.expd_err (l.map mac9) (bl s)
  have eb := Mac.expd_err (l.map mac9) (bl t)
  by_cases hz : (Mac.expd (l.map mac9) (bl s)).2 = 0 ∧ (Mac.expd (l.map mac9) (bl t)).2 = 0
  · obtain ⟨za, zb⟩ := hz
    have hp := Mac.expd_parts (l.map mac9) (bl s) (bl t) (by have := bl_size s; have := bl_size t; simp; omega) za zb
    rw [← bl_append] at hp
    have la := expd_len (l.map mac9) (bl s)
    have la' : (⟨(Mac.expd (l.map mac9) (bl s)).1.toArray⟩ : ByteArray).size ≤ 65536 := la
    have lb := expd_len (l.map mac9) (bl t)
    have lb' : (⟨(Mac.expd (l.map mac9) (bl t)).1.toArray⟩ : ByteArray).size ≤ 65536 := lb
    rw [za] at cA
    rw [zb] at cB
    rw [hp] at cC
    by_cases hbig : (Mac.expd (l.map mac9) (bl s)).1.length + (Mac.expd (l.map mac9) (bl t)).1.length > 65536
    · rw [if_pos hbig] at cC
      exact parts_big s t A1 c1 w l.length _ _ ⟨_⟩ ⟨_⟩ hG h1 h2 la' lb' cH cG cA cB cC hbig
    · rw [if_neg hbig] at cC
      have e1 : (⟨((Mac.expd (l.map mac9) (bl s)).1 ++ (Mac.expd (l.map mac9) (bl t)).1).toArray⟩ : ByteArray) = ⟨(Mac.expd (l.map mac9) (bl s)).1.toArray⟩ ++ ⟨(Mac.expd (l.map mac9) (bl t)).1.toArray⟩ := ba_eq (by rw [bl_append]; rfl)
      rw [e1] at cC
      exact parts_fit s t A1 c1 w l.length _ _ ⟨_⟩ ⟨_⟩ hG h1 h2 la' lb' cH cG cA cB cC hbig
  · exact parts_errs s t A1 c1 w l.length _ _ _ _ _ _ _ _ hG h1 h2 cH cG cA cB cC (by omega) (by omega) hz
end
end Go.Proofs.YtdjnpjakbiehdaaDoor.Pr
