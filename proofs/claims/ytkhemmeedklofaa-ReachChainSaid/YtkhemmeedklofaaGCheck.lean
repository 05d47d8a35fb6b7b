/- graph.Check at ways that are all places: no error. -/
import Derived.Test.YtkhemmeedklofaaPr0
import Derived.Test.YtkhemmeedklofaaShelf
import Derived.Lib.Hide
import Derived.BigQuiet
namespace Go.Proofs.Ytkhemmeedklofaa.Pr
open Go Go.RowKit Go.Shelf
open Go.Proofs.YtkhemmeedklofaaW.PrintWords Go.Proofs.YtkhemmeedklofaaW.PrintLast
set_option linter.unusedVariables false
set_option linter.unusedSimpArgs false

def away (n : Int) (x : S42) : Bool := decide (x.f0 < 0) || decide (n ≤ x.f0) || decide (x.f1 < 0) || decide (n ≤ x.f1)
def inR (n : Int) (x : S42) : Prop := (0 ≤ x.f0 ∧ x.f0 < n) ∧ 0 ≤ x.f1 ∧ x.f1 < n
theorem away_of {n : Int} {x : S42} (h : inR n x) : away n x = false := by
  obtain ⟨⟨a, b⟩, c, d⟩ := h
  unfold away
  rw [decide_eq_false (by omega), decide_eq_false (by omega), decide_eq_false (by omega), decide_eq_false (by omega)]; rfl
set_option maxHeartbeats 2000000 in
theorem away_calls (n : Int) (nb : Nat) (a b : Int) (W : World) (h : W.cell? ⟨nb, 0, none⟩ = some (.int .i64 n)) :
    Calls Try.prog 24 #[.agg #[.int .i64 a, .int .i64 b], .pointer (some ⟨nb, 0, none⟩)] W fun e w' => e = .returned (.bool (away n ⟨a, b⟩)) ∧ Below W.heap.size W w' := by
  have hlt : nb < W.heap.size := World.block_lt_of_cell? W _ h
  have h' : (W.alloc (.cells #[.int .i64 a, .int .i64 b] 42)).cell? ⟨nb, 0, none⟩ = some (.int .i64 n) := (World.cell?_alloc_lt _ _ ⟨nb, 0, none⟩ hlt).trans h
  unfold away
  by_cases c1 : a < 0
  · have d1 : decide (a < 0) = true := decide_eq_true c1
    clear c1
    go_enter Try.func24, Try.ntmps24
    go_wp2
    go_ret
    exact ⟨by simp [d1], (Below.refl _ _).alloc (Nat.le_refl _) _⟩
  have d1 : decide (a < 0) = false := decide_eq_false c1
  by_cases c2 : n ≤ a
  · have d2 : decide (n ≤ a) = true := decide_eq_true c2
    clear c1 c2
    go_enter Try.func24, Try.ntmps24
    go_wp2
    go_ret
    exact ⟨by simp [d1, d2], (Below.refl _ _).alloc (Nat.le_refl _) _⟩
  have d2 : decide (n ≤ a) = false := decide_eq_false c2
  by_cases c3 : b < 0
  · have d3 : decide (b < 0) = true := decide_eq_true c3
    clear c1 c2 c3
    go_enter Try.func24, Try.ntmps24
    go_wp2
    go_ret
    exact ⟨by simp [d1, d2, d3], (Below.refl _ _).alloc (Nat.le_refl _) _⟩
  have d3 : decide (b < 0) = false := decide_eq_false c3
  clear c1 c2 c3
  go_enter Try.func24, Try.ntmps24
  go_wp2
  go_ret
  exact ⟨by simp [d1, d2, d3], (Below.refl _ _).alloc (Nat.le_refl _) _⟩
set_option maxHeartbeats 2000000 in
theorem index0 (A : Option Addr) (c : Nat) (fv : Value) (w : World) :
    Calls Try.prog 40 #[.slice A 0 c, fv] w fun e w' => e = .returned (.int .i64 (-1)) ∧ w' = w := by
  go_enter Try.func40, Try.ntmps40
  go_wp2
  refine wp_loop_rounds 1 ?_
  rw [rounds_succ]
  go_wp2
  go_ret
  exact ⟨rfl, rfl⟩
set_option maxHeartbeats 2000000 in
theorem contains0 (A : Option Addr) (c : Nat) (fv : Value) (w : World) :
    Calls Try.prog 25 #[.slice A 0 c, fv] w fun e w' => e = .returned (.bool false) ∧ w' = w := by
  go_enter Try.func25, Try.ntmps25
  go_wp2_with (go_at_call 40; refine (index0 _ _ _ _).mono ?_; rintro e w' ⟨rfl, hw⟩; rw [hw])
  go_ret
  exact ⟨rfl, rfl⟩
theorem addr_none {w : World} {ad : Addr} {v : Value} (h : w.cell? ad = some v) : ∃ b off, ad = ⟨b, off, none⟩ := by
  obtain ⟨b, off, sp⟩ := ad
  cases sp with
  | none => exact ⟨b, off, rfl⟩
  | some u =>
    exfalso
    simp only [World.cell?] at h
    split at h <;> simp at h
theorem addr_add (b off k : Nat) : Addr.add (⟨b, off, none⟩ : Addr) k = ⟨b, off + k, none⟩ := by
  unfold Addr.add; split
  · rename_i h0; rw [h0]; rfl
  · rfl
instance inhS42 : Inhabited S42 := ⟨z42⟩
/-- no way is away -/
theorem contains_f25 (n : Int) (nb : Nat) (A : Option Addr) (c : Nat) (l : List S42) (w : World) (hr : Kd.C k42 w A l.length l) (hn : w.cell? ⟨nb, 0, none⟩ = some (.int .i64 n)) (hin : ∀ x ∈ l, inR n x) :
    Calls Try.prog 25 #[.slice A l.length c, .func (.func 24) #[] #[.pointer (some ⟨nb, 0, none⟩)]] w fun e w' => e = .returned (.bool false) ∧ Below w.heap.size w w' := by
  have hlt : nb < w.heap.size := World.block_lt_of_cell? w _ hn
  by_cases h0 : l.length = 0
  · rw [h0]
    exact (contains0 A c _ w).mono fun e w' ⟨h1, h2⟩ => ⟨h1, h2 ▸ Below.refl _ _⟩
  obtain ⟨ad, rfl, hx0, hx1⟩ := at_T42 hr 0 (by omega) (by omega)
  obtain ⟨b, off, e⟩ := addr_none hx0
  have e2 : ad = ⟨b, off, none⟩ := by
    have : ad.add ((0 : Int).toNat * 2) = ad := by simp [Addr.add]
    rw [← this]; exact e
  subst e2
  have hb : b < w.heap.size := by have := World.block_lt_of_cell? w _ hx0; rw [addr_add] at this; exact this
  have key := Try.slices_ContainsFunc_f25 (α := S42) 2 (fun w => by kernel_rfl) (fun w => by kernel_rfl) (fun x => [.int .i64 x.f0, .int .i64 x.f1]) (fun _ => rfl) (away n) 24 #[.pointer (some ⟨nb, 0, none⟩)]
    (enters_of Try.func24 (by kernel_rfl) rfl) b off l.length c l w (fun W x hW => ?_) (Nat.le_refl _) ?_ hb ?_
  · refine key.mono ?_
    rintro e w' ⟨rfl, hb⟩
    refine ⟨?_, hb⟩
    rw [List.take_length]
    have : l.any (away n) = false := by
      rw [List.any_eq_false]
      intro x hx
      rw [away_of (hin x hx)]; decide
    rw [this]
  · refine (away_calls n nb x.f0 x.f1 W ((hW.cell (p := ⟨nb, 0, none⟩) hlt).trans hn)).mono ?_
    rintro e w' ⟨rfl, hb⟩
    exact ⟨rfl, hW.trans (hb.mono hW.size)⟩
  · have := hr.2.1; unfold maxLen at this; omega
  · intro j hj i v hv
    obtain ⟨ad', e', h0', h1'⟩ := at_T42 hr (j : Int) (by omega) (by omega)
    injection e' with e'
    subst e'
    have hxj : rd_T42 l (j : Int) = l[j]! := by unfold rd_T42; simp [hj]
    rw [hxj, addr_add] at h0' h1'
    rw [show ((j : Int)).toNat = j by omega] at h0' h1'
    match i with
    | 0 => simp at hv; subst hv; simpa using h0'
    | 1 => simp at hv; subst hv; simpa using h1'
    | i + 2 => simp at hv
set_option maxHeartbeats 2000000 in
theorem check_calls (n : Int) (A : Option Addr) (c : Nat) (l : List S42) (w : World) (hr : Kd.C k42 w A l.length l) (h0 : 0 ≤ n) (h1 : n ≤ 4096) (hl : l.length ≤ 1048576) (hin : ∀ x ∈ l, inR n x) :
    Calls Try.prog 18 #[.int .i64 n, .slice A l.length c] w fun e w' => e = .returned .nilIface ∧ Below w.heap.size w w' := by
  have hr2 : Kd.C k42 (w.alloc (.cells #[.int .i64 n] 3)) A l.length l := Kd.C_below hr ((Below.refl _ w).alloc (Nat.le_refl _) _)
  have cC := contains_f25 n w.heap.size A c l (w.alloc (.cells #[.int .i64 n] 3)) hr2 (by simp) hin
  have d1 : decide (n < 0) = false := decide_eq_false (by omega)
  have d2 : decide (4096 < n) = false := decide_eq_false (by omega)
  have d3 : decide ((1048576 : Int) < (l.length : Int)) = false := decide_eq_false (by omega)
  have d4 : decide (1048576 < l.length) = false := decide_eq_false (by omega)
  clear h0 h1 hl hr hr2 hin
  go_enter Try.func18, Try.ntmps18
  go_wp2_with (go_at_call 25; refine cC.mono ?_; rintro e w' ⟨rfl, hb⟩)
  go_ret
  exact ⟨rfl, ((Below.refl _ w).alloc (Nat.le_refl _) _).trans (hb.mono (by simp))⟩
end Go.Proofs.Ytkhemmeedklofaa.Pr
