/- notify.once and the reference's once: what each answers, by walks and the library's contracts. -/
import Derived.Test.YtecgjkikgggoeaaDoorGIter
namespace Go.Proofs.YtecgjkikgggoeaaDoor.Pr
open Go Go.RowKit Go.Shelf Go.Sort Go.Lib
open Go.Proofs.YtecgjkikgggoeaaDoorW.PrintWords Go.Proofs.YtecgjkikgggoeaaDoorW.PrintLast
set_option linter.unusedVariables false
set_option linter.unusedSimpArgs false

theorem holds3_C {w : World} {A : Option Addr} {l : List Int} (h : Kd.C (Kd.int .i64) w A l.length l) : Holds3 w.heap.size w A l := by
  cases l with
  | nil => exact .inl rfl
  | cons m t =>
    refine .inr ?_
    obtain ⟨ad, rfl, hc0⟩ := Kd.at_int h 0 (Int.le_refl _) (by simp)
    have hs := World.block_lt_of_cell? w _ hc0
    obtain ⟨b, off, sp⟩ := ad
    cases sp with
    | some v =>
      exfalso
      simp only [World.cell?, Addr.add] at hc0
      split at hc0 <;> simp at hc0
    | none =>
      refine ⟨b, off, rfl, by simpa [Addr.add] using hs, fun j hj => ?_⟩
      obtain ⟨ad, e, hcj⟩ := Kd.at_int h (j : Int) (by omega) (by omega)
      injection e with e
      subst e
      rw [show ((j : Int)).toNat = j by omega] at hcj
      have e2 : Addr.add (⟨b, off, none⟩ : Addr) j = ⟨b, off + j, none⟩ := by
        unfold Addr.add; split
        · rename_i h0; rw [h0]; rfl
        · rfl
      rw [e2] at hcj
      rw [hcj]
      simp [Go.Proofs.YtecgjkikgggoeaaDoorW.PrintWords.rd]
theorem R_ints {w : World} {base : Nat} {v : Value} {n : Nat} {l : List Int} (h : w.ownsRow base 3 1 v n (l.map (Value.int .i64))) (hl : l.length = n) : Kd.R (Kd.int .i64) 3 w base (fun _ => True) v l := by
  subst hl
  exact ⟨fun _ _ => trivial, _, h, Kd.reps_scalar l⟩

def notify_once.f (l0 : List Int) : Option (List Int) := if l0.length ≤ 1000000 then some (Lib.compact (srt l0)) else none
theorem compact_le (zs : List Int) : (Lib.compact zs).length ≤ zs.length := by
  unfold Lib.compact Lib.compactUpTo
  rw [List.length_map]
  exact Nat.le_trans (List.length_filter_le _ _) (by simp)

set_option maxHeartbeats 1000000 in
theorem notify_once.calls (A0 : Option Addr) (c0 : Nat) (l0 : List Int) (r : List Int) (w : World) (hr0 : Kd.C (Kd.int .i64) w A0 l0.length l0) (hc0 : l0.length ≤ c0) (h : notify_once.f l0 = some r) :
    Calls Tryd.prog 12 #[.slice A0 l0.length c0] w fun e w' => ∃ v0_ : Value, e = .returned v0_ ∧ Kd.R (Kd.int .i64) 3 w' w.heap.size (fun _ => True) v0_ r ∧ Below w.heap.size w w' := by
  unfold notify_once.f at h
  split at h
  case isFalse => cases h
  rename_i hl
  obtain rfl := Option.some.inj h
  have hI := holds3_C hr0
  have hsz := compact_le (srt l0)
  rw [srt_length] at hsz
  generalize hr : Lib.compact (srt l0) = r at hsz ⊢
  have cV := callsIn_wide.1 (values_in Fence.wide 8 trivial rfl A0 l0.length c0 w)
  have hB1 : Below w.heap.size w (w.alloc (.cells #[.slice A0 l0.length c0] 22)) := (Below.refl _ w).alloc (Nat.le_refl _) _
  have cS := callsIn_wide.1 (sorted_in 8 (by omega) w.heap.size A0 c0 l0 (by omega) (w.alloc (.cells #[.slice A0 l0.length c0] 22)) (by simp) (by simp) ((hI.below hB1).elim .inl (fun ⟨b, off, e, hb, hc⟩ => .inr ⟨b, off, e, by simp; omega, hc⟩)))
  clear hr0 hI
  go_enter Tryd.func12, Tryd.ntmps12
  go_wp2_with (first | (go_at_call 17; refine cV.mono ?_; rintro e w' ⟨rfl, rfl⟩) | (go_at_call 16; refine cS.mono ?_; rintro e W ⟨v, rfl, hrow, hb⟩))
  have hbW : Below w.heap.size w W := hB1.trans (hb.mono (by simp))
  by_cases hv' : v ≠ .slice none 0 0
  · obtain ⟨g, cp, rfl, hbase, hlt, h1, h2, h3, hH⟩ := holds_of_ownsRow hrow hv'
    have cC := Tryd.slices_Compact_int g 0 cp (srt l0) W hH (by rw [srt_length]; omega) (by rw [srt_length]; omega)
    rw [srt_length, hr] at cC
    have hR : ∀ q, Kd.R (Kd.int .i64) 3 (putRow (Value.int .i64) (Sort.ahead W q) g 0 (r ++ List.replicate (l0.length - r.length) 0).toArray) w.heap.size (fun _ => True) (.slice (some ⟨g, 0, none⟩) r.length cp) (r) := fun q => by
      have := ownsRow_putRow (q := q) (k := r.length) (ys := r ++ List.replicate (l0.length - r.length) 0) hrow (by simp; omega) hsz
      rw [List.take_append_of_le_length (Nat.le_refl _), List.take_length] at this
      exact Kd.R_lower (R_ints this rfl) (by simp)
    have hbR : ∀ q (d : Array Int), Below w.heap.size w (putRow (Value.int .i64) (Sort.ahead W q) g 0 d) := fun q d => below_putRow hbW (by simp at hbase; omega)
    clear hrow hH
    go_wp2_with (go_at_call 15; refine cC.mono ?_; rintro e w' ⟨rfl, q, rfl⟩)
    go_ret
    exact ⟨_, rfl, hR q, hbR _ _⟩
  · obtain rfl : v = .slice none 0 0 := Classical.not_not.1 hv'
    have hz : l0 = [] := by
      rcases hrow.2 with ⟨_, h0⟩ | ⟨g, cp, cur, e, _⟩
      · exact List.eq_nil_of_length_eq_zero h0
      · cases e
    subst hz
    have cC := Tryd.slices_Compact_int_empty none 0 W
    go_wp2_with (go_at_call 15; refine cC.mono ?_; rintro e w' ⟨rfl, rfl⟩)
    go_ret
    have hr0 : r = [] := List.eq_nil_of_length_eq_zero (by simpa using hsz)
    subst hr0
    exact ⟨_, rfl, Kd.R_nil (Kd.int .i64) 3 _ _ _, hbW⟩
end Go.Proofs.YtecgjkikgggoeaaDoor.Pr
