/- graph.Order: an order of all places, or the error that ways lead back. -/
import Derived.Test.YtkhemmeedklofaaGSort
namespace Go.Proofs.Ytkhemmeedklofaa.Pr
open Go Go.RowKit Go.Shelf
open Go.Proofs.YtkhemmeedklofaaW.PrintWords Go.Proofs.YtkhemmeedklofaaW.PrintLast
set_option linter.unusedVariables false
set_option linter.unusedSimpArgs false

theorem w64 {x : Int} (h1 : -9223372036854775808 ≤ x) (h2 : x ≤ 9223372036854775807) : wrap64 x = x := by unfold wrap64; omega
theorem tos_snoc (ws : Kn.Ws) (w : Int × Int) (v : Int) : Kn.tos (ws ++ [w]) v = Kn.tos ws v ++ if w.1 = v then [w.2] else [] := by
  unfold Kn.tos
  rw [List.filter_append, List.map_append]
  congr 1
  by_cases h : w.1 = v <;> simp [h]
/-- the sides behind i ways -/
def sideTo (n : Nat) (ws : Kn.Ws) : List (List Int) := (List.range n).map fun v : Nat => Kn.tos ws v
theorem sideTo_get (n : Nat) (ws : Kn.Ws) (v : Nat) (hv : v < n) : rd_L2 (sideTo n ws) (v : Int) = Kn.tos ws v := by
  unfold rd_L2 sideTo
  simp [hv]
theorem tos_length (ws : Kn.Ws) (v : Int) : (Kn.tos ws v).length ≤ ws.length := by
  unfold Kn.tos; rw [List.length_map]; exact List.length_filter_le _ _
theorem sideTo_step (n : Nat) (ws : Kn.Ws) (a : Nat) (b : Int) (ha : a < n) : (sideTo n ws).set a (Kn.tos ws a ++ [b]) = sideTo n (ws ++ [((a : Int), b)]) := by
  apply List.ext_getElem?
  intro j
  rw [List.getElem?_set]
  by_cases hj : j < n
  · by_cases e : a = j
    · subst e
      rw [if_pos rfl, if_pos (by simp [sideTo, ha])]
      simp [sideTo, ha, tos_snoc]
    · rw [if_neg e]
      simp only [sideTo, List.getElem?_map, List.getElem?_range hj, Option.map_some, tos_snoc]
      rw [if_neg (by omega), List.append_nil]
  · have h1 : (sideTo n (ws ++ [((a : Int), b)]))[j]? = none := by simp [sideTo]; omega
    have h2 : (sideTo n ws)[j]? = none := by simp [sideTo]; omega
    rw [h1, h2, if_neg (by omega)]
theorem sides_l0 (n : Nat) (l : List S42) (hl : l.length ≤ 1048576) (hin : ∀ x ∈ l, inR n x) : ∀ (d i : Nat), i + d = l.length →
    Ev (fun k => graph_sides.l0 k (sideTo n ((wsOf l).take i)) l (l.length : Int) i) (sideTo n (wsOf l))
  | 0, i, h => by
    have hw : (wsOf l).length = l.length := by simp [wsOf]
    refine Ev.step (f := fun _ => some _) (fun k => ?_) (Ev.now _)
    simp only [graph_sides.l0]
    rw [if_neg (by omega), List.take_of_length_le (by omega)]
  | d + 1, i, h => by
    have hi : i < l.length := by omega
    have hw : (wsOf l).length = l.length := by simp [wsOf]
    have hx : rd_T42 l (i : Int) = l[i] := by unfold rd_T42; simp [hi]
    have hr := hin l[i] (List.getElem_mem hi)
    have ht : (wsOf l).take (i + 1) = (wsOf l).take i ++ [(l[i].f0, l[i].f1)] := by
      unfold wsOf
      rw [← List.map_take, ← List.map_take, List.take_succ_eq_append_getElem hi, List.map_append]; rfl
    generalize l[i] = x at hx hr ht
    obtain ⟨x0, x1⟩ := x
    obtain ⟨⟨h1, h2⟩, h3, h4⟩ := hr
    simp only at h1 h2 h3 h4 ht
    obtain ⟨a, rfl⟩ := Int.eq_ofNat_of_zero_le h1
    have hsl : (sideTo n ((wsOf l).take i)).length = n := by simp [sideTo]
    have ih := sides_l0 n l hl hin d (i + 1) (by omega)
    rw [ht, ← sideTo_step n _ a x1 (by omega)] at ih
    refine Ev.step (fun k => ?_) ih
    simp only [graph_sides.l0]
    rw [if_pos (by omega), if_pos (by omega), if_pos (by omega), hx]
    simp only
    have hlen := tos_length ((wsOf l).take i) (a : Int)
    rw [List.length_take] at hlen
    rw [if_pos (by omega), hsl, if_pos (by omega), sideTo_get n _ a (by omega), if_pos (by omega), w64 (by omega) (by omega)]
    rfl
theorem sides_ev (n : Nat) (l : List S42) (hn : n ≤ 4096) (hl : l.length ≤ 1048576) (hin : ∀ x ∈ l, inR n x) : ∃ k, graph_sides.f k n l = some (sideTo n (wsOf l)) := by
  have h := sides_l0 n l hl hin l.length 0 (by omega)
  have e : sideTo n ((wsOf l).take 0) = List.replicate n [] := by
    apply List.ext_getElem?
    intro j
    by_cases hj : j < n
    · simp [sideTo, hj, Kn.tos, List.getElem?_replicate]
    · simp [sideTo, List.getElem?_replicate, hj]
  rw [e] at h
  refine Ev.rounds (Ev.congr (fun k => ?_) h)
  unfold graph_sides.f
  rw [if_pos (by omega), if_pos (by omega)]
  rfl
theorem wsOf_in {n : Nat} {l : List S42} (hin : ∀ x ∈ l, inR n x) : ∀ w ∈ wsOf l, (0 ≤ w.1 ∧ w.1 < n) ∧ 0 ≤ w.2 ∧ w.2 < n := fun w hw => by
  unfold wsOf at hw
  obtain ⟨s, hs, rfl⟩ := List.mem_map.1 hw
  exact hin s hs
/-- an order of all places -/
def IsOrder (n : Nat) (ws : Kn.Ws) (os : List Int) : Prop := os.length = n ∧ (∀ x ∈ os, 0 ≤ x ∧ x < n) ∧ os.Nodup ∧ (∀ y : Nat, y < n → (y : Int) ∈ os) ∧ ∀ (a : List Int) (x : Int) (b : List Int), os = a ++ x :: b → ∀ p, (p, x) ∈ ws → p ∈ a
section
variable (n : Nat) (A : Option Addr) (c : Nat) (l : List S42) (w : World) (hr : Kd.C k42 w A l.length l) (hc : l.length ≤ c) (hn : n ≤ 4096) (hl : l.length ≤ 1048576) (hin : ∀ x ∈ l, inR n x)
include hr hc hn hl hin
theorem sort2 (W : World) (hb : Below w.heap.size w W) : Calls Try.prog 19 #[.int .i64 n, .slice A l.length c] W fun e w' => ∃ v1 v2 os many, e = .returned (.tuple #[v1, v2, .bool (decide ((os.length : Int) = (n : Int)))]) ∧ QI w' w.heap.size v1 os ∧ Below w.heap.size w w' ∧ Kn.Inv n (wsOf l) os [] many [] := by
  obtain ⟨k, hk⟩ := sides_ev n l hn hl hin
  refine (sort_calls n A c l W (Kd.C_below hr hb) hc hn hl hin k _ hk (by simp [sideTo]) (fun x hx => sideTo_get n _ x hx)).mono ?_
  rintro e w' ⟨v1, v2, os, many, rfl, hq, hb2, hI⟩
  exact ⟨v1, v2, os, many, rfl, q_lower hq hb.size, hb.trans (hb2.mono hb.size), hI⟩
set_option maxHeartbeats 2000000 in
theorem order_ok (hA : Kn.Acy (wsOf l)) : Calls Try.prog 12 #[.int .i64 n, .slice A l.length c] w fun e w' => ∃ v os, e = .returned (.tuple #[v, .nilIface]) ∧ QI w' w.heap.size v os ∧ Below w.heap.size w w' ∧ IsOrder n (wsOf l) os := by
  have cC := check_calls n A c l w hr (by omega) (by omega) hl hin
  have cS : ∀ W, Below w.heap.size w W → Calls Try.prog 19 #[.int .i64 n, .slice A l.length c] W fun e w' => ∃ v1 v2 os, e = .returned (.tuple #[v1, v2, .bool true]) ∧ QI w' w.heap.size v1 os ∧ Below w.heap.size w w' ∧ IsOrder n (wsOf l) os := fun W hb => by
    refine (sort2 n A c l w hr hc hn hl hin W hb).mono ?_
    rintro e w' ⟨v1, v2, os, many, rfl, hq, hb2, hI⟩
    have hd := hI.done (wsOf_in hin)
    have hlen := hd.1.2 hA
    refine ⟨v1, v2, os, by rw [decide_eq_true (by omega)], hq, hb2, hlen, fun x hx => hI.rng x (by simpa using hx), ?_, hd.2 hlen, hI.topo⟩
    have := hI.nodup
    rwa [List.append_nil] at this
  have CS := Lib.hid cS
  clear cS hr hc hn hl hin hA
  go_enter Try.func12, Try.ntmps12
  go_wp2_with (first | (go_at_call 18; refine cC.mono ?_; rintro e W ⟨rfl, hb⟩; have HB := Lib.hid hb; clear hb) | (go_at_call 19; refine (CS.out _ HB.out).mono ?_; rintro e W2 ⟨v1, v2, os, rfl, h1, h2, h3⟩; have HQ := Lib.hid (And.intro h1 (And.intro h2 h3)); clear h1 h2 h3))
  go_ret2
  exact ⟨v1, os, rfl, HQ.out.1, HQ.out.2.1, HQ.out.2.2⟩
set_option maxHeartbeats 2000000 in
theorem order_loop (hA : ¬ Kn.Acy (wsOf l)) : Calls Try.prog 12 #[.int .i64 n, .slice A l.length c] w fun e w' => e = .returned (.tuple #[.slice none 0 0, .iface 35 (.int .i64 9)]) ∧ Below w.heap.size w w' := by
  have cC := check_calls n A c l w hr (by omega) (by omega) hl hin
  have cS : ∀ W, Below w.heap.size w W → Calls Try.prog 19 #[.int .i64 n, .slice A l.length c] W fun e w' => ∃ v1 v2, e = .returned (.tuple #[v1, v2, .bool false]) ∧ Below w.heap.size w w' := fun W hb => by
    refine (sort2 n A c l w hr hc hn hl hin W hb).mono ?_
    rintro e w' ⟨v1, v2, os, many, rfl, hq, hb2, hI⟩
    have hd := hI.done (wsOf_in hin)
    exact ⟨v1, v2, by rw [decide_eq_false (fun e => hA (hd.1.1 (by omega)))], hb2⟩
  have CS := Lib.hid cS
  have hu35 := Try.underlying35
  clear cS hr hc hn hl hin hA
  go_enter Try.func12, Try.ntmps12
  go_wp2_with (first | (go_at_call 18; refine cC.mono ?_; rintro e W ⟨rfl, hb⟩; have HB := Lib.hid hb; clear hb) | (go_at_call 19; refine (CS.out _ HB.out).mono ?_; rintro e W2 ⟨v1, v2, rfl, h2⟩; have HQ := Lib.hid h2; clear h2))
  go_ret2
  exact ⟨rfl, HQ.out⟩
end
end Go.Proofs.Ytkhemmeedklofaa.Pr
