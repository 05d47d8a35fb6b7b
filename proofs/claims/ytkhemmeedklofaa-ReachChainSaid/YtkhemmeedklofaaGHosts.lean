/- reach.Hosts by a walk of Go's text: what it answers is 'hostsG'. -/
import Derived.Test.YtkhemmeedklofaaHPure
namespace Go.Proofs.Ytkhemmeedklofaa.Pr
open Go Go.RowKit Go.Shelf Go.Sort Go.Lib
open Go.Proofs.YtkhemmeedklofaaW.PrintWords Go.Proofs.YtkhemmeedklofaaW.PrintLast Go.Proofs.YtkhemmeedklofaaW.PrintMore
set_option linter.unusedVariables false
set_option linter.unusedSimpArgs false

theorem info42 : (Try.prog.info? 42).map (fun i => (i.zero, i.size, i.bytes)) = some (some (.agg #[.int .i64 0, .int .i64 0]), 2, 16) := by kernel_rfl
/-- a row of ways of the call's own -/
def WI (w : World) (base : Nat) (v : Value) (xs : List S42) : Prop := k42.Q 42 w base (fun _ => True) v xs
theorem WI_typed {w : World} {base : Nat} {v : Value} {xs : List S42} (h : WI w base v xs) : ∀ k, v.ownBlock = some k → base ≤ k ∧ k < w.heap.size ∧ ∃ cells, w.heap[k]? = some (.cells cells 42 (0, 0)) := fun k hk => by
  obtain ⟨c, hc⟩ := Kd.Q_typed h k hk
  exact ⟨Kd.Q_base h k hk, Kd.Q_lt h k hk, c, hc⟩
theorem WI_below {w w1 : World} {base : Nat} {v : Value} {xs : List S42} (h : WI w base v xs) (hb : Below w.heap.size w w1) : WI w1 base v xs := Kd.Q_below h hb
theorem QI_typed {w : World} {base : Nat} {v : Value} {xs : List Int} (h : QI w base v xs) : ∀ k, v.ownBlock = some k → ∃ cells, w.heap[k]? = some (.cells cells 3 (0, 0)) := fun k hk => (q_typed h k hk).2
/-- numbers stand where ways are appended -/
theorem QI_ways {w w1 : World} {base : Nat} {v u : Value} {xs : List Int} {ys : List S42} (h : QI w base v xs) (hu : WI w base u ys) (hg : w.grownBy w1 u.ownBlock) : QI w1 base v xs :=
  QI_grown h hg fun k hk e => by
    obtain ⟨c, hc⟩ := QI_typed h k hk
    obtain ⟨_, _, c2, hc2⟩ := WI_typed hu k e.symm
    rw [hc] at hc2
    simp at hc2
theorem app_WI {ops : Array Oper} {rest : List Oper} {o : Oper} {a : Act} {Q' : Exit → Act → World → Prop} (hgd : o.guard = none) (s x : Operand) (ho : o.op = .call { callee := .builtin .append, args := #[s, x], argTypes := #[36, 36] })
    {w0 W : World} (base : Nat) (v : Value) (xs : List S42) (p : S42) (hs : a.eval s = v) (hx : a.eval x = .slice (some ⟨W.heap.size, 0, none⟩) 1 1) (HO : WI W base v xs) (HB : Below base w0 W) (hbase : base ≤ W.heap.size) (hl : xs.length ≤ 10000000)
    (h : ∀ v1 w1, WI w1 base v1 (xs ++ [p]) → Below base w0 w1 → W.grownBy w1 v.ownBlock → (v1.ownBlock = v.ownBlock ∨ ∃ b, v1.ownBlock = some b ∧ W.heap.size ≤ b) → wpList Try.prog ops Q' rest (a.put o.dst v1) w1) :
    wpList Try.prog ops Q' (o :: rest) a (W.alloc (.cells #[.int .i64 p.f0, .int .i64 p.f1] 42)) :=
  Kd.Q_append k42 (w0 := w0) base hgd s x 36 42 (.agg #[.int .i64 0, .int .i64 0]) 16 ho Try.underlying36 info42 rfl (by decide) (by omega) v xs p [.int .i64 p.f0, .int .i64 p.f1] (fun _ => True) (fun _ => False) hs hx (k42_mkM _ _ _ p) (fun _ hk => hk.elim) (fun _ _ => trivial) HO HB hbase (by omega)
    (fun v1 w1 h1 h2 h3 h4 => h v1 w1 h1 h2 h3 h4)
theorem holds3_C {w : World} {A : Option Addr} {l : List Int} (h : Kd.C (Kd.int .i64) w A l.length l) : Holds3 w.heap.size w A l := by
  cases l with
  | nil => exact .inl rfl
  | cons m t =>
    refine .inr ?_
    obtain ⟨ad, rfl, hc0⟩ := Kd.at_int h 0 (Int.le_refl _) (by simp)
    have hs := World.block_lt_of_cell? w _ hc0
    obtain ⟨b, off, e⟩ := addr_none hc0
    have e2 : ad = ⟨b, off, none⟩ := by
      have : ad.add ((0 : Int).toNat) = ad := by simp [Addr.add]
      rw [← this]; exact e
    subst e2
    refine ⟨b, off, rfl, by simpa [Addr.add] using hs, fun j hj => ?_⟩
    obtain ⟨ad, e, hcj⟩ := Kd.at_int h (j : Int) (by omega) (by omega)
    injection e with e
    subst e
    rw [show ((j : Int)).toNat = j by omega, addr_add] at hcj
    rw [hcj]
    simp [Go.Proofs.YtkhemmeedklofaaW.PrintWords.rd]
theorem compact_calls {W : World} {base : Nat} {v : Value} {zs : List Int} (hrow : W.ownsRow base 3 1 v zs.length ((srt zs).map (Value.int .i64))) (hl : zs.length ≤ 1000000) :
    Calls Try.prog 9 #[v] W fun e w' => ∃ v', e = .returned v' ∧ QI w' base v' (cmp zs) ∧ Below base W w' := by
  have hsz := cmp_le zs
  by_cases hv' : v ≠ .slice none 0 0
  · obtain ⟨g, cp, rfl, hbase, hlt, h1, h2, h3, hH⟩ := holds_of_ownsRow hrow hv'
    have cC := Try.slices_Compact_int g 0 cp (srt zs) W hH (by rw [srt_length]; omega) (by rw [srt_length]; omega)
    rw [srt_length] at cC
    refine cC.mono ?_
    rintro e w' ⟨rfl, q, rfl⟩
    refine ⟨_, rfl, ?_, below_putRow (Below.refl _ W) hbase⟩
    have := ownsRow_putRow (q := q) (k := (cmp zs).length) (ys := cmp zs ++ List.replicate (zs.length - (cmp zs).length) 0) hrow (by simp; omega) hsz
    rw [List.take_append_of_le_length (Nat.le_refl _), List.take_length] at this
    exact q_of_own this
  · obtain rfl : v = .slice none 0 0 := Classical.not_not.1 hv'
    have hz : zs.length = 0 := by
      rcases hrow.2 with ⟨_, h0⟩ | ⟨g, cp, cur, e, _⟩
      · exact h0
      · cases e
    refine (Try.slices_Compact_int_empty none 0 W).mono ?_
    rintro e w' ⟨rfl, rfl⟩
    have h0 : cmp zs = [] := List.eq_nil_of_length_eq_zero (by omega)
    rw [h0]
    exact ⟨_, rfl, QI_of_R (Kd.R_nil (Kd.int .i64) 3 _ _ (fun _ => True)), Below.refl _ _⟩
section
variable (A0 : Option Addr) (c0 : Nat) (ps : List (List Int)) (A1 : Option Addr) (c1 : Nat) (fs : List Bool) (w : World)
  (hr0 : Kd.C (Kd.slice 3 (Kd.int .i64)) w A0 ps.length ps) (hc0 : ps.length ≤ c0) (hr1 : Kd.C Kd.bool w A1 fs.length fs) (hc1 : fs.length ≤ c1)
/-- what is to be shown of an ending -/
def HPost (ps : List (List Int)) (fs : List Bool) (w : World) (e : Ending) (w' : World) : Prop :=
  ∃ v0 : Value, e = .returned (.tuple #[v0, errW (hostsG ps fs).2]) ∧ Kd.R (Kd.int .i64) 3 w' w.heap.size (fun _ => True) v0 (hostsG ps fs).1 ∧ Below w.heap.size w w'
theorem hpost_err {ps : List (List Int)} {fs : List Bool} {w w' : World} {c : Int} (h : hostsG ps fs = ([], some c)) (hb : Below w.heap.size w w') : HPost ps fs w (.returned (.tuple #[.slice none 0 0, .iface 35 (.int .i64 c)])) w' :=
  ⟨.slice none 0 0, by rw [h, errW_some], by rw [h]; exact Kd.R_nil _ _ _ _ _, hb⟩
set_option maxHeartbeats 2000000 in
theorem hosts_long (h : 1024 < ps.length ∨ 1024 < fs.length) : Calls Try.prog 7 #[.slice A0 ps.length c0, .slice A1 fs.length c1] w (HPost ps fs w) := by
  have hg : hostsG ps fs = ([], some 2) := by unfold hostsG; rw [if_pos h]
  have HG := Lib.hid hg
  have hu := Try.underlying35
  by_cases h1 : 1024 < ps.length
  · have d1 : decide ((1024 : Int) < (ps.length : Int)) = true := decide_eq_true (by omega)
    have d1' : decide (1024 < ps.length) = true := decide_eq_true h1
    clear hg h h1
    go_enter Try.func7, Try.ntmps7
    go_wp2
    go_ret2
    exact hpost_err HG.out (Below.refl _ _)
  · have h2 : 1024 < fs.length := h.resolve_left h1
    have d1 : decide ((1024 : Int) < (ps.length : Int)) = false := decide_eq_false (by omega)
    have d1' : decide (1024 < ps.length) = false := decide_eq_false h1
    have d2 : decide ((1024 : Int) < (fs.length : Int)) = true := decide_eq_true (by omega)
    have d2' : decide (1024 < fs.length) = true := decide_eq_true h2
    clear hg h h1 h2
    go_enter Try.func7, Try.ntmps7
    go_wp2
    go_ret2
    exact hpost_err HG.out (Below.refl _ _)
set_option maxHeartbeats 2000000 in
theorem hosts_arg (h1 : ps.length ≤ 1024) (h2 : fs.length ≤ 1024) (h3 : ps.length ≠ fs.length) : Calls Try.prog 7 #[.slice A0 ps.length c0, .slice A1 fs.length c1] w (HPost ps fs w) := by
  have hg : hostsG ps fs = ([], some 1) := by unfold hostsG; rw [if_neg (by omega), if_pos h3]
  have HG := Lib.hid hg
  have hu := Try.underlying35
  have d1 : decide ((1024 : Int) < (ps.length : Int)) = false := decide_eq_false (by omega)
  have d1' : decide (1024 < ps.length) = false := decide_eq_false (by omega)
  have d2 : decide ((1024 : Int) < (fs.length : Int)) = false := decide_eq_false (by omega)
  have d2' : decide (1024 < fs.length) = false := decide_eq_false (by omega)
  have d3 : ((ps.length : Int) != (fs.length : Int)) = true := by simp; omega
  have d3' : (ps.length != fs.length) = true := by simp; omega
  have d4 : ((ps.length : Int) == (fs.length : Int)) = false := by simp; omega
  have d4' : (ps.length == fs.length) = false := by simp; omega
  clear hg h1 h2 h3
  go_enter Try.func7, Try.ntmps7
  go_wp2
  go_ret2
  exact hpost_err HG.out (Below.refl _ _)
/-- a block of just these numbers -/
def OutB (w : World) (g : Nat) (xs : List Int) : Prop := w.heap[g]? = some (.cells (encs (Value.int .i64) xs).toArray 3 (0, 0))
theorem OutB_cell {w : World} {g : Nat} {xs : List Int} (h : OutB w g xs) (j : Nat) (hj : j < xs.length) : w.cell? ⟨g, j, none⟩ = some (.int .i64 (xs.getD j 0)) ∧ w.frozen? ⟨g, j, none⟩ = false := by
  refine ⟨?_, blk_frozen h j⟩
  rw [blk_cell h]
  unfold encs
  simp [hj]
theorem OutB_put {w : World} {g : Nat} {xs : List Int} (h : OutB w g xs) (j : Nat) (z : Int) : OutB (w.setCell ⟨g, j, none⟩ (.int .i64 z)) g (xs.set j z) := by
  unfold OutB
  rw [blk_set h j]
  congr 2
  unfold encs
  rw [List.map_set]
  simp
set_option maxHeartbeats 2000000 in
theorem isUp_calls (h1 h2 n : Nat) (outs : List Int) (W : World) (hb : W.heap[h2]? = some (.cells #[.slice (some ⟨h1, 0, none⟩) n n] 26 (0, 0))) (ho : OutB W h1 outs) (hl : outs.length = n) (y : Nat) (hy : y < n) :
    Calls Try.prog 13 #[.int .i64 (y : Int), .pointer (some ⟨h2, 0, none⟩)] W fun e w' => e = .returned (.bool (outs.getD y 0 == 0)) ∧ w' = W := by
  have hc2 := (blk_cell hb 0).trans rfl
  have hc1 := (OutB_cell ho y (by omega)).1
  generalize outs.getD y 0 = z at hc1 ⊢
  have hy0 : (0 : Int) ≤ (y : Int) := by omega
  have hy1 : (y : Int) < (n : Int) := by omega
  clear hl ho hb
  go_enter Try.func13, Try.ntmps13
  go_wp2
  go_ret
  exact ⟨rfl, rfl⟩
/-- what holds of the third loop -/
def HLoop (ps : List (List Int)) (fs : List Bool) (n h1 : Nat) (os : List Int) (W1 : World) (k : Nat) (outs : List Int) (wr : World) : Prop :=
  OutB wr h1 outs ∧ wr.heap[h1 + 1]? = some (.cells #[.slice (some ⟨h1, 0, none⟩) n n] 26 (0, 0)) ∧ Below W1.heap.size W1 wr ∧ outs.length = n ∧ ∀ y : Nat, y < n → outs.getD y 0 = if (y : Int) ∈ os.take k then stateOf ps fs y else 0
theorem HLoop.start (ps : List (List Int)) (fs : List Bool) (n : Nat) (os : List Int) (W1 : World) (Z : Array Value) (hZ : madeCells #[Value.int .i64 0] n = Z) :
    HLoop ps fs n W1.heap.size os W1 0 (List.replicate n 0) ((W1.alloc (.cells Z 3)).alloc (.cells #[.slice (some ⟨W1.heap.size, 0, none⟩) n n] 26)) := by
  have e : encs (Value.int .i64) (List.replicate n 0) = Z.toList := by
    rw [← hZ]
    unfold encs madeCells
    apply List.ext_getElem (by simp)
    intro j h1 h2
    simp [Nat.mod_one]
  refine ⟨?_, ?_, ((Below.refl _ W1).alloc (Nat.le_refl _) _).alloc (by simp) _, by simp, fun y hy => by simp [hy]⟩
  · unfold OutB
    rw [e, Below.heap_alloc _ _ _ (by simp), heap_alloc_new]
  · have := heap_alloc_new (W1.alloc (.cells Z 3)) (.cells #[.slice (some ⟨W1.heap.size, 0, none⟩) n n] 26)
    simpa using this
theorem HLoop.put {ps : List (List Int)} {fs : List Bool} {n h1 : Nat} {os : List Int} {W1 : World} {k : Nat} {outs : List Int} {wr : World} (h : HLoop ps fs n h1 os W1 k outs wr) (hh : W1.heap.size ≤ h1) (q : Nat) {x : Nat} (hx : os[k]? = some (x : Int)) (hxn : x < n) (z : Int) (hz : stateOf ps fs x = z) :
    HLoop ps fs n h1 os W1 (k + 1) (outs.set x z) ((wr.drewN q).setCell ⟨h1, x, none⟩ (.int .i64 z)) := by
  obtain ⟨a, b, c, d, f⟩ := h
  obtain ⟨hk, hx⟩ := List.getElem?_eq_some_iff.1 hx
  have hbd : Below wr.heap.size wr (wr.drewN q) := pw_below_drewN (Below.refl _ _) q
  have a' : OutB (wr.drewN q) h1 outs := (hbd.block h1 (blk_lt a)).trans a
  have b' := (hbd.block (h1 + 1) (blk_lt b)).trans b
  refine ⟨OutB_put a' x z, ?_, (pw_below_drewN c q).setCell (p := ⟨h1, x, none⟩) hh _, by rw [List.length_set]; exact d, fun y hy => ?_⟩
  · rw [Below.heap_setCell _ ⟨h1, x, none⟩ _ (h1 + 1) (by show h1 + 1 ≠ h1; omega)]; exact b'
  · rw [Kn.set_getD _ _ _ _ (by rw [d]; exact hxn), List.take_succ_eq_append_getElem hk, hx]
    by_cases e : y = x
    · subst e; rw [if_pos rfl, if_pos (by simp), hz]
    · rw [if_neg e, f y hy]
      have : (y : Int) ∈ os.take k ++ [(x : Int)] ↔ (y : Int) ∈ os.take k := by
        simp only [List.mem_append, List.mem_singleton]; exact ⟨fun h => h.resolve_right (by omega), Or.inl⟩
      by_cases m : (y : Int) ∈ os.take k
      · rw [if_pos m, if_pos (this.2 m)]
      · rw [if_neg m, if_neg (mt this.1 m)]
theorem HLoop.keep {ps : List (List Int)} {fs : List Bool} {n h1 : Nat} {os : List Int} {W1 : World} {k : Nat} {outs : List Int} {wr : World} (h : HLoop ps fs n h1 os W1 k outs wr) {x : Nat} (hx : os[k]? = some (x : Int)) (hxn : x < n) (hz : stateOf ps fs x = 0) :
    HLoop ps fs n h1 os W1 (k + 1) outs wr := by
  obtain ⟨a, b, c, d, f⟩ := h
  obtain ⟨hk, hx⟩ := List.getElem?_eq_some_iff.1 hx
  refine ⟨a, b, c, d, fun y hy => ?_⟩
  rw [f y hy, List.take_succ_eq_append_getElem hk, hx]
  by_cases m : (y : Int) ∈ os.take k
  · rw [if_pos m, if_pos (by simp [m])]
  · rw [if_neg m]
    by_cases e : y = x
    · subst e; rw [if_pos (by simp), hz]
    · rw [if_neg (by simp [m]; omega)]
theorem state_pos {ps : List (List Int)} {fs : List Bool} {y : Nat} : (stateOf ps fs y = 0) ↔ fs.getD y false = false := by
  unfold stateOf
  cases fs.getD y false with
  | false => simp
  | true => simp; split <;> simp
/-- of a host behind its parents: what the closure tells is what its state asks -/
theorem HLoop.any {ps : List (List Int)} {fs : List Bool} {n h1 : Nat} {os : List Int} {W1 : World} {k : Nat} {outs : List Int} {wr : World} (h : HLoop ps fs n h1 os W1 k outs wr) (hn : n = ps.length) (hO : IsOrder n (wsOf (waysTo ps n)) os) {x : Nat} (hx : os[k]? = some (x : Int)) (hxn : x < n) (hg : ∀ p ∈ rd_L2 ps (x : Int), 0 ≤ p ∧ p < n) :
    ((rd_L2 ps (x : Int)).any fun p => outs.getD p.toNat 0 == 0) = (rd_L2 ps (x : Int)).any fun p => !fs.getD p.toNat false := by
  obtain ⟨hk, hx⟩ := List.getElem?_eq_some_iff.1 hx
  have hsplit : os = os.take k ++ (x : Int) :: os.drop (k + 1) := by rw [← hx, ← List.drop_eq_getElem_cons hk, List.take_append_drop]
  have key : ∀ p ∈ rd_L2 ps (x : Int), (outs.getD p.toNat 0 == 0) = !fs.getD p.toNat false := fun p hp => by
    have hr := hg p hp
    have hpw : (p, (x : Int)) ∈ wsOf (waysTo ps n) := by
      unfold wsOf
      exact List.mem_map.2 ⟨mkW x p, (waysTo_mem ps n _).2 ⟨x, hxn, rfl, hp⟩, rfl⟩
    have hm := hO.2.2.2.2 _ _ _ hsplit p hpw
    have hv := h.2.2.2.2 p.toNat (by omega)
    rw [show ((p.toNat : Nat) : Int) = p by omega, if_pos hm] at hv
    rw [hv, Bool.eq_iff_iff, beq_iff_eq, state_pos]
    simp
  rw [Bool.eq_iff_iff, List.any_eq_true, List.any_eq_true]
  exact ⟨fun ⟨p, hp, h⟩ => ⟨p, hp, by rw [← key p hp]; exact h⟩, fun ⟨p, hp, h⟩ => ⟨p, hp, by rw [key p hp]; exact h⟩⟩
theorem HLoop.done {ps : List (List Int)} {fs : List Bool} {n h1 : Nat} {os : List Int} {w W1 : World} {k : Nat} {outs : List Int} {wr : World} (h : HLoop ps fs n h1 os W1 k outs wr) (hk : k = os.length) (hn : n = ps.length) (hO : IsOrder n (wsOf (waysTo ps n)) os) (hb : Below w.heap.size w W1) (hh : W1.heap.size ≤ h1) (hn2 : n ≤ 1024) :
    Kd.R (Kd.int .i64) 3 wr w.heap.size (fun _ => True) (.slice (some ⟨h1, 0, none⟩) n n) (hostsOut ps fs) ∧ Below w.heap.size w wr := by
  obtain ⟨a, b, c, d, f⟩ := h
  have e : outs = hostsOut ps fs := by
    apply List.ext_getElem (by rw [d, hn]; simp [hostsOut])
    intro j h1 h2
    have hj : j < n := by omega
    have := f j hj
    rw [hk, List.take_length, if_pos (hO.2.2.2.1 j hj)] at this
    rw [List.getD_eq_getElem?_getD, List.getElem?_eq_getElem h1] at this
    simpa [hostsOut] using this
  subst e
  have hm : maxLen = 9223372036854775807 := rfl
  refine ⟨Kd.R_of_own (ok := fun _ => True) ?_ (fun _ _ => trivial), hb.trans (c.mono hb.size)⟩
  refine ⟨by simp [encs], .inr ⟨h1, n, _, by rw [d], Nat.le_trans hb.size hh, a, by omega, by omega, ?_, ?_⟩⟩
  · simp [encs, d]
  · rw [Nat.mul_one]
    simp only [encs]
    rw [List.take_of_length_le (by simp)]
/-- which of the parents are up, asked by the closure -/
theorem anyUp_calls (h1 h2 n : Nat) (outs : List Int) (W : World) (hb : W.heap[h2]? = some (.cells #[.slice (some ⟨h1, 0, none⟩) n n] 26 (0, 0))) (ho : OutB W h1 outs) (hl : outs.length = n) (A : Option Addr) (c : Nat) (ys : List Int)
    (hC : Kd.C (Kd.int .i64) W A ys.length ys) (hin : ∀ p ∈ ys, 0 ≤ p ∧ p < n) (hy : 0 < ys.length) :
    Calls Try.prog 14 #[.slice A ys.length c, .func (.func 13) #[] #[.pointer (some ⟨h2, 0, none⟩)]] W fun e w' => e = .returned (.bool (ys.any fun p => outs.getD p.toNat 0 == 0)) ∧ ∃ q, w' = W.drewN q := by
  have hH := holds3_C hC
  rcases hH with rfl | ⟨b, off, rfl, hbl, hc⟩
  · simp at hy
  have hn0 : 0 < n := by
    have := hin ys[0] (List.getElem_mem hy); omega
  have hlt2 : h2 < W.heap.size := blk_lt hb
  have hlt1 : h1 < W.heap.size := blk_lt ho
  refine (Try.slices_ContainsFunc (α := Nat) (fun x => .int .i64 ((x % n : Nat) : Int)) (fun x => outs.getD (x % n) 0 == 0) 13 #[.pointer (some ⟨h2, 0, none⟩)] (enters_of Try.func13 (by kernel_rfl) rfl) b off ys.length c (ys.map Int.toNat) W (fun W' x hB => ?_) (by simp) ?_ (fun j hj => ?_)).mono ?_
  · refine (isUp_calls h1 h2 n outs W' ((hB.block h2 hlt2).trans hb) ((hB.block h1 hlt1).trans ho) hl (x % n) (Nat.mod_lt _ hn0)).mono ?_
    rintro e w' ⟨rfl, rfl⟩
    exact ⟨rfl, 0, rfl⟩
  · have := hC.2.1; unfold maxLen at this; omega
  · have hj' : j < ys.length := by simpa using hj
    rw [hc j hj']
    have hr := hin ys[j] (List.getElem_mem hj')
    have e1 : (ys.map Int.toNat)[j]! = ys[j].toNat := by simp [hj']
    have e2 : ys[j]?.getD 0 = ys[j] := by simp [hj']
    rw [e1, e2, Nat.mod_eq_of_lt (by omega)]
    congr 2; omega
  · rintro e w' ⟨rfl, q, rfl⟩
    refine ⟨?_, q, rfl⟩
    rw [List.take_of_length_le (by simp), List.any_map]
    congr 2
    have : ∀ p ∈ ys, ((fun x : Nat => outs.getD (x % n) 0 == 0) ∘ Int.toNat) p = (outs.getD p.toNat 0 == 0) := fun p hp => by
      have := hin p hp
      show (outs.getD (p.toNat % n) 0 == 0) = _
      rw [Nat.mod_eq_of_lt (by omega)]
    rw [Bool.eq_iff_iff, List.any_eq_true, List.any_eq_true]
    exact ⟨fun ⟨p, hp, h⟩ => ⟨p, hp, by rw [← this p hp]; exact h⟩, fun ⟨p, hp, h⟩ => ⟨p, hp, by rw [this p hp]; exact h⟩⟩
set_option maxHeartbeats 8000000 in
set_option maxRecDepth 100000 in
include hr0 hr1 in
theorem hosts_main (h1 : ps.length ≤ 1024) (h3 : ps.length = fs.length) (hrow : ∀ i : Nat, i < ps.length → (rd_L2 ps i).length ≤ 1000000) : Calls Try.prog 7 #[.slice A0 ps.length c0, .slice A1 fs.length c1] w (HPost ps fs w) := by
  obtain ⟨n, hn⟩ : ∃ n, n = ps.length := ⟨_, rfl⟩
  have hm : fs.length = n := by omega
  rw [hm] at hr1 ⊢
  have HN := Lib.hid (And.intro hn hm)
  have HR0 := Lib.hid hr0
  have HR1 := Lib.hid hr1
  have HROW := Lib.hid hrow
  rw [← hn] at HR0 h1 ⊢
  have hu := Try.underlying35
  have d1 : decide ((1024 : Int) < (n : Int)) = false := decide_eq_false (by omega)
  have d1' : decide (1024 < n) = false := decide_eq_false (by omega)
  clear hr0 hr1 hrow hn hm h3
  go_enter Try.func7, Try.ntmps7
  go_wp2
  go_loopg [7, 37] n (fun g s7 s37 wr => ∃ i : Nat, i + g = n ∧ s37 = .int .i64 i ∧ Hid (WI wr w.heap.size s7 (waysTo ps i)) ∧ Hid (Below w.heap.size w wr) ∧ Hid (∀ x ∈ waysTo ps i, inR n x))
  case atStart => exact ⟨0, by omega, rfl, Kd.Q_nil _ _ _ _ _, Below.refl _ _, fun x hx => by cases hx⟩
  case round =>
    obtain ⟨i, hig, rfl, HW, HB, HIN⟩ := hrel
    cases gk with
    | zero =>
      obtain rfl : i = n := by omega
      obtain ⟨Aw, cw, rfl, hcw⟩ := Kd.Q_slice HW.out
      have hl := HN.out.1
      have hl2 := HN.out.2
      have hC := (Kd.Q_reads' HW.out).2.2
      have h2 : i * i ≤ 1048576 := Nat.mul_le_mul (show i ≤ 1024 by assumption) (show i ≤ 1024 by assumption)
      have hlen : (waysTo ps i).length ≤ 1048576 := Nat.le_trans (waysTo_le ps i i HIN.out) h2
      have hgood : good ps := fun j hj p hp => by
        have := HIN.out (mkW j p) ((waysTo_mem ps i _).2 ⟨j, by omega, rfl, hp⟩)
        rw [← hl]; exact this.1
      have HS := Lib.hid (And.intro HB.out.size hgood)
      by_cases hA : Kn.Acy (wsOf (waysTo ps i))
      · have cO := order_ok i Aw cw (waysTo ps i) wr hC hcw (by omega) hlen HIN.out hA
        have hG : hostsG ps fs = (hostsOut ps fs, none) := by
          unfold hostsG
          rw [if_neg (by omega), if_neg (by omega), if_neg (by simpa using hgood), if_pos (by unfold AcyP; rw [← hl]; exact hA)]
        have HG := Lib.hid hG
        have hmk := fun W => make_run i (by omega) W
        generalize hZ : madeCells #[Value.int .i64 0] i = Z at hmk
        have HZ := Lib.hid hZ
        clear hG hC hlen hgood hA hl hl2 h2 hZ
        go_wp2_with fail
        refine cO.mono ?_
        rintro e W1 ⟨vo, os, rfl, hqo, hbo, hio⟩
        have HQO := Lib.hid hqo
        have HBO := Lib.hid (HB.out.trans (hbo.mono HS.out.1))
        have HIO := Lib.hid hio
        clear hqo hbo hio cO HW HB HIN
        obtain ⟨Ao, co, rfl, _⟩ := q_slice HQO.out
        have HST := Lib.hid (HLoop.start ps fs i os W1 Z HZ.out)
        go_wp2_with fail
        go_loopg [81] os.length (fun g s81 wr => ∃ (k : Nat) (outs : List Int), k + g = os.length ∧ s81 = .int .i64 k ∧ Hid (HLoop ps fs i W1.heap.size os W1 k outs wr))
        case atStart => exact ⟨0, _, by omega, rfl, HST⟩
        case round =>
          clear HST
          obtain ⟨k, outs, hkg, rfl, HL⟩ := hrel
          have hc14 := (blk_cell HL.out.2.1 0).trans rfl
          cases gk with
          | zero =>
            have hk : k = os.length := by omega
            have HD := Lib.hid (HLoop.done HL.out hk HN.out.1 HIO.out HBO.out (Nat.le_refl _) (by assumption))
            obtain rfl : k = os.length := hk
            clear hkg
            go_wp2_with fail
            go_ret2
            exact ⟨.slice (some ⟨W1.heap.size, 0, none⟩) i i, by rw [HG.out]; rfl, by rw [HG.out]; exact HD.out.1, HD.out.2⟩
          | succ g =>
            have hkl : k < os.length := by omega
            have hkb : k < 1024 := by have := HIO.out.1; omega
            have hro := HIO.out.2.1 os[k] (List.getElem_mem hkl)
            have hox : os[k]? = some os[k] := List.getElem?_eq_getElem hkl
            obtain ⟨gq, oq, cq, eq_, _, hgq, _, _⟩ := Kd.Q_form (Q_of_QI HQO.out) (by omega)
            cases eq_
            have hoc := (Kd.Q_cell (enc := Value.int .i64) (h1 := fun _ => rfl) 0 (Q_of_QI HQO.out) (k : Int) (by omega) (by omega)).1
            have hok : rdOf 0 os (k : Int) = os[k] := by unfold rdOf; simp [hkl]
            rw [hok] at hoc
            have hoc : W1.cell? ⟨gq, oq + k, none⟩ = some (.int .i64 os[k]) := by simpa using hoc
            replace hoc := (HL.out.2.2.1.cell (p := ⟨gq, oq + k, none⟩) hgq).trans hoc
            generalize os[k] = x at hoc hro hox
            obtain ⟨x, rfl⟩ := Int.eq_ofNat_of_zero_le hro.1
            have hxi : x < i := by omega
            have HOX := Lib.hid hox
            have HKG := Lib.hid hkg
            obtain ⟨adf, eA1, hfc⟩ := Kd.at_bool HR1.out (x : Int) (by omega) (by omega)
            cases eA1
            have hBw : Below w.heap.size w wr := HBO.out.trans (HL.out.2.2.1.mono HBO.out.size)
            replace hfc := (hBw.cell (World.block_lt_of_cell? w _ hfc)).trans hfc
            have hfv : rdOf false fs (x : Int) = fs.getD x false := by unfold rdOf; simp
            rw [hfv, show ((x : Int)).toNat = x by omega] at hfc
            obtain ⟨ad0, Ay, cy, eA0, hyc, hyl, hCy⟩ := at_L2 HR0.out (x : Int) (by omega) (by omega)
            cases eA0
            rw [show ((x : Int)).toNat = x by omega] at hyc
            replace hyc := (hBw.cell (World.block_lt_of_cell? w _ hyc)).trans hyc
            have hCy2 := Kd.C_below hCy hBw
            have hgood := fun p hp => HS.out.2 x (by rw [← HN.out.1]; exact hxi) p hp
            rw [← HN.out.1] at hgood
            have hst : stateOf ps fs x = if fs.getD x false = true then (if rd_L2 ps x = [] ∨ (rd_L2 ps x).any (fun p => !fs.getD p.toNat false) = true then 2 else 3) else 0 := rfl
            have hany := HL.out.any HN.out.1 HIO.out hox hxi hgood
            obtain ⟨hsc, hsf⟩ := OutB_cell HL.out.1 x (by rw [HL.out.2.2.2.1]; exact hxi)
            generalize outs.getD x 0 = ov at hsc
            have hcall : 0 < (rd_L2 ps (x : Int)).length → _ := fun h => anyUp_calls W1.heap.size (W1.heap.size + 1) i outs wr HL.out.2.1 HL.out.1 HL.out.2.2.2.1 Ay cy (rd_L2 ps (x : Int)) hCy2 hgood h
            rw [hany] at hcall
            generalize fs.getD x false = fv at hfc hst
            generalize rd_L2 ps (x : Int) = ys at hyc hyl hCy hCy2 hgood hany hst hcall
            generalize (ys.any fun p => !fs.getD p.toNat false) = up at hany hst hcall
            have HST := Lib.hid hst
            have hxi0 : (0 : Int) ≤ (x : Int) := by omega
            have hxi1 : (x : Int) < (i : Int) := by omega
            clear hst hox hkg hok hfv hCy hCy2 hgood hany hro hBw hyl
            cases fv with
            | false =>
              clear hcall
              go_wp2_with fail
              go_roundg g
              case measure => omega
              case rel =>
                have hkg := HKG.out
                exact ⟨k + 1, outs, by omega, by go_num, HL.out.keep HOX.out hxi (by rw [HST.out]; simp)⟩
            | true =>
              by_cases hy0 : ys.length = 0
              · obtain rfl : ys = [] := List.eq_nil_of_length_eq_zero hy0
                clear hcall hy0
                go_wp2_with fail
                go_roundg g
                case measure => omega
                case rel =>
                  have hkg := HKG.out
                  exact ⟨k + 1, outs.set x 2, by omega, by go_num, HL.out.put (Nat.le_refl _) 0 HOX.out hxi 2 (by rw [HST.out]; simp)⟩
              · have cU := hcall (by omega)
                have hyn : ¬ ys = [] := fun e => hy0 (by rw [e]; rfl)
                have hl0 : ((ys.length : Int) == 0) = false := by simp; exact hyn
                have hl1 : (ys.length == 0) = false := by simp; exact hyn
                have HYN := Lib.hid hyn
                clear hcall hy0 hyn
                cases up with
                | true =>
                  go_wp2_with fail
                  refine cU.mono ?_
                  rintro e w' ⟨rfl, q, rfl⟩
                  go_wp2_with fail
                  go_roundg g
                  case measure => omega
                  case rel =>
                    have hkg := HKG.out
                    exact ⟨k + 1, outs.set x 2, by omega, by go_num, HL.out.put (Nat.le_refl _) q HOX.out hxi 2 (by rw [HST.out]; simp)⟩
                | false =>
                  go_wp2_with fail
                  refine cU.mono ?_
                  rintro e w' ⟨rfl, q, rfl⟩
                  go_wp2_with fail
                  go_roundg g
                  case measure => omega
                  case rel =>
                    have hkg := HKG.out
                    exact ⟨k + 1, outs.set x 3, by omega, by go_num, HL.out.put (Nat.le_refl _) q HOX.out hxi 3 (by rw [HST.out]; simp [HYN.out])⟩
      · have cO := order_loop i Aw cw (waysTo ps i) wr hC hcw (by omega) hlen HIN.out hA
        have hG : hostsG ps fs = ([], some 9) := by
          unfold hostsG
          rw [if_neg (by omega), if_neg (by omega), if_neg (by simpa using hgood), if_neg (by unfold AcyP; rw [← hl]; exact hA)]
        have HG := Lib.hid hG
        clear hG hC hlen hgood hA hl hl2 h2
        go_wp2_with fail
        refine cO.mono ?_
        rintro e W1 ⟨rfl, hbo⟩
        have HBO := Lib.hid (HB.out.trans (hbo.mono HS.out.1))
        clear hbo cO
        go_wp2_with fail
        go_ret2
        exact hpost_err HG.out HBO.out
    | succ g =>
      have hin : i < n := by omega
      obtain ⟨ad, Az, cz, hA, hx, hlz, hCz⟩ := at_L2 HR0.out (i : Int) (by omega) (by omega)
      cases hA
      have hrl := HROW.out i (by rw [← HN.out.1]; exact hin)
      have hrow : waysTo ps (i + 1) = waysTo ps i ++ rowWays (rd_L2 ps (i : Int)) i := rfl
      have hgd : good ps → ∀ p ∈ rd_L2 ps (i : Int), 0 ≤ p ∧ p < n := fun h p hp => by have := h i (by rw [← HN.out.1]; exact hin) p hp; rw [← HN.out.1] at this; exact this
      generalize rd_L2 ps (i : Int) = zs at hx hlz hCz hrl hrow hgd
      rw [show ((i : Int)).toNat = i by omega] at hx
      replace hx := (HB.out.cell (World.block_lt_of_cell? w _ hx)).trans hx
      have hsz := HB.out.size
      have HC3 : Holds3 wr.heap.size wr Az zs := holds3_C (Kd.C_below hCz HB.out)
      have hBv : Below wr.heap.size wr (wr.alloc (.cells #[.slice Az zs.length cz] 26)) := (Below.refl _ wr).alloc (Nat.le_refl _) _
      have cV := callsIn_wide.1 (values_in Fence.wide 8 trivial rfl Az zs.length cz wr)
      have cS := callsIn_wide.1 (sorted_in 8 (by omega) wr.heap.size Az cz zs (by omega) (wr.alloc (.cells #[.slice Az zs.length cz] 26)) (by simp) (by simp) ((HC3.below hBv).elim .inl (fun ⟨b, off, e, hb, hc⟩ => .inr ⟨b, off, e, by simp; omega, hc⟩)))
      have HRW := Lib.hid (And.intro hrow (And.intro hgd (And.intro hrl hsz)))
      have HBv := Lib.hid hBv
      have HIG := Lib.hid hig
      clear hrow hgd hrl hsz HC3 hCz hlz hBv hig
      have hin2 : i < ps.length := by rw [← HN.out.1]; exact hin
      go_wp2_with (first | (go_at_call 11; refine cV.mono ?_; rintro e w' ⟨rfl, rfl⟩) | (go_at_call 10; refine cS.mono ?_; rintro e W ⟨v, rfl, hro, hbb⟩; have HRO := Lib.hid hro; have HBB := Lib.hid hbb; clear hro hbb) | (go_at_call 9; refine (compact_calls HRO.out HRW.out.2.2.1).mono ?_; rintro e W2 ⟨v9, rfl, hq9, hb9⟩; have HQ9 := Lib.hid hq9; have HB9 := Lib.hid hb9; clear hq9 hb9; obtain ⟨A9, c9, rfl, _⟩ := q_slice HQ9.out))
      have hB2 : Below wr.heap.size wr W2 := HBv.out.trans ((HBB.out.mono (by simp)).trans (HB9.out.mono (by simp)))
      have HW2 := Lib.hid (WI_below HW.out hB2)
      have HQ2 : Hid (QI W2 w.heap.size (.slice A9 (cmp zs).length c9) (cmp zs)) := q_lower HQ9.out (by have := HRW.out.2.2.2; simp; omega)
      have HB2 := Lib.hid (HB.out.trans (hB2.mono HRW.out.2.2.2))
      have hcl := cmp_le zs
      have hcl2 : (cmp zs).length ≤ 1000000 := by have := HRW.out.2.2.1; omega
      clear hB2 HW HB HQ9 HB9 HBB HRO HBv hcl cV cS
      go_loopg [7, 47] (cmp zs).length (fun g s7 s47 wr' => ∃ j : Nat, j + g = (cmp zs).length ∧ s47 = .int .i64 j ∧ Hid (WI wr' w.heap.size s7 (waysTo ps i ++ ((cmp zs).take j).map (mkW i))) ∧ Hid (QI wr' w.heap.size (.slice A9 (cmp zs).length c9) (cmp zs)) ∧ Hid (Below w.heap.size w wr') ∧ Hid (∀ x ∈ waysTo ps i ++ ((cmp zs).take j).map (mkW i), inR n x))
      case atStart => exact ⟨0, by omega, rfl, by simpa using HW2, HQ2, HB2, by simpa using HIN⟩
      case round =>
        clear HW2 HQ2 HB2 HIN
        obtain ⟨j, hjg, rfl, HW, HQ, HB, HIN⟩ := hrel
        cases gk with
        | zero =>
          obtain rfl : j = (cmp zs).length := by omega
          go_wp2
          have hig := HIG.out
          have hwe : waysTo ps i ++ ((cmp zs).take (cmp zs).length).map (mkW i) = waysTo ps (i + 1) := by rw [List.take_length, HRW.out.1]; rfl
          have HW' := HW.out
          have HIN' := HIN.out
          rw [hwe] at HW' HIN'
          go_roundg g
          case measure => omega
          case rel => exact ⟨i + 1, by omega, by go_num, HW', HB, HIN'⟩
        | succ g2 =>
          have hjl : j < (cmp zs).length := by omega
          obtain ⟨g9, o9, cc, e9, hb9, hg9, cells9, hc9⟩ := Kd.Q_form (Q_of_QI HQ.out) (by omega)
          cases e9
          have hpc := (Kd.Q_cell (enc := Value.int .i64) (h1 := fun _ => rfl) 0 (Q_of_QI HQ.out) (j : Int) (by omega) (by omega)).1
          have hpz : (cmp zs)[j] ∈ zs := (cmp_mem zs _).1 (List.getElem_mem hjl)
          have hpj : rdOf 0 (cmp zs) (j : Int) = (cmp zs)[j] := by unfold rdOf; simp [hjl]
          have htk : (cmp zs).take (j + 1) = (cmp zs).take j ++ [(cmp zs)[j]] := by rw [List.take_succ_eq_append_getElem hjl]
          rw [hpj] at hpc
          have hpc : wr.cell? ⟨g9, o9 + j, none⟩ = some (.int .i64 (cmp zs)[j]) := by simpa using hpc
          generalize (cmp zs)[j] = p at hpc hpz htk
          have HP := Lib.hid (And.intro hpz htk)
          have HJ := Lib.hid hjg
          clear hpz htk hpj hjg hc9
          by_cases hbad : p < 0 ∨ n ≤ p
          · have hng : hostsG ps fs = ([], some 5) := by
              unfold hostsG
              have hl := HN.out.1
              have hl2 := HN.out.2
              rw [if_neg (by omega), if_neg (by omega), if_pos (fun h => by have := HRW.out.2.1 h p HP.out.1; omega)]
            have HNG := Lib.hid hng
            clear hng
            by_cases hneg : p < 0
            · have e1 : decide (p < 0) = true := decide_eq_true hneg
              clear hbad hneg
              go_wp2
              go_ret2
              exact hpost_err HNG.out HB.out
            · have e1 : decide (p < 0) = false := decide_eq_false hneg
              have e2 : decide ((n : Int) ≤ p) = true := decide_eq_true (by omega)
              clear hbad hneg
              go_wp2
              go_ret2
              exact hpost_err HNG.out HB.out
          · have e1 : decide (p < 0) = false := decide_eq_false (by omega)
            have e2 : decide ((n : Int) ≤ p) = false := decide_eq_false (by omega)
            have HPR := Lib.hid (show 0 ≤ p ∧ p < n by omega)
            have hnew : ∀ x ∈ waysTo ps i ++ ((cmp zs).take (j + 1)).map (mkW i), inR n x := fun x hx => by
              rw [HP.out.2, List.map_append, ← List.append_assoc] at hx
              rcases List.mem_append.1 hx with hx | hx
              · exact HIN.out x hx
              · simp only [List.map_cons, List.map_nil, List.mem_singleton] at hx
                subst hx
                exact ⟨HPR.out, by show (0 : Int) ≤ (i : Int); omega, by show (i : Int) < (n : Int); omega⟩
            have HNEW := Lib.hid hnew
            have hlen : (waysTo ps i ++ ((cmp zs).take j).map (mkW i)).length ≤ 10000000 := by
              have h1 := waysTo_le ps n i (fun x hx => HIN.out x (by simp [hx]))
              have h3 : i * n ≤ 1048576 := Nat.mul_le_mul (show i ≤ 1024 by omega) (show n ≤ 1024 by assumption)
              rw [List.length_append, List.length_map, List.length_take]; omega
            have HLEN := Lib.hid (And.intro hlen HB.out.size)
            clear hbad hnew hlen
            go_wp2_with (at_builtin; refine app_WI rfl (.tmp 59) (.tmp 63) rfl (w0 := w) w.heap.size _ _ (mkW i p) rfl rfl HW.out HB.out HLEN.out.2 HLEN.out.1 ?_; intro v1 w1 ho hb hg hat; have HQ1 := Lib.hid (And.intro ho (And.intro hb hg)); clear ho hb hg hat)
            go_roundg g2
            case measure => omega
            case rel =>
              have hjg := HJ.out
              refine ⟨j + 1, by omega, by go_num, ?_, QI_ways HQ.out HW.out HQ1.out.2.2, HQ1.out.2.1, HNEW.out⟩
              rw [HP.out.2, List.map_append, ← List.append_assoc]
              exact HQ1.out.1
end
theorem reach_Hosts.calls (A0 : Option Addr) (c0 : Nat) (l0 : List (List Int)) (A1 : Option Addr) (c1 : Nat) (l1 : List Bool) (r1 : List Int) (r2 : Option Int) (w : World)
    (hr0 : Kd.C (Kd.slice 3 (Kd.int .i64)) w A0 l0.length l0) (hc0 : l0.length ≤ c0) (hr1 : Kd.C Kd.bool w A1 l1.length l1) (hc1 : l1.length ≤ c1) (h : reach_Hosts.f l0 l1 = some (r1, r2)) :
    Calls Try.prog 7 #[.slice A0 l0.length c0, .slice A1 l1.length c1] w fun e w' => ∃ v0_ : Value, e = .returned (.tuple #[v0_, errW r2]) ∧ Kd.R (Kd.int .i64) 3 w' w.heap.size (fun _ => True) v0_ r1 ∧ Below w.heap.size w w' := by
  unfold reach_Hosts.f at h
  split at h
  case isFalse => cases h
  rename_i hh
  have hG := Option.some.inj h
  have fin : Calls Try.prog 7 #[.slice A0 l0.length c0, .slice A1 l1.length c1] w (HPost l0 l1 w) := by
    by_cases h1 : 1024 < l0.length ∨ 1024 < l1.length
    · exact hosts_long A0 c0 l0 A1 c1 l1 w h1
    · by_cases h2 : l0.length = l1.length
      · exact hosts_main A0 c0 l0 A1 c1 l1 w hr0 hr1 (by omega) h2 (hh.resolve_left (by omega))
      · exact hosts_arg A0 c0 l0 A1 c1 l1 w (by omega) (by omega) h2
  refine fin.mono ?_
  rintro e w' ⟨v0, h1, h2, h3⟩
  rw [hG] at h1 h2
  exact ⟨v0, h1, h2, h3⟩
end Go.Proofs.Ytkhemmeedklofaa.Pr
