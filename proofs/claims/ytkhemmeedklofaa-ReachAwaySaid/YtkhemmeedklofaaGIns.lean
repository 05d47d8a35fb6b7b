/- slices.Insert of one number into a row of the call's own that may begin inside its block. -/
import Derived.Test.YtkhemmeedklofaaPr0
import Derived.Test.YtkhemmeedklofaaShelf
import Derived.Test.YtkhemmeedklofaaWArr
import Derived.Lib.Hide
import Derived.Test.YtkhemmeedklofaaGCheck
namespace Go.Proofs.Ytkhemmeedklofaa.Pr
open Go Go.RowKit Go.Shelf
open Go.Proofs.YtkhemmeedklofaaW.PrintWords Go.Proofs.YtkhemmeedklofaaW.PrintLast
set_option linter.unusedVariables false
set_option linter.unusedSimpArgs false

/-- a row of numbers of the call's own -/
def QI (w : World) (base : Nat) (v : Value) (xs : List Int) : Prop := QRow w base 3 1 v xs.length (encs (Value.int .i64) xs)
theorem QI_of_Q {w : World} {base : Nat} {ok : Nat → Prop} {v : Value} {xs : List Int} (h : (Kd.int .i64).Q 3 w base ok v xs) : QI w base v xs := by
  obtain ⟨_, inner, hq, hr⟩ := h
  have e : inner = encs (Value.int .i64) xs := Kd.reps_encs hr
  subst e
  exact hq
theorem Q_of_QI {w : World} {base : Nat} {v : Value} {xs : List Int} (h : QI w base v xs) : (Kd.int .i64).Q 3 w base (fun _ => True) v xs :=
  ⟨fun _ _ => trivial, _, h, Kd.reps_scalar xs⟩
theorem QI_of_R {w : World} {base : Nat} {ok : Nat → Prop} {v : Value} {xs : List Int} (h : (Kd.int .i64).R 3 w base ok v xs) : QI w base v xs := QI_of_Q (Kd.Q_of_R h)

theorem shift_list {α : Type} (cur cs : List α) (o n k : Nat) (y : α) (hk : k ≤ n) (hfit : o + n + 1 ≤ cur.length) (hcs : (cur.drop o).take n = cs) :
    ((((cur.take (o + (k + 1)) ++ cs.drop k ++ cur.drop (o + (k + 1) + (cs.drop k).length)).take (o + k) ++ [y] ++ (cur.take (o + (k + 1)) ++ cs.drop k ++ cur.drop (o + (k + 1) + (cs.drop k).length)).drop (o + k + 1))).drop o).take (n + 1) = cs.take k ++ y :: cs.drop k := by
  have hl : cs.length = n := by rw [← hcs, List.length_take, List.length_drop]; omega
  have la : (cur.take (o + (k + 1))).length = o + k + 1 := by rw [List.length_take]; omega
  generalize hr : cur.drop (o + (k + 1) + (cs.drop k).length) = rest
  have h1 : (cur.take (o + (k + 1)) ++ cs.drop k ++ rest).take (o + k) = cur.take (o + k) := by
    rw [List.append_assoc, List.take_append_of_le_length (by omega), List.take_take]
    congr 1; omega
  have h2 : (cur.take (o + (k + 1)) ++ cs.drop k ++ rest).drop (o + k + 1) = cs.drop k ++ rest := by
    rw [List.append_assoc, List.drop_left' la]
  have h3 : (cur.take (o + k)).drop o = cs.take k := by
    rw [List.drop_take, ← hcs, List.take_take]
    congr 1; omega
  have lb : (cur.take (o + k)).length = o + k := by rw [List.length_take]; omega
  rw [h1, h2, List.append_assoc, List.drop_append_of_le_length (by omega), h3]
  rw [← List.append_assoc, ← List.append_assoc]
  rw [List.take_left' (by simp [hl]; omega)]
  simp

theorem end_list {α : Type} (cur cs : List α) (o n : Nat) (y : α) (hfit : o + n + 1 ≤ cur.length) (hcs : (cur.drop o).take n = cs) :
    ((cur.take (o + n) ++ [y] ++ cur.drop (o + n + [y].length)).drop o).take (n + 1) = cs ++ [y] := by
  have hl : cs.length = n := by rw [← hcs, List.length_take, List.length_drop]; omega
  have h3 : (cur.take (o + n)).drop o = cs := by rw [List.drop_take, ← hcs]; congr 1; omega
  have lb : (cur.take (o + n)).length = o + n := by rw [List.length_take]; omega
  rw [List.append_assoc, List.drop_append_of_le_length (by omega), h3, ← List.append_assoc]
  rw [List.take_left' (by simp [hl])]
section
variable {W : World} {base : Nat} {v : Value} {xs : List Int}
theorem grow_drew {W W' : World} {row : Option Nat} (h : W.drew.grownBy W' row) : W.grownBy W' row := ⟨h.os, h.tape, h.output, h.size, h.block⟩
theorem alloc_size_ (W : World) (o : Obj) : (W.drew.alloc o).heap.size = W.heap.size + 1 := by simp
theorem grow_alloc (W : World) (o : Obj) (row : Option Nat) : W.grownBy (W.drew.alloc o) row :=
  ⟨rfl, rfl, rfl, by rw [alloc_size_]; exact Nat.le_succ _, fun k hk _ => Below.heap_alloc W.drew o k hk⟩
theorem encs_ins (xs : List Int) (k : Nat) (y : Int) : encs (Value.int .i64) (xs.take k ++ y :: xs.drop k) = (encs (Value.int .i64) xs).take k ++ Value.int .i64 y :: (encs (Value.int .i64) xs).drop k := by
  unfold encs
  rw [List.map_append, List.map_cons, List.map_take, List.map_drop]
theorem ins_len {α : Type} (xs : List α) (k : Nat) (y : α) (hk : k ≤ xs.length) : (xs.take k ++ y :: xs.drop k).length = xs.length + 1 := by
  rw [List.length_append, List.length_cons, List.length_take, List.length_drop]; omega

theorem ins_calls (hq : QI W base v xs) (k : Nat) (hk : k ≤ xs.length) (vb : Nat) (y : Int) (hvb : W.heap[vb]? = some (.cells #[.int .i64 y] 3 (0, 0))) (hne : v.ownBlock ≠ some vb) (hlen : xs.length ≤ 1000000) (hbase : base ≤ W.heap.size) :
    Calls Try.prog 28 #[v, .int .i64 k, .slice (some ⟨vb, 0, none⟩) 1 1] W fun e W' => ∃ v', e = .returned v' ∧ QI W' base v' (xs.take k ++ y :: xs.drop k) ∧ W.grownBy W' v.ownBlock ∧ (v'.ownBlock = v.ownBlock ∨ ∃ b, v'.ownBlock = some b ∧ W.heap.size ≤ b) := by
  have hL := ins_len xs k y hk
  have hE := encs_ins xs k y
  have hel : (encs (Value.int .i64) xs).length = xs.length := encs_length xs
  have hvs : ∀ (j : Nat) u, ([Value.int .i64 y] : List Value)[j]? = some u → W.cell? ⟨vb, 0 + j, none⟩ = some u := fun j u hu => by
    match j with
    | 0 => simp at hu; subst hu; exact (blk_cell hvb 0).trans rfl
    | j + 1 => simp at hu
  have h1v : ∀ u ∈ ([Value.int .i64 y] : List Value), u.oneCell' = true := by simp [Value.oneCell']
  have h1c : ∀ u ∈ encs (Value.int .i64) xs, u.oneCell' = true := fun u hu => by
    unfold encs at hu; obtain ⟨z, _, rfl⟩ := List.mem_map.1 hu; rfl
  unfold QI at hq ⊢
  generalize hcs : encs (Value.int .i64) xs = cs at hq hE hel h1c
  have newRow : ∀ (W' : World) (cells : Array Value) (cap : Nat), W'.heap[W.heap.size]? = some (.cells cells 3 (0, 0)) → cells.size = cap → xs.length + 1 ≤ cap → cap ≤ maxLen → cells.toList.take (xs.length + 1) = cs.take k ++ Value.int .i64 y :: cs.drop k →
      QRow W' base 3 1 (.slice (some ⟨W.heap.size, 0, none⟩) (xs.length + 1) cap) (xs.take k ++ y :: xs.drop k).length (encs (Value.int .i64) (xs.take k ++ y :: xs.drop k)) := fun W' cells cap h1 h2 h3 h4 h5 => by
    rw [hL, hE]
    refine ⟨by rw [ins_len cs k _ (by omega)]; omega, .inr ⟨W.heap.size, 0, cap, cells, by simp, hbase, h1, h3, by omega, by omega, ?_⟩⟩
    rw [Nat.zero_mul, List.drop_zero, Nat.mul_one]; exact h5
  obtain ⟨hq1, hq2⟩ := hq
  have hz1 : (Value.int .i64 0).cells.size = 1 := rfl
  have growEnd : ∀ (A : Option Addr) (c : Nat), v = .slice A xs.length c → k = xs.length → xs.length ≤ c → c < xs.length + 1 → (A = none → xs.length = 0) → (∀ a, A = some a → ∀ (j : Nat) u, cs[j]? = some u → W.cell? (a.add j) = some u) →
      Calls Try.prog 28 #[v, .int .i64 k, .slice (some ⟨vb, 0, none⟩) 1 1] W fun e W' => ∃ v', e = .returned v' ∧ QRow W' base 3 1 v' (xs.take k ++ y :: xs.drop k).length (encs (Value.int .i64) (xs.take k ++ y :: xs.drop k)) ∧ W.grownBy W' v.ownBlock ∧ (v'.ownBlock = v.ownBlock ∨ ∃ b, v'.ownBlock = some b ∧ W.heap.size ≤ b) := by
    intro A c hv hkn hc1 hc2 hnil hcell
    subst hv hkn
    refine (Any2.slices_Insert_int_end_grow Try.lays21i A xs.length c vb 0 1 1 cs [.int .i64 y] W (by omega) hc1 hc2 (by omega) (by omega) rfl hnil hcell hvs h1v).mono ?_
    rintro e W' ⟨rfl, rfl⟩
    have g1 := grownCap_ge W (xs.length + 1) c 3
    have g2 := grownCap_le_maxLen W (xs.length + 1) c 3 (by unfold maxLen; omega)
    refine ⟨_, rfl, newRow _ _ _ (heap_alloc_new W.drew _) ?_ g1 g2 ?_, grow_alloc W _ _, .inr ⟨W.heap.size, rfl, Nat.le_refl _⟩⟩
    · have hs0 : (cs ++ [Value.int .i64 y]).toArray.size = xs.length + 1 := by simp [hel]
      rw [Array.size_append, size_zeroCells, hz1, hs0, Nat.mul_one]
      exact Nat.add_sub_cancel' g1
    · rw [Array.toList_append, List.take_append_of_le_length (by simp; omega)]
      rw [List.take_of_length_le (by simp; omega), List.take_of_length_le (by omega), List.drop_of_length_le (by omega)]
  rcases hq2 with ⟨h0, A, rfl, _⟩ | ⟨g, off, cap, cur, rfl, hb, hh, hnc, hcm, hcs2, ht⟩
  · refine growEnd A 0 (by rw [h0]) (by omega) (by omega) (by omega) (fun _ => h0) (fun a _ j u hu => ?_)
    rw [List.eq_nil_of_length_eq_zero (show cs.length = 0 by omega)] at hu
    simp at hu
  · rw [Nat.mul_one] at growEnd ht hne ⊢
    rw [Nat.mul_one] at ht hcs2
    have hcells : ∀ (j : Nat) u, cs[j]? = some u → W.cell? ⟨g, off + j, none⟩ = some u := fun j u hu => by
      rw [blk_cell hh, ← Array.getElem?_toList]
      have hj : j < xs.length := by have := (List.getElem?_eq_some_iff.1 hu).1; omega
      rw [← ht, List.getElem?_take, if_pos hj, List.getElem?_drop] at hu
      exact hu
    have hmx : maxLen = 9223372036854775807 := rfl
    by_cases hkn : k = xs.length
    · by_cases hroom : xs.length + 1 ≤ cap
      · subst hkn
        refine (Any2.slices_Insert_int_end_room Try.lays21i g off xs.length cap vb 0 1 1 [.int .i64 y] W (by omega) hroom (by omega) rfl (fun j hj => ?_) (fun j _ => blk_frozen hh _) hvs h1v).mono ?_
        · obtain rfl : j = 0 := by omega
          rw [blk_cell hh, Array.getElem?_eq_getElem (by omega)]; rfl
        rintro e W' ⟨rfl, rfl⟩
        obtain ⟨cur', e1, e2, e3⟩ := setCells_row [.int .i64 y] (off + xs.length) W cur hh (by simp; omega)
        obtain ⟨s1, s2, s3, s4⟩ := setCells_same g [.int .i64 y] (off + xs.length) W
        refine ⟨_, rfl, ?_, ⟨s1, s2, s3, by rw [s4]; exact Nat.le_refl _, fun j _ hj => setCells_far _ _ j (fun e => hj (by subst e; rfl))⟩, .inl rfl⟩
        rw [hL, hE]
        refine ⟨by rw [ins_len cs _ _ (by omega)]; omega, .inr ⟨g, off, cap, cur', by rw [Nat.mul_one], hb, e1, hroom, hcm, by rw [e2]; omega, ?_⟩⟩
        rw [Nat.mul_one, Nat.mul_one, e3, List.take_of_length_le (i := xs.length) (l := cs) (by omega), List.drop_of_length_le (i := xs.length) (l := cs) (by omega)]
        exact end_list cur.toList cs off xs.length (.int .i64 y) (by have : cur.toList.length = cur.size := Array.length_toList; omega) ht
      · exact growEnd (some ⟨g, off, none⟩) cap rfl hkn hnc (by omega) (fun e => by cases e) (fun a e j u hu => by cases e; rw [addr_add]; exact hcells j u hu)
    · have hki : k < xs.length := by omega
      by_cases hroom : xs.length + 1 ≤ cap
      · have hkA : vb ≠ g := fun e => hne (by rw [e]; rfl)
        refine (Any2.slices_Insert_int_shift Try.lays21i g off xs.length cap k vb 0 1 1 cs [.int .i64 y] W hki (by omega) hroom (by omega) hkA hel rfl hcells (fun j hj => ?_) (fun j _ => blk_frozen hh _) hvs h1c h1v 3 3 1 cur.size
          (by simp [World.shape?, hvb]) (by simp [World.shape?, hh]) (by omega) (blk_frozen hvb _) (blk_frozen hvb _)).mono ?_
        · rw [blk_cell hh, Array.getElem?_eq_getElem (by omega)]; rfl
        rintro e W' ⟨rfl, rfl⟩
        have hh' : W.drew.heap[g]? = some (.cells cur 3 (0, 0)) := hh
        have hdl : (cs.drop k).length = xs.length - k := by rw [List.length_drop]; omega
        obtain ⟨cur1, e1, e2, e3⟩ := setCells_row (cs.drop k) (off + (k + 1)) W.drew cur hh' (by omega)
        obtain ⟨s1, s2, s3, s4⟩ := setCells_same g (cs.drop k) (off + (k + 1)) W.drew
        obtain ⟨cur2, f1, f2, f3⟩ := setCells_row [.int .i64 y] (off + k) _ cur1 e1 (by simp; omega)
        obtain ⟨t1, t2, t3, t4⟩ := setCells_same g [.int .i64 y] (off + k) (W.drew.setCells g (off + (k + 1)) (cs.drop k))
        refine ⟨_, rfl, ?_, ⟨t1.trans s1, t2.trans s2, t3.trans s3, by rw [t4, s4]; exact Nat.le_refl _, fun j _ hj => ?_⟩, .inl rfl⟩
        · rw [hL, hE]
          refine ⟨by rw [ins_len cs _ _ (by omega)]; omega, .inr ⟨g, off, cap, cur2, by rw [Nat.mul_one], hb, f1, hroom, hcm, by rw [f2, e2]; omega, ?_⟩⟩
          rw [Nat.mul_one, Nat.mul_one, f3, e3]
          exact shift_list cur.toList cs off xs.length k (.int .i64 y) (by omega) (by simp; omega) ht
        · have hjg : j ≠ g := fun e => hj (by subst e; rfl)
          rw [setCells_far _ _ j hjg, setCells_far _ _ j hjg]; rfl
      · have key : Calls Try.prog 28 #[.slice (some ⟨g, off, none⟩) xs.length cap, .int .i64 k, .slice (some ⟨vb, 0, none⟩) 1 1] W fun e w' =>
            e = .returned (.slice (some ⟨W.heap.size, 0, none⟩) (xs.length + 1) (grownCap W (xs.length + 1) cap 3)) ∧
            w' = (((W.alloc (.cells ((cs.take k).toArray ++ Builtin.zeroCells (Value.int .i64 0).cells (xs.length + 1 - k) ++ Builtin.zeroCells (Value.int .i64 0).cells (grownCap W (xs.length + 1) cap 3 - (xs.length + 1))) 3)).drew.setCells W.heap.size k [.int .i64 y]).drew).setCells W.heap.size (k + 1) (cs.drop k) :=
          Any2.slices_Insert_int_grow Try.lays21i g off xs.length cap k vb 0 1 1 cs [.int .i64 y] W hki (by omega) hnc (by omega) (by omega) hel rfl hcells hvs h1c h1v
        have g1 := grownCap_ge W (xs.length + 1) cap 3
        have g2 := grownCap_le_maxLen W (xs.length + 1) cap 3 (by unfold maxLen; omega)
        generalize hG : grownCap W (xs.length + 1) cap 3 = G at g1 g2 key
        generalize hC : ((cs.take k).toArray ++ Builtin.zeroCells (Value.int .i64 0).cells (xs.length + 1 - k) ++ Builtin.zeroCells (Value.int .i64 0).cells (G - (xs.length + 1))) = C at key
        refine key.mono ?_
        rintro e W' ⟨rfl, rfl⟩
        have hCs : C.size = G := by
          rw [← hC, Array.size_append, Array.size_append, size_zeroCells, size_zeroCells, hz1]
          simp; omega
        have hCt : C.toList.take k = cs.take k := by
          rw [← hC, Array.toList_append, Array.toList_append, List.append_assoc, List.take_append_of_le_length (by simp; omega)]
          show (cs.take k).take k = cs.take k
          rw [List.take_take, Nat.min_self]
        have hdl : (cs.drop k).length = xs.length - k := by rw [List.length_drop]; omega
        have b0 : (W.alloc (.cells C 3)).drew.heap[W.heap.size]? = some (.cells C 3 (0, 0)) := heap_alloc_new W _
        obtain ⟨cur1, e1, e2, e3⟩ := setCells_row [.int .i64 y] k (W.alloc (.cells C 3)).drew C b0 (by simp; omega)
        obtain ⟨s1, s2, s3, s4⟩ := setCells_same W.heap.size [.int .i64 y] k (W.alloc (.cells C 3)).drew
        have e1' : ((W.alloc (.cells C 3)).drew.setCells W.heap.size k [.int .i64 y]).drew.heap[W.heap.size]? = some (.cells cur1 3 (0, 0)) := e1
        obtain ⟨cur2, f1, f2, f3⟩ := setCells_row (cs.drop k) (k + 1) _ cur1 e1' (by omega)
        obtain ⟨t1, t2, t3, t4⟩ := setCells_same W.heap.size (cs.drop k) (k + 1) ((W.alloc (.cells C 3)).drew.setCells W.heap.size k [.int .i64 y]).drew
        refine ⟨_, rfl, newRow _ cur2 G f1 (by rw [f2, e2, hCs]) g1 g2 ?_, ⟨t1.trans s1, t2.trans s2, t3.trans s3, ?_, fun j hj _ => ?_⟩, .inr ⟨W.heap.size, rfl, Nat.le_refl _⟩⟩
        · rw [f3, e3]
          have l1 : (C.toList.take k).length = k := by rw [hCt, List.length_take]; omega
          have l2 : (C.toList.take k ++ [Value.int .i64 y] ++ C.toList.drop (k + [Value.int .i64 y].length)).take (k + 1) = cs.take k ++ [Value.int .i64 y] := by
            rw [List.take_append_of_le_length (by simp; omega), List.take_of_length_le (by simp; omega), hCt]
          rw [l2, List.append_assoc, ← List.append_assoc, List.take_append_of_le_length (by simp [hdl]; omega), List.take_of_length_le (by simp [hdl]; omega)]
          simp
        · rw [t4]
          show W.heap.size ≤ ((W.alloc (.cells C 3)).drew.setCells W.heap.size k [.int .i64 y]).heap.size
          rw [s4]; simp
        · have hjg : j ≠ W.heap.size := by omega
          rw [setCells_far _ _ j hjg]
          show ((W.alloc (.cells C 3)).drew.setCells W.heap.size k [.int .i64 y]).heap[j]? = _
          rw [setCells_far _ _ j hjg]
          exact Below.heap_alloc W _ j hj
end
end Go.Proofs.Ytkhemmeedklofaa.Pr
