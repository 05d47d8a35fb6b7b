/- LexPlain: the printed law answers true for every list of texts. -/
import Derived.Test.YthccokfajpgllaaDoorPureA
import Derived.Test.YthccokfajpgllaaDoorPr11
namespace Go.Proofs.YthccokfajpgllaaDoor.Pr
open Go Go.RowKit
open Go.Proofs.YthccokfajpgllaaDoorW.PrintWords Go.Proofs.YthccokfajpgllaaDoorW.PrintLast
set_option linter.unusedVariables false
set_option linter.unusedSimpArgs false

theorem bt_nat {s : ByteArray} {i : Nat} (h : i < (bl s).length) : bt s (i : Int) = ((bl s)[i].toNat : Int) := by
  have h' : (i : Int).toNat < s.size := by have := bl_size s; omega
  unfold bt
  rw [dif_pos h']
  rfl
theorem bt_is {s : ByteArray} {i : Nat} (h : i < (bl s).length) (c : UInt8) : bt s (i : Int) = (c.toNat : Int) ↔ (bl s)[i] = c := by
  rw [bt_nat h]
  constructor
  · intro e
    exact UInt8.toNat_inj.1 (by omega)
  · intro e; rw [e]
theorem not_mem_snoc {c : UInt8} {l : Lx.B} {i : Nat} (h : i < l.length) (hn : c ∉ l.take i) (hc : l[i] ≠ c) : c ∉ l.take (i + 1) := by
  rw [List.take_succ_eq_append_getElem h, List.mem_append]
  rintro (g | g)
  · exact hn g
  · simp at g; exact hc g.symm
theorem mkT {k : Nat} {A : List (Nat × Lx.B)} (h : k < A.length) : rd_T30 (A.map mk) (k : Int) = mk A[k] := by
  unfold rd_T30; simp [h]

/-- the second list's loop -/
theorem plain_l2 (A : List (Nat × Lx.B)) (hA : ∀ x ∈ A, 1 ≤ x.1 ∧ x.1 ≤ 1000000) (hn : A.length ≤ 1000000) : ∀ (d i : Nat), i + d = A.length →
    Ev (fun k => belvederelaw08_LexPlain.l2 k (A.map mk) ((A.map fun x => (3 * x.1 - 2, x.2)).map mk) i) true
  | 0, i, h => by
    refine Ev.step (f := fun k => (belvederelaw08_sure.f k).bind fun t156 => (some t156)) (fun k => ?_) (Ev.bind sure_ev (Ev.now _))
    simp only [belvederelaw08_LexPlain.l2]
    rw [if_neg (by rw [List.length_map]; omega)]
  | d + 1, i, h => by
    have hi : i < A.length := by omega
    have hb := hA A[i] (List.getElem_mem hi)
    refine Ev.step (fun k => ?_) (plain_l2 A hA hn d (i + 1) (by omega))
    simp only [belvederelaw08_LexPlain.l2]
    rw [if_pos (by rw [List.length_map]; omega), if_pos (by omega), if_pos (by rw [List.length_map, List.length_map]; omega)]
    rw [mkT hi, mkT (A := A.map fun x => (3 * x.1 - 2, x.2)) (by simpa using hi)]
    simp only [List.getElem_map, mk]
    have w1 : wrap64 (3 * (A[i].1 : Int)) = 3 * (A[i].1 : Int) := w64 (by omega) (by omega)
    rw [if_pos trivial, w1, w64 (by omega) (by omega), if_pos (by omega), w64 (by omega) (by omega)]
    rfl
section
variable (L : List ByteArray) (hL : L.length ≤ 40)
include hL
theorem plain_end (hp : ∀ p ∈ L.map bl, Lx.plain p ∧ p.length ≤ 100) : Ev (fun k => belvederelaw08_LexPlain.l0 k L (ba (Lx.joinA (L.map bl))) (ba (Lx.joinB (L.map bl))) (L.length : Int)) true := by
  have hlA := Lx.joinA_length (L.map bl) (fun p h => (hp p h).2)
  have hlB := Lx.joinB_length (L.map bl) (fun p h => (hp p h).2)
  rw [List.length_map] at hlA hlB
  have eA := lines_ev (ba (Lx.joinA (L.map bl))) (by rw [ba_size]; omega) (fun x hx => by rw [bl_ba] at hx; have := Lx.lines_short _ x hx; omega)
  have eB := lines_ev (ba (Lx.joinB (L.map bl))) (by rw [ba_size]; omega) (by rw [bl_ba]; exact Lx.shortB _ hp)
  rw [bl_ba] at eA eB
  have hm := Lx.outA_mem (L.map bl) (fun p h => (hp p h).1)
  rw [Lx.plain_law _ (fun p h => (hp p h).1)] at eB
  generalize hA : Lx.out (Lx.lines (Lx.joinA (L.map bl))) = A at eA eB hm
  have hAl : A.length ≤ 1000000 := by
    rw [← hA]
    unfold Lx.out
    refine Nat.le_trans (List.length_filter_le _ _) ?_
    rw [List.length_map, Lx.lines_joinA _ (fun p h => (hp p h).1)]
    have hnum : ∀ (ps : List Lx.B) (a : Nat), (Lx.num a ps).length = ps.length := by
      intro ps
      induction ps with
      | nil => intro a; rfl
      | cons p r ih => intro a; simp [Lx.num, ih]
    rw [hnum]; simp; omega
  refine Ev.step (f := fun k => (lex_Lines.f k (ba (Lx.joinA (L.map bl)))).bind fun bt140 => ((lex_Lines.f k (ba (Lx.joinB (L.map bl)))).bind fun bt145 => (if bt140.2.2.isNone = true then (if bt145.2.2.isNone = true then (belvederelaw08_LexPlain.j2 k bt140.1 bt145.1 ((bt140.1.length : Int) != (bt145.1.length : Int))) else (belvederelaw08_LexPlain.j2 k bt140.1 bt145.1 true)) else (belvederelaw08_LexPlain.j2 k bt140.1 bt145.1 true)))) (fun k => ?_) ?_
  · simp only [belvederelaw08_LexPlain.l0]
    rw [if_neg (by omega)]
  refine Ev.bind eA (Ev.bind eB ?_)
  refine Ev.step (fun k => ?_) (plain_l2 A (fun x hx => by have := hm x hx; simp at this; omega) hAl A.length 0 (by omega))
  simp only [Option.isNone_none, if_true, belvederelaw08_LexPlain.j2]
  rw [if_neg (by simp)]
  rfl
theorem plain_l1 (i : Nat) (hi : i < L.length) (hs : L[i].size ≤ 100) (X Y : Lx.B) (hX : X.length ≤ 100000) (hY : Y.length ≤ 100000)
    (next : Lx.plain (bl L[i]) → Ev (fun k => belvederelaw08_LexPlain.l0 k L (ba (X ++ (bl L[i] ++ [10]))) (ba (Y ++ (Lx.deck (bl L[i]) ++ [10, 32, 10, 35, 32, 120, 10]))) ((i + 1 : Nat) : Int)) true) :
    ∀ (d j : Nat), j + d = L[i].size → 10 ∉ (bl L[i]).take j → 92 ∉ (bl L[i]).take j → Ev (fun k => belvederelaw08_LexPlain.l1 k L (ba X) (ba Y) i j) true
  | 0, j, hj, h10, h92 => by
    have hb := bl_size L[i]
    rw [List.take_of_length_le (by omega)] at h10 h92
    refine Ev.step (fun k => ?_) (next ⟨h10, h92⟩)
    have e1 : (ba X ++ L[i]) ++ (⟨#[10]⟩ : ByteArray) = ba (X ++ (bl L[i] ++ [10])) := by
      apply bl_inj; rw [bl_append, bl_append, bl_ba, bl_ba, List.append_assoc]; rfl
    have e2 : ((((ba Y ++ (⟨#[32, 9]⟩ : ByteArray)) ++ L[i]) ++ (⟨#[32, 13, 59]⟩ : ByteArray)) ++ L[i]) ++ (⟨#[10, 32, 10, 35, 32, 120, 10]⟩ : ByteArray) = ba (Y ++ (Lx.deck (bl L[i]) ++ [10, 32, 10, 35, 32, 120, 10])) := by
      apply bl_inj; simp only [bl_append, bl_ba, Lx.deck, List.append_assoc]; rfl
    simp only [belvederelaw08_LexPlain.l1]
    have s1 : (ba X).size = X.length := ba_size X
    have s2 : (ba Y).size = Y.length := ba_size Y
    have z1 : (⟨#[32, 9]⟩ : ByteArray).size = 2 := rfl
    have z2 : (⟨#[32, 13, 59]⟩ : ByteArray).size = 3 := rfl
    rw [if_pos (by omega), if_pos (by omega), rdOf_at hi, if_neg (by omega), if_pos (by omega)]
    rw [if_pos (by rw [ByteArray.size_append]; omega), if_pos (by omega), if_pos (by rw [ByteArray.size_append]; omega), if_pos (by rw [ByteArray.size_append, ByteArray.size_append]; omega)]
    rw [if_pos (by rw [ByteArray.size_append, ByteArray.size_append, ByteArray.size_append]; omega), if_pos (by rw [ByteArray.size_append, ByteArray.size_append, ByteArray.size_append, ByteArray.size_append]; omega)]
    rw [e1, e2, w64 (by omega) (by omega)]; rfl
  | d + 1, j, hj, h10, h92 => by
    have hb := bl_size L[i]
    have hjl : j < (bl L[i]).length := by omega
    have b1 : bt L[i] (j : Int) = 10 ↔ (bl L[i])[j] = 10 := bt_is hjl 10
    have b2 : bt L[i] (j : Int) = 92 ↔ (bl L[i])[j] = 92 := bt_is hjl 92
    by_cases c1 : (bl L[i])[j] = 10
    · refine Ev.step (f := fun k => (belvederelaw08_sure.f k).bind fun t134 => (some t134)) (fun k => ?_) (Ev.bind sure_ev (Ev.now _))
      simp only [belvederelaw08_LexPlain.l1]
      rw [if_pos (by omega), if_pos (by omega), rdOf_at hi, if_pos (by omega), if_pos (by omega), if_pos (b1.2 c1)]
    · by_cases c2 : (bl L[i])[j] = 92
      · refine Ev.step (f := fun k => (belvederelaw08_sure.f k).bind fun t134 => (some t134)) (fun k => ?_) (Ev.bind sure_ev (Ev.now _))
        simp only [belvederelaw08_LexPlain.l1]
        rw [if_pos (by omega), if_pos (by omega), rdOf_at hi, if_pos (by omega), if_pos (by omega), if_neg (fun g => c1 (b1.1 g)), if_pos (b2.2 c2)]
      · refine Ev.step (fun k => ?_) (plain_l1 i hi hs X Y hX hY next d (j + 1) (by omega) (not_mem_snoc hjl h10 c1) (not_mem_snoc hjl h92 c2))
        simp only [belvederelaw08_LexPlain.l1]
        rw [if_pos (by omega), if_pos (by omega), rdOf_at hi, if_pos (by omega), if_pos (by omega), if_neg (fun g => c1 (b1.1 g)), if_neg (fun g => c2 (b2.1 g)), w64 (by omega) (by omega)]
        rfl
theorem plain_l0 : ∀ (d i : Nat), i + d = L.length → (∀ p ∈ (L.take i).map bl, Lx.plain p ∧ p.length ≤ 100) →
    Ev (fun k => belvederelaw08_LexPlain.l0 k L (ba (Lx.joinA ((L.take i).map bl))) (ba (Lx.joinB ((L.take i).map bl))) i) true
  | 0, i, h, hp => by
    obtain rfl : i = L.length := by omega
    rw [List.take_length] at hp ⊢
    exact plain_end L hL hp
  | d + 1, i, h, hp => by
    have hi : i < L.length := by omega
    have hlA := Lx.joinA_length ((L.take i).map bl) (fun p h => (hp p h).2)
    have hlB := Lx.joinB_length ((L.take i).map bl) (fun p h => (hp p h).2)
    rw [List.length_map, List.length_take] at hlA hlB
    by_cases hs : L[i].size ≤ 100
    · refine Ev.step (f := fun k => belvederelaw08_LexPlain.l1 k L (ba (Lx.joinA ((L.take i).map bl))) (ba (Lx.joinB ((L.take i).map bl))) i ((0 : Nat) : Int)) (fun k => ?_) ?_
      · simp only [belvederelaw08_LexPlain.l0]
        rw [if_pos (by omega), if_pos (by omega), rdOf_at hi, if_neg (by omega)]; rfl
      · refine plain_l1 L hL i hi hs _ _ (by omega) (by omega) (fun hpl => ?_) L[i].size 0 (by omega) (by simp) (by simp)
        have ht : (L.take (i + 1)).map bl = (L.take i).map bl ++ [bl L[i]] := by rw [List.take_succ_eq_append_getElem hi, List.map_append]; rfl
        have := plain_l0 d (i + 1) (by omega) (by
          rw [ht]
          intro p hp'
          rcases List.mem_append.1 hp' with g | g
          · exact hp p g
          · simp at g; subst g; exact ⟨hpl, by rw [bl_size]; exact hs⟩)
        rw [ht, Lx.joinA_snoc, Lx.joinB_snoc] at this
        exact this
    · refine Ev.step (f := fun k => (belvederelaw08_sure.f k).bind fun t131 => (some t131)) (fun k => ?_) (Ev.bind sure_ev (Ev.now _))
      simp only [belvederelaw08_LexPlain.l0]
      rw [if_pos (by omega), if_pos (by omega), rdOf_at hi, if_pos (by omega)]
end
theorem plain_true (L : List ByteArray) : ∃ k, belvederelaw08_LexPlain.f k L = some true := by
  refine Ev.rounds ?_
  by_cases h : L.length ≤ 40
  · refine Ev.congr (f := fun k => belvederelaw08_LexPlain.l0 k L (ba (Lx.joinA ((L.take 0).map bl))) (ba (Lx.joinB ((L.take 0).map bl))) ((0 : Nat) : Int)) (fun k => ?_) (plain_l0 L h L.length 0 (by omega) (by simp))
    unfold belvederelaw08_LexPlain.f
    rw [if_neg (by omega)]; rfl
  · refine Ev.congr (f := fun k => (belvederelaw08_sure.f k).bind fun t129 => (some t129)) (fun k => ?_) (Ev.bind sure_ev (Ev.now _))
    unfold belvederelaw08_LexPlain.f
    rw [if_pos (by omega)]
theorem final_LexPlain (A0 : Option Addr) (c0 : Nat) (l0 : List ByteArray) (w : World) (hr0 : Kd.C Kd.string w A0 l0.length l0) (hc0 : l0.length ≤ c0) (hG : Glob w) :
    Calls Tryd.prog 3 #[.slice A0 l0.length c0] w fun e w' => e = .returned (.bool true) ∧ Below w.heap.size w w' := by
  obtain ⟨k, hk⟩ := plain_true l0
  exact belvederelaw08_LexPlain.calls k A0 c0 l0 true w hr0 hc0 hG hk
end Go.Proofs.YthccokfajpgllaaDoor.Pr
