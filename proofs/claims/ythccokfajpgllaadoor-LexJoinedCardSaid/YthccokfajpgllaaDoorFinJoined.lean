/- LexJoined: the printed law answers true for every list of texts and every number. -/
import Derived.Test.YthccokfajpgllaaDoorFinPlain
import Derived.Test.YthccokfajpgllaaDoorPr12
namespace Go.Proofs.YthccokfajpgllaaDoor.Pr
open Go Go.RowKit
open Go.Proofs.YthccokfajpgllaaDoorW.PrintWords Go.Proofs.YthccokfajpgllaaDoorW.PrintLast
set_option linter.unusedVariables false
set_option linter.unusedSimpArgs false

theorem many_snoc : ∀ (l : List Lx.B) (x : Lx.B), Lx.many (l ++ [x]) = (l.map fun y => y ++ [92, 10]).flatten ++ x
  | [], x => by simp [Lx.many]
  | [y], x => by simp [Lx.many]
  | y :: z :: l, x => by
    have ih := many_snoc (z :: l) x
    show y ++ 92 :: 10 :: Lx.many ((z :: l) ++ [x]) = _
    rw [ih]; simp
/-- what the second text holds ahead of the last part -/
def manyA (l : List Lx.B) : Lx.B := (l.map fun y => y ++ [92, 10]).flatten
theorem manyA_snoc (l : List Lx.B) (x : Lx.B) : manyA (l ++ [x]) = manyA l ++ (x ++ [92, 10]) := by simp [manyA]
theorem flat_le (l : List Lx.B) (h : ∀ p ∈ l, p.length ≤ 100) : l.flatten.length ≤ 100 * l.length ∧ (manyA l).length ≤ 102 * l.length := by
  induction l with
  | nil => simp [manyA]
  | cons x l ih =>
    have ih' := ih (fun p hp => h p (by simp [hp]))
    have hx := h x (by simp)
    have e1 : (x :: l).flatten.length = x.length + l.flatten.length := by rw [List.flatten_cons, List.length_append]
    have e2 : (manyA (x :: l)).length = x.length + 2 + (manyA l).length := by
      show ((x ++ [92, 10]) ++ manyA l).length = _
      rw [List.length_append, List.length_append]; rfl
    rw [e1, e2, List.length_cons]
    omega
section
variable (L : List ByteArray) (hL : L.length ≤ 20) (hL1 : 1 ≤ L.length)
include hL hL1
/-- the last loop -/
theorem joined_l3 (n : Nat) (hn : n ≤ 4) (A C : List (Nat × Lx.B)) (hA : A.map (·.2) = C.map (·.2)) (hC : ∃ x, C = [(n + L.length + 1, Lx.lastB)] ∨ C = [(n + 1, x), (n + L.length + 1, Lx.lastB)]) :
    ∀ (d i : Nat), i + d = A.length → Ev (fun k => belvederelaw08_LexJoined.l3 k L n (A.map mk) (C.map mk) i) true
  | 0, i, h => by
    have hl : A.length = C.length := by rw [← List.length_map (f := (·.2)), hA, List.length_map]
    have sv : ∀ g : Nat → Option Bool, (∀ k, g (k + 1) = (belvederelaw08_sure.f k).bind fun t => some t) → Ev g true := fun g hg => Ev.step hg (Ev.bind sure_ev (Ev.now _))
    refine sv _ (fun k => ?_)
    simp only [belvederelaw08_LexJoined.l3]
    rw [if_neg (by rw [List.length_map]; omega)]
    obtain ⟨x, rfl | rfl⟩ := hC
    · rw [w64 (by simp) (by simp)]
      simp [rd_T30, mk, toList_ba, Lx.lastB]
      intro hne
      exfalso; apply hne
      rw [w64 (x := (n : Int) + L.length) (by omega) (by omega), w64 (by omega) (by omega)]
    · rw [w64 (by simp) (by simp)]
      simp [rd_T30, mk, toList_ba, Lx.lastB]
      rw [w64 (x := (n : Int) + L.length) (by omega) (by omega), w64 (by omega) (by omega), w64 (by omega) (by omega)]
      simp
  | d + 1, i, h => by
    have hl : A.length = C.length := by rw [← List.length_map (f := (·.2)), hA, List.length_map]
    have hi : i < A.length := by omega
    have hc2 : C.length ≤ 2 := by obtain ⟨x, rfl | rfl⟩ := hC <;> simp
    refine Ev.step (fun k => ?_) (joined_l3 n hn A C hA hC d (i + 1) (by omega))
    simp only [belvederelaw08_LexJoined.l3]
    rw [if_pos (by rw [List.length_map]; omega), if_pos (by omega), if_pos (by rw [List.length_map]; omega)]
    rw [mkT hi, mkT (A := C) (by omega)]
    have e : A[i].2 = C[i].2 := by
      have := congrArg (·[i]?) hA
      simp only [List.getElem?_map] at this
      rw [List.getElem?_eq_getElem hi, List.getElem?_eq_getElem (by omega)] at this
      simpa using this
    have e3 : (mk A[i]).f1.toList = (mk C[i]).f1.toList := by unfold mk; rw [e]
    rw [if_pos e3, w64 (by omega) (by omega)]
    rfl
theorem joined_end (hp : ∀ p ∈ L.map bl, Lx.plain p ∧ p.length ≤ 100) (n : Nat) (hn : n ≤ 4) :
    ∀ (d i : Nat), i + d = n → Ev (fun k => belvederelaw08_LexJoined.l2 k L (ba (L.map bl).flatten) (ba (Lx.many (L.map bl))) n (ba (List.replicate i 10)) i) true
  | d + 1, i, h => by
    refine Ev.step (fun k => ?_) (joined_end hp n hn d (i + 1) (by omega))
    simp only [belvederelaw08_LexJoined.l2]
    rw [if_pos (by omega), if_pos (by rw [ba_size, List.length_replicate]; omega), w64 (by omega) (by omega)]
    have : ba (List.replicate i 10) ++ (⟨#[10]⟩ : ByteArray) = ba (List.replicate (i + 1) 10) := by
      apply bl_inj; rw [bl_append, bl_ba, bl_ba, List.replicate_succ']; rfl
    rw [this]; rfl
  | 0, i, h => by
    obtain rfl : i = n := by omega
    have hne : L.map bl ≠ [] := by intro e; have := congrArg List.length e; simp at this; subst this; simp at hL1
    have hfl := flat_le (L.map bl) (fun p h => (hp p h).2)
    have hmany : (Lx.many (L.map bl)).length ≤ 102 * L.length := by
      obtain ⟨l, x, e⟩ : ∃ l x, L.map bl = l ++ [x] := ⟨_, _, (List.dropLast_concat_getLast hne).symm⟩
      have hx := (hp x (by rw [e]; simp)).2
      have := (flat_le l (fun p h => (hp p (by rw [e]; simp [h])).2)).2
      have hll : L.length = l.length + 1 := by rw [← List.length_map (f := bl), e]; simp
      rw [e, many_snoc]
      show (manyA l ++ x).length ≤ _
      rw [List.length_append]; omega
    rw [List.length_map] at hfl
    have t1 : (ba (List.replicate i 10) ++ ba (L.map bl).flatten) ++ (⟨#[10, 108, 97, 115, 116]⟩ : ByteArray) = ba (Lx.oneText i (L.map bl)) := by
      apply bl_inj; simp only [bl_append, bl_ba, Lx.oneText, Lx.lastB, List.append_assoc]; rfl
    have t2 : (ba (List.replicate i 10) ++ ba (Lx.many (L.map bl))) ++ (⟨#[10, 108, 97, 115, 116]⟩ : ByteArray) = ba (Lx.manyText i (L.map bl)) := by
      apply bl_inj; simp only [bl_append, bl_ba, Lx.manyText, Lx.lastB, List.append_assoc]; rfl
    have s1 : (Lx.oneText i (L.map bl)).length ≤ 4000 := by simp [Lx.oneText, Lx.lastB, -List.length_flatten]; omega
    have s2 : (Lx.manyText i (L.map bl)).length ≤ 4000 := by simp [Lx.manyText, Lx.lastB]; omega
    have eA := lines_ev (ba (Lx.oneText i (L.map bl))) (by rw [ba_size]; omega) (fun x hx => by rw [bl_ba] at hx; have := Lx.lines_short _ x hx; omega)
    have eC := lines_ev (ba (Lx.manyText i (L.map bl))) (by rw [ba_size]; omega) (fun x hx => by rw [bl_ba] at hx; have := Lx.lines_short _ x hx; omega)
    rw [bl_ba] at eA eC
    rw [Lx.one_law i _ (fun p h => (hp p h).1)] at eA
    rw [Lx.many_law i _ hne (fun p h => (hp p h).1), List.length_map] at eC
    generalize hx : Lx.said (L.map bl).flatten = x at eA eC
    refine Ev.step (f := fun k => (lex_Lines.f k (ba (Lx.oneText i (L.map bl)))).bind fun bt167 => ((lex_Lines.f k (ba (Lx.manyText i (L.map bl)))).bind fun bt172 => (if bt167.2.2.isNone = true then (if bt172.2.2.isNone = true then (if (bt167.1.length : Int) = (bt172.1.length : Int) then (belvederelaw08_LexJoined.j4 k L i bt167.1 bt172.1 ((bt167.1.length : Int) == 0)) else (belvederelaw08_LexJoined.j4 k L i bt167.1 bt172.1 true)) else (belvederelaw08_LexJoined.j4 k L i bt167.1 bt172.1 true)) else (belvederelaw08_LexJoined.j4 k L i bt167.1 bt172.1 true)))) (fun k => ?_) ?_
    · simp only [belvederelaw08_LexJoined.l2]
      rw [if_neg (by omega)]
      have z1 : (ba (List.replicate i 10)).size = i := by rw [ba_size, List.length_replicate]
      have z2 := ba_size (L.map bl).flatten
      have z3 := ba_size (Lx.many (L.map bl))
      have c3 : (ba (List.replicate i 10)).size + (ba (Lx.many (L.map bl))).size ≤ 9223372036854775807 := by omega
      have c4 : (ba (List.replicate i 10) ++ ba (Lx.many (L.map bl))).size + 5 ≤ 9223372036854775807 := by rw [ByteArray.size_append]; omega
      rw [if_pos (by omega), if_pos (by rw [ByteArray.size_append]; omega), t1]
      simp only [if_pos c3, if_pos c4, t2]
    · refine Ev.bind eA (Ev.bind eC ?_)
      simp only [Option.isNone_none, if_true]
      by_cases h0 : x = []
      · simp only [if_pos h0]
        refine Ev.step (fun k => ?_) (joined_l3 L hL hL1 i hn [(i + 2, Lx.lastB)] [(i + L.length + 1, Lx.lastB)] rfl ⟨[], .inl rfl⟩ 1 0 rfl)
        rw [if_pos (by simp)]
        simp [belvederelaw08_LexJoined.j4]
      · simp only [if_neg h0]
        refine Ev.step (fun k => ?_) (joined_l3 L hL hL1 i hn [(i + 1, x), (i + 2, Lx.lastB)] [(i + 1, x), (i + L.length + 1, Lx.lastB)] rfl ⟨x, .inr rfl⟩ 2 0 rfl)
        rw [if_pos (by simp)]
        simp [belvederelaw08_LexJoined.j4]
theorem joined_l1 (a1 : Int) (i : Nat) (hi : i < L.length) (hs : L[i].size ≤ 100) (X Y : Lx.B) (hX : X.length ≤ 100000) (hY : Y.length ≤ 100000)
    (next : Lx.plain (bl L[i]) → Ev (fun k => belvederelaw08_LexJoined.l0 k L a1 (ba (X ++ bl L[i])) (ba (Y ++ (if i + 1 < L.length then bl L[i] ++ [92, 10] else bl L[i]))) ((i + 1 : Nat) : Int)) true) :
    ∀ (d j : Nat), j + d = L[i].size → 10 ∉ (bl L[i]).take j → 92 ∉ (bl L[i]).take j → Ev (fun k => belvederelaw08_LexJoined.l1 k L a1 (ba X) (ba Y) i j) true
  | 0, j, hj, h10, h92 => by
    have hb := bl_size L[i]
    rw [List.take_of_length_le (by omega)] at h10 h92
    refine Ev.step (fun k => ?_) (next ⟨h10, h92⟩)
    have e1 : ba X ++ L[i] = ba (X ++ bl L[i]) := by
      apply bl_inj; rw [bl_append, bl_ba, bl_ba]
    have e2 : (ba Y ++ L[i]) ++ (⟨#[92, 10]⟩ : ByteArray) = ba (Y ++ (bl L[i] ++ [92, 10])) := by
      apply bl_inj; simp only [bl_append, bl_ba, List.append_assoc]; rfl
    have e3 : ba Y ++ L[i] = ba (Y ++ bl L[i]) := by
      apply bl_inj; rw [bl_append, bl_ba, bl_ba]
    simp only [belvederelaw08_LexJoined.l1]
    have s1 : (ba X).size = X.length := ba_size X
    have s2 : (ba Y).size = Y.length := ba_size Y
    rw [if_pos (by omega), if_pos (by omega), rdOf_at hi, if_neg (by omega), if_pos (by omega), if_pos (by omega), w64 (by omega) (by omega), w64 (by omega) (by omega)]
    by_cases hlast : i + 1 < L.length
    · rw [if_pos (by omega), if_pos (by rw [ByteArray.size_append]; omega), e1, e2, if_pos hlast]; rfl
    · rw [if_neg (by omega), e1, e3, if_neg hlast]; rfl
  | d + 1, j, hj, h10, h92 => by
    have hb := bl_size L[i]
    have hjl : j < (bl L[i]).length := by omega
    have b1 : bt L[i] (j : Int) = 10 ↔ (bl L[i])[j] = 10 := bt_is hjl 10
    have b2 : bt L[i] (j : Int) = 92 ↔ (bl L[i])[j] = 92 := bt_is hjl 92
    by_cases c1 : (bl L[i])[j] = 10
    · refine Ev.step (f := fun k => (belvederelaw08_sure.f k).bind fun t134 => (some t134)) (fun k => ?_) (Ev.bind sure_ev (Ev.now _))
      simp only [belvederelaw08_LexJoined.l1]
      rw [if_pos (by omega), if_pos (by omega), rdOf_at hi, if_pos (by omega), if_pos (by omega), if_pos (b1.2 c1)]
    · by_cases c2 : (bl L[i])[j] = 92
      · refine Ev.step (f := fun k => (belvederelaw08_sure.f k).bind fun t134 => (some t134)) (fun k => ?_) (Ev.bind sure_ev (Ev.now _))
        simp only [belvederelaw08_LexJoined.l1]
        rw [if_pos (by omega), if_pos (by omega), rdOf_at hi, if_pos (by omega), if_pos (by omega), if_neg (fun g => c1 (b1.1 g)), if_pos (b2.2 c2)]
      · refine Ev.step (fun k => ?_) (joined_l1 a1 i hi hs X Y hX hY next d (j + 1) (by omega) (not_mem_snoc hjl h10 c1) (not_mem_snoc hjl h92 c2))
        simp only [belvederelaw08_LexJoined.l1]
        rw [if_pos (by omega), if_pos (by omega), rdOf_at hi, if_pos (by omega), if_pos (by omega), if_neg (fun g => c1 (b1.1 g)), if_neg (fun g => c2 (b2.1 g)), w64 (by omega) (by omega)]
        rfl
/-- the second text behind i parts -/
def manyTo (i : Nat) : Lx.B := if i < L.length then manyA ((L.take i).map bl) else Lx.many (L.map bl)
omit hL hL1 in
theorem manyTo_succ (i : Nat) (hi : i < L.length) : manyTo L (i + 1) = manyTo L i ++ (if i + 1 < L.length then bl L[i] ++ [92, 10] else bl L[i]) := by
  have ht : (L.take (i + 1)).map bl = (L.take i).map bl ++ [bl L[i]] := by rw [List.take_succ_eq_append_getElem hi, List.map_append]; rfl
  unfold manyTo
  by_cases h : i + 1 < L.length
  · rw [if_pos h, if_pos hi, if_pos h, ht, manyA_snoc]
  · rw [if_neg h, if_pos hi, if_neg h]
    have : L.map bl = (L.take i).map bl ++ [bl L[i]] := by
      rw [← ht, List.take_of_length_le (by omega)]
    rw [this, many_snoc]; rfl
theorem joined_l0 (a1 : Int) : ∀ (d i : Nat), i + d = L.length → (∀ p ∈ (L.take i).map bl, Lx.plain p ∧ p.length ≤ 100) →
    Ev (fun k => belvederelaw08_LexJoined.l0 k L a1 (ba ((L.take i).map bl).flatten) (ba (manyTo L i)) i) true
  | 0, i, h, hp => by
    obtain rfl : i = L.length := by omega
    rw [List.take_length] at hp ⊢
    have hw : ∃ n : Nat, n ≤ 4 ∧ wrap64 (Int.tmod (IntKind.u64.wrap a1) 5) = (n : Int) := by
      have h0 : 0 ≤ IntKind.u64.wrap a1 := by rw [IntKind.wrap_u64]; omega
      have h1 : Int.tmod (IntKind.u64.wrap a1) 5 = IntKind.u64.wrap a1 % 5 := Int.tmod_eq_emod_of_nonneg h0
      refine ⟨(IntKind.u64.wrap a1 % 5).toNat, by omega, ?_⟩
      rw [h1, w64 (by omega) (by omega)]
      omega
    obtain ⟨n, hn, hw⟩ := hw
    refine Ev.step (fun k => ?_) (joined_end L hL hL1 hp n hn n 0 (by omega))
    simp only [belvederelaw08_LexJoined.l0]
    rw [if_neg (by omega), hw]
    unfold manyTo
    rw [if_neg (by omega)]
    rfl
  | d + 1, i, h, hp => by
    have hi : i < L.length := by omega
    have hfl := flat_le ((L.take i).map bl) (fun p h => (hp p h).2)
    rw [List.length_map, List.length_take] at hfl
    have hm : (manyTo L i).length ≤ 100000 := by unfold manyTo; rw [if_pos hi]; omega
    by_cases hs : L[i].size ≤ 100
    · refine Ev.step (f := fun k => belvederelaw08_LexJoined.l1 k L a1 (ba ((L.take i).map bl).flatten) (ba (manyTo L i)) i ((0 : Nat) : Int)) (fun k => ?_) ?_
      · simp only [belvederelaw08_LexJoined.l0]
        rw [if_pos (by omega), if_pos (by omega), rdOf_at hi, if_neg (by omega)]; rfl
      · refine joined_l1 L hL hL1 a1 i hi hs _ _ (by omega) hm (fun hpl => ?_) L[i].size 0 (by omega) (by simp) (by simp)
        have ht : (L.take (i + 1)).map bl = (L.take i).map bl ++ [bl L[i]] := by rw [List.take_succ_eq_append_getElem hi, List.map_append]; rfl
        have := joined_l0 a1 d (i + 1) (by omega) (by
          rw [ht]
          intro p hp'
          rcases List.mem_append.1 hp' with g | g
          · exact hp p g
          · simp at g; subst g; exact ⟨hpl, by rw [bl_size]; exact hs⟩)
        rw [ht, manyTo_succ L i hi, List.flatten_append] at this
        simpa using this
    · refine Ev.step (f := fun k => (belvederelaw08_sure.f k).bind fun t131 => (some t131)) (fun k => ?_) (Ev.bind sure_ev (Ev.now _))
      simp only [belvederelaw08_LexJoined.l0]
      rw [if_pos (by omega), if_pos (by omega), rdOf_at hi, if_pos (by omega)]
end
theorem joined_true (L : List ByteArray) (a1 : Int) : ∃ k, belvederelaw08_LexJoined.f k L a1 = some true := by
  refine Ev.rounds ?_
  have bad : Ev (fun k => belvederelaw08_LexJoined.j0 k L a1 true) true := by
    refine Ev.step (f := fun k => (belvederelaw08_sure.f k).bind fun t129 => (some t129)) (fun k => ?_) (Ev.bind sure_ev (Ev.now _))
    simp only [belvederelaw08_LexJoined.j0]
    rw [if_pos trivial]
  by_cases h0 : L.length = 0
  · refine Ev.congr (fun k => ?_) bad
    unfold belvederelaw08_LexJoined.f
    rw [if_pos (by omega)]
  by_cases h : L.length ≤ 20
  · refine Ev.congr (f := fun k => belvederelaw08_LexJoined.j0 k L a1 false) (fun k => ?_) ?_
    · unfold belvederelaw08_LexJoined.f
      rw [if_neg (by omega), decide_eq_false (by omega)]
    · refine Ev.step (fun k => ?_) (joined_l0 L h (by omega) a1 L.length 0 (by omega) (by simp))
      simp only [belvederelaw08_LexJoined.j0]
      rw [if_neg (by simp)]
      unfold manyTo
      rw [if_pos (by omega)]
      rfl
  · refine Ev.congr (fun k => ?_) bad
    unfold belvederelaw08_LexJoined.f
    rw [if_neg (by omega), decide_eq_true (by omega)]
theorem final_LexJoined (A0 : Option Addr) (c0 : Nat) (l0 : List ByteArray) (a1 : Int) (w : World) (hr0 : Kd.C Kd.string w A0 l0.length l0) (hc0 : l0.length ≤ c0) (_w1 : (Lit.int IntKind.i64 a1).wf = true) (hG : Glob w) :
    Calls Tryd.prog 4 #[.slice A0 l0.length c0, .int .i64 a1] w fun e w' => e = .returned (.bool true) ∧ Below w.heap.size w w' := by
  obtain ⟨k, hk⟩ := joined_true l0 a1
  exact belvederelaw08_LexJoined.calls k A0 c0 l0 a1 true w hr0 hc0 hG hk
end Go.Proofs.YthccokfajpgllaaDoor.Pr
