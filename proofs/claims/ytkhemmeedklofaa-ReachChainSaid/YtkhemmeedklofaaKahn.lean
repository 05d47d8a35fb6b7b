/- The plain law of an order of places (layer 12's sort): what the rounds of the walk keep, and what it means at the end. -/
set_option linter.unusedSimpArgs false
set_option linter.unusedVariables false
namespace Go.Kn
abbrev Ws := List (Int × Int)

/-- how many ways come to y from places that are not done -/
def cnt (ws : Ws) (done : List Int) (y : Int) : Nat := (ws.filter fun w => decide (w.2 = y ∧ w.1 ∉ done)).length
/-- where ways lead from x -/
def tos (ws : Ws) (x : Int) : List Int := (ws.filter fun w => decide (w.1 = x)).map (·.2)
/-- nothing leads back to itself -/
def Acy (ws : Ws) : Prop := ∃ rank : Int → Nat, ∀ w ∈ ws, rank w.1 < rank w.2

theorem pig : ∀ (n : Nat) (l : List Int), l.Nodup → (∀ x ∈ l, 0 ≤ x ∧ x < n) → l.length ≤ n
  | 0, l, _, h => by
    cases l with
    | nil => simp
    | cons x l => have := h x (by simp); omega
  | n + 1, l, hn, h => by
    by_cases hm : (n : Int) ∈ l
    · have := pig n (l.erase n) (hn.erase _) (fun x hx => by
        have hx' := (hn.mem_erase_iff).1 hx
        have := h x hx'.2
        have := hx'.1
        omega)
      rw [List.length_erase_of_mem hm] at this
      omega
    · have := pig n l hn (fun x hx => by
        have := h x hx
        have : x ≠ n := fun e => hm (e ▸ hx)
        omega)
      omega
theorem pig2 : ∀ (n : Nat) (l : List Int), (∀ y : Nat, y < n → (y : Int) ∈ l) → n ≤ l.length
  | 0, _, _ => Nat.zero_le _
  | n + 1, l, h => by
    have hm := h n (by omega)
    have := pig2 n (l.erase n) (fun y hy => (List.mem_erase_of_ne (by omega)).2 (h y (by omega)))
    rw [List.length_erase_of_mem hm] at this
    have := List.length_pos_of_mem hm
    omega

theorem cnt_zero {ws : Ws} {done : List Int} {y : Int} (h : cnt ws done y = 0) {p : Int} (hp : (p, y) ∈ ws) : p ∈ done := by
  unfold cnt at h
  have h1 := List.length_eq_zero_iff.1 h
  by_cases hd : p ∈ done
  · exact hd
  · have : (p, y) ∈ ws.filter fun w => decide (w.2 = y ∧ w.1 ∉ done) := List.mem_filter.2 ⟨hp, by simp [hd]⟩
    rw [h1] at this; cases this
theorem cnt_pos {ws : Ws} {done : List Int} {y : Int} (h : cnt ws done y ≠ 0) : ∃ p, (p, y) ∈ ws ∧ p ∉ done := by
  unfold cnt at h
  have h1 := List.length_pos_iff.1 (Nat.pos_of_ne_zero h)
  obtain ⟨w, hw⟩ := List.exists_mem_of_ne_nil _ h1
  obtain ⟨h2, h3⟩ := List.mem_filter.1 hw
  have h3 := of_decide_eq_true h3
  obtain ⟨p, q⟩ := w
  simp only at h3
  obtain ⟨rfl, h4⟩ := h3
  exact ⟨p, h2, h4⟩
theorem cnt_pop (done : List Int) (x y : Int) (hx : x ∉ done) : ∀ ws : Ws, cnt ws done y = cnt ws (done ++ [x]) y + (tos ws x).count y
  | [] => rfl
  | w :: ws => by
    have ih := cnt_pop done x y hx ws
    unfold cnt tos at ih ⊢
    simp only [List.filter_cons]
    by_cases h1 : w.1 = x
    · by_cases h2 : w.2 = y
      · simp [h1, h2, hx] at ih ⊢; omega
      · simp [h1, h2, hx, List.count_cons] at ih ⊢; omega
    · by_cases h2 : w.2 = y
      · by_cases h3 : w.1 ∈ done
        · simp [h1, h2, h3] at ih ⊢; omega
        · simp [h1, h2, h3] at ih ⊢; omega
      · simp [h1, h2] at ih ⊢; omega
theorem cnt_le (ws : Ws) (done : List Int) (y : Int) : cnt ws done y ≤ ws.length := List.length_filter_le _ _
theorem tos_le (ws : Ws) (x y : Int) : (tos ws x).count y ≤ ws.length := by
  refine Nat.le_trans List.count_le_length ?_
  unfold tos
  rw [List.length_map]; exact List.length_filter_le _ _

structure Inv (n : Nat) (ws : Ws) (order free many rest : List Int) : Prop where
  len : many.length = n
  rng : ∀ x ∈ order ++ free, 0 ≤ x ∧ x < n
  nodup : (order ++ free).Nodup
  many_eq : ∀ y : Nat, y < n → many.getD y 0 = (cnt ws order y : Int) + rest.count (y : Int)
  free_iff : ∀ y : Nat, y < n → ((y : Int) ∈ order ++ free ↔ many.getD y 0 = 0)
  topo : ∀ (a : List Int) (x : Int) (b : List Int), order = a ++ x :: b → ∀ p, (p, x) ∈ ws → p ∈ a
  sorted : free.Pairwise (· ≤ ·)

/-- the next place is taken -/
theorem Inv.pop {n : Nat} {ws : Ws} {order free many : List Int} {x : Int} (h : Inv n ws order (x :: free) many []) :
    Inv n ws (order ++ [x]) free many (tos ws x) := by
  have hx := h.rng x (by simp)
  have hxo : x ∉ order := fun e => by
    have := h.nodup
    rw [List.nodup_append] at this
    exact this.2.2 x e x (by simp) rfl
  have hmem : ∀ z, z ∈ order ++ [x] ++ free ↔ z ∈ order ++ x :: free := fun z => by simp
  refine ⟨h.len, fun z hz => h.rng z ((hmem z).1 hz), ?_, fun y hy => ?_, fun y hy => ?_, ?_, (List.pairwise_cons.1 h.sorted).2⟩
  · have := h.nodup; simpa using this
  · rw [h.many_eq y hy, cnt_pop order x y hxo ws]; simp
  · rw [hmem]; exact h.free_iff y hy
  · intro a z b e p hp
    rcases List.eq_nil_or_concat b with rfl | ⟨b', q, rfl⟩
    · have e2 : order = a ∧ x = z := by
        have := List.append_inj' e (by simp)
        exact ⟨this.1, by simpa using this.2⟩
      obtain ⟨rfl, rfl⟩ := e2
      have h0 : many.getD x.toNat 0 = 0 := by
        have := (h.free_iff x.toNat (by omega)).1 (by rw [show ((x.toNat : Nat) : Int) = x by omega]; simp)
        exact this
      have h1 := h.many_eq x.toNat (by omega)
      rw [h0, show ((x.toNat : Nat) : Int) = x by omega] at h1
      simp at h1
      exact cnt_zero (by omega) hp
    · have e2 : order = a ++ z :: b' := by
        have : order ++ [x] = (a ++ z :: b') ++ [q] := by rw [e]; simp
        exact (List.append_inj' this (by simp)).1
      exact h.topo a z b' e2 p hp
theorem set_getD (l : List Int) (i j : Nat) (v : Int) (hi : i < l.length) : (l.set i v).getD j 0 = if j = i then v else l.getD j 0 := by
  by_cases h : j = i
  · subst h; simp [hi]
  · rw [if_neg h]
    simp [List.getElem?_set, Ne.symm h]
/-- one way of the place's is struck, and nothing comes of it yet -/
theorem Inv.keep {n : Nat} {ws : Ws} {order free many rest : List Int} {y : Int} (h : Inv n ws order free many (y :: rest)) (hy : 0 ≤ y ∧ y < n)
    (h0 : many.getD y.toNat 0 - 1 ≠ 0) : Inv n ws order free (many.set y.toNat (many.getD y.toNat 0 - 1)) rest := by
  have hl : y.toNat < many.length := by rw [h.len]; omega
  have hc : ((y.toNat : Nat) : Int) = y := by omega
  refine ⟨by rw [List.length_set]; exact h.len, h.rng, h.nodup, fun z hz => ?_, fun z hz => ?_, h.topo, h.sorted⟩
  · rw [set_getD _ _ _ _ hl]
    by_cases e : z = y.toNat
    · subst e
      rw [if_pos rfl, h.many_eq _ hz, hc]; simp; omega
    · rw [if_neg e, h.many_eq z hz, List.count_cons_of_ne (by omega)]
  · rw [set_getD _ _ _ _ hl]
    by_cases e : z = y.toNat
    · subst e
      rw [if_pos rfl, h.free_iff _ hz]
      have := h.many_eq _ hz
      rw [hc, List.count_cons_self] at this
      omega
    · rw [if_neg e]; exact h.free_iff z hz
/-- .. and with that the other place is free -/
theorem Inv.put {n : Nat} {ws : Ws} {order free many rest : List Int} {y : Int} (h : Inv n ws order free many (y :: rest)) (hy : 0 ≤ y ∧ y < n)
    (h0 : many.getD y.toNat 0 - 1 = 0) (k : Nat) (hk : k ≤ free.length) (hlo : ∀ z ∈ free.take k, z ≤ y) (hhi : ∀ z ∈ free.drop k, y ≤ z) :
    Inv n ws order (free.take k ++ y :: free.drop k) (many.set y.toNat (many.getD y.toNat 0 - 1)) rest := by
  have hl : y.toNat < many.length := by rw [h.len]; omega
  have hc : ((y.toNat : Nat) : Int) = y := by omega
  have hnot : y ∉ order ++ free := fun e => by
    have := (h.free_iff y.toNat (by omega)).1 (by rw [hc]; exact e)
    omega
  have hmem : ∀ z, z ∈ order ++ (free.take k ++ y :: free.drop k) ↔ z = y ∨ z ∈ order ++ free := fun z => by
    conv => rhs; rw [← List.take_append_drop k free]
    simp only [List.mem_append, List.mem_cons]
    constructor
    · rintro (a | a | a | a)
      · exact Or.inr (Or.inl a)
      · exact Or.inr (Or.inr (Or.inl a))
      · exact Or.inl a
      · exact Or.inr (Or.inr (Or.inr a))
    · rintro (a | a | a | a)
      · exact Or.inr (Or.inr (Or.inl a))
      · exact Or.inl a
      · exact Or.inr (Or.inl a)
      · exact Or.inr (Or.inr (Or.inr a))
  refine ⟨by rw [List.length_set]; exact h.len, fun z hz => ?_, ?_, fun z hz => ?_, fun z hz => ?_, h.topo, ?_⟩
  · rcases (hmem z).1 hz with rfl | a
    · exact hy
    · exact h.rng z a
  · have hp : (order ++ (free.take k ++ y :: free.drop k)).Perm (y :: (order ++ free)) := by
      conv => rhs; rw [← List.take_append_drop k free]
      rw [← List.append_assoc, ← List.append_assoc]
      exact List.perm_middle
    exact hp.nodup_iff.2 (List.nodup_cons.2 ⟨hnot, h.nodup⟩)
  · rw [set_getD _ _ _ _ hl]
    by_cases e : z = y.toNat
    · subst e
      rw [if_pos rfl, h.many_eq _ hz, hc]; simp; omega
    · rw [if_neg e, h.many_eq z hz, List.count_cons_of_ne (by omega)]
  · rw [set_getD _ _ _ _ hl, hmem]
    by_cases e : z = y.toNat
    · subst e
      rw [if_pos rfl, hc, h0]; simp
    · rw [if_neg e, ← h.free_iff z hz]
      constructor
      · rintro (a | a)
        · omega
        · exact a
      · exact Or.inr
  · have hs := h.sorted
    rw [← List.take_append_drop k free] at hs
    rw [List.pairwise_append] at hs ⊢
    refine ⟨hs.1, List.pairwise_cons.2 ⟨hhi, hs.2.1⟩, fun a ha b hb => ?_⟩
    rcases List.mem_cons.1 hb with rfl | hb
    · exact hlo a ha
    · exact hs.2.2 a ha b hb
theorem Inv.bound {n : Nat} {ws : Ws} {order free many rest : List Int} (h : Inv n ws order free many rest) : order.length + free.length ≤ n := by
  have := pig n _ h.nodup h.rng
  rwa [List.length_append] at this
theorem Inv.many_le {n : Nat} {ws : Ws} {order free many rest : List Int} (h : Inv n ws order free many rest) (y : Nat) (hy : y < n) : 0 ≤ many.getD y 0 ∧ many.getD y 0 ≤ ws.length + rest.length := by
  have := h.many_eq y hy
  have h1 := cnt_le ws order y
  have h2 : rest.count (y : Int) ≤ rest.length := List.count_le_length
  omega
def place (l : List Int) (x : Int) : Nat := (l.takeWhile (· != x)).length
theorem place_at {x : Int} {a b : List Int} (h : x ∉ a) : place (a ++ x :: b) x = a.length := by
  unfold place
  rw [List.takeWhile_append_of_pos (fun z hz => by simp; exact fun e => h (e ▸ hz)), List.takeWhile_cons, if_neg (by simp), List.append_nil]
theorem place_in {x : Int} {r : List Int} : ∀ {a : List Int}, x ∈ a → place (a ++ r) x < a.length
  | [], h => by cases h
  | z :: a, h => by
    unfold place
    rw [List.cons_append, List.takeWhile_cons]
    by_cases hz : z = x
    · rw [if_neg (by simp [hz])]; simp
    · rw [if_pos (by simp [hz])]
      have := place_in (r := r) (x := x) (a := a) (by
        rcases List.mem_cons.1 h with e | h
        · exact absurd e.symm hz
        · exact h)
      unfold place at this
      simp; exact this
/-- at the end: all places are in the order just where nothing leads back to itself -/
theorem Inv.done {n : Nat} {ws : Ws} {order many : List Int} (h : Inv n ws order [] many []) (hw : ∀ w ∈ ws, (0 ≤ w.1 ∧ w.1 < n) ∧ 0 ≤ w.2 ∧ w.2 < n) :
    (order.length = n ↔ Acy ws) ∧ (order.length = n → ∀ y : Nat, y < n → (y : Int) ∈ order) := by
  have hall : order.length = n → ∀ y : Nat, y < n → (y : Int) ∈ order := fun hl y hy => by
    by_cases hm : (y : Int) ∈ order
    · exact hm
    · have hnd := h.nodup
      rw [List.append_nil] at hnd
      have := pig n ((y : Int) :: order) (List.nodup_cons.2 ⟨hm, hnd⟩) (fun x hx => by
        rcases List.mem_cons.1 hx with rfl | hx
        · omega
        · exact h.rng x (by simpa using hx))
      simp at this; omega
  refine ⟨⟨fun hl => ?_, fun ⟨rank, hr⟩ => ?_⟩, hall⟩
  · refine ⟨fun z => place order z, fun w hww => ?_⟩
    obtain ⟨h1, h2⟩ := hw w hww
    have hm := hall hl w.2.toNat (by omega)
    rw [show ((w.2.toNat : Nat) : Int) = w.2 by omega] at hm
    obtain ⟨a, b, e, hna⟩ := List.append_of_mem hm |>.elim fun a ⟨b, e⟩ => (⟨a, b, e, fun hx => by
      have hnd := h.nodup
      rw [List.append_nil, e, List.nodup_append] at hnd
      exact hnd.2.2 _ hx _ (by simp) rfl⟩ : ∃ a b, order = a ++ w.2 :: b ∧ w.2 ∉ a)
    have hp := h.topo a w.2 b e w.1 (by obtain ⟨p, q⟩ := w; exact hww)
    have e1 : place order w.2 = a.length := by rw [e]; exact place_at hna
    have e2 : place order w.1 < a.length := by rw [e]; exact place_in hp
    show place order w.1 < place order w.2
    omega
  · have key : ∀ (r : Nat) (y : Nat), y < n → rank y < r → (y : Int) ∈ order := by
      intro r
      induction r with
      | zero => intro y _ h0; omega
      | succ r ih =>
        intro y hy hr0
        have hf := h.free_iff y hy
        rw [List.append_nil] at hf
        rw [hf, h.many_eq y hy]
        by_cases hc : cnt ws order y = 0
        · rw [hc]; simp
        · obtain ⟨p, hp, hno⟩ := cnt_pos hc
          have hpr := (hw _ hp).1
          have hlt := hr _ hp
          simp only at hpr hlt
          have := ih p.toNat (by omega) (by rw [show ((p.toNat : Nat) : Int) = p by omega]; omega)
          rw [show ((p.toNat : Nat) : Int) = p by omega] at this
          exact absurd this hno
    have h1 := pig2 n order (fun y hy => key (rank y + 1) y hy (by omega))
    have h2 := h.bound
    simp at h2
    omega

/-! ### the begin -/
theorem cnt_snoc (ws : Ws) (w : Int × Int) (y : Int) : cnt (ws ++ [w]) [] y = cnt ws [] y + if w.2 = y then 1 else 0 := by
  unfold cnt
  rw [List.filter_append, List.length_append]
  by_cases h : w.2 = y <;> simp [h]
/-- the places that are free among the first k -/
def free0 (many : List Int) (k : Nat) : List Int := ((List.range k).filter fun i => decide (many.getD i 0 = 0)).map fun i : Nat => (i : Int)
theorem free0_succ (many : List Int) (k : Nat) : free0 many (k + 1) = free0 many k ++ if many.getD k 0 = 0 then [(k : Int)] else [] := by
  unfold free0
  rw [List.range_succ, List.filter_append, List.map_append]
  congr 1
  rw [List.filter_cons, List.filter_nil]
  by_cases h : many.getD k 0 = 0
  · rw [if_pos h, if_pos (decide_eq_true h)]; rfl
  · rw [if_neg h, if_neg (fun g => h (of_decide_eq_true g))]; rfl
theorem free0_mem (many : List Int) (k : Nat) (z : Int) : z ∈ free0 many k ↔ ∃ i : Nat, i < k ∧ z = i ∧ many.getD i 0 = 0 := by
  unfold free0
  simp only [List.mem_map, List.mem_filter, List.mem_range, decide_eq_true_eq]
  constructor
  · rintro ⟨i, ⟨h1, h2⟩, rfl⟩; exact ⟨i, h1, rfl, h2⟩
  · rintro ⟨i, h1, rfl, h2⟩; exact ⟨i, ⟨h1, h2⟩, rfl⟩
theorem free0_sorted (many : List Int) (k : Nat) : (free0 many k).Pairwise (· < ·) := by
  unfold free0
  rw [List.pairwise_map]
  exact (List.Pairwise.filter _ List.pairwise_lt_range).imp (fun h => by omega)
theorem Inv.start {n : Nat} {ws : Ws} {many : List Int} (hl : many.length = n) (hm : ∀ y : Nat, y < n → many.getD y 0 = (cnt ws [] y : Int)) :
    Inv n ws [] (free0 many n) many [] := by
  refine ⟨hl, fun x hx => ?_, ?_, fun y hy => ?_, fun y hy => ?_, fun a x b e => ?_, (free0_sorted many n).imp (fun h => by omega)⟩
  · obtain ⟨i, h1, rfl, _⟩ := (free0_mem many n x).1 (by simpa using hx)
    omega
  · rw [List.nil_append]; exact (free0_sorted many n).imp (fun h => by omega)
  · rw [hm y hy]; simp
  · rw [List.nil_append, free0_mem]
    constructor
    · rintro ⟨i, h1, h2, h3⟩
      obtain rfl : y = i := by omega
      exact h3
    · intro h; exact ⟨y, hy, rfl, h⟩
  · cases a <;> cases e
end Go.Kn
