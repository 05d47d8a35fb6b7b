namespace Go.Mac
abbrev B := List UInt8

/-- a text, cut at its marks -/
def cut : B → List B
  | [] => [[]]
  | c :: r => if c = 36 then [] :: cut r else
    match cut r with
    | [] => [[c]]
    | h :: t => (c :: h) :: t

theorem cut_ne (s : B) : cut s ≠ [] := by
  cases s with
  | nil => simp [cut]
  | cons c r => unfold cut; split; · simp
                split <;> simp

theorem cut_cons_ne {c : UInt8} {r : B} (h : c ≠ 36) : ∃ x t, cut r = x :: t ∧ cut (c :: r) = (c :: x) :: t := by
  cases e : cut r with
  | nil => exact absurd e (cut_ne r)
  | cons x t => exact ⟨x, t, rfl, by simp [cut, h, e]⟩

theorem cut_mark (r : B) : cut (36 :: r) = [] :: cut r := by simp [cut]

theorem cut_length : ∀ s : B, (cut s).length = s.count 36 + 1
  | [] => rfl
  | c :: r => by
    have ih := cut_length r
    by_cases h : c = 36
    · subst h; rw [cut_mark]; simp [ih]
    · obtain ⟨x, t, e1, e2⟩ := cut_cons_ne (r := r) h
      rw [e2, List.count_cons_of_ne (by simpa using h), ← ih, e1]; simp

def findV (name : B) : List (B × B) → B
  | [] => []
  | (n, v) :: t => if n = name then v else findV name t
def valM (l : List (B × B)) (name : B) : B := if name = [] then [36] else findV name l

def expGo (l : List (B × B)) : Bool → List B → B → Option B
  | _, [], out => some out
  | odd, p :: t, out =>
    let v := if odd then valM l p else p
    if out.length + v.length > 65536 then none else expGo l (!odd) t (out ++ v)

def refGo (l : List (B × B)) : B → B → B → Bool → Option B
  | [], out, _, _ => some out
  | c :: r, out, name, inn =>
    if c ≠ 36 then
      if inn then (if out.length > 65536 then none else refGo l r out (name ++ [c]) true)
      else (if (out ++ [c]).length > 65536 then none else refGo l r (out ++ [c]) name false)
    else if inn then (if (out ++ valM l name).length > 65536 then none else refGo l r (out ++ valM l name) name false)
    else (if out.length > 65536 then none else refGo l r out [] true)

theorem ref_exp (l : List (B × B)) : ∀ (s out : B), out.length ≤ 65536 →
    (∀ name, (cut s).length % 2 = 1 → refGo l s out name false = expGo l false (cut s) out) ∧
    (∀ pre h t, cut s = h :: t → (cut s).length % 2 = 0 → refGo l s out pre true = expGo l true ((pre ++ h) :: t) out)
  | [], out, ho => by
    refine ⟨fun name _ => ?_, fun pre h t e hl => ?_⟩
    · simp [refGo, cut, expGo]; omega
    · simp [cut] at hl
  | c :: r, out, ho => by
    by_cases hc : c = 36
    · subst hc
      refine ⟨fun name hl => ?_, fun pre h t e hl => ?_⟩
      · rw [cut_mark] at hl ⊢
        obtain ⟨h, t, e⟩ : ∃ h t, cut r = h :: t := by
          cases e : cut r with
          | nil => exact absurd e (cut_ne r)
          | cons h t => exact ⟨h, t, rfl⟩
        have := (ref_exp l r out ho).2 [] h t e (by simp only [List.length_cons] at hl; omega)
        simp only [refGo, ne_eq, not_true_eq_false, if_false, Bool.false_eq_true]
        rw [if_neg (by omega), this]
        rw [e]
        simp only [List.nil_append]
        conv => rhs; unfold expGo
        simp only [Bool.false_eq_true, if_false, List.length_nil, Nat.add_zero, List.append_nil, Bool.not_false]
        rw [if_neg (by omega)]
      · rw [cut_mark] at e hl
        obtain ⟨rfl, rfl⟩ : h = [] ∧ t = cut r := by simpa [eq_comm] using e
        simp only [refGo, ne_eq, not_true_eq_false, if_false, if_true]
        simp only [List.append_nil]
        conv => rhs; unfold expGo
        simp only [if_true, Bool.not_true]
        by_cases hv : (out ++ valM l pre).length > 65536
        · rw [if_pos hv, if_pos (by simpa using hv)]
        · rw [if_neg hv, if_neg (by simpa using hv)]
          exact (ref_exp l r _ (by omega)).1 pre (by simp only [List.length_cons] at hl; omega)
    · obtain ⟨x, t, e1, e2⟩ := cut_cons_ne (r := r) hc
      refine ⟨fun name hl => ?_, fun pre h t' e hl => ?_⟩
      · rw [e2] at hl ⊢
        simp only [refGo, ne_eq, hc, not_false_eq_true, if_true, Bool.false_eq_true, if_false]
        by_cases hv : (out ++ [c]).length > 65536
        · rw [if_pos hv]
          conv => rhs; unfold expGo
          simp only [Bool.false_eq_true, if_false, Bool.not_false]
          rw [if_pos (by simp at hv ⊢; omega)]
        · rw [if_neg hv, (ref_exp l r _ (by omega)).1 name (by rw [e1]; simpa using hl), e1]
          conv => lhs; unfold expGo
          conv => rhs; unfold expGo
          simp only [Bool.false_eq_true, if_false, Bool.not_false, List.length_append, List.length_cons, List.length_nil, List.append_assoc, List.cons_append, List.nil_append]
          have : out.length + (0 + 1) + x.length > 65536 ↔ out.length + (x.length + 1) > 65536 := by omega
          simp only [this]
      · rw [e2] at e hl
        obtain ⟨rfl, rfl⟩ : h = c :: x ∧ t' = t := by simpa [eq_comm] using e
        simp only [refGo, ne_eq, hc, not_false_eq_true, if_true]
        rw [if_neg (by omega), (ref_exp l r out ho).2 (pre ++ [c]) x t' e1 (by rw [e1]; simpa using hl)]
        simp

/-- what Expand answers: the text and the error's number -/
def expd (l : List (B × B)) (s : B) : B × Int :=
  if s.length > 65536 then ([], 2) else if s.count 36 % 2 = 1 then ([], 3)
  else match expGo l false (cut s) [] with
    | none => ([], 2)
    | some o => (o, 0)

def res : Option B → B × Int
  | none => ([], 2)
  | some o => (o, 0)

theorem expd_ref (l : List (B × B)) (s name : B) : expd l s =
    if s.length > 65536 then ([], (2 : Int)) else if s.count 36 % 2 = 1 then ([], (3 : Int))
    else res (refGo l s [] name false) := by
  unfold expd
  by_cases h1 : s.length > 65536
  · rw [if_pos h1, if_pos h1]
  rw [if_neg h1, if_neg h1]
  by_cases h2 : s.count 36 % 2 = 1
  · rw [if_pos h2, if_pos h2]
  rw [if_neg h2, if_neg h2, (ref_exp l s [] (by simp)).1 name (by rw [cut_length]; omega)]
  cases expGo l false (cut s) [] <;> rfl

/-- the reference's state behind a text -/
def refSt (l : List (B × B)) : B → B → B → Bool → Option (B × B × Bool)
  | [], out, name, inn => some (out, name, inn)
  | c :: r, out, name, inn =>
    if c ≠ 36 then
      if inn then (if out.length > 65536 then none else refSt l r out (name ++ [c]) true)
      else (if (out ++ [c]).length > 65536 then none else refSt l r (out ++ [c]) name false)
    else if inn then (if (out ++ valM l name).length > 65536 then none else refSt l r (out ++ valM l name) name false)
    else (if out.length > 65536 then none else refSt l r out [] true)

theorem refGo_st (l : List (B × B)) : ∀ (s out name : B) (inn : Bool), refGo l s out name inn = (refSt l s out name inn).map (·.1)
  | [], out, name, inn => rfl
  | c :: r, out, name, inn => by
    unfold refGo refSt
    split
    · split
      · split
        · rfl
        · exact refGo_st l r _ _ _
      · split
        · rfl
        · exact refGo_st l r _ _ _
    · split
      · split
        · rfl
        · exact refGo_st l r _ _ _
      · split
        · rfl
        · exact refGo_st l r _ _ _

theorem refSt_append (l : List (B × B)) : ∀ (s t out name : B) (inn : Bool), refSt l (s ++ t) out name inn = (refSt l s out name inn).bind fun x => refSt l t x.1 x.2.1 x.2.2
  | [], t, out, name, inn => rfl
  | c :: r, t, out, name, inn => by
    simp only [List.cons_append, refSt]
    split
    · split
      · split
        · rfl
        · exact refSt_append l r t _ _ _
      · split
        · rfl
        · exact refSt_append l r t _ _ _
    · split
      · split
        · rfl
        · exact refSt_append l r t _ _ _
      · split
        · rfl
        · exact refSt_append l r t _ _ _

theorem refSt_shift (l : List (B × B)) (a : B) : ∀ (t out name : B) (inn : Bool) (o n : B) (i : Bool), refSt l t out name inn = some (o, n, i) →
    out.length ≤ o.length ∧ (i = (inn ^^ decide (t.count 36 % 2 = 1))) ∧
    (a.length + out.length ≤ 65536 → refSt l t (a ++ out) name inn = if a.length + o.length > 65536 then none else some (a ++ o, n, i))
  | [], out, name, inn, o, n, i, h => by
    simp only [refSt, Option.some.injEq, Prod.mk.injEq] at h
    obtain ⟨rfl, rfl, rfl⟩ := h
    refine ⟨Nat.le_refl _, by simp, fun ha => ?_⟩
    rw [if_neg (by omega)]; rfl
  | c :: r, out, name, inn, o, n, i, h => by
    by_cases hc : c = 36
    · subst hc
      cases inn
      · simp only [refSt, ne_eq, not_true_eq_false, if_false, Bool.false_eq_true] at h
        by_cases h1 : out.length > 65536
        · rw [if_pos h1] at h; cases h
        rw [if_neg h1] at h
        obtain ⟨k1, k2, k3⟩ := refSt_shift l a r out [] true o n i h
        refine ⟨k1, ?_, fun ha => ?_⟩
        · rw [k2, List.count_cons_self]
          by_cases hp : r.count 36 % 2 = 1
          · have : ¬ (r.count 36 + 1) % 2 = 1 := by omega
            simp [hp, this]
          · have : (r.count 36 + 1) % 2 = 1 := by omega
            simp [hp, this]
        · simp only [refSt, ne_eq, not_true_eq_false, if_false, Bool.false_eq_true]
          rw [if_neg (by simp; omega), k3 ha]
      · simp only [refSt, ne_eq, not_true_eq_false, if_false, if_true] at h
        by_cases h1 : (out ++ valM l name).length > 65536
        · rw [if_pos h1] at h; cases h
        rw [if_neg h1] at h
        obtain ⟨k1, k2, k3⟩ := refSt_shift l a r _ name false o n i h
        have k1' : out.length + (valM l name).length ≤ o.length := by simpa using k1
        refine ⟨by omega, ?_, fun ha => ?_⟩
        · rw [k2, List.count_cons_self]
          by_cases hp : r.count 36 % 2 = 1
          · have : ¬ (r.count 36 + 1) % 2 = 1 := by omega
            simp [hp, this]
          · have : (r.count 36 + 1) % 2 = 1 := by omega
            simp [hp, this]
        · simp only [refSt, ne_eq, not_true_eq_false, if_false, if_true]
          by_cases h2 : a.length + (out ++ valM l name).length > 65536
          · rw [if_pos (by simp at h2 ⊢; omega), if_pos (by simp at h2; omega)]
          · rw [if_neg (by simp at h2 ⊢; omega), List.append_assoc, k3 (by omega)]
    · have hcnt : (c :: r).count 36 = r.count 36 := List.count_cons_of_ne (by simpa using hc)
      rw [hcnt]
      cases inn
      · simp only [refSt, ne_eq, hc, not_false_eq_true, if_false, if_true, Bool.false_eq_true] at h
        by_cases h1 : (out ++ [c]).length > 65536
        · rw [if_pos h1] at h; cases h
        rw [if_neg h1] at h
        obtain ⟨k1, k2, k3⟩ := refSt_shift l a r _ name false o n i h
        have k1' : out.length + 1 ≤ o.length := by simpa using k1
        refine ⟨by omega, k2, fun ha => ?_⟩
        simp only [refSt, ne_eq, hc, not_false_eq_true, if_false, if_true, Bool.false_eq_true]
        by_cases h2 : a.length + (out ++ [c]).length > 65536
        · rw [if_pos (by simp at h2 ⊢; omega), if_pos (by simp at h2; omega)]
        · rw [if_neg (by simp at h2 ⊢; omega), List.append_assoc, k3 (by omega)]
      · simp only [refSt, ne_eq, hc, not_false_eq_true, if_true] at h
        by_cases h1 : out.length > 65536
        · rw [if_pos h1] at h; cases h
        rw [if_neg h1] at h
        obtain ⟨k1, k2, k3⟩ := refSt_shift l a r out _ true o n i h
        refine ⟨k1, k2, fun ha => ?_⟩
        simp only [refSt, ne_eq, hc, not_false_eq_true, if_true]
        rw [if_neg (by simp; omega), k3 ha]

theorem expd_err (l : List (B × B)) (s : B) : (expd l s).2 = 0 ∨ (expd l s).1 = [] ∧ ((expd l s).2 = 2 ∨ (expd l s).2 = 3) := by
  unfold expd
  split
  · exact Or.inr ⟨rfl, Or.inl rfl⟩
  split
  · exact Or.inr ⟨rfl, Or.inr rfl⟩
  split
  · exact Or.inr ⟨rfl, Or.inl rfl⟩
  · exact Or.inl rfl

/-- the law of the parts -/
theorem expd_parts (l : List (B × B)) (s t : B) (h : (s ++ t).length ≤ 65536) (e : (expd l s).2 = 0) (f : (expd l t).2 = 0) :
    expd l (s ++ t) = if (expd l s).1.length + (expd l t).1.length > 65536 then ([], 2) else ((expd l s).1 ++ (expd l t).1, 0) := by
  have hs : ¬ s.length > 65536 := by simp at h; omega
  have ht : ¬ t.length > 65536 := by simp at h; omega
  have hst : ¬ (s ++ t).length > 65536 := by omega
  have cs : ¬ s.count 36 % 2 = 1 := by intro c; rw [expd, if_neg hs, if_pos c] at e; cases e
  have ct : ¬ t.count 36 % 2 = 1 := by intro c; rw [expd, if_neg ht, if_pos c] at f; cases f
  have cst : ¬ (s ++ t).count 36 % 2 = 1 := by rw [List.count_append]; omega
  rw [expd_ref l s [], if_neg hs, if_neg cs] at e ⊢
  cases es : refGo l s [] [] false with
  | none => rw [es] at e; cases e
  | some a =>
  rw [refGo_st] at es
  cases es' : refSt l s [] [] false with
  | none => rw [es'] at es; cases es
  | some x =>
  obtain ⟨a', n, i⟩ := x
  rw [es'] at es
  obtain rfl : a' = a := by simpa using es
  obtain ⟨_, hi, _⟩ := refSt_shift l [] s [] [] false a' n i es'
  have hi' : i = false := by rw [hi]; simp [cs]
  subst hi'
  rw [expd_ref l t n, if_neg ht, if_neg ct] at f ⊢
  rw [expd_ref l (s ++ t) [], if_neg hst, if_neg cst]
  cases et : refGo l t [] n false with
  | none => rw [et] at f; cases f
  | some b =>
  rw [refGo_st] at et
  cases et' : refSt l t [] n false with
  | none => rw [et'] at et; cases et
  | some y =>
  obtain ⟨b', n', i'⟩ := y
  rw [et'] at et
  obtain rfl : b' = b := by simpa using et
  obtain ⟨_, _, k3⟩ := refSt_shift l a' t [] n false b' n' i' et'
  rw [refGo_st, refSt_append, es']
  simp only [Option.bind_some]
  have ha : a'.length ≤ 65536 := by
    have := (refSt_shift l [] s [] [] false a' n false es').2.2 (by simp)
    rw [List.nil_append, es'] at this
    by_cases hb : ([] : B).length + a'.length > 65536
    · rw [if_pos hb] at this; cases this
    · simp at hb; omega
  have k := k3 (by simp; omega)
  rw [List.append_nil] at k
  rw [k]
  by_cases hb : a'.length + b'.length > 65536
  · simp [hb, res]
  · simp [hb, res]

/-- MacroLong's text -/
def longText : Nat → B
  | 0 => []
  | m + 1 => longText m ++ [36, 86, 36, 45]

def longText' : Nat → B
  | 0 => []
  | m + 1 => [36, 86, 36, 45] ++ longText' m
theorem longText_eq : ∀ m, longText m = longText' m := by
  have h : ∀ m, longText' m ++ [36, 86, 36, 45] = [36, 86, 36, 45] ++ longText' m := by
    intro m
    induction m with
    | zero => rfl
    | succ m ih => simp only [longText', List.append_assoc, ih]
  intro m
  induction m with
  | zero => rfl
  | succ m ih => rw [longText, ih, h]; rfl
theorem longText_length (m : Nat) : (longText m).length = 4 * m := by
  induction m with
  | zero => rfl
  | succ m ih => simp [longText, ih]; omega
theorem longText_count (m : Nat) : (longText m).count 36 = 2 * m := by
  induction m with
  | zero => rfl
  | succ m ih => rw [longText, List.count_append, ih]; simp; omega

theorem long_go (v : B) : ∀ (m : Nat) (out name : B), out.length ≤ 65536 →
    match refGo [([86], v)] (longText' m) out name false with
    | none => out.length + m * (v.length + 1) > 65536
    | some o => o.length = out.length + m * (v.length + 1) ∧ o.length ≤ 65536
  | 0, out, name, ho => by simp [longText', refGo, ho]
  | m + 1, out, name, ho => by
    have e : refGo [([86], v)] (longText' (m + 1)) out name false =
        if (out ++ v).length > 65536 then none else if (out ++ v ++ [45]).length > 65536 then none else refGo [([86], v)] (longText' m) (out ++ v ++ [45]) [86] false := by
      have hv : valM [([86], v)] [86] = v := by simp [valM, findV]
      have h0 : ¬ out.length > 65536 := by omega
      simp only [longText', List.cons_append, List.nil_append, refGo]
      simp only [ne_eq, not_true_eq_false, if_false, Bool.false_eq_true]
      rw [if_neg h0]
      simp only [show ¬ (86 : UInt8) = 36 by decide, show ¬ (45 : UInt8) = 36 by decide, not_false_eq_true, if_true]
      rw [if_neg h0, hv]
    rw [e]
    have hm : (m + 1) * (v.length + 1) = m * (v.length + 1) + (v.length + 1) := by rw [Nat.add_mul]; omega
    by_cases h1 : (out ++ v).length > 65536
    · rw [if_pos h1]; simp at h1 ⊢; rw [hm]; omega
    · rw [if_neg h1]
      by_cases h2 : (out ++ v ++ [45]).length > 65536
      · rw [if_pos h2]; simp at h2 ⊢; rw [hm]; omega
      · rw [if_neg h2]
        have ih := long_go v m (out ++ v ++ [45]) [86] (by omega)
        cases e2 : refGo [([86], v)] (longText' m) (out ++ v ++ [45]) [86] false with
        | none => rw [e2] at ih; simp at ih ⊢; rw [hm]; omega
        | some o => rw [e2] at ih; simp at ih ⊢; rw [hm]; omega

theorem expd_long (v : B) (m : Nat) (hm : m ≤ 100) : if m * (v.length + 1) > 65536 then expd [([86], v)] (longText m) = ([], 2) else
    (expd [([86], v)] (longText m)).2 = 0 ∧ (expd [([86], v)] (longText m)).1.length = m * (v.length + 1) := by
  have k : expd [([86], v)] (longText m) = res (refGo [([86], v)] (longText' m) [] [] false) := by
    rw [expd_ref _ _ [], if_neg (by rw [longText_length]; omega), if_neg (by rw [longText_count]; omega), longText_eq]
  rw [k]
  have h := long_go v m [] [] (by simp)
  cases e : refGo [([86], v)] (longText' m) [] [] false with
  | none => rw [e] at h; simp at h; rw [if_pos h]; rfl
  | some o =>
    rw [e] at h; simp at h
    rw [if_neg (by omega)]
    exact ⟨rfl, h.1⟩

def namesGo : Bool → List B → List B → List B
  | _, [], out => out
  | odd, p :: t, out => namesGo (!odd) t (if odd = true ∧ p ≠ [] ∧ p ∉ out then out ++ [p] else out)

def refNames : B → B → Bool → List B → List B
  | [], _, _, out => out
  | c :: r, pre, inn, out =>
    if c ≠ 36 then refNames r (if inn then pre ++ [c] else pre) inn out
    else if inn then refNames r pre false (if pre ≠ [] ∧ pre ∉ out then out ++ [pre] else out)
    else refNames r [] true out

theorem ref_names : ∀ (s : B) (out : List B),
    (∀ name, (cut s).length % 2 = 1 → refNames s name false out = namesGo false (cut s) out) ∧
    (∀ pre h t, cut s = h :: t → (cut s).length % 2 = 0 → refNames s pre true out = namesGo true ((pre ++ h) :: t) out)
  | [], out => by
    refine ⟨fun name _ => ?_, fun pre h t e hl => ?_⟩
    · simp [refNames, cut, namesGo]
    · simp [cut] at hl
  | c :: r, out => by
    by_cases hc : c = 36
    · subst hc
      refine ⟨fun name hl => ?_, fun pre h t e hl => ?_⟩
      · rw [cut_mark] at hl ⊢
        obtain ⟨h, t, e⟩ : ∃ h t, cut r = h :: t := by
          cases e : cut r with
          | nil => exact absurd e (cut_ne r)
          | cons h t => exact ⟨h, t, rfl⟩
        have := (ref_names r out).2 [] h t e (by simp only [List.length_cons] at hl; omega)
        simp only [refNames, ne_eq, not_true_eq_false, if_false, Bool.false_eq_true]
        rw [this, e]
        simp only [List.nil_append]
        conv => rhs; unfold namesGo
        simp
      · rw [cut_mark] at e hl
        obtain ⟨rfl, rfl⟩ : h = [] ∧ t = cut r := by simpa [eq_comm] using e
        simp only [refNames, ne_eq, not_true_eq_false, if_false, if_true]
        simp only [List.append_nil]
        conv => rhs; unfold namesGo
        simp only [true_and, Bool.not_true]
        exact (ref_names r _).1 pre (by simp only [List.length_cons] at hl; omega)
    · obtain ⟨x, t, e1, e2⟩ := cut_cons_ne (r := r) hc
      refine ⟨fun name hl => ?_, fun pre h t' e hl => ?_⟩
      · rw [e2] at hl ⊢
        simp only [refNames, ne_eq, hc, not_false_eq_true, if_true, Bool.false_eq_true, if_false]
        rw [(ref_names r out).1 name (by rw [e1]; simpa using hl), e1]
        conv => lhs; unfold namesGo
        conv => rhs; unfold namesGo
        simp
      · rw [e2] at e hl
        obtain ⟨rfl, rfl⟩ : h = c :: x ∧ t' = t := by simpa [eq_comm] using e
        simp only [refNames, ne_eq, hc, not_false_eq_true, if_true]
        rw [(ref_names r out).2 (pre ++ [c]) x t' e1 (by rw [e1]; simpa using hl)]
        simp

/-- a text that is expanded to it -/
def quote (s : B) : B := s.flatMap fun c => if c = 36 then [36, 36] else [c]
theorem quote_mark (r : B) : quote (36 :: r) = 36 :: 36 :: quote r := by simp [quote]
theorem quote_ne {c : UInt8} (r : B) (h : c ≠ 36) : quote (c :: r) = c :: quote r := by simp [quote, h]
theorem quote_length : ∀ s : B, (quote s).length = s.length + s.count 36
  | [] => rfl
  | c :: r => by
    have ih := quote_length r
    by_cases h : c = 36
    · subst h; rw [quote_mark]; simp [ih]; omega
    · rw [quote_ne r h, List.count_cons_of_ne (by simpa using h)]; simp [ih]; omega
theorem quote_count : ∀ s : B, (quote s).count 36 = 2 * s.count 36
  | [] => rfl
  | c :: r => by
    have ih := quote_count r
    by_cases h : c = 36
    · subst h; rw [quote_mark]; simp [ih]; omega
    · rw [quote_ne r h, List.count_cons_of_ne (by simpa using h), List.count_cons_of_ne (by simpa using h), ih]

theorem ref_quote (l : List (B × B)) : ∀ (s out name : B), out.length + s.length ≤ 65536 → refGo l (quote s) out name false = some (out ++ s)
  | [], out, name, h => by simp [quote, refGo]
  | c :: r, out, name, h => by
    have h0 : ¬ out.length > 65536 := by simp at h; omega
    by_cases hc : c = 36
    · subst hc
      rw [quote_mark]
      simp only [refGo, ne_eq, not_true_eq_false, if_false, if_true, Bool.false_eq_true]
      rw [if_neg h0]
      have hv : valM l [] = [36] := by simp [valM]
      rw [hv, if_neg (by simp at h ⊢; omega), ref_quote l r _ [] (by simp at h ⊢; omega)]
      simp
    · rw [quote_ne r hc]
      simp only [refGo, ne_eq, hc, not_false_eq_true, if_true, Bool.false_eq_true, if_false]
      rw [if_neg (by simp at h ⊢; omega), ref_quote l r _ name (by simp at h ⊢; omega)]
      simp

theorem expd_quote (l : List (B × B)) (s : B) (h : s.length ≤ 2000) : expd l (quote s) = (s, 0) := by
  have hc : s.count 36 ≤ s.length := List.count_le_length
  rw [expd_ref l _ [], if_neg (by rw [quote_length]; omega), if_neg (by rw [quote_count]; omega), ref_quote l s [] [] (by simp; omega)]
  rfl

def own (names : List B) : List (B × B) := names.map fun n => (n, 60 :: n ++ [62])
theorem findV_own (names : List B) (n : B) (h : n ∈ names) : findV n (own names) = 60 :: n ++ [62] := by
  induction names with
  | nil => cases h
  | cons m t ih =>
    simp only [own, List.map_cons, findV]
    by_cases e : m = n
    · rw [if_pos e, e]
    · rw [if_neg e]; exact ih (by rcases List.mem_cons.1 h with rfl | h; exact absurd rfl e; exact h)

/-- the law's own way: marks that open and close, in turns -/
def wantGo : B → Bool → B → B
  | [], _, want => want
  | c :: r, inn, want =>
    if c ≠ 36 then wantGo r inn (want ++ [c])
    else if inn = false ∧ r.head? = some 36 then wantGo r.tail inn (want ++ [36])
    else if inn = false then wantGo r true (want ++ [60])
    else wantGo r false (want ++ [62])
termination_by s => s.length
decreasing_by all_goals (simp; try omega)

theorem mem_namesGo : ∀ (odd : Bool) (ps out : List B) (n : B), n ∈ out → n ∈ namesGo odd ps out
  | _, [], out, n, h => h
  | odd, p :: t, out, n, h => by
    unfold namesGo
    refine mem_namesGo (!odd) t _ n ?_
    split
    · exact List.mem_append_left _ h
    · exact h

/-- names at odd places are among the names -/
def oddIn (names : List B) : Bool → List B → Prop
  | _, [] => True
  | odd, p :: t => (odd = true → p = [] ∨ p ∈ names) ∧ oddIn names (!odd) t
theorem oddIn_namesGo : ∀ (odd : Bool) (ps out : List B), oddIn (namesGo odd ps out) odd ps
  | _, [], _ => trivial
  | odd, p :: t, out => by
    have e : namesGo odd (p :: t) out = namesGo (!odd) t (if odd = true ∧ p ≠ [] ∧ p ∉ out then out ++ [p] else out) := by conv => lhs; unfold namesGo
    rw [e]
    refine ⟨fun ho => ?_, oddIn_namesGo (!odd) t _⟩
    by_cases h1 : p = []
    · exact Or.inl h1
    · refine Or.inr (mem_namesGo _ _ _ _ ?_)
      by_cases h2 : p ∈ out
      · rw [if_neg (by simp [h2])]; exact h2
      · rw [if_pos ⟨ho, h1, h2⟩]; simp

theorem want_ref (names : List B) : ∀ (k : Nat) (s : B), s.length ≤ k → 
    (∀ out name, out.length + s.length ≤ 65536 → (cut s).length % 2 = 1 → oddIn names false (cut s) → refGo (own names) s out name false = some (wantGo s false out)) ∧
    (∀ out pre h t, out.length + pre.length + s.length + 1 ≤ 65536 → cut s = h :: t → (cut s).length % 2 = 0 → pre ++ h ≠ [] → oddIn names true ((pre ++ h) :: t) → refGo (own names) s out pre true = some (wantGo s true (out ++ 60 :: pre)))
  | k, [], _ => by
    refine ⟨fun out name _ _ _ => by simp [refGo, wantGo], fun out pre h t _ e hl => ?_⟩
    simp [cut] at hl
  | 0, c :: r, hk => by simp at hk
  | k + 1, c :: r, hk => by
    have hk' : r.length ≤ k := by simpa using hk
    by_cases hc : c = 36
    · subst hc
      refine ⟨fun out name ho hl hn => ?_, fun out pre h t ho e hl hp hn => ?_⟩
      · rw [cut_mark] at hl hn
        have h0 : ¬ out.length > 65536 := by simp at ho; omega
        simp only [refGo, ne_eq, not_true_eq_false, if_false, Bool.false_eq_true]
        rw [if_neg h0]
        cases r with
        | nil => simp [cut] at hl
        | cons d r' =>
        by_cases hd : d = 36
        · subst hd
          rw [cut_mark] at hl hn
          simp only [refGo, ne_eq, not_true_eq_false, if_false, if_true]
          rw [wantGo]
          simp only [ne_eq, not_true_eq_false, if_false, List.head?_cons, and_self, if_true, List.tail_cons]
          have hv : valM (own names) [] = [36] := by simp [valM]
          rw [hv, if_neg (by simp at ho ⊢; omega)]
          refine (want_ref names k r' (by simp at hk'; omega)).1 _ _ (by simp at ho ⊢; omega) (by simp at hl; omega) ?_
          exact hn.2.2
        · obtain ⟨x, t, e1, e2⟩ := cut_cons_ne (r := r') hd
          have := (want_ref names k (d :: r') hk').2 out [] (d :: x) t (by simp at ho ⊢; omega) e2 (by simp at hl ⊢; omega) (by simp) (by rw [e2] at hn; exact hn.2)
          rw [this]
          conv => rhs; rw [wantGo]
          simp [hd]
      · rw [cut_mark] at e hl
        obtain ⟨rfl, rfl⟩ : h = [] ∧ t = cut r := by simpa [eq_comm] using e
        simp only [List.append_nil] at hp hn
        have hmem : pre ∈ names := by
          rcases hn.1 rfl with h | h
          · exact absurd h hp
          · exact h
        have hv : valM (own names) pre = 60 :: pre ++ [62] := by rw [valM, if_neg hp, findV_own names pre hmem]
        simp only [refGo, ne_eq, not_true_eq_false, if_false, if_true]
        rw [hv, if_neg (by simp at ho ⊢; omega)]
        rw [(want_ref names k r hk').1 _ _ (by simp at ho ⊢; omega) (by simp at hl; omega) hn.2]
        conv => rhs; rw [wantGo]
        simp
    · obtain ⟨x, t, e1, e2⟩ := cut_cons_ne (r := r) hc
      refine ⟨fun out name ho hl hn => ?_, fun out pre h t' ho e hl hp hn => ?_⟩
      · rw [e2] at hl hn
        simp only [refGo, ne_eq, hc, not_false_eq_true, if_true, Bool.false_eq_true, if_false]
        rw [if_neg (by simp at ho ⊢; omega), (want_ref names k r hk').1 _ name (by simp at ho ⊢; omega) (by rw [e1]; simpa using hl) (by rw [e1]; exact ⟨fun h => (by cases h), hn.2⟩)]
        conv => rhs; rw [wantGo]
        simp [hc]
      · rw [e2] at e hl
        obtain ⟨rfl, rfl⟩ : h = c :: x ∧ t' = t := by simpa [eq_comm] using e
        simp only [refGo, ne_eq, hc, not_false_eq_true, if_true]
        rw [if_neg (by simp at ho ⊢; omega), (want_ref names k r hk').2 out (pre ++ [c]) x t' (by simp at ho ⊢; omega) e1 (by rw [e1]; simpa using hl) (by simp) (by simpa using hn)]
        conv => rhs; rw [wantGo]
        simp [hc]

theorem expd_want (s : B) (hs : s.length ≤ 2000) (hc : s.count 36 % 2 = 0) :
    expd (own (namesGo false (cut s) [])) s = (wantGo s false [], 0) := by
  rw [expd_ref _ _ [], if_neg (by omega), if_neg (by omega), (want_ref _ s.length s (Nat.le_refl _)).1 [] [] (by simp; omega) (by rw [cut_length]; omega) (oddIn_namesGo _ _ _)]
  rfl
end Go.Mac
