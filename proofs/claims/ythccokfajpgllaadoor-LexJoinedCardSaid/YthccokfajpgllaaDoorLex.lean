/- The plain laws of layer 8 (lines of a text), over lists of bytes. -/
import Derived.Test.YthccokfajpgllaaDoorCut
import Derived.Lib.SlTrimSet
namespace Go.Lx
abbrev B := List UInt8
def blk (c : UInt8) : Bool := ([32, 9, 13] : List UInt8).contains c
def trim (s : B) : B := Lib.trimS s [32, 9, 13]
def trimL (s : B) : B := s.dropWhile blk
def trimR (s : B) : B := (s.reverse.dropWhile blk).reverse
theorem trim_eq (s : B) : trim s = trimL (trimR s) := rfl

theorem trimR_cons (c : UInt8) (s : B) : trimR (c :: s) = if trimR s = [] then (if blk c = true then [] else [c]) else c :: trimR s := by
  unfold trimR
  rw [List.reverse_cons, List.dropWhile_append]
  by_cases h : s.reverse.dropWhile blk = []
  · rw [h]; simp only [List.isEmpty_nil, if_true, List.reverse_nil]
    by_cases hc : blk c = true
    · simp [hc]
    · simp [hc]
  · have : (s.reverse.dropWhile blk).isEmpty = false := by simpa using h
    rw [this]; simp [h]
theorem trimL_cons (c : UInt8) (s : B) : trimL (c :: s) = if blk c = true then trimL s else c :: s := by
  unfold trimL; rw [List.dropWhile_cons]
theorem trimR_nil : trimR [] = [] := rfl
theorem trimL_nil : trimL [] = [] := rfl
theorem trimL_of_trimR : ∀ (s : B), trimR s = [] → trimL s = []
  | [], _ => rfl
  | c :: s, h => by
    rw [trimR_cons] at h
    by_cases h1 : trimR s = []
    · rw [if_pos h1] at h
      by_cases hc : blk c = true
      · rw [trimL_cons, if_pos hc]; exact trimL_of_trimR s h1
      · rw [if_neg hc] at h; cases h
    · rw [if_neg h1] at h; cases h
theorem trim_comm : ∀ s : B, trimL (trimR s) = trimR (trimL s)
  | [] => rfl
  | c :: s => by
    rw [trimR_cons, trimL_cons]
    by_cases h1 : trimR s = []
    · rw [if_pos h1]
      by_cases hc : blk c = true
      · rw [if_pos hc, if_pos hc, trimL_of_trimR s h1]; rfl
      · rw [if_neg hc, if_neg hc, trimR_cons, if_pos h1, if_neg hc, trimL_cons, if_neg hc]
    · rw [if_neg h1, trimL_cons]
      by_cases hc : blk c = true
      · rw [if_pos hc, if_pos hc]; exact trim_comm s
      · rw [if_neg hc, if_neg hc, trimR_cons, if_neg h1]
theorem trim_eq' (s : B) : trim s = trimR (trimL s) := by rw [trim_eq, trim_comm]
theorem trim_pre {c : UInt8} (h : blk c = true) (s : B) : trim (c :: s) = trim s := by rw [trim_eq', trimL_cons, if_pos h, ← trim_eq']
theorem trimR_post {c : UInt8} (h : blk c = true) (s : B) : trimR (s ++ [c]) = trimR s := by
  unfold trimR; rw [List.reverse_append]; simp [h]
theorem trim_post {c : UInt8} (h : blk c = true) (s : B) : trim (s ++ [c]) = trim s := by rw [trim_eq, trimR_post h, ← trim_eq]
theorem trimR_head (c : UInt8) (s : B) (h : blk c = false) : (trimR (c :: s)).head? = some c := by
  rw [trimR_cons]
  by_cases h1 : trimR s = []
  · rw [if_pos h1, h]; rfl
  · rw [if_neg h1]; rfl
theorem trimL_first : ∀ s : B, trimL s = [] ∨ ∃ c t, trimL s = c :: t ∧ blk c = false
  | [] => Or.inl rfl
  | c :: s => by
    rw [trimL_cons]
    by_cases hc : blk c = true
    · rw [if_pos hc]; exact trimL_first s
    · rw [if_neg hc]; exact Or.inr ⟨c, s, rfl, by simpa using hc⟩
theorem trim_head (s : B) : (trim s).head? = (trimL s).head? := by
  rw [trim_eq']
  rcases trimL_first s with h | ⟨c, t, h, hc⟩
  · rw [h]; rfl
  · rw [h, trimR_head c t hc]; rfl
theorem trimL_length (s : B) : (trimL s).length ≤ s.length := (List.dropWhile_sublist blk).length_le
theorem trimR_length (s : B) : (trimR s).length ≤ s.length := by
  unfold trimR; rw [List.length_reverse, ← List.length_reverse (as := s)]; exact (List.dropWhile_sublist blk).length_le
theorem trim_length (s : B) : (trim s).length ≤ s.length := by rw [trim_eq]; exact Nat.le_trans (trimL_length _) (trimR_length _)

/-- what a line says, without comments -/
def said (s : B) : B := if (trim s).head? = some 35 then [] else trim (s.takeWhile (· != 59))
theorem said_length (s : B) : (said s).length ≤ s.length := by
  unfold said
  split
  · exact Nat.zero_le _
  · exact Nat.le_trans (trim_length _) (List.takeWhile_sublist _).length_le
theorem blk32 : blk 32 = true := by decide
theorem blk9 : blk 9 = true := by decide
theorem blk13 : blk 13 = true := by decide
theorem blk59 : blk 59 = false := by decide
theorem trimL_app (x y : B) : trimL (x ++ y) = if trimL x = [] then trimL y else trimL x ++ y := by
  unfold trimL
  rw [List.dropWhile_append]
  by_cases h : x.dropWhile blk = []
  · rw [h]; simp
  · have : (x.dropWhile blk).isEmpty = false := by simpa using h
    rw [this]; simp [h]
theorem take_app (x y : B) : (x ++ y).takeWhile (· != 59) = if 59 ∈ x then x.takeWhile (· != 59) else x ++ y.takeWhile (· != 59) := by
  induction x with
  | nil => simp
  | cons c x ih =>
    rw [List.cons_append, List.takeWhile_cons, List.takeWhile_cons, ih]
    by_cases hc : c = 59
    · subst hc; simp
    · have h1 : (c != 59) = true := by simpa using hc
      have h2 : (59 ∈ c :: x) ↔ 59 ∈ x := by
        rw [List.mem_cons]; exact ⟨fun h => h.resolve_left (fun e => hc e.symm), Or.inr⟩
      rw [h1]
      by_cases hx : 59 ∈ x
      · rw [if_pos hx, if_pos (h2.2 hx)]
        first | done | rfl
      · rw [if_neg hx, if_neg (mt h2.1 hx)]
        first | done | rfl
/-- the line with blanks and a comment -/
def deck (x : B) : B := [32, 9] ++ x ++ [32, 13, 59] ++ x
theorem said_deck (x : B) : said (deck x) = said x := by
  have hh : (trim (deck x)).head? = some 35 ↔ (trim x).head? = some 35 := by
    rw [trim_head, trim_head]
    have e : trimL (deck x) = if trimL x = [] then 59 :: x else trimL x ++ ([32, 13, 59] ++ x) := by
      unfold deck
      rw [show ([32, 9] : B) ++ x ++ [32, 13, 59] ++ x = 32 :: 9 :: (x ++ ([32, 13, 59] ++ x)) by simp]
      rw [trimL_cons, if_pos blk32, trimL_cons, if_pos blk9, trimL_app]
      by_cases h : trimL x = []
      · rw [if_pos h, if_pos h]
        rw [show ([32, 13, 59] : B) ++ x = 32 :: 13 :: 59 :: x from rfl]
        rw [trimL_cons, if_pos blk32, trimL_cons, if_pos blk13, trimL_cons, if_neg (by rw [blk59]; decide)]
      · rw [if_neg h, if_neg h]
    rw [e]
    by_cases h : trimL x = []
    · rw [if_pos h, h]; simp
    · rw [if_neg h]
      cases hx : trimL x with
      | nil => exact absurd hx h
      | cons c t => simp
  have ht : trim ((deck x).takeWhile (· != 59)) = trim (x.takeWhile (· != 59)) := by
    have e : (deck x).takeWhile (· != 59) = 32 :: 9 :: ((x ++ [32, 13]) ++ (59 :: x)).takeWhile (· != 59) := by
      unfold deck
      rw [show ([32, 9] : B) ++ x ++ [32, 13, 59] ++ x = 32 :: 9 :: ((x ++ [32, 13]) ++ (59 :: x)) by simp]
      rw [List.takeWhile_cons, if_pos (by decide), List.takeWhile_cons, if_pos (by decide)]
    rw [e, trim_pre blk32, trim_pre blk9, take_app]
    by_cases h : 59 ∈ x
    · rw [if_pos (by simp [h]), take_app, if_pos h]
    · rw [if_neg (by simp [h])]
      rw [show ((59 :: x : B).takeWhile (· != 59)) = [] by rw [List.takeWhile_cons, if_neg (by decide)]]
      rw [List.append_nil, show x ++ [32, 13] = (x ++ [32]) ++ [13] by simp, trim_post blk13, trim_post blk32]
      have := take_app x []
      rw [List.append_nil, if_neg h] at this
      rw [this]; simp
  unfold said
  rw [ht]
  by_cases h : (trim x).head? = some 35
  · rw [if_pos h, if_pos (hh.2 h)]
  · rw [if_neg h, if_neg (mt hh.1 h)]

/-! ### lines -/
def ends (p : B) : Bool := decide (p.getLast? = some 92)
def chop (p : B) : B := if ends p = true then p.dropLast else p
/-- the lines that a text's pieces are put together to, with their first numbers -/
def logical : Nat → Nat → B → List B → List (Nat × B)
  | _, _, _, [] => []
  | at_, _, acc, [p] => [(at_, acc ++ chop p)]
  | at_, i, acc, p :: q :: r => if ends p = true then logical at_ (i + 1) (acc ++ chop p) (q :: r) else (at_, acc ++ p) :: logical (i + 1) (i + 1) [] (q :: r)
def out (l : List (Nat × B)) : List (Nat × B) := (l.map fun x => (x.1, said x.2)).filter fun x => decide (x.2 ≠ [])
def num : Nat → List B → List (Nat × B)
  | _, [] => []
  | a, p :: r => (a, p) :: num (a + 1) r
def plain (p : B) : Prop := 10 ∉ p ∧ 92 ∉ p
theorem not_ends {p : B} (h : 92 ∉ p) : ends p = false := by
  unfold ends
  rw [decide_eq_false_iff_not]
  exact fun e => h (List.mem_of_getLast? e)
theorem ends_stroke (p : B) : ends (p ++ [92]) = true := by simp [ends]
theorem chop_stroke (p : B) : chop (p ++ [92]) = p := by unfold chop; rw [if_pos (ends_stroke p)]; simp
theorem chop_plain {p : B} (h : 92 ∉ p) : chop p = p := by unfold chop; rw [if_neg (by rw [not_ends h]; decide)]
theorem logical_plain : ∀ (l : List B) (i : Nat), (∀ p ∈ l, 92 ∉ p) → logical i i [] l = num i l
  | [], _, _ => rfl
  | [p], i, h => by
    show [(i, [] ++ chop p)] = [(i, p)]
    rw [chop_plain (h p (by simp))]; rfl
  | p :: q :: r, i, h => by
    show (if ends p = true then _ else _) = _
    rw [if_neg (by rw [not_ends (h p (by simp))]; decide), logical_plain (q :: r) (i + 1) (fun x hx => h x (by simp [hx]))]
    rfl
theorem cutAt_app (c : UInt8) : ∀ (x y : B), c ∉ x → Mac.cutAt c (x ++ c :: y) = x :: Mac.cutAt c y
  | [], y, _ => by simp [Mac.cutAt]
  | b :: x, y, h => by
    have hb : b ≠ c := fun e => h (by rw [e]; exact List.mem_cons_self)
    rw [List.cons_append]
    conv => lhs; unfold Mac.cutAt
    rw [if_neg hb, cutAt_app c x y (fun e => h (List.mem_cons_of_mem _ e))]
theorem cutAt_one (c : UInt8) : ∀ (x : B), c ∉ x → Mac.cutAt c x = [x]
  | [], _ => rfl
  | b :: x, h => by
    have hb : b ≠ c := fun e => h (by rw [e]; exact List.mem_cons_self)
    conv => lhs; unfold Mac.cutAt
    rw [if_neg hb, cutAt_one c x (fun e => h (List.mem_cons_of_mem _ e))]

/-! ### LexPlain -/
def joinA : List B → B
  | [] => []
  | x :: l => x ++ 10 :: joinA l
def joinB : List B → B
  | [] => []
  | x :: l => deck x ++ 10 :: (32 :: 10 :: (35 :: 32 :: 120 :: 10 :: joinB l))
def flat : List B → List B
  | [] => []
  | x :: l => deck x :: [32] :: [35, 32, 120] :: flat l
theorem cut_joinA : ∀ l : List B, (∀ p ∈ l, 10 ∉ p) → Mac.cutAt 10 (joinA l) = l ++ [[]]
  | [], _ => rfl
  | x :: l, h => by
    show Mac.cutAt 10 (x ++ 10 :: joinA l) = _
    rw [cutAt_app _ _ _ (h x (by simp)), cut_joinA l (fun p hp => h p (by simp [hp]))]; rfl
theorem deck_not (c : UInt8) (x : B) (h : c ∉ x) (h1 : c ∉ ([32, 9, 13, 59] : B)) : c ∉ deck x := by
  unfold deck
  simp at h1 ⊢
  exact ⟨h1.1, h1.2.1, h, h1.1, h1.2.2.1, h1.2.2.2, h⟩
theorem cut_joinB : ∀ l : List B, (∀ p ∈ l, 10 ∉ p) → Mac.cutAt 10 (joinB l) = flat l ++ [[]]
  | [], _ => rfl
  | x :: l, h => by
    show Mac.cutAt 10 (deck x ++ 10 :: (32 :: 10 :: (35 :: 32 :: 120 :: 10 :: joinB l))) = _
    rw [cutAt_app _ _ _ (deck_not 10 x (h x (by simp)) (by decide))]
    rw [show (32 :: 10 :: (35 :: 32 :: 120 :: 10 :: joinB l) : B) = [32] ++ 10 :: ([35, 32, 120] ++ 10 :: joinB l) from rfl]
    rw [cutAt_app _ _ _ (by decide), cutAt_app _ _ _ (by decide), cut_joinB l (fun p hp => h p (by simp [hp]))]; rfl
theorem flat_not : ∀ l : List B, (∀ p ∈ l, 92 ∉ p) → ∀ p ∈ flat l ++ [[]], 92 ∉ p
  | [], _, p, hp => by simp [flat] at hp; subst hp; simp
  | x :: l, h, p, hp => by
    simp only [flat, List.cons_append, List.mem_cons] at hp
    rcases hp with rfl | rfl | rfl | hp
    · exact deck_not 92 x (h x (by simp)) (by decide)
    · decide
    · decide
    · exact flat_not l (fun q hq => h q (by simp [hq])) p hp
theorem out_cons (a : Nat) (p : B) (l : List (Nat × B)) : out ((a, p) :: l) = if said p = [] then out l else (a, said p) :: out l := by
  unfold out
  rw [List.map_cons, List.filter_cons]
  by_cases h : said p = []
  · simp [h]
  · simp [h]
theorem said32 : said [32] = [] := by decide
theorem saidx : said [35, 32, 120] = [] := by decide
theorem said0 : said [] = [] := by decide
theorem out_num : ∀ (l : List B) (i : Nat), 1 ≤ i → out (num (3 * i - 2) (flat l ++ [[]])) = (out (num i (l ++ [[]]))).map fun x => (3 * x.1 - 2, x.2)
  | [], i, _ => by
    simp only [flat, List.nil_append, num]
    rw [out_cons, if_pos said0, out_cons, if_pos said0]; rfl
  | x :: l, i, h => by
    have ih := out_num l (i + 1) (by omega)
    simp only [flat, List.cons_append, num]
    rw [out_cons, out_cons, if_pos said32, out_cons, if_pos saidx, said_deck, out_cons]
    rw [show 3 * i - 2 + 1 + 1 + 1 = 3 * (i + 1) - 2 by omega, ih]
    by_cases hx : said x = []
    · rw [if_pos hx, if_pos hx]
    · rw [if_neg hx, if_neg hx]; rfl
/-- the lines of a text, put together -/
def lines (s : B) : List (Nat × B) := logical 1 1 [] (Mac.cutAt 10 s)
theorem plain_law (l : List B) (h : ∀ p ∈ l, plain p) : out (lines (joinB l)) = (out (lines (joinA l))).map fun x => (3 * x.1 - 2, x.2) := by
  unfold lines
  rw [cut_joinA l (fun p hp => (h p hp).1), cut_joinB l (fun p hp => (h p hp).1)]
  rw [logical_plain _ 1 (flat_not l (fun p hp => (h p hp).2)), logical_plain _ 1 (fun p hp => by
    rcases List.mem_append.1 hp with g | g
    · exact (h p g).2
    · simp at g; subst g; simp)]
  exact out_num l 1 (Nat.le_refl _)
theorem lines_le (n : Nat) : ∀ (ps : List B) (a i : Nat) (acc : B), acc.length + (ps.map List.length).sum ≤ n → ∀ x ∈ logical a i acc ps, x.2.length ≤ n
  | [], _, _, _, _, x, hx => by cases hx
  | [p], a, i, acc, h, x, hx => by
    simp only [logical, List.mem_singleton] at hx
    subst hx
    have : (chop p).length ≤ p.length := by unfold chop; split <;> simp
    simp at h ⊢; omega
  | p :: q :: r, a, i, acc, h, x, hx => by
    have hc : (chop p).length ≤ p.length := by unfold chop; split <;> simp
    simp only [logical] at hx
    simp only [List.map_cons, List.sum_cons] at h
    split at hx
    · exact lines_le n (q :: r) a (i + 1) _ (by simp only [List.length_append, List.map_cons, List.sum_cons]; omega) x hx
    · rcases List.mem_cons.1 hx with rfl | hx
      · simp only [List.length_append]; omega
      · exact lines_le n (q :: r) _ _ _ (by simp only [List.length_nil, List.map_cons, List.sum_cons]; omega) x hx
theorem cutAt_sum (c : UInt8) : ∀ s : B, ((Mac.cutAt c s).map List.length).sum ≤ s.length
  | [] => by simp [Mac.cutAt]
  | b :: r => by
    have ih := cutAt_sum c r
    unfold Mac.cutAt
    by_cases h : b = c
    · rw [if_pos h]; simp; omega
    · rw [if_neg h]
      cases e : Mac.cutAt c r with
      | nil => simp
      | cons x t => rw [e] at ih; simp at ih ⊢; omega
theorem lines_short (s : B) : ∀ x ∈ lines s, (said x.2).length ≤ s.length := fun x hx =>
  Nat.le_trans (said_length _) (lines_le s.length _ 1 1 [] (by simpa using cutAt_sum 10 s) x hx)
/-! ### LexJoined -/
def many : List B → B
  | [] => []
  | [x] => x
  | x :: y :: l => x ++ 92 :: 10 :: many (y :: l)
def manyP : List B → List B
  | [] => []
  | [x] => [x]
  | x :: y :: l => (x ++ [92]) :: manyP (y :: l)
def strokes (l : List B) : List B := l.map fun _ => []
theorem cut_many : ∀ (l : List B) (z : B), l ≠ [] → (∀ p ∈ l, 10 ∉ p) → Mac.cutAt 10 (many l ++ 10 :: z) = manyP l ++ Mac.cutAt 10 z
  | [], z, h, _ => absurd rfl h
  | [x], z, _, h => by
    show Mac.cutAt 10 (x ++ 10 :: z) = _
    rw [cutAt_app _ _ _ (h x (by simp))]; rfl
  | x :: y :: l, z, _, h => by
    have ih := cut_many (y :: l) z (by simp) (fun p hp => h p (by simp only [List.mem_cons] at hp ⊢; exact Or.inr hp))
    show Mac.cutAt 10 ((x ++ 92 :: 10 :: many (y :: l)) ++ 10 :: z) = _
    rw [show (x ++ 92 :: 10 :: many (y :: l)) ++ 10 :: z = (x ++ [92]) ++ 10 :: (many (y :: l) ++ 10 :: z) by simp]
    rw [cutAt_app _ _ _ (by have := h x (by simp); simp [this]), ih]; rfl
theorem cut_blank (s : B) : ∀ n : Nat, Mac.cutAt 10 (List.replicate n 10 ++ s) = List.replicate n [] ++ Mac.cutAt 10 s
  | 0 => by simp
  | n + 1 => by
    rw [List.replicate_succ, List.cons_append]
    have := cutAt_app 10 [] (List.replicate n 10 ++ s) (by simp)
    rw [List.nil_append] at this
    rw [this, cut_blank s n]; rfl
theorem logical_many (a : Nat) (last : B) (hl : 92 ∉ last) : ∀ (l : List B) (i : Nat) (acc : B), l ≠ [] → (∀ p ∈ l, 92 ∉ p) →
    logical a i acc (manyP l ++ [last]) = [(a, acc ++ l.flatten), (i + l.length, last)]
  | [], _, _, h, _ => absurd rfl h
  | [x], i, acc, _, h => by
    show (if ends x = true then _ else _) = _
    rw [if_neg (by rw [not_ends (h x (by simp))]; decide)]
    show (a, acc ++ x) :: [(i + 1, [] ++ chop last)] = _
    rw [chop_plain hl]; simp
  | x :: y :: l, i, acc, _, h => by
    have ih := logical_many a last hl (y :: l) (i + 1) (acc ++ x) (by simp) (fun p hp => h p (by simp only [List.mem_cons] at hp ⊢; exact Or.inr hp))
    have e : ∃ q r, manyP (y :: l) ++ [last] = q :: r := by
      cases l with
      | nil => exact ⟨_, _, rfl⟩
      | cons z l => exact ⟨_, _, rfl⟩
    obtain ⟨q, r, e⟩ := e
    rw [show manyP (x :: y :: l) ++ [last] = (x ++ [92]) :: (manyP (y :: l) ++ [last]) from rfl]
    rw [e] at ih ⊢
    show (if ends (x ++ [92]) = true then logical a (i + 1) (acc ++ chop (x ++ [92])) (q :: r) else _) = _
    rw [if_pos (ends_stroke x), chop_stroke, ih]
    simp only [List.flatten_cons, List.append_assoc, List.length_cons]
    rw [show i + 1 + (l.length + 1) = i + (l.length + 1 + 1) by omega]
theorem logical_blank (l : List B) (hl : l ≠ []) : ∀ (n i : Nat), out (logical i i [] (List.replicate n [] ++ l)) = out (logical (i + n) (i + n) [] l)
  | 0, i => by simp
  | n + 1, i => by
    have ih := logical_blank l hl n (i + 1)
    have e : ∃ q r, List.replicate n [] ++ l = q :: r := by
      cases h : List.replicate n [] ++ l with
      | nil => simp at h; exact absurd h.2 hl
      | cons q r => exact ⟨q, r, rfl⟩
    obtain ⟨q, r, e⟩ := e
    rw [List.replicate_succ, List.cons_append]
    rw [e] at ih ⊢
    show out (if ends [] = true then _ else _) = _
    rw [if_neg (by decide)]
    show out ((i, [] ++ []) :: logical (i + 1) (i + 1) [] (q :: r)) = _
    rw [out_cons, List.append_nil, if_pos said0, ih]
    rw [show i + 1 + n = i + (n + 1) by omega]
def lastB : B := [108, 97, 115, 116]
theorem said_last : said lastB = lastB := by decide
def oneText (n : Nat) (l : List B) : B := List.replicate n 10 ++ (l.flatten ++ 10 :: lastB)
def manyText (n : Nat) (l : List B) : B := List.replicate n 10 ++ (many l ++ 10 :: lastB)
theorem cut_last : Mac.cutAt 10 lastB = [lastB] := cutAt_one 10 lastB (by decide)
theorem one_law (n : Nat) (l : List B) (h : ∀ p ∈ l, plain p) : out (lines (oneText n l)) = if said l.flatten = [] then [(n + 2, lastB)] else [(n + 1, said l.flatten), (n + 2, lastB)] := by
  have h10 : 10 ∉ l.flatten := by rw [List.mem_flatten]; rintro ⟨p, hp, h2⟩; exact (h p hp).1 h2
  have h92 : 92 ∉ l.flatten := by rw [List.mem_flatten]; rintro ⟨p, hp, h2⟩; exact (h p hp).2 h2
  unfold lines oneText
  rw [cut_blank, cutAt_app _ _ _ h10, cut_last, logical_blank _ (by simp), logical_plain _ _ (by
    intro p hp
    simp only [List.mem_cons, List.not_mem_nil, or_false] at hp
    rcases hp with rfl | rfl
    · exact h92
    · decide)]
  simp only [num]
  rw [out_cons, out_cons, said_last, if_neg (by decide : ¬ lastB = [])]
  rw [show 1 + n = n + 1 by omega]; rfl
theorem many_law (n : Nat) (l : List B) (hl : l ≠ []) (h : ∀ p ∈ l, plain p) : out (lines (manyText n l)) = if said l.flatten = [] then [(n + l.length + 1, lastB)] else [(n + 1, said l.flatten), (n + l.length + 1, lastB)] := by
  have hne : manyP l ++ [lastB] ≠ [] := by simp
  unfold lines manyText
  rw [cut_blank, cut_many l _ hl (fun p hp => (h p hp).1), cut_last, logical_blank _ hne, logical_many _ lastB (by decide) l _ [] hl (fun p hp => (h p hp).2)]
  rw [out_cons, out_cons, said_last, if_neg (by decide : ¬ lastB = []), List.nil_append]
  rw [show 1 + n = n + 1 by omega, show n + 1 + l.length = n + l.length + 1 by omega]; rfl

/-! ### the words -/
def wordsR : B → B → List B
  | [], w => if w = [] then [] else [w]
  | c :: s, w => if blk c = true then (if w = [] then wordsR s [] else w :: wordsR s []) else wordsR s (w ++ [c])
theorem wordsR_app : ∀ (x w s : B), (∀ c ∈ x, blk c = false) → wordsR (x ++ s) w = wordsR s (w ++ x)
  | [], w, s, _ => by simp
  | c :: x, w, s, h => by
    rw [List.cons_append]
    simp only [wordsR]
    rw [if_neg (by rw [h c (by simp)]; decide), wordsR_app x (w ++ [c]) s (fun d hd => h d (by simp [hd]))]
    simp
theorem wordsR_trimL : ∀ s : B, wordsR (trimL s) [] = wordsR s []
  | [] => rfl
  | c :: s => by
    rw [trimL_cons]
    by_cases hc : blk c = true
    · rw [if_pos hc, wordsR_trimL s]
      simp only [wordsR]; rw [if_pos hc]; rfl
    · rw [if_neg hc]
theorem wordsR_post {c : UInt8} (h : blk c = true) : ∀ (s w : B), wordsR (s ++ [c]) w = wordsR s w
  | [], w => by simp [wordsR, h]
  | d :: s, w => by
    rw [List.cons_append]
    simp only [wordsR]
    rw [wordsR_post h s, wordsR_post h s]
theorem wordsR_trimR (s w : B) : wordsR (trimR s) w = wordsR s w := by
  have key : ∀ (r : B), wordsR ((r.dropWhile blk).reverse) w = wordsR r.reverse w := by
    intro r
    induction r with
    | nil => rfl
    | cons c r ih =>
      rw [List.dropWhile_cons]
      by_cases hc : blk c = true
      · rw [if_pos hc, ih, List.reverse_cons, wordsR_post hc]
      · rw [if_neg hc]
  have := key s.reverse
  rw [List.reverse_reverse] at this
  exact this
theorem wordsR_trim (s : B) : wordsR (trim s) [] = wordsR s [] := by rw [trim_eq, wordsR_trimL, wordsR_trimR]
def wordL (s : B) : B := s.takeWhile fun c => !blk c
def restL (s : B) : B := s.dropWhile fun c => !blk c
theorem word_rest (s : B) : s = wordL s ++ restL s := (List.takeWhile_append_dropWhile).symm
theorem wordL_not (s : B) : ∀ c ∈ wordL s, blk c = false := by
  unfold wordL
  induction s with
  | nil => intro c hc; cases hc
  | cons d s ih =>
    intro c hc
    rw [List.takeWhile_cons] at hc
    by_cases hd : blk d = true
    · simp [hd] at hc
    · have hd' : blk d = false := by simpa using hd
      rw [hd'] at hc
      simp only [Bool.not_false, if_true, List.mem_cons] at hc
      rcases hc with rfl | hc
      · exact hd'
      · exact ih c hc
theorem wordsR_step (s : B) (h : wordL s ≠ []) : wordsR s [] = wordL s :: wordsR (restL s) [] := by
  conv => lhs; rw [word_rest s]
  rw [wordsR_app _ _ _ (wordL_not s), List.nil_append]
  cases hr : restL s with
  | nil => simp only [wordsR]; rw [if_neg h]; rfl
  | cons c t =>
    have hc : blk c = true := by
      unfold restL at hr
      have := List.head?_dropWhile_not (fun c => !blk c) s
      rw [hr] at this
      simpa using this
    simp [wordsR, hc, h]
/-! ### bounds -/
theorem num_mem : ∀ (ps : List B) (a : Nat), ∀ x ∈ num a ps, a ≤ x.1 ∧ x.1 < a + ps.length ∧ x.2 ∈ ps
  | [], _, x, h => by cases h
  | p :: r, a, x, h => by
    rcases List.mem_cons.1 h with rfl | h
    · exact ⟨Nat.le_refl _, by simp, by simp⟩
    · obtain ⟨h1, h2, h3⟩ := num_mem r (a + 1) x h
      exact ⟨by omega, by simp; omega, by simp [h3]⟩
theorem out_mem {l : List (Nat × B)} {x : Nat × B} (h : x ∈ out l) : ∃ y ∈ l, x.1 = y.1 ∧ x.2 = said y.2 := by
  unfold out at h
  obtain ⟨h1, _⟩ := List.mem_filter.1 h
  obtain ⟨y, hy, rfl⟩ := List.mem_map.1 h1
  exact ⟨y, hy, rfl, rfl⟩
theorem lines_joinA (l : List B) (h : ∀ p ∈ l, plain p) : lines (joinA l) = num 1 (l ++ [[]]) := by
  unfold lines
  rw [cut_joinA l (fun p hp => (h p hp).1), logical_plain _ 1 (fun p hp => by
    rcases List.mem_append.1 hp with g | g
    · exact (h p g).2
    · simp at g; subst g; simp)]
theorem lines_joinB (l : List B) (h : ∀ p ∈ l, plain p) : lines (joinB l) = num 1 (flat l ++ [[]]) := by
  unfold lines
  rw [cut_joinB l (fun p hp => (h p hp).1), logical_plain _ 1 (flat_not l (fun p hp => (h p hp).2))]
theorem flat_mem : ∀ (l : List B), ∀ p ∈ flat l ++ [[]], (∃ q ∈ l, p = deck q) ∨ p.length ≤ 3
  | [], p, hp => by simp [flat] at hp; subst hp; exact Or.inr (by simp)
  | x :: l, p, hp => by
    simp only [flat, List.cons_append, List.mem_cons] at hp
    rcases hp with rfl | rfl | rfl | hp
    · exact Or.inl ⟨x, by simp, rfl⟩
    · exact Or.inr (by simp)
    · exact Or.inr (by simp)
    · rcases flat_mem l p hp with ⟨q, hq, e⟩ | h
      · exact Or.inl ⟨q, by simp [hq], e⟩
      · exact Or.inr h
theorem shortB (l : List B) (h : ∀ p ∈ l, plain p ∧ p.length ≤ 100) : ∀ x ∈ lines (joinB l), (said x.2).length ≤ 4096 := by
  intro x hx
  rw [lines_joinB l (fun p hp => (h p hp).1)] at hx
  rcases flat_mem l _ (num_mem _ _ x hx).2.2 with ⟨q, hq, e⟩ | e
  · rw [e, said_deck]; have := said_length q; have := (h q hq).2; omega
  · have := said_length x.2; omega
theorem joinA_snoc : ∀ (l : List B) (x : B), joinA (l ++ [x]) = joinA l ++ (x ++ [10])
  | [], x => by simp [joinA]
  | y :: l, x => by simp [joinA, joinA_snoc l x]
theorem joinB_snoc : ∀ (l : List B) (x : B), joinB (l ++ [x]) = joinB l ++ (deck x ++ [10, 32, 10, 35, 32, 120, 10])
  | [], x => by simp [joinB]
  | y :: l, x => by simp [joinB, joinB_snoc l x]
theorem joinA_length : ∀ (l : List B), (∀ p ∈ l, p.length ≤ 100) → (joinA l).length ≤ 101 * l.length
  | [], _ => by simp [joinA]
  | x :: l, h => by
    have := joinA_length l (fun p hp => h p (by simp [hp]))
    have := h x (by simp)
    simp [joinA]; omega
theorem joinB_length : ∀ (l : List B), (∀ p ∈ l, p.length ≤ 100) → (joinB l).length ≤ 212 * l.length
  | [], _ => by simp [joinB]
  | x :: l, h => by
    have := joinB_length l (fun p hp => h p (by simp [hp]))
    have := h x (by simp)
    simp [joinB, deck]; omega
theorem outA_mem (l : List B) (h : ∀ p ∈ l, plain p) : ∀ x ∈ out (lines (joinA l)), 1 ≤ x.1 ∧ x.1 ≤ l.length + 1 := by
  intro x hx
  rw [lines_joinA l h] at hx
  obtain ⟨y, hy, e, _⟩ := out_mem hx
  have := num_mem _ _ y hy
  simp at this
  omega
end Go.Lx
