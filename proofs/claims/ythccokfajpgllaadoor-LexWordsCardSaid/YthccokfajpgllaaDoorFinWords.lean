/- LexWords: the printed law answers true for every text. -/
import Derived.Test.YthccokfajpgllaaDoorFinPlain
import Derived.Test.YthccokfajpgllaaDoorPr19
import Derived.Lib.IndexAny
namespace Go.Proofs.YthccokfajpgllaaDoor.Pr
open Go Go.RowKit
open Go.Proofs.YthccokfajpgllaaDoorW.PrintWords Go.Proofs.YthccokfajpgllaaDoorW.PrintLast
set_option linter.unusedVariables false
set_option linter.unusedSimpArgs false

theorem blank_bt {s : ByteArray} {i : Nat} (h : i < (bl s).length) : belvedereref08_blank.f (bt s (i : Int)) = some (Lx.blk (bl s)[i]) := by
  have b1 : bt s (i : Int) = 32 ↔ (bl s)[i] = 32 := bt_is h 32
  have b2 : bt s (i : Int) = 9 ↔ (bl s)[i] = 9 := bt_is h 9
  have b3 : bt s (i : Int) = 13 ↔ (bl s)[i] = 13 := bt_is h 13
  have hb : Lx.blk (bl s)[i] = decide ((bl s)[i] = 32 ∨ (bl s)[i] = 9 ∨ (bl s)[i] = 13) := by
    unfold Lx.blk
    rw [Bool.eq_iff_iff]; simp
  rw [hb]
  unfold belvedereref08_blank.f
  by_cases c1 : (bl s)[i] = 32
  · rw [if_pos (b1.2 c1)]; simp [c1]
  · rw [if_neg (fun g => c1 (b1.1 g))]
    by_cases c2 : (bl s)[i] = 9
    · rw [if_pos (b2.2 c2)]; simp [c2]
    · rw [if_neg (fun g => c2 (b2.1 g))]
      simp only [c1, c2, false_or, Option.some.injEq]
      rw [Bool.eq_iff_iff, beq_iff_eq, decide_eq_true_eq]
      exact b3
theorem any_cons (c : UInt8) (t : Lx.B) : Lib.indexAny (c :: t) [32, 9, 13] = if Lx.blk c = true then 0 else if (Lib.indexAny t [32, 9, 13] == -1) = true then -1 else Lib.indexAny t [32, 9, 13] + 1 := rfl
theorem any_split : ∀ t : Lx.B, (Lib.indexAny t [32, 9, 13] = -1 ∧ Lx.wordL t = t ∧ Lx.restL t = []) ∨ (0 ≤ Lib.indexAny t [32, 9, 13] ∧ (Lib.indexAny t [32, 9, 13]).toNat ≤ t.length ∧ t.take (Lib.indexAny t [32, 9, 13]).toNat = Lx.wordL t ∧ t.drop (Lib.indexAny t [32, 9, 13]).toNat = Lx.restL t)
  | [] => Or.inl ⟨rfl, rfl, rfl⟩
  | c :: t => by
    rw [any_cons]
    by_cases hc : Lx.blk c = true
    · refine Or.inr ?_
      rw [if_pos hc]
      unfold Lx.wordL Lx.restL
      rw [List.takeWhile_cons, List.dropWhile_cons]
      simp [hc]
    · have hc' : Lx.blk c = false := by simpa using hc
      rw [if_neg hc]
      have e1 : Lx.wordL (c :: t) = c :: Lx.wordL t := by unfold Lx.wordL; rw [List.takeWhile_cons, if_pos (by simp [hc'])]
      have e2 : Lx.restL (c :: t) = Lx.restL t := by unfold Lx.restL; rw [List.dropWhile_cons, if_pos (by simp [hc'])]
      rw [e1, e2]
      rcases any_split t with ⟨h1, h2, h3⟩ | ⟨h1, h2, h3, h4⟩
      · rw [h1]; exact Or.inl ⟨rfl, by rw [h2], h3⟩
      · have hne : ¬ (Lib.indexAny t [32, 9, 13] == -1) = true := by simp; omega
        rw [if_neg hne]
        refine Or.inr ⟨by omega, by simp; omega, ?_, ?_⟩
        · rw [show (Lib.indexAny t [32, 9, 13] + 1).toNat = (Lib.indexAny t [32, 9, 13]).toNat + 1 by omega, List.take_succ_cons, h3]
        · rw [show (Lib.indexAny t [32, 9, 13] + 1).toNat = (Lib.indexAny t [32, 9, 13]).toNat + 1 by omega, List.drop_succ_cons, h4]
theorem trim_start (s : Lx.B) : Lx.trim s = [] ∨ Lx.wordL (Lx.trim s) ≠ [] := by
  have hh := Lx.trim_head s
  rcases Lx.trimL_first s with h | ⟨c, t, h, hc⟩
  · rw [h] at hh
    cases ht : Lx.trim s with
    | nil => exact Or.inl rfl
    | cons d u => rw [ht] at hh; cases hh
  · rw [h] at hh
    cases ht : Lx.trim s with
    | nil => exact Or.inl rfl
    | cons d u =>
      rw [ht] at hh
      obtain rfl : d = c := Option.some.inj hh
      refine Or.inr ?_
      unfold Lx.wordL
      rw [List.takeWhile_cons, if_pos (by simp [hc])]
      simp
theorem map_ba_bl (l : List ByteArray) : (l.map bl).map ba = l := by
  rw [List.map_map]; conv => rhs; rw [← List.map_id l]
  apply List.map_congr_left
  intro a _; exact ba_bl a
theorem ext_from (t : Lx.B) (i : Nat) : (ba t).extract i (ba t).size = ba (t.drop i) := by
  apply bl_inj
  show ((ba t).extract i (ba t).size).data.toList = t.drop i
  rw [Lib.extract_data]
  show (List.drop i t).take ((ba t).size - i) = _
  rw [ba_size, List.take_of_length_le (by simp)]
theorem ext_to (t : Lx.B) (i : Nat) : (ba t).extract 0 i = ba (t.take i) := by
  apply bl_inj
  show ((ba t).extract 0 i).data.toList = t.take i
  rw [Lib.extract_data]; simp [ba]
theorem words_l0 : ∀ (n : Nat) (t : Lx.B) (acc : List ByteArray), t.length ≤ n → t.length ≤ 100000 → acc.length + t.length ≤ 100000 → (t = [] ∨ Lx.wordL t ≠ []) →
    Ev (fun k => lex_Words.l0 k (ba t) acc) (acc ++ (Lx.wordsR t []).map ba)
  | 0, t, acc, hn, ht, ha, hw => by
    obtain rfl : t = [] := List.length_eq_zero_iff.1 (by omega)
    refine Ev.step (f := fun _ => some _) (fun k => ?_) (Ev.now _)
    simp only [lex_Words.l0]
    rw [if_pos (by rw [toList_ba])]
    simp [Lx.wordsR]
  | n + 1, t, acc, hn, ht, ha, hw => by
    by_cases h0 : t = []
    · subst h0
      refine Ev.step (f := fun _ => some _) (fun k => ?_) (Ev.now _)
      simp only [lex_Words.l0]
      rw [if_pos (by rw [toList_ba])]
      simp [Lx.wordsR]
    · have hw' := hw.resolve_left h0
      have hl : t.length = (Lx.wordL t).length + (Lx.restL t).length := by conv => lhs; rw [Lx.word_rest t, List.length_append]
      have hwl : 0 < (Lx.wordL t).length := List.length_pos_iff.2 hw'
      have hf : strings_IndexAny.f (ba t) (⟨#[32, 9, 13]⟩ : ByteArray) = some (Lib.indexAny t [32, 9, 13]) := by
        unfold strings_IndexAny.f
        rw [if_pos ⟨by rw [ba_size]; omega, rfl⟩]; rfl
      rw [Lx.wordsR_step t hw']
      rcases any_split t with ⟨h1, h2, h3⟩ | ⟨h1, h2, h3, h4⟩
      · refine Ev.step (f := fun _ => some _) (fun k => ?_) (Ev.now _)
        simp only [lex_Words.l0]
        rw [if_neg (by rw [toList_ba]; exact h0), hf, h1]
        simp only [Option.bind_some]
        rw [if_pos (by decide), if_pos (by omega), h2, h3]
        simp [Lx.wordsR]
      · have htl := Lx.trim_length (Lx.restL t)
        have ih := words_l0 n (Lx.trim (Lx.restL t)) (acc ++ [ba (Lx.wordL t)]) (by omega) (by omega) (by simp; omega) (trim_start _)
        rw [Lx.wordsR_trim] at ih
        rw [List.map_cons, List.append_cons]
        refine Ev.step (fun k => ?_) ih
        simp only [lex_Words.l0]
        rw [if_neg (by rw [toList_ba]; exact h0), hf]
        simp only [Option.bind_some]
        rw [if_neg (by omega), if_pos h1, if_pos (by rw [ba_size]; omega), if_pos (by omega), ext_from, ext_to, h3, h4, trim_f _ (by rw [ba_size]; omega)]
        simp only [Option.bind_some, bl_ba]
theorem words_ev (a : ByteArray) (h : a.size ≤ 5000) : Ev (fun k => lex_Words.f k a) ((Lx.wordsR (bl a) []).map ba) := by
  have hb := bl_size a
  have htl := Lx.trim_length (bl a)
  have := words_l0 (Lx.trim (bl a)).length (Lx.trim (bl a)) [] (Nat.le_refl _) (by omega) (by simp; omega) (trim_start _)
  rw [Lx.wordsR_trim] at this
  refine Ev.congr (fun k => ?_) this
  unfold lex_Words.f
  rw [trim_f _ (by omega)]
  rfl
/-! ### the reference -/
theorem ref_l1 : ∀ (n : Nat) (t : Lx.B), t.length = n → n ≤ 5000 → Ev (fun k => belvedereref08_Trim.l1 k (ba t)) (ba (Lx.trimR t))
  | 0, t, h, _ => by
    obtain rfl : t = [] := List.length_eq_zero_iff.1 h
    refine Ev.step (f := fun _ => some _) (fun k => ?_) (Ev.now _)
    simp only [belvedereref08_Trim.l1]
    rw [if_neg (by decide)]; rfl
  | n + 1, t, h, hn => by
    obtain ⟨u, c, rfl⟩ : ∃ u c, t = u ++ [c] := by
      have hne : t ≠ [] := by intro e; subst e; simp at h
      exact ⟨_, _, (List.dropLast_concat_getLast hne).symm⟩
    have hu : u.length = n := by simpa using h
    have hs : (ba (u ++ [c])).size = n + 1 := by rw [ba_size]; simp [hu]
    have w1 : wrap64 (((ba (u ++ [c])).size : Int) - 1) = ((n : Nat) : Int) := by rw [hs, w64 (by omega) (by omega)]; omega
    have hbl : belvedereref08_blank.f (bt (ba (u ++ [c])) ((n : Nat) : Int)) = some (Lx.blk c) := by
      rw [blank_bt (by rw [bl_ba]; simp [hu])]
      simp [bl_ba, ← hu]
    by_cases hc : Lx.blk c = true
    · rw [Lx.trimR_post hc]
      refine Ev.step (fun k => ?_) (ref_l1 n u hu (by omega))
      simp only [belvedereref08_Trim.l1]
      rw [if_pos (by omega), w1, if_pos (by omega), if_pos (by omega), hbl]
      simp only [Option.bind_some]
      rw [if_pos hc, if_pos (by omega), ext_to]
      simp [← hu]
    · refine Ev.step (f := fun _ => some _) (fun k => ?_) (Ev.now _)
      simp only [belvedereref08_Trim.l1]
      rw [if_pos (by omega), w1, if_pos (by omega), if_pos (by omega), hbl]
      simp only [Option.bind_some]
      rw [if_neg hc]
      congr 2
      unfold Lx.trimR
      simp [hc]
theorem ref_l0 : ∀ (n : Nat) (t : Lx.B), t.length = n → n ≤ 5000 → Ev (fun k => belvedereref08_Trim.l0 k (ba t)) (ba (Lx.trimR (Lx.trimL t)))
  | n, [], h, hn => by
    refine Ev.step (f := fun k => belvedereref08_Trim.j1 k (ba [])) (fun k => ?_) (Ev.step (fun k => ?_) (ref_l1 0 [] rfl (by omega)))
    · simp only [belvedereref08_Trim.l0]
      rw [if_neg (by decide)]
    · simp only [belvedereref08_Trim.j1]
  | n, c :: t, h, hn => by
    have hs : (ba (c :: t)).size = t.length + 1 := by rw [ba_size]; rfl
    have hl : t.length + 1 = n := h
    have hbl : belvedereref08_blank.f (bt (ba (c :: t)) 0) = some (Lx.blk c) := blank_bt (s := ba (c :: t)) (i := 0) (by rw [bl_ba]; simp)
    rw [Lx.trimL_cons]
    by_cases hc : Lx.blk c = true
    · rw [if_pos hc]
      refine Ev.step (fun k => ?_) (ref_l0 t.length t rfl (by omega))
      simp only [belvedereref08_Trim.l0]
      rw [if_pos (by omega), if_pos (by omega), hbl]
      simp only [Option.bind_some]
      rw [if_pos hc, if_pos (by omega), ext_from]
      rfl
    · rw [if_neg hc]
      refine Ev.step (f := fun k => belvedereref08_Trim.j1 k (ba (c :: t))) (fun k => ?_) (Ev.step (fun k => ?_) (ref_l1 n (c :: t) h hn))
      · simp only [belvedereref08_Trim.l0]
        rw [if_pos (by omega), if_pos (by omega), hbl]
        simp only [Option.bind_some]
        rw [if_neg hc]
      · simp only [belvedereref08_Trim.j1]
theorem ref_words (s : ByteArray) (hs : s.size ≤ 5000) : ∀ (d i : Nat) (acc : List ByteArray) (cur : Lx.B), i + d = s.size → acc.length ≤ i → cur.length ≤ i →
    Ev (fun k => belvedereref08_Words.l0 k s acc (ba cur) i) (acc ++ (Lx.wordsR ((bl s).drop i) cur).map ba)
  | 0, i, acc, cur, h, ha, hc => by
    have hb := bl_size s
    rw [List.drop_eq_nil_of_le (by omega)]
    refine Ev.step (f := fun _ => some _) (fun k => ?_) (Ev.now _)
    simp only [belvedereref08_Words.l0]
    rw [if_neg (by omega), toList_ba]
    by_cases h0 : cur = []
    · rw [if_pos h0]; simp [Lx.wordsR, h0]
    · rw [if_neg h0, if_pos (by omega)]; simp [Lx.wordsR, h0]
  | d + 1, i, acc, cur, h, ha, hc => by
    have hb := bl_size s
    have hi : i < (bl s).length := by omega
    rw [List.drop_eq_getElem_cons hi]
    have w1 : wrap64 ((i : Int) + 1) = ((i + 1 : Nat) : Int) := by rw [w64 (by omega) (by omega)]; rfl
    simp only [Lx.wordsR]
    by_cases hk : Lx.blk (bl s)[i] = true
    · rw [if_pos hk]
      by_cases h0 : cur = []
      · rw [if_pos h0]
        have := ref_words s hs d (i + 1) acc [] (by omega) (by omega) (by simp)
        refine Ev.step (fun k => ?_) this
        simp only [belvedereref08_Words.l0]
        rw [if_pos (by omega), if_pos (by omega), blank_bt hi]
        simp only [Option.bind_some]
        rw [if_pos hk, if_pos (by rw [toList_ba]; exact h0), w1, h0]
      · rw [if_neg h0, List.map_cons, List.append_cons]
        have := ref_words s hs d (i + 1) (acc ++ [ba cur]) [] (by omega) (by simp; omega) (by simp)
        refine Ev.step (fun k => ?_) this
        simp only [belvedereref08_Words.l0]
        rw [if_pos (by omega), if_pos (by omega), blank_bt hi]
        simp only [Option.bind_some]
        rw [if_pos hk, if_neg (by rw [toList_ba]; exact h0), if_pos (by omega), w1]
        rfl
    · rw [if_neg hk]
      have := ref_words s hs d (i + 1) acc (cur ++ [(bl s)[i]]) (by omega) (by omega) (by simp; omega)
      refine Ev.step (fun k => ?_) this
      simp only [belvedereref08_Words.l0]
      rw [if_pos (by omega), if_pos (by omega), blank_bt hi]
      simp only [Option.bind_some]
      rw [if_neg hk, w1, if_pos (by omega), if_pos (by omega)]
      have e : s.extract ((i : Nat) : Int).toNat (((i + 1 : Nat) : Int)).toNat = ba [(bl s)[i]] := by
        apply bl_inj
        show (s.extract ((i : Nat) : Int).toNat (((i + 1 : Nat) : Int)).toNat).data.toList = _
        rw [show ((i : Nat) : Int).toNat = i by omega, show (((i + 1 : Nat) : Int)).toNat = i + 1 by omega, Lib.extract_data]
        have h' : i < s.data.toList.length := hi
        rw [List.drop_eq_getElem_cons h', Nat.add_sub_cancel_left]
        rfl
      rw [e, ba_app, if_pos (by rw [ba_size, ba_size]; simp; omega)]
theorem texts_ev (l : List ByteArray) (hl : l.length ≤ 100000) : ∀ (d i : Nat), i + d = l.length → Ev (fun k => belvederelaw08_texts.l0 k l l i) true
  | 0, i, h => by
    refine Ev.step (f := fun _ => some _) (fun k => ?_) (Ev.now _)
    simp only [belvederelaw08_texts.l0]
    rw [if_neg (by omega)]
  | d + 1, i, h => by
    refine Ev.step (fun k => ?_) (texts_ev l hl d (i + 1) (by omega))
    simp only [belvederelaw08_texts.l0]
    rw [if_pos (by omega), if_pos (by omega), if_pos (by omega), if_pos trivial, w64 (by omega) (by omega)]
    rfl
theorem wordsR_length : ∀ (s w : Lx.B), (Lx.wordsR s w).length ≤ s.length + 1
  | [], w => by simp only [Lx.wordsR]; split <;> simp
  | c :: s, w => by
    have h1 := wordsR_length s []
    have h2 := wordsR_length s (w ++ [c])
    simp only [Lx.wordsR]
    split
    · split
      · simp; omega
      · simp; omega
    · simp; omega
theorem words_true (a : ByteArray) : ∃ k, belvederelaw08_LexWords.f k a = some true := by
  refine Ev.rounds ?_
  by_cases h : a.size ≤ 5000
  · have hb := bl_size a
    refine Ev.congr (f := fun k => (belvedereref08_Trim.f k a).bind fun t208 => (if (ba (Lx.trim (bl a))).toList = t208.toList then ((lex_Words.f k a).bind fun t209 => ((belvedereref08_Words.f k a).bind fun t212 => ((belvederelaw08_texts.f k t209 t212).bind fun t215 => (if t215 = true then ((belvederelaw08_sure.f k).bind fun t216 => (some t216)) else (some false))))) else (some false))) (fun k => ?_) ?_
    · unfold belvederelaw08_LexWords.f
      rw [if_neg (by omega), trim_f _ (by omega)]
      rfl
    · have r1 : Ev (fun k => belvedereref08_Trim.f k a) (ba (Lx.trim (bl a))) := by
        have := ref_l0 (bl a).length (bl a) rfl (by omega)
        rw [ba_bl, ← Lx.trim_eq'] at this
        exact this
      refine Ev.bind r1 ?_
      refine Ev.congr (fun k => if_pos rfl) ?_
      refine Ev.bind (words_ev a h) ?_
      have r2 : Ev (fun k => belvedereref08_Words.f k a) ((Lx.wordsR (bl a) []).map ba) := by
        have := ref_words a h a.size 0 [] [] (by omega) (by simp) (by simp)
        rw [List.drop_zero, List.nil_append] at this
        exact this
      refine Ev.bind r2 ?_
      have hl : ((Lx.wordsR (bl a) []).map ba).length ≤ 100000 := by
        have := wordsR_length (bl a) []
        rw [List.length_map]; omega
      have r3 : Ev (fun k => belvederelaw08_texts.f k ((Lx.wordsR (bl a) []).map ba) ((Lx.wordsR (bl a) []).map ba)) true := by
        refine Ev.congr (fun k => ?_) (texts_ev _ hl _ 0 (Nat.zero_add _))
        unfold belvederelaw08_texts.f
        rw [if_pos rfl]; rfl
      refine Ev.bind r3 ?_
      refine Ev.congr (fun k => if_pos rfl) (Ev.bind sure_ev (Ev.now _))
  · refine Ev.congr (f := fun k => (belvederelaw08_sure.f k).bind fun t206 => (some t206)) (fun k => ?_) (Ev.bind sure_ev (Ev.now _))
    unfold belvederelaw08_LexWords.f
    rw [if_pos (by omega)]
theorem final_LexWords (a0 : ByteArray) (w : World) (_h0 : a0.size ≤ 140737488351232) (hG : Glob w) :
    Calls Tryd.prog 5 #[.string a0] w fun e w' => e = .returned (.bool true) ∧ Below w.heap.size w w' := by
  obtain ⟨k, hk⟩ := words_true a0
  exact belvederelaw08_LexWords.calls k a0 true w hG hk
end Go.Proofs.YthccokfajpgllaaDoor.Pr
