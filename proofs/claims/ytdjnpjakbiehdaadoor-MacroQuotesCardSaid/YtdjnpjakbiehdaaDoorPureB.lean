/- What the printed functions of layer 21's references Names, Quote and texts come to: the plain functions of 'Mac'. -/
import Derived.Test.YtdjnpjakbiehdaaDoorPureA
import Derived.Test.YtdjnpjakbiehdaaDoorPr12
import Derived.Test.YtdjnpjakbiehdaaDoorPr14
import Derived.Test.YtdjnpjakbiehdaaDoorPr15
import Derived.Test.YtdjnpjakbiehdaaDoorGNames
import Derived.Test.YtdjnpjakbiehdaaDoorGQuote
namespace Go.Proofs.YtdjnpjakbiehdaaDoor.Pr
open Go Go.RowKit
open Go.Proofs.YtdjnpjakbiehdaaDoorW.PrintWords Go.Proofs.YtdjnpjakbiehdaaDoorW.PrintLast
set_option linter.unusedVariables false
set_option linter.unusedSimpArgs false

theorem bl_extract (s : ByteArray) (a b : Nat) : bl (s.extract a b) = ((bl s).drop a).take (b - a) := Lib.extract_data s a b
theorem ext_snoc {s : ByteArray} {f i : Nat} (h : i < (bl s).length) (hf : f ≤ i) : bl (s.extract f (i + 1)) = bl (s.extract f i) ++ [(bl s)[i]] := by
  rw [bl_extract, bl_extract, show i + 1 - f = (i - f) + 1 by omega, List.take_succ_eq_append_getElem (by simp; omega)]
  simp [show f + (i - f) = i by omega]
theorem rdOf_at {l : List ByteArray} {j : Nat} (h : j < l.length) : rdOf ByteArray.empty l (j : Int) = l[j] := by
  unfold rdOf; simp [h]
theorem toList_iff {a b : ByteArray} : a.toList = b.toList ↔ bl a = bl b := by rw [Lib.toList_data, Lib.toList_data]; rfl
theorem toList_nil {a : ByteArray} : (a.toList == ([] : List UInt8)) = decide (bl a = []) := by
  rw [Lib.toList_data, Bool.eq_iff_iff]; simp [bl]

/-! ### Names -/
theorem names_l1 (s : ByteArray) (out : List ByteArray) (hout : out.length ≤ 65536) (name : ByteArray) (i : Int) (r : List ByteArray × Int)
    (h : Ev (fun k => if bl name = [] ∨ bl name ∈ out.map bl then belvedereref21_Names.l0 k s out (-1) (wrap64 (i + 1)) else belvedereref21_Names.l0 k s (out ++ [name]) (-1) (wrap64 (i + 1))) r) :
    ∀ (d j : Nat) (is : Bool), j + d = out.length → (is = true ↔ (bl name = [] ∨ bl name ∈ (out.take j).map bl)) → Ev (fun k => belvedereref21_Names.l1 k s out (-1) i name is j) r
  | 0, j, is, hj, hi => by
    rw [List.take_of_length_le (by omega)] at hi
    refine Ev.step (fun k => ?_) h
    simp only [belvedereref21_Names.l1]
    rw [if_neg (by omega)]
    by_cases his : is = true
    · rw [if_pos his, if_pos (hi.1 his)]
    · rw [if_neg his, if_neg (fun g => his (hi.2 g)), if_pos (by omega)]
  | d + 1, j, is, hj, hi => by
    have hjl : j < out.length := by omega
    have ht : (out.take (j + 1)).map bl = (out.take j).map bl ++ [bl out[j]] := by rw [List.take_succ_eq_append_getElem hjl, List.map_append]; rfl
    by_cases his : is = true
    · refine Ev.step (f := fun k => belvedereref21_Names.l1 k s out (-1) i name true ((j + 1 : Nat) : Int)) (fun k => ?_) (names_l1 s out hout name i r h d (j + 1) true (by omega) ?_)
      · simp only [belvedereref21_Names.l1]
        rw [if_pos (by omega), if_pos his, w64 (by omega) (by omega)]
        rfl
      · rw [ht]; have := hi.1 his; simp only [List.mem_append]; exact ⟨fun _ => this.elim Or.inl (fun g => Or.inr (Or.inl g)), fun _ => trivial⟩
    · refine Ev.step (f := fun k => belvedereref21_Names.l1 k s out (-1) i name (out[j].toList == name.toList) ((j + 1 : Nat) : Int)) (fun k => ?_) (names_l1 s out hout name i r h d (j + 1) _ (by omega) ?_)
      · simp only [belvedereref21_Names.l1]
        rw [if_pos (by omega), if_neg his, if_pos (by omega), w64 (by omega) (by omega), rdOf_at hjl]
        rfl
      · rw [ht]
        have hn := mt hi.2 his
        rw [not_or] at hn
        simp only [List.mem_append, List.mem_singleton, beq_iff_eq, toList_iff]
        constructor
        · intro e; exact Or.inr (Or.inr e.symm)
        · rintro (e | e | e)
          · exact absurd e hn.1
          · exact absurd e hn.2
          · exact e.symm

theorem names_l0 (s : ByteArray) (hs : s.size ≤ 65536) : ∀ (d i : Nat) (out : List ByteArray) (from_ : Int) (pre : Mac.B), i + d = s.size → out.length ≤ i →
    (from_ = -1 ∨ ∃ f : Nat, from_ = f ∧ f ≤ i ∧ pre = bl (s.extract f i)) →
    Ev (fun k => belvedereref21_Names.l0 k s out from_ i) ((Mac.refNames ((bl s).drop i) pre (decide (0 ≤ from_)) (out.map bl)).map ba, 0)
  | 0, i, out, from_, pre, hi, ho, hf => by
    have hb := bl_size s
    refine Ev.step (f := fun _ => some _) (fun k => ?_) (Ev.now _)
    simp only [belvedereref21_Names.l0]
    rw [if_neg (by omega), List.drop_eq_nil_of_le (by omega)]
    simp only [Mac.refNames]
    rw [map_ba]
  | d + 1, i, out, from_, pre, hi, ho, hf => by
    have hb := bl_size s
    have hli : i < (bl s).length := by omega
    have w1 : wrap64 ((i : Int) + 1) = ((i + 1 : Nat) : Int) := by rw [w64 (by omega) (by omega)]; rfl
    rw [drop_at hli]
    by_cases hc : (bl s)[i] = 36
    · have h36 := (bt_36 hli).2 hc
      rw [hc]
      rcases hf with rfl | ⟨f, rfl, hfi, rfl⟩
      · refine Ev.step (f := fun k => belvedereref21_Names.l0 k s out ((i + 1 : Nat) : Int) ((i + 1 : Nat) : Int)) (fun k => ?_) ?_
        · simp only [belvedereref21_Names.l0]
          rw [if_pos (by omega), if_pos (by omega), if_pos h36, if_pos (by omega), w1]
        · have := names_l0 s hs d (i + 1) out ((i + 1 : Nat) : Int) [] (by omega) (by omega) (Or.inr ⟨i + 1, rfl, Nat.le_refl _, by rw [bl_extract]; simp⟩)
          rw [show decide ((0 : Int) ≤ ((i + 1 : Nat) : Int)) = true from decide_eq_true (by omega)] at this
          simpa [Mac.refNames] using this
      · refine Ev.step (f := fun k => belvedereref21_Names.l1 k s out (-1) i (s.extract f i) ((s.extract f i).toList == ([] : List UInt8)) 0) (fun k => ?_) ?_
        · simp only [belvedereref21_Names.l0]
          rw [if_pos (by omega), if_pos (by omega), if_pos h36, if_neg (by omega), if_pos (by omega), if_pos (by omega), if_pos (by omega)]
          rfl
        · refine names_l1 s out (by omega) (s.extract f i) i _ ?_ out.length 0 _ (by omega) (by rw [toList_nil]; simp)
          rw [w1, show decide ((0 : Int) ≤ (f : Int)) = true from decide_eq_true (by omega)]
          simp only [Mac.refNames, ne_eq, not_true_eq_false, if_false, if_true]
          by_cases hin : bl (s.extract f i) = [] ∨ bl (s.extract f i) ∈ out.map bl
          · rw [if_neg (by rintro ⟨a, b⟩; exact hin.elim a b)]
            refine Ev.congr (fun k => if_pos hin) ?_
            exact names_l0 s hs d (i + 1) out (-1) _ (by omega) (by omega) (Or.inl rfl)
          · rw [if_pos (not_or.1 hin)]
            refine Ev.congr (fun k => if_neg hin) ?_
            have := names_l0 s hs d (i + 1) (out ++ [s.extract f i]) (-1) (bl (s.extract f i)) (by omega) (by simp; omega) (Or.inl rfl)
            rw [List.map_append] at this
            exact this
    · have hb36 : ¬ bt s (i : Int) = 36 := fun g => hc ((bt_36 hli).1 g)
      refine Ev.step (f := fun k => belvedereref21_Names.l0 k s out from_ ((i + 1 : Nat) : Int)) (fun k => ?_) ?_
      · simp only [belvedereref21_Names.l0]
        rw [if_pos (by omega), if_pos (by omega), if_neg hb36, w1]
      · simp only [Mac.refNames, ne_eq, hc, not_false_eq_true, if_true]
        refine names_l0 s hs d (i + 1) out from_ _ (by omega) (by omega) ?_
        rcases hf with rfl | ⟨f, rfl, hfi, rfl⟩
        · exact Or.inl rfl
        · refine Or.inr ⟨f, rfl, by omega, ?_⟩
          rw [if_pos (decide_eq_true (by omega)), ext_snoc hli hfi]

theorem chk_code (s : Mac.B) : chk s = nameCode s := by
  unfold chk nameCode
  rw [Mac.cut_length]
  split
  · rfl
  · by_cases h : s.count 36 % 2 = 1
    · rw [if_pos h, if_pos (by omega)]
    · rw [if_neg h, if_neg (by omega)]
theorem names_ev (s : ByteArray) : Ev (fun k => belvedereref21_Names.f k s) ((names (bl s)).map ba, nameCode (bl s)) := by
  have hb := bl_size s
  unfold belvedereref21_Names.f
  refine Ev.bind (check_ev s) ?_
  rw [chk_code]
  unfold names
  by_cases h : nameCode (bl s) = 0
  · rw [if_pos h, h]
    refine Ev.congr (fun k => if_pos rfl) ?_
    have hs : s.size ≤ 65536 := by
      unfold nameCode at h
      split at h
      · cases h
      · omega
    have hodd : (Mac.cut (bl s)).length % 2 = 1 := by
      unfold nameCode at h
      rw [if_neg (by omega)] at h
      split at h
      · cases h
      · omega
    have := names_l0 s hs s.size 0 [] (-1) [] (by omega) (by simp) (Or.inl rfl)
    rw [List.drop_zero, show decide ((0 : Int) ≤ -1) = false from rfl, List.map_nil, (Mac.ref_names (bl s) []).1 [] hodd] at this
    exact this
  · rw [if_neg h]
    exact Ev.congr (fun k => if_neg h) (Ev.now _)

/-! ### Quote -/
theorem quote_app (a b : Mac.B) : Mac.quote (a ++ b) = Mac.quote a ++ Mac.quote b := by simp [Mac.quote]
theorem quote_l0 (s : ByteArray) (hs : s.size ≤ 65536) : ∀ (d i : Nat) (out : ByteArray), i + d = s.size → out.size ≤ 65536 →
    Ev (fun k => belvedereref21_Quote.l0 k s out i) (if (bl out ++ Mac.quote ((bl s).drop i)).length > 65536 then ((⟨#[]⟩ : ByteArray), (2 : Int)) else (⟨(bl out ++ Mac.quote ((bl s).drop i)).toArray⟩, 0))
  | 0, i, out, hi, ho => by
    have hb := bl_size s
    have hbo := bl_size out
    refine Ev.step (f := fun _ => some _) (fun k => ?_) (Ev.now _)
    simp only [belvedereref21_Quote.l0]
    rw [if_neg (by omega), List.drop_eq_nil_of_le (by omega)]
    simp only [Mac.quote, List.flatMap_nil, List.append_nil]
    rw [if_neg (by omega)]
    rfl
  | d + 1, i, out, hi, ho => by
    have hb := bl_size s
    have hbo := bl_size out
    have hli : i < (bl s).length := by omega
    have w1 : wrap64 ((i : Int) + 1) = ((i + 1 : Nat) : Int) := by rw [w64 (by omega) (by omega)]; rfl
    have hx := ext_one hli (by omega)
    have hxs : (s.extract (i : Int).toNat (wrap64 ((i : Int) + 1)).toNat).size = 1 := by rw [← bl_size, hx]; rfl
    rw [drop_at hli]
    by_cases hc : (bl s)[i] = 36
    · have h36 := (bt_36 hli).2 hc
      have h2 : bl ((out ++ (s.extract (i : Int).toNat (wrap64 ((i : Int) + 1)).toNat)) ++ (⟨#[36]⟩ : ByteArray)) = bl out ++ [36, 36] := by rw [bl_append, bl_append, hx, nil_36, hc]; simp
      have h2s : ((out ++ (s.extract (i : Int).toNat (wrap64 ((i : Int) + 1)).toNat)) ++ (⟨#[36]⟩ : ByteArray)).size = out.size + 2 := by rw [← bl_size, h2, List.length_append, hbo]; rfl
      have h1s : (out ++ (s.extract (i : Int).toNat (wrap64 ((i : Int) + 1)).toNat)).size = out.size + 1 := by rw [ByteArray.size_append, hxs]
      rw [hc, Mac.quote_mark]
      by_cases hbig : out.size + 2 > 65536
      · rw [if_pos (by simp; omega)]
        refine Ev.step (f := fun _ => some _) (fun k => ?_) (Ev.now _)
        simp only [belvedereref21_Quote.l0]
        rw [if_pos (by omega), if_pos (by omega), if_pos (by rw [w1]; omega), if_pos (by rw [w1]; omega), if_pos (by rw [hxs]; omega), if_pos h36, if_pos (by rw [h1s]; omega), if_pos (by rw [h2s]; omega)]
      · refine Ev.step (f := fun k => belvedereref21_Quote.l0 k s ((out ++ (s.extract (i : Int).toNat (wrap64 ((i : Int) + 1)).toNat)) ++ (⟨#[36]⟩ : ByteArray)) ((i + 1 : Nat) : Int)) (fun k => ?_) ?_
        · simp only [belvedereref21_Quote.l0]
          rw [if_pos (by omega), if_pos (by omega), if_pos (by rw [w1]; omega), if_pos (by rw [w1]; omega), if_pos (by rw [hxs]; omega), if_pos h36, if_pos (by rw [h1s]; omega), if_neg (by rw [h2s]; omega), w1]
        · have := quote_l0 s hs d (i + 1) _ (by omega) (by rw [h2s]; omega)
          rw [h2] at this
          simpa using this
    · have hb36 : ¬ bt s (i : Int) = 36 := fun g => hc ((bt_36 hli).1 g)
      have h2 : bl (out ++ (s.extract (i : Int).toNat (wrap64 ((i : Int) + 1)).toNat)) = bl out ++ [(bl s)[i]] := by rw [bl_append, hx]
      have h1s : (out ++ (s.extract (i : Int).toNat (wrap64 ((i : Int) + 1)).toNat)).size = out.size + 1 := by rw [ByteArray.size_append, hxs]
      rw [Mac.quote_ne _ hc]
      by_cases hbig : out.size + 1 > 65536
      · rw [if_pos (by simp; omega)]
        refine Ev.step (f := fun _ => some _) (fun k => ?_) (Ev.now _)
        simp only [belvedereref21_Quote.l0]
        rw [if_pos (by omega), if_pos (by omega), if_pos (by rw [w1]; omega), if_pos (by rw [w1]; omega), if_pos (by rw [hxs]; omega), if_neg hb36, if_pos (by rw [h1s]; omega)]
      · refine Ev.step (f := fun k => belvedereref21_Quote.l0 k s (out ++ (s.extract (i : Int).toNat (wrap64 ((i : Int) + 1)).toNat)) ((i + 1 : Nat) : Int)) (fun k => ?_) ?_
        · simp only [belvedereref21_Quote.l0]
          rw [if_pos (by omega), if_pos (by omega), if_pos (by rw [w1]; omega), if_pos (by rw [w1]; omega), if_pos (by rw [hxs]; omega), if_neg hb36, if_neg (by rw [h1s]; omega), w1]
        · have := quote_l0 s hs d (i + 1) _ (by omega) (by rw [h1s]; omega)
          rw [h2] at this
          simpa using this
theorem quote_ev (s : ByteArray) : Ev (fun k => belvedereref21_Quote.f k s) (⟨(quoteRes (bl s)).1.toArray⟩, (quoteRes (bl s)).2) := by
  have hb := bl_size s
  unfold belvedereref21_Quote.f quoteRes
  by_cases h : s.size > 65536
  · rw [if_pos (Or.inl (by omega))]
    exact Ev.congr (fun k => if_pos (by omega)) (Ev.now _)
  · refine Ev.congr (fun k => if_neg (by omega)) ?_
    have := quote_l0 s (by omega) s.size 0 ⟨#[]⟩ (by omega) (by decide)
    rw [List.drop_zero, nil_bl, List.nil_append] at this
    by_cases h2 : (Mac.quote (bl s)).length > 65536
    · rw [if_pos h2] at this; rw [if_pos (Or.inr h2)]; exact this
    · rw [if_neg h2] at this; rw [if_neg (by omega)]; exact this

/-! ### texts -/
theorem texts_l0 (l : List ByteArray) (hl : l.length ≤ 100000) : ∀ (d i : Nat), i + d = l.length → Ev (fun k => belvederelaw21_texts.l0 k l l i) true
  | 0, i, hi => by
    refine Ev.step (f := fun _ => some _) (fun k => ?_) (Ev.now _)
    simp only [belvederelaw21_texts.l0]
    rw [if_neg (by omega)]
  | d + 1, i, hi => by
    refine Ev.step (f := fun k => belvederelaw21_texts.l0 k l l ((i + 1 : Nat) : Int)) (fun k => ?_) (texts_l0 l hl d (i + 1) (by omega))
    simp only [belvederelaw21_texts.l0]
    rw [if_pos (by omega), if_pos (by omega), if_pos (by omega), if_pos trivial, w64 (by omega) (by omega)]
    rfl
theorem texts_ev (l : List ByteArray) (hl : l.length ≤ 100000) : Ev (fun k => belvederelaw21_texts.f k l l) true :=
  Ev.congr (fun k => if_pos rfl) (texts_l0 l hl l.length 0 (by omega))
end Go.Proofs.YtdjnpjakbiehdaaDoor.Pr
