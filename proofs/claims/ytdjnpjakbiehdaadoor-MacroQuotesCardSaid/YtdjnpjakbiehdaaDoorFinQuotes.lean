/- MacroQuotes answers true: the printed law's function comes to true, whatever the text and the macros. -/
import Derived.Test.YtdjnpjakbiehdaaDoorPureB
import Derived.Test.YtdjnpjakbiehdaaDoorPr17
namespace Go.Proofs.YtdjnpjakbiehdaaDoor.Pr
open Go Go.RowKit
open Go.Proofs.YtdjnpjakbiehdaaDoorW.PrintWords Go.Proofs.YtdjnpjakbiehdaaDoorW.PrintLast

theorem wantGo_nil (inn : Bool) (want : Mac.B) : Mac.wantGo [] inn want = want := by rw [Mac.wantGo]
theorem wantGo_cons (c : UInt8) (r : Mac.B) (inn : Bool) (want : Mac.B) : Mac.wantGo (c :: r) inn want = if c ≠ 36 then Mac.wantGo r inn (want ++ [c])
    else if inn = false ∧ r.head? = some 36 then Mac.wantGo r.tail inn (want ++ [36])
    else if inn = false then Mac.wantGo r true (want ++ [60])
    else Mac.wantGo r false (want ++ [62]) := by rw [Mac.wantGo]

theorem want_l1 (s u : ByteArray) (hs : s.size ≤ 2000) : ∀ (n i : Nat) (want : ByteArray) (inn : Bool), s.size - i ≤ n → i ≤ s.size → want.size ≤ i →
    bl u = Mac.wantGo ((bl s).drop i) inn (bl want) → Ev (fun k => belvederelaw21_MacroQuotes.l1 k s u none want inn i) true := by
  intro n
  induction n with
  | zero =>
    intro i want inn hn hi hw hu
    have hb := bl_size s
    have he : (bl s).drop i = [] := List.drop_eq_nil_of_le (by omega)
    rw [he, wantGo_nil] at hu
    refine Ev.step (f := fun _ => some true) (fun k => ?_) (Ev.now _)
    simp only [belvederelaw21_MacroQuotes.l1]
    rw [if_neg (by omega), if_pos (show (none : Option Int).isNone = true from rfl), if_pos (toList_iff.2 hu), sure_true]
    rfl
  | succ n ih =>
    intro i want inn hn hi hw hu
    have hb := bl_size s
    by_cases hie : i = s.size
    · have he : (bl s).drop i = [] := List.drop_eq_nil_of_le (by omega)
      rw [he, wantGo_nil] at hu
      refine Ev.step (f := fun _ => some true) (fun k => ?_) (Ev.now _)
      simp only [belvederelaw21_MacroQuotes.l1]
      rw [if_neg (by omega), if_pos (show (none : Option Int).isNone = true from rfl), if_pos (toList_iff.2 hu), sure_true]
      rfl
    have hli : i < (bl s).length := by omega
    have w1 : wrap64 ((i : Int) + 1) = ((i + 1 : Nat) : Int) := by rw [w64 (by omega) (by omega)]; rfl
    have hx := ext_one hli (by omega)
    have hxs : (s.extract (i : Int).toNat (wrap64 ((i : Int) + 1)).toNat).size = 1 := by rw [← bl_size, hx]; rfl
    rw [drop_at hli, wantGo_cons] at hu
    by_cases hc : (bl s)[i] = 36
    · have h36 := (bt_36 hli).2 hc
      rw [if_neg (by simpa using hc)] at hu
      -- one step through j4
      have j4f : ∀ inn', inn' = inn → (¬ (inn = false ∧ ((bl s).drop (i + 1)).head? = some 36)) → Ev (fun k => belvederelaw21_MacroQuotes.j4 k s u none want inn' i false) true := by
        intro inn' hinn hno
        subst hinn
        rw [if_neg hno] at hu
        cases inn'
        · rw [if_pos rfl] at hu
          refine Ev.step (f := fun k => belvederelaw21_MacroQuotes.l1 k s u none (want ++ (⟨#[60]⟩ : ByteArray)) true ((i + 1 : Nat) : Int)) (fun k => ?_) ?_
          · simp only [belvederelaw21_MacroQuotes.j4]
            rw [if_neg (by simp), if_neg (by simp), if_pos (by omega), w1]
          · exact ih (i + 1) _ true (by omega) (by omega) (by rw [ByteArray.size_append]; exact Nat.succ_le_succ hw) (by rw [bl_append]; exact hu)
        · rw [if_neg (by simp)] at hu
          refine Ev.step (f := fun k => belvederelaw21_MacroQuotes.l1 k s u none (want ++ (⟨#[62]⟩ : ByteArray)) false ((i + 1 : Nat) : Int)) (fun k => ?_) ?_
          · simp only [belvederelaw21_MacroQuotes.j4]
            rw [if_neg (by simp), if_pos trivial, if_pos (by omega), w1]
          · exact ih (i + 1) _ false (by omega) (by omega) (by rw [ByteArray.size_append]; exact Nat.succ_le_succ hw) (by rw [bl_append]; exact hu)
      cases inn
      · by_cases hlt : i + 1 < s.size
        · have hl2 : i + 1 < (bl s).length := by omega
          have hbt : (bt s ((i + 1 : Nat) : Int) == 36) = decide ((bl s)[i + 1] = 36) := by rw [Bool.eq_iff_iff]; simp only [beq_iff_eq, decide_eq_true_eq]; exact bt_36 hl2
          have hd : (bl s).drop (i + 1) = (bl s)[i + 1] :: (bl s).drop (i + 2) := drop_at hl2
          refine Ev.step (f := fun k => belvederelaw21_MacroQuotes.j4 k s u none want false i (decide ((bl s)[i + 1] = 36))) (fun k => ?_) ?_
          · simp only [belvederelaw21_MacroQuotes.l1]
            rw [if_pos (by omega), if_pos (by omega), if_pos h36, if_neg (by simp), w1, if_pos (by omega), if_pos (by omega), hbt]
          · by_cases h2 : (bl s)[i + 1] = 36
            · rw [decide_eq_true h2]
              rw [if_pos ⟨rfl, by rw [hd, h2]; rfl⟩, hd, List.tail_cons] at hu
              refine Ev.step (f := fun k => belvederelaw21_MacroQuotes.l1 k s u none (want ++ (⟨#[36]⟩ : ByteArray)) false ((i + 2 : Nat) : Int)) (fun k => ?_) ?_
              · simp only [belvederelaw21_MacroQuotes.j4]
                rw [if_pos trivial, if_pos (by omega), w1, w64 (by omega) (by omega)]
                rfl
              · exact ih (i + 2) _ false (by omega) (by omega) (by rw [ByteArray.size_append, show (⟨#[36]⟩ : ByteArray).size = 1 from rfl]; omega) (by rw [bl_append]; exact hu)
            · rw [decide_eq_false h2]
              exact j4f false rfl (by rintro ⟨_, h⟩; rw [hd] at h; injection h with h; exact h2 h)
        · refine Ev.step (f := fun k => belvederelaw21_MacroQuotes.j4 k s u none want false i false) (fun k => ?_) (j4f false rfl (by rintro ⟨_, h⟩; rw [List.drop_eq_nil_of_le (by omega)] at h; cases h))
          simp only [belvederelaw21_MacroQuotes.l1]
          rw [if_pos (by omega), if_pos (by omega), if_pos h36, if_neg (by simp), w1, if_neg (by omega)]
      · refine Ev.step (f := fun k => belvederelaw21_MacroQuotes.j4 k s u none want true i false) (fun k => ?_) (j4f true rfl (by simp))
        simp only [belvederelaw21_MacroQuotes.l1]
        rw [if_pos (by omega), if_pos (by omega), if_pos h36, if_pos trivial]
    · have hb36 : ¬ bt s (i : Int) = 36 := fun g => hc ((bt_36 hli).1 g)
      rw [if_pos (by simpa using hc)] at hu
      refine Ev.step (f := fun k => belvederelaw21_MacroQuotes.l1 k s u none (want ++ (s.extract (i : Int).toNat (wrap64 ((i : Int) + 1)).toNat)) inn ((i + 1 : Nat) : Int)) (fun k => ?_) ?_
      · simp only [belvederelaw21_MacroQuotes.l1]
        rw [if_pos (by omega), if_pos (by omega), if_neg hb36, if_pos (by rw [w1]; omega), if_pos (by rw [w1]; omega), if_pos (by rw [hxs]; omega), ← w1]
      · exact ih (i + 1) _ inn (by omega) (by omega) (by rw [ByteArray.size_append, hxs]; omega) (by rw [bl_append, hx]; exact hu)

def ownB (n : ByteArray) : S37 := ⟨n, ((⟨#[60]⟩ : ByteArray) ++ n) ++ (⟨#[62]⟩ : ByteArray)⟩
theorem own_l0 (s : ByteArray) (nm : List ByteArray) (hn : nm.length ≤ 5000) (hz : ∀ n ∈ nm, n.size ≤ 5000) (r : Bool)
    (h : Ev (fun k => (macro_Expand.f s (nm.map ownB)).bind fun bt225 => (belvederelaw21_MacroQuotes.l1 k s bt225.1 bt225.2 (⟨#[]⟩ : ByteArray) false 0)) r) :
    ∀ (d i : Nat), i + d = nm.length → Ev (fun k => belvederelaw21_MacroQuotes.l0 k s nm ((nm.take i).map ownB) i) r
  | 0, i, hi => by
    refine Ev.step (fun k => ?_) h
    simp only [belvederelaw21_MacroQuotes.l0]
    rw [if_neg (by omega), List.take_of_length_le (by omega)]
  | d + 1, i, hi => by
    have hil : i < nm.length := by omega
    have hsz := hz nm[i] (List.getElem_mem hil)
    refine Ev.step (f := fun k => belvederelaw21_MacroQuotes.l0 k s nm ((nm.take (i + 1)).map ownB) ((i + 1 : Nat) : Int)) (fun k => ?_) (own_l0 s nm hn hz r h d (i + 1) (by omega))
    simp only [belvederelaw21_MacroQuotes.l0]
    rw [if_pos (by omega), if_pos (by omega), rdOf_at hil, if_pos (by omega), if_pos (by rw [ByteArray.size_append, show (⟨#[60]⟩ : ByteArray).size = 1 from rfl]; omega), if_pos (by simp; omega), w64 (by omega) (by omega), List.take_succ_eq_append_getElem hil, List.map_append]
    rfl
theorem own_mac (nm : List Mac.B) : ((nm.map ba).map ownB).map mac = Mac.own nm := by
  rw [List.map_map, List.map_map]
  unfold Mac.own
  refine List.map_congr_left fun n _ => ?_
  show (bl (ba n), bl (((⟨#[60]⟩ : ByteArray) ++ ba n) ++ (⟨#[62]⟩ : ByteArray))) = _
  rw [bl_append, bl_append]
  rfl
theorem mem_namesGo_le : ∀ (odd : Bool) (ps out : List Mac.B) (n : Nat), (∀ p ∈ ps, p.length ≤ n) → (∀ p ∈ out, p.length ≤ n) → ∀ p ∈ Mac.namesGo odd ps out, p.length ≤ n
  | _, [], out, n, _, h2, p, hp => h2 p hp
  | odd, q :: t, out, n, h1, h2, p, hp => by
    have e : Mac.namesGo odd (q :: t) out = Mac.namesGo (!odd) t (if odd = true ∧ q ≠ [] ∧ q ∉ out then out ++ [q] else out) := by conv => lhs; unfold Mac.namesGo
    rw [e] at hp
    refine mem_namesGo_le (!odd) t _ n (fun x hx => h1 x (List.mem_cons_of_mem _ hx)) (fun x hx => ?_) p hp
    by_cases hc : odd = true ∧ q ≠ [] ∧ q ∉ out
    · rw [if_pos hc] at hx
      rcases List.mem_append.1 hx with hx | hx
      · exact h2 x hx
      · rw [List.mem_singleton.1 hx]; exact h1 q (by simp)
    · rw [if_neg hc] at hx; exact h2 x hx

theorem namesGo_le' : ∀ (odd : Bool) (ps out : List Mac.B), (Mac.namesGo odd ps out).length ≤ out.length + ps.length
  | _, [], out => by simp [Mac.namesGo]
  | odd, p :: t, out => by
    have h := namesGo_le' (!odd) t (if odd = true ∧ p ≠ [] ∧ p ∉ out then out ++ [p] else out)
    conv => lhs; unfold Mac.namesGo
    by_cases hc : odd = true ∧ p ≠ [] ∧ p ∉ out
    · rw [if_pos hc] at h ⊢
      simp only [List.length_append, List.length_cons, List.length_nil] at h ⊢
      omega
    · rw [if_neg hc] at h ⊢
      simp only [List.length_cons]
      omega
theorem namesGo_len (s : Mac.B) : (Mac.namesGo false (Mac.cut s) []).length ≤ s.length + 1 := by
  have h := namesGo_le' false (Mac.cut s) []
  have h2 : s.count 36 ≤ s.length := List.count_le_length
  rw [Mac.cut_length] at h
  simp at h
  omega

theorem sure_ev' (g : Nat → Option Bool) (h : ∀ k, g (k + 1) = belvederelaw21_sure.f.bind fun t => some t) : Ev g true :=
  Ev.step (f := fun _ => some true) (fun k => by rw [h, sure_true]; rfl) (Ev.now _)

theorem quotes_true (s : ByteArray) (l : List S49) : Ev (fun k => belvederelaw21_MacroQuotes.f k s l) true := by
  have hb := bl_size s
  unfold belvederelaw21_MacroQuotes.f
  by_cases h1 : s.size > 2000
  · refine Ev.congr (fun k => if_pos (by omega)) ?_
    refine sure_ev' _ (fun k => ?_)
    simp only [belvederelaw21_MacroQuotes.j0]
    rw [if_pos trivial]
  refine Ev.congr (fun k => if_neg (by omega)) ?_
  obtain ⟨b, hbv, hs⟩ := huge_ev l
  refine Ev.bind hbv ?_
  cases b
  case true =>
    refine sure_ev' _ (fun k => ?_)
    simp only [belvederelaw21_MacroQuotes.j0]
    rw [if_pos trivial]
  obtain ⟨hl, hm⟩ := hs rfl
  have hcl : (bl s).count 36 ≤ (bl s).length := List.count_le_length
  have hq : quoteRes (bl s) = (Mac.quote (bl s), 0) := by unfold quoteRes; rw [if_neg (by rw [Mac.quote_length]; omega)]
  have hx : macro_Expand.f ⟨(Mac.quote (bl s)).toArray⟩ (l.map conv) = some (s, none) := by
    unfold macro_Expand.f
    rw [mac_conv, show bl ⟨(Mac.quote (bl s)).toArray⟩ = Mac.quote (bl s) from rfl, Mac.expd_quote _ _ (by omega)]
    rfl
  have hqf : macro_Quote.f s = some (⟨(Mac.quote (bl s)).toArray⟩, none) := by unfold macro_Quote.f; rw [hq]; rfl
  refine Ev.step (f := fun k => (belvederelaw21_give.f k l).bind fun t208 => ((macro_Expand.f ⟨(Mac.quote (bl s)).toArray⟩ t208).bind fun bt211 => (if bt211.2.isNone = true then (belvederelaw21_MacroQuotes.j1 k s (bt211.1.toList != s.toList)) else (belvederelaw21_MacroQuotes.j1 k s true)))) (fun k => ?_) ?_
  · simp only [belvederelaw21_MacroQuotes.j0]
    rw [if_neg (by simp), hqf]
    rfl
  refine Ev.bind (give_ev l hl) ?_
  rw [hx]
  refine Ev.congr (f := fun k => belvederelaw21_MacroQuotes.j1 k s false) (fun k => ?_) ?_
  · simp only [Option.bind_some]
    rw [if_pos (show (none : Option Int).isNone = true from rfl), show (s.toList != s.toList) = false by simp]
  by_cases hn : nameCode (bl s) = 0
  · have hnf : macro_Names.f s = some ((Mac.namesGo false (Mac.cut (bl s)) []).map ba, none) := by
      unfold macro_Names.f names; rw [if_pos hn, if_pos hn]
    refine Ev.step (f := fun k => belvederelaw21_MacroQuotes.l0 k s ((Mac.namesGo false (Mac.cut (bl s)) []).map ba) ([] : List S37) 0) (fun k => ?_) ?_
    · simp only [belvederelaw21_MacroQuotes.j1]
      rw [if_neg (by simp), hnf]
      rfl
    have hev : (bl s).count 36 % 2 = 0 := by
      unfold nameCode at hn
      rw [Mac.cut_length, if_neg (by omega)] at hn
      split at hn
      · cases hn
      · omega
    have hw := Mac.expd_want (bl s) (by omega) hev
    have hle := namesGo_len (bl s)
    refine own_l0 s _ (by rw [List.length_map]; omega) ?_ true ?_ ((Mac.namesGo false (Mac.cut (bl s)) []).map ba).length 0 (by omega)
    · intro n hnm
      obtain ⟨p, hp, rfl⟩ := List.mem_map.1 hnm
      have := mem_namesGo_le false (Mac.cut (bl s)) [] (bl s).length (cut_le (bl s)) (fun p hp => by cases hp) p hp
      show p.length ≤ 5000
      omega
    · unfold macro_Expand.f
      rw [own_mac, hw]
      simp only [Option.bind_some, if_true]
      exact want_l1 s _ (by omega) s.size 0 ⟨#[]⟩ false (by omega) (by omega) (by decide) rfl
  · have hn3 : nameCode (bl s) = 3 := by
      unfold nameCode at hn ⊢
      rw [if_neg (by omega)] at hn ⊢
      split
      · rfl
      · rename_i h; rw [if_neg h] at hn; exact absurd rfl hn
    have hnf : macro_Names.f s = some ([], some 3) := by
      unfold macro_Names.f names; rw [hn3]; rfl
    refine Ev.step (f := fun _ => some true) (fun k => ?_) (Ev.now _)
    simp only [belvederelaw21_MacroQuotes.j1]
    rw [if_neg (by simp), hnf]
    simp only [Option.bind_some, Option.isNone_some, Bool.false_eq_true, if_false]
    unfold belvederelaw21_num.f
    simp only [Option.bind_some, Option.getD_some, if_true, sure_true]

theorem final_MacroQuotes (s : ByteArray) (A1 : Option Addr) (c1 : Nat) (l : List S49) (w : World) (_h0 : s.size ≤ 140737488351232) (hr1 : Kd.C k49 w A1 l.length l) (hc1 : l.length ≤ c1) (hG : Glob w) :
    Calls Tryd.prog 7 #[.string s, .slice A1 l.length c1] w fun e w' => e = .returned (.bool true) ∧ Below w.heap.size w w' := by
  obtain ⟨k, hk⟩ := (quotes_true s l).rounds
  exact belvederelaw21_MacroQuotes.calls k s A1 c1 l true w hr1 hc1 hG hk
end Go.Proofs.YtdjnpjakbiehdaaDoor.Pr
