/- What the printed functions of layer 8 come to: the plain functions of 'Lx'. -/
import Derived.Test.YthccokfajpgllaaDoorPr9
import Derived.Test.YthccokfajpgllaaDoorPr10
import Derived.Test.YthccokfajpgllaaDoorLex
namespace Go.Proofs.YthccokfajpgllaaDoor.Pr
open Go Go.RowKit
open Go.Proofs.YthccokfajpgllaaDoorW.PrintWords Go.Proofs.YthccokfajpgllaaDoorW.PrintLast
set_option linter.unusedVariables false
set_option linter.unusedSimpArgs false

theorem w64 {x : Int} (h1 : -9223372036854775808 ≤ x) (h2 : x ≤ 9223372036854775807) : wrap64 x = x := by unfold wrap64; omega
theorem bl_append (a b : ByteArray) : bl (a ++ b) = bl a ++ bl b := by simp [bl]
theorem bl_inj {a b : ByteArray} (h : bl a = bl b) : a = b := by rw [← ba_bl a, ← ba_bl b, h]
theorem ba_app (a b : Lx.B) : ba a ++ ba b = ba (a ++ b) := bl_inj (by rw [bl_append, bl_ba, bl_ba, bl_ba])
theorem ba_size (a : Lx.B) : (ba a).size = a.length := by rw [← bl_size, bl_ba]
theorem toList_bl (a : ByteArray) : a.toList = bl a := Lib.toList_data a
theorem toList_ba (a : Lx.B) : (ba a).toList = a := by rw [toList_bl, bl_ba]

theorem trim_f (a : ByteArray) (h : a.size ≤ 9223372036854775807) : lex_Trim.f a = some (ba (Lx.trim (bl a))) := by
  unfold lex_Trim.f strings_Trim.f
  rw [if_pos ⟨h, rfl⟩]; rfl
theorem idx_take (c : UInt8) : ∀ s : Lx.B, (Lib.index s [c] = -1 ∧ s.takeWhile (· != c) = s) ∨ (0 ≤ Lib.index s [c] ∧ s.take (Lib.index s [c]).toNat = s.takeWhile (· != c))
  | [] => Or.inl ⟨by simp [Lib.index], rfl⟩
  | b :: r => by
    by_cases h : b = c
    · subst h
      refine Or.inr ⟨by rw [Mac.index_hit]; decide, ?_⟩
      rw [Mac.index_hit, List.takeWhile_cons, if_neg (by simp)]; rfl
    · have hb : (b != c) = true := by simpa using h
      rcases idx_take c r with ⟨h1, h2⟩ | ⟨h1, h2⟩
      · have e : Lib.index (b :: r) [c] = -1 := by rw [Mac.index_ne h, h1]; rfl
        exact Or.inl ⟨e, by rw [List.takeWhile_cons, if_pos hb, h2]⟩
      · have e : Lib.index (b :: r) [c] = Lib.index r [c] + 1 := by rw [Mac.index_ne h, if_neg (by simp; omega)]
        rw [e]
        refine Or.inr ⟨by omega, ?_⟩
        rw [List.takeWhile_cons, if_pos hb]
        rw [show (Lib.index r [c] + 1).toNat = (Lib.index r [c]).toNat + 1 by omega, List.take_succ_cons, h2]
theorem cut_fst (s : Lx.B) : (Lib.cut s [59]).1 = s.takeWhile (· != 59) := by
  unfold Lib.cut
  rcases idx_take 59 s with ⟨h1, h2⟩ | ⟨h1, h2⟩
  · rw [if_neg (by omega)]; exact h2.symm
  · rw [if_pos h1]; exact h2
theorem prefix35 (s : Lx.B) : ([35] : Lx.B).isPrefixOf s = decide (s.head? = some 35) := by
  cases s with
  | nil => rfl
  | cons c t =>
    simp only [List.isPrefixOf, List.head?_cons, Bool.and_true]
    rw [Bool.eq_iff_iff]
    constructor
    · intro h; rw [beq_iff_eq] at h; subst h; simp
    · intro h; have := of_decide_eq_true h; injection this with h; rw [h]; simp
theorem said_f (a : ByteArray) (h : a.size < 4294967281) : lex_said.f a = some (ba (Lx.said (bl a))) := by
  unfold lex_said.f
  rw [trim_f a (by omega)]
  have hp : strings_HasPrefix.f (ba (Lx.trim (bl a))) (⟨#[35]⟩ : ByteArray) = some (decide ((Lx.trim (bl a)).head? = some 35)) := congrArg some (prefix35 _)
  simp only [Option.bind_some, hp]
  by_cases hh : (Lx.trim (bl a)).head? = some 35
  · rw [if_pos (decide_eq_true hh)]
    unfold Lx.said
    rw [if_pos hh]; rfl
  · rw [if_neg (fun g => hh (of_decide_eq_true g))]
    unfold strings_Cut.f
    rw [if_pos h]
    simp only [Option.bind_some]
    rw [show bl (⟨#[59]⟩ : ByteArray) = [59] from rfl, cut_fst]
    have hl := (List.takeWhile_sublist (fun x : UInt8 => x != 59) (l := bl a)).length_le
    rw [trim_f _ (by rw [ba_size]; have := bl_size a; omega)]
    simp only [Option.bind_some, bl_ba]
    unfold Lx.said
    rw [if_neg hh]
theorem suffix92 (s : Lx.B) : Lib.hasSuffix s [92] = Lx.ends s := by
  unfold Lib.hasSuffix Lx.ends
  rw [Bool.eq_iff_iff]
  simp only [List.isSuffixOf_iff_suffix, decide_eq_true_eq]
  constructor
  · rintro ⟨t, rfl⟩; simp
  · intro h
    obtain ⟨t, rfl⟩ := List.getLast?_eq_some_iff.1 h
    exact ⟨t, rfl⟩
theorem chop92 (s : Lx.B) : Lib.trimSuffix s [92] = Lx.chop s := by
  unfold Lib.trimSuffix Lx.chop
  rw [suffix92]
  by_cases h : Lx.ends s = true
  · rw [if_pos h, if_pos h, List.dropLast_eq_take]; rfl
  · rw [if_neg h, if_neg h]
theorem suffix_f (a : ByteArray) (h : a.size ≤ 9223372036854775807) : strings_CutSuffix.f a (⟨#[92]⟩ : ByteArray) = some (ba (Lx.chop (bl a)), Lx.ends (bl a)) := by
  unfold strings_CutSuffix.f
  rw [if_pos h, show bl (⟨#[92]⟩ : ByteArray) = [92] from rfl, chop92, suffix92]

/-! ### Lines -/
def mk (x : Nat × Lx.B) : S30 := ⟨(x.1 : Int), ba x.2⟩
theorem logical_step (at_ i : Nat) (acc p : Lx.B) (rest : List Lx.B) :
    Lx.logical at_ i acc (p :: rest) = if Lx.ends p = true ∧ rest ≠ [] then Lx.logical at_ (i + 1) (acc ++ Lx.chop p) rest else (at_, acc ++ Lx.chop p) :: Lx.logical (i + 1) (i + 1) [] rest := by
  cases rest with
  | nil => rw [if_neg (by simp)]; rfl
  | cons q r =>
    show (if Lx.ends p = true then _ else _) = _
    by_cases h : Lx.ends p = true
    · rw [if_pos h, if_pos ⟨h, by simp⟩]
    · rw [if_neg h, if_neg (fun g => h g.1)]
      have : Lx.chop p = p := by unfold Lx.chop; rw [if_neg h]
      rw [this]
theorem rdOf_at {l : List ByteArray} {j : Nat} (h : j < l.length) : rdOf ByteArray.empty l (j : Int) = l[j] := by
  unfold rdOf; simp [h]
theorem chop_le (p : Lx.B) : (Lx.chop p).length ≤ p.length := by unfold Lx.chop; split <;> simp

section
variable (ps : List ByteArray) (M : Nat) (hM : M ≤ 10000) (hps : ∀ p ∈ ps, p.size ≤ M) (hn : ps.length ≤ 10001)
include hM hps hn
theorem l0_of_l1 (j : Nat) (o : List S30) (hj : j ≤ ps.length) (r : List S30 × Int × Option Int)
    (h0 : j = ps.length → r = (o, 0, none))
    (h1 : ∀ h : j < ps.length, Ev (fun k => lex_Lines.l1 k o ps j ((j + 1 : Nat) : Int) (ba (Lx.chop (bl ps[j]))) (Lx.ends (bl ps[j]))) r) : Ev (fun k => lex_Lines.l0 k o ps j) r := by
  by_cases h : j < ps.length
  · refine Ev.step (fun k => ?_) (h1 h)
    simp only [lex_Lines.l0]
    have := hps ps[j] (List.getElem_mem h)
    rw [if_pos (by omega), if_pos (by omega), rdOf_at h, suffix_f _ (by omega), w64 (by omega) (by omega)]
    rfl
  · refine Ev.step (f := fun _ => some _) (fun k => ?_) (Ev.now r)
    simp only [lex_Lines.l0]
    rw [if_neg (by omega), h0 (by omega)]
theorem l1_ev : ∀ (d j : Nat) (o : List S30) (at_ : Nat) (acc : Lx.B) (h : j < ps.length), j + d + 1 = ps.length → acc.length ≤ j * M →
    (∀ x ∈ Lx.logical at_ (j + 1) acc ((ps.map bl).drop j), (Lx.said x.2).length ≤ 4096) → o.length ≤ j →
    Ev (fun k => lex_Lines.l1 k o ps j at_ (ba (acc ++ Lx.chop (bl ps[j]))) (Lx.ends (bl ps[j]))) (o ++ (Lx.out (Lx.logical at_ (j + 1) acc ((ps.map bl).drop j))).map mk, 0, none) := by
  intro d
  induction d with
  | zero =>
    intro j o at_ acc h hd hacc hsh ho
    have hp := hps ps[j] (List.getElem_mem h)
    have hlen := chop_le (bl ps[j])
    have hsz := bl_size ps[j]
    have hjM : j * M ≤ 10001 * 10000 := Nat.mul_le_mul (by omega) hM
    have hdr : (ps.map bl).drop j = [bl ps[j]] := by
      rw [List.drop_eq_getElem_cons (by simpa using h), List.drop_eq_nil_of_le (by simp; omega)]; simp
    rw [hdr] at hsh ⊢
    have hs := hsh (at_, acc ++ Lx.chop (bl ps[j])) (by show _ ∈ [_]; simp)
    rw [show Lx.logical at_ (j + 1) acc [bl ps[j]] = [(at_, acc ++ Lx.chop (bl ps[j]))] from rfl, Lx.out_cons]
    have hdone : ∀ o' : List S30, Ev (fun k => lex_Lines.l0 k o' ps ((j + 1 : Nat) : Int)) (o', 0, none) := fun o' =>
      l0_of_l1 ps M hM hps hn (j + 1) o' (by omega) _ (fun _ => rfl) (fun h => by omega)
    refine Ev.step (f := fun k => lex_Lines.j2 k o ps j at_ (ba (acc ++ Lx.chop (bl ps[j])))) (fun k => ?_) ?_
    · simp only [lex_Lines.l1]
      rw [w64 (by omega) (by omega)]
      by_cases he : Lx.ends (bl ps[j]) = true
      · rw [if_pos he, if_neg (by omega)]
      · rw [if_neg he]
    by_cases hz : Lx.said (acc ++ Lx.chop (bl ps[j])) = []
    · rw [if_pos hz]
      refine Ev.step (fun k => ?_) (by have := hdone o; simpa [Lx.out] using this)
      simp only [lex_Lines.j2]
      rw [said_f _ (by rw [ba_size, List.length_append]; omega)]
      simp only [Option.bind_some, bl_ba, toList_ba]
      rw [if_pos hz, w64 (by omega) (by omega)]
    · rw [if_neg hz]
      refine Ev.step (f := fun k => lex_Lines.l0 k (o ++ [mk (at_, Lx.said (acc ++ Lx.chop (bl ps[j])))]) ps ((j + 1 : Nat) : Int)) (fun k => ?_) (by have := hdone (o ++ [mk (at_, Lx.said (acc ++ Lx.chop (bl ps[j])))]); simpa [Lx.out] using this)
      simp only [lex_Lines.j2]
      rw [said_f _ (by rw [ba_size, List.length_append]; omega)]
      simp only [Option.bind_some, bl_ba, toList_ba]
      rw [if_neg hz, if_neg (by rw [ba_size]; simp only at hs; omega), if_pos (by omega), w64 (by omega) (by omega)]; rfl
  | succ d ih =>
    intro j o at_ acc h hd hacc hsh ho
    have hp := hps ps[j] (List.getElem_mem h)
    have hlen := chop_le (bl ps[j])
    have hsz := bl_size ps[j]
    have hj1 : j + 1 < ps.length := by omega
    have hp' := hps ps[j + 1] (List.getElem_mem hj1)
    have hlen' := chop_le (bl ps[j + 1])
    have hsz' := bl_size ps[j + 1]
    have hjM : j * M ≤ 10001 * 10000 := Nat.mul_le_mul (by omega) hM
    have hdr : (ps.map bl).drop j = bl ps[j] :: (ps.map bl).drop (j + 1) := by
      rw [List.drop_eq_getElem_cons (by simpa using h)]; simp
    have hne : (ps.map bl).drop (j + 1) ≠ [] := by
      intro e; have := congrArg List.length e; simp at this; omega
    rw [hdr] at hsh ⊢
    rw [logical_step] at hsh ⊢
    by_cases he : Lx.ends (bl ps[j]) = true
    · rw [if_pos ⟨he, hne⟩] at hsh ⊢
      refine Ev.step (fun k => ?_) (ih (j + 1) o at_ (acc ++ Lx.chop (bl ps[j])) hj1 (by omega) (by rw [List.length_append, Nat.succ_mul]; omega) hsh (by omega))
      simp only [lex_Lines.l1]
      rw [if_pos he, w64 (by omega) (by omega), if_pos (by omega), if_pos (by omega)]
      rw [show ((j : Int) + 1) = ((j + 1 : Nat) : Int) by omega, rdOf_at hj1, suffix_f _ (by omega)]
      simp only [Option.bind_some]
      rw [if_pos (by rw [ba_size, ba_size, List.length_append]; omega), ba_app]
    · rw [if_neg (fun g => he g.1)] at hsh ⊢
      have hs := hsh (at_, acc ++ Lx.chop (bl ps[j])) (by simp)
      rw [Lx.out_cons]
      have hnext : ∀ o' : List S30, o'.length ≤ j + 1 → Ev (fun k => lex_Lines.l0 k o' ps ((j + 1 : Nat) : Int)) (o' ++ (Lx.out (Lx.logical (j + 1 + 1) (j + 1 + 1) [] ((ps.map bl).drop (j + 1)))).map mk, 0, none) := fun o' ho' =>
        l0_of_l1 ps M hM hps hn (j + 1) o' (by omega) _ (fun h => by omega) (fun h =>
          ih (j + 1) o' (j + 1 + 1) [] hj1 (by omega) (by simp) (fun x hx => hsh x (by simp [hx])) ho')
      refine Ev.step (f := fun k => lex_Lines.j2 k o ps j at_ (ba (acc ++ Lx.chop (bl ps[j])))) (fun k => ?_) ?_
      · simp only [lex_Lines.l1]
        rw [if_neg he]
      by_cases hz : Lx.said (acc ++ Lx.chop (bl ps[j])) = []
      · rw [if_pos hz]
        refine Ev.step (fun k => ?_) (hnext o (by omega))
        simp only [lex_Lines.j2]
        rw [said_f _ (by rw [ba_size, List.length_append]; omega)]
        simp only [Option.bind_some, bl_ba, toList_ba]
        rw [if_pos hz, w64 (by omega) (by omega)]; rfl
      · rw [if_neg hz]
        refine Ev.step (f := fun k => lex_Lines.l0 k (o ++ [mk (at_, Lx.said (acc ++ Lx.chop (bl ps[j])))]) ps ((j + 1 : Nat) : Int)) (fun k => ?_) (by have := hnext (o ++ [mk (at_, Lx.said (acc ++ Lx.chop (bl ps[j])))]) (by simp; omega); simpa using this)
        simp only [lex_Lines.j2]
        rw [said_f _ (by rw [ba_size, List.length_append]; omega)]
        simp only [Option.bind_some, bl_ba, toList_ba]
        rw [if_neg hz, if_neg (by rw [ba_size]; simp only at hs; omega), if_pos (by omega), w64 (by omega) (by omega)]; rfl
end
theorem piece_mem {c : UInt8} : ∀ {s : Lx.B}, ∀ p ∈ Mac.cutAt c s, p.length ≤ s.length := by
  intro s p hp
  have h1 := Lx.cutAt_sum c s
  have : p.length ≤ ((Mac.cutAt c s).map List.length).sum := by
    generalize Mac.cutAt c s = l at hp
    induction l with
    | nil => cases hp
    | cons x l ih =>
      simp only [List.map_cons, List.sum_cons]
      rcases List.mem_cons.1 hp with rfl | hp
      · omega
      · have := ih hp; omega
  omega
theorem lines_ev (a : ByteArray) (h : a.size ≤ 10000) (hsh : ∀ x ∈ Lx.lines (bl a), (Lx.said x.2).length ≤ 4096) :
    Ev (fun k => lex_Lines.f k a) ((Lx.out (Lx.lines (bl a))).map mk, 0, none) := by
  have hb := bl_size a
  have hpc : (pieces a (⟨#[10]⟩ : ByteArray)).map bl = Mac.cutAt 10 (bl a) := Mac.splitB_cut 10 a
  have hln : (pieces a (⟨#[10]⟩ : ByteArray)).length = (bl a).count 10 + 1 := by rw [← List.length_map (f := bl), hpc, Mac.cutAt_length]
  have hcl : (bl a).count 10 ≤ (bl a).length := List.count_le_length
  have hps : ∀ p ∈ pieces a (⟨#[10]⟩ : ByteArray), p.size ≤ 10000 := fun p hp => by
    have : bl p ∈ Mac.cutAt 10 (bl a) := by rw [← hpc]; exact List.mem_map_of_mem hp
    have := piece_mem _ this
    rw [bl_size] at this; omega
  refine Ev.congr (f := fun k => lex_Lines.l0 k [] (pieces a (⟨#[10]⟩ : ByteArray)) ((0 : Nat) : Int)) (fun k => ?_) ?_
  · unfold lex_Lines.f
    rw [if_neg (by omega)]
    unfold strings_Split.f
    rw [if_pos ⟨by omega, by decide⟩]
    rfl
  · generalize hps' : pieces a (⟨#[10]⟩ : ByteArray) = ps at hpc hln hps
    refine l0_of_l1 ps 10000 (Nat.le_refl _) hps (by omega) 0 [] (by omega) _ (fun h => by omega) (fun h => ?_)
    have := l1_ev ps 10000 (Nat.le_refl _) hps (by omega) (ps.length - 1) 0 [] 1 [] h (by omega) (by simp) (by rw [List.drop_zero, hpc]; exact hsh) (by simp)
    rw [List.drop_zero, hpc] at this
    simpa [Lx.lines] using this
theorem sure_ev : Ev (fun k => belvederelaw08_sure.f k) true := by
  have h := lines_ev (⟨#[97, 32, 59, 120, 10, 35, 32, 98, 10, 99, 92, 10, 100]⟩ : ByteArray) (by decide) (by decide)
  have e : (Lx.out (Lx.lines (bl (⟨#[97, 32, 59, 120, 10, 35, 32, 98, 10, 99, 92, 10, 100]⟩ : ByteArray)))).map mk = [⟨1, ba [97]⟩, ⟨3, ba [99, 100]⟩] := by
    rw [show Lx.out (Lx.lines (bl (⟨#[97, 32, 59, 120, 10, 35, 32, 98, 10, 99, 92, 10, 100]⟩ : ByteArray))) = [(1, [97]), (3, [99, 100])] by decide]
    rfl
  rw [e] at h
  unfold belvederelaw08_sure.f
  refine Ev.bind h ?_
  refine Ev.congr (f := fun _ => some true) (fun k => ?_) (Ev.now _)
  simp [rd_T30, toList_ba]
end Go.Proofs.YthccokfajpgllaaDoor.Pr
