/- macro.Expand by a walk of Go's text: what it answers is the plain function 'Mac.expd', at every text and every list of macros; its callees parts and value by walks, the library by the shelf's contracts. -/
import Derived.Test.YtdjnpjakbiehdaaDoorGlob
import Derived.Test.YtdjnpjakbiehdaaDoorPr0
import Derived.Test.YtdjnpjakbiehdaaDoorShelf
import Derived.Test.YtdjnpjakbiehdaaDoorPlain
import Derived.Test.YtdjnpjakbiehdaaDoorCut
import Derived.Shelf.Spec.BytesMap
import Derived.Lib.SplitLaws
import Derived.Lib.Hide
import Derived.Handy
import Derived.Deep.DeepFit
namespace Go.Proofs.YtdjnpjakbiehdaaDoor.Pr
open Go Go.RowKit Go.Shelf
open Go.Proofs.YtdjnpjakbiehdaaDoorW.PrintWords Go.Proofs.YtdjnpjakbiehdaaDoorW.PrintLast
set_option linter.unusedVariables false

def bl (s : ByteArray) : Mac.B := s.data.toList
def mac (x : S37) : Mac.B × Mac.B := (bl x.f0, bl x.f1)
theorem bl_mk (l : List UInt8) : bl ⟨l.toArray⟩ = l := rfl
theorem ba_eq {a b : ByteArray} (h : bl a = bl b) : a = b := by
  cases a; cases b; simp only [bl] at h; congr 1; exact Array.toList_inj.1 h
theorem ba_iff {a b : ByteArray} : a = b ↔ bl a = bl b := ⟨fun h => by rw [h], ba_eq⟩
theorem bl_size (s : ByteArray) : (bl s).length = s.size := rfl

/-! ### the pieces -/
theorem cut_cutAt : ∀ s : Mac.B, Mac.cut s = Mac.cutAt 36 s
  | [] => rfl
  | b :: r => by
    unfold Mac.cut Mac.cutAt
    rw [cut_cutAt r]
    cases Mac.cutAt 36 r <;> rfl
theorem pieces_cut (s : ByteArray) : ((Lib.splitB ⟨#[36]⟩ 0 (Lib.countB s ⟨#[36]⟩) s).map bl) = Mac.cut (bl s) := by
  rw [cut_cutAt]; exact Mac.splitB_cut 36 s
theorem countB_36 (s : ByteArray) : Lib.countB s ⟨#[36]⟩ = (bl s).count 36 := Mac.countB_cut 36 s

/-! ### parts -/
theorem parts_long (s : ByteArray) (w : World) (h : 65536 < s.size) :
    Calls Tryd.prog 19 #[.string s] w fun e w' => e = .returned (.tuple #[.slice none 0 0, .iface 56 (.int .i64 2)]) ∧ w = w' := by
  have h1 : decide (65536 < s.size) = true := decide_eq_true h
  go_enter Tryd.func19, Tryd.ntmps19
  go_wp2
  go_ret2
  exact ⟨rfl, rfl⟩
def pieces (s : ByteArray) : List ByteArray := Lib.splitB ⟨#[36]⟩ 0 (Lib.countB s ⟨#[36]⟩) s
def pn (s : ByteArray) : Nat := Lib.countB s ⟨#[36]⟩ + 1
theorem pn_le (s : ByteArray) (h : s.size ≤ 65536) : pn s ≤ 65537 := by
  have h1 : (bl s).count 36 ≤ (bl s).length := List.count_le_length
  have h2 := bl_size s
  unfold pn
  rw [countB_36]
  omega
def pblk (s : ByteArray) : Obj := .cells ((pieces s).map Value.string).toArray 9
theorem parts_form (s : ByteArray) (w : World) (hG : Glob w) (h : s.size ≤ 65536) (hp : pn s % 2 = 0) :
    Calls Tryd.prog 19 #[.string s] w fun e w' => e = .returned (.tuple #[.slice none 0 0, .iface 56 (.int .i64 3)]) ∧ w.alloc (pblk s) = w' := by
  obtain ⟨m, hm⟩ := hG.maxLen
  have cS : Calls Tryd.prog 27 #[.string s, .string ⟨#[36]⟩] w fun e w' => e = .returned (.slice (some ⟨w.heap.size, 0, none⟩) (pn s) (pn s)) ∧ w' = w.alloc (pblk s) := Tryd.strings_Split s ⟨#[36]⟩ m w (by omega) hm (by decide)
  have h1 : decide (65536 < s.size) = false := decide_eq_false (by omega)
  have hb := pn_le s h
  generalize pn s = n at cS hp hb
  generalize pblk s = o at cS
  have h2 : (((n : Int) % 2) == 0) = true := by simp; omega
  clear hm
  go_enter Tryd.func19, Tryd.ntmps19
  go_wp2_with (go_at_call 27; refine cS.mono ?_; rintro e w' ⟨rfl, rfl⟩)
  go_ret2
  exact ⟨rfl, rfl⟩
theorem parts_ok (s : ByteArray) (w : World) (hG : Glob w) (h : s.size ≤ 65536) (hp : pn s % 2 = 1) :
    Calls Tryd.prog 19 #[.string s] w fun e w' => e = .returned (.tuple #[.slice (some ⟨w.heap.size, 0, none⟩) (pn s) (pn s), .nilIface]) ∧ w.alloc (pblk s) = w' := by
  obtain ⟨m, hm⟩ := hG.maxLen
  have cS : Calls Tryd.prog 27 #[.string s, .string ⟨#[36]⟩] w fun e w' => e = .returned (.slice (some ⟨w.heap.size, 0, none⟩) (pn s) (pn s)) ∧ w' = w.alloc (pblk s) := Tryd.strings_Split s ⟨#[36]⟩ m w (by omega) hm (by decide)
  have h1 : decide (65536 < s.size) = false := decide_eq_false (by omega)
  have hb := pn_le s h
  generalize pn s = n at cS hp hb
  generalize pblk s = o at cS
  have h2 : (((n : Int) % 2) == 0) = false := by simp; omega
  clear hm
  go_enter Tryd.func19, Tryd.ntmps19
  go_wp2_with (go_at_call 27; refine cS.mono ?_; rintro e w' ⟨rfl, rfl⟩)
  go_ret2
  exact ⟨rfl, rfl⟩

/-! ### value -/
instance inhS37 : Inhabited S37 := ⟨z37⟩
def encM (x : S37) : List Value := [.string x.f0, .string x.f1]
theorem pred29 (name : ByteArray) (B : Nat) (w : World) (hB : B < w.heap.size) (hcell : w.cell? ⟨B, 0, none⟩ = some (.string name)) :
    PredBelow Tryd.prog 29 #[.pointer (some ⟨B, 0, none⟩)] (fun x => .agg (encM x).toArray) (fun x => x.f0.toList == name.toList) w := fun W x hb => by
  have hc : W.cell? ⟨B, 0, none⟩ = some (.string name) := (hb.cell (p := ⟨B, 0, none⟩) hB).trans hcell
  have hBW : B < W.heap.size := Nat.lt_of_lt_of_le hB hb.size
  have hne : B ≠ W.heap.size := by omega
  show Calls Tryd.prog 29 #[.agg #[.string x.f0, .string x.f1], .pointer (some ⟨B, 0, none⟩)] W _
  go_enter Tryd.func29, Tryd.ntmps29
  go_wp2
  all_goals (go_ret; exact ⟨by simp_all, hb.alloc hb.size _⟩)

theorem indexFunc_empty (a : Option Addr) (c : Nat) (fv : Value) (w : World) :
    Calls Tryd.prog 28 #[.slice a 0 c, fv] w fun e w' => e = .returned (.int .i64 (-1)) ∧ w' = w := by
  go_enter Tryd.func28, Tryd.ntmps28
  go_wp2
  refine wp_loop_rounds 1 ?_
  rw [rounds_succ]
  go_wp2
  go_ret
  exact ⟨rfl, rfl⟩

/-- what stands for a name: the program's own way -/
def valB (name : ByteArray) (l : List S37) : ByteArray :=
  if name.toList.isEmpty then ⟨#[36]⟩ else
  if Lib.idxBy (fun _ (y : S37) => y.f0.toList == name.toList) l z37 < 0 then ByteArray.empty
  else (rd_T37 l (Lib.idxBy (fun _ (y : S37) => y.f0.toList == name.toList) l z37)).f1

theorem idx_from (p : S37 → Bool) (l : List S37) (i : Nat) : Lib.idxByFrom (fun _ y => p y) z37 l i < 0 ∨ ((i : Int) ≤ Lib.idxByFrom (fun _ y => p y) z37 l i ∧ Lib.idxByFrom (fun _ y => p y) z37 l i < i + l.length) := by
  induction l generalizing i with
  | nil => exact Or.inl (by simp [Lib.idxByFrom])
  | cons m t ih =>
    unfold Lib.idxByFrom
    split
    · exact Or.inr ⟨Int.le_refl _, by simp; omega⟩
    · rcases ih (i + 1) with h | ⟨h1, h2⟩
      · exact Or.inl h
      · exact Or.inr ⟨by omega, by simp at h2 ⊢; omega⟩
theorem idx_range (p : S37 → Bool) : ∀ (l : List S37), Lib.idxBy (fun _ y => p y) l z37 < 0 ∨ (0 ≤ Lib.idxBy (fun _ y => p y) l z37 ∧ Lib.idxBy (fun _ y => p y) l z37 < l.length) := by
  intro l
  have := idx_from p l 0
  unfold Lib.idxBy
  simpa using this
theorem findV_idx (name : ByteArray) : ∀ (l : List S37) (i : Nat), (if Lib.idxByFrom (fun _ (y : S37) => y.f0.toList == name.toList) z37 l i < 0 then [] else bl ((l.getD (Lib.idxByFrom (fun _ (y : S37) => y.f0.toList == name.toList) z37 l i - i).toNat z37).f1)) = Mac.findV (bl name) (l.map mac) := by
  intro l
  induction l with
  | nil => intro i; simp [Lib.idxByFrom, Mac.findV]
  | cons m t ih =>
    intro i
    have e0 : (m.f0.toList == name.toList) = decide (bl m.f0 = bl name) := by
      rw [Lib.toList_data, Lib.toList_data, Bool.eq_iff_iff]; simp [bl]
    have e2 : Lib.idxByFrom (fun _ (y : S37) => y.f0.toList == name.toList) z37 (m :: t) i = if bl m.f0 = bl name then (i : Int) else Lib.idxByFrom (fun _ (y : S37) => y.f0.toList == name.toList) z37 t (i + 1) := by
      conv => lhs; unfold Lib.idxByFrom
      rw [e0]; simp
    have e3 : Mac.findV (bl name) ((m :: t).map mac) = if bl m.f0 = bl name then bl m.f1 else Mac.findV (bl name) (t.map mac) := rfl
    rw [e2, e3]
    by_cases h : bl m.f0 = bl name
    · rw [if_pos h, if_pos h, if_neg (by omega)]
      simp
    · rw [if_neg h, if_neg h]
      rw [← ih (i + 1)]
      have hr := idx_from (fun y => y.f0.toList == name.toList) t (i + 1)
      generalize Lib.idxByFrom (fun _ (y : S37) => y.f0.toList == name.toList) z37 t (i + 1) = r at hr
      rcases hr with hr | ⟨hr, _⟩
      · rw [if_pos hr, if_pos hr]
      · rw [if_neg (by omega), if_neg (by omega)]
        have e1 : (r - i).toNat = (r - ((i + 1 : Nat) : Int)).toNat + 1 := by omega
        rw [e1]
        simp
theorem valB_eq (name : ByteArray) (l : List S37) : bl (valB name l) = Mac.valM (l.map mac) (bl name) := by
  unfold valB Mac.valM
  have e0 : name.toList.isEmpty = decide (bl name = []) := by
    rw [Lib.toList_data, Bool.eq_iff_iff]; simp [bl]
  rw [e0]
  by_cases h : bl name = []
  · rw [if_pos (by simpa using h), if_pos h]; rfl
  · rw [if_neg (by simpa using h), if_neg h, ← findV_idx name l 0]
    unfold Lib.idxBy
    generalize Lib.idxByFrom (fun _ (y : S37) => y.f0.toList == name.toList) z37 l 0 = r
    by_cases hr : r < 0
    · rw [if_pos hr, if_pos hr]; rfl
    · rw [if_neg hr, if_neg hr]; simp [rd_T37]

theorem macro_value (name : ByteArray) (A1 : Option Addr) (c1 : Nat) (l : List S37) (w : World) (hr1 : Kd.C k37 w A1 l.length l) (hc1 : l.length ≤ c1) :
    Calls Tryd.prog 20 #[.string name, .slice A1 l.length c1] w fun e w' => e = .returned (.string (valB name l)) ∧ Below w.heap.size w w' := by
  by_cases h0 : name.toList.isEmpty = true
  · have e1 : valB name l = ⟨#[36]⟩ := by unfold valB; rw [if_pos h0]
    rw [e1]
    clear hr1 hc1 e1
    go_enter Tryd.func20, Tryd.ntmps20
    go_wp2
    go_ret
    exact ⟨rfl, by go_grown⟩
  · have h0' : name.toList.isEmpty = false := by simpa using h0
    clear h0
    have hcell : ∀ o, (w.alloc (.cells #[.string name] 9)).cell? ⟨w.heap.size, 0, none⟩ = o → o = some (.string name) := fun o h => by rw [← h]; simp
    have cI : Calls Tryd.prog 28 #[.slice A1 l.length c1, .func (.func 29) #[] #[.pointer (some ⟨w.heap.size, 0, none⟩)]] (w.alloc (.cells #[.string name] 9)) fun e w' => e = .returned (.int .i64 (Lib.idxBy (fun _ (y : S37) => y.f0.toList == name.toList) l z37)) ∧ Below (w.heap.size + 1) (w.alloc (.cells #[.string name] 9)) w' := by
      cases l with
      | nil =>
        refine (indexFunc_empty _ _ _ _).mono ?_
        rintro e w' ⟨rfl, rfl⟩
        exact ⟨rfl, Below.refl _ _⟩
      | cons m t =>
        obtain ⟨ad, rfl, hall⟩ := hr1.2.2 (by simp)
        obtain ⟨b, off, rfl, hb⟩ : ∃ b off, ad = ⟨b, off, none⟩ ∧ b < w.heap.size := by
          obtain ⟨c, hcl, hK, hcell⟩ := hall 0 m rfl
          have := k37_open hK
          have h0 := hcell 0 (.string m.f0) (by rw [this]; rfl)
          rw [show (0 : Nat) * k37.sz + 0 = 0 by simp, show Addr.add ad 0 = ad from rfl] at h0
          have hs := World.block_lt_of_cell? w _ h0
          obtain ⟨b, off, sp⟩ := ad
          cases sp with
          | none => exact ⟨b, off, rfl, hs⟩
          | some v =>
            exfalso
            simp only [World.cell?] at h0
            split at h0 <;> simp at h0
        have hcon := AnyQ.slices_IndexFunc Tryd.l28 2 Tryd.isAgg37 Tryd.sizeOf37 encM (fun _ => rfl) (fun x => x.f0.toList == name.toList) 29 #[.pointer (some ⟨w.heap.size, 0, none⟩)] (enters_of Tryd.func29 (by kernel_rfl) rfl) b off (m :: t).length c1 (m :: t) (w.alloc (.cells #[.string name] 9))
          (pred29 name w.heap.size _ (by simp) (by simp)) (Nat.le_refl _) hr1.2.1 (by simp; omega) (fun j hj i v hi => by
            refine Lib.cell?_alloc_some _ ?_
            obtain ⟨c, hcl, hK, hcell⟩ := hall j (m :: t)[j]! (by rw [List.getElem?_eq_getElem hj, getElem!_pos (m :: t) j hj])
            have hk : k37.sz = 2 := rfl
            have := k37_open hK
            have h1 := hcell i v (by rw [this]; exact hi)
            rw [hk] at h1
            generalize hx : j * 2 + i = x at h1
            have e1 : off + j * 2 + i = off + x := by omega
            rw [e1]
            unfold Addr.add at h1
            split at h1
            · rename_i h0; rw [h0]; exact h1
            · exact h1)
        change Calls Tryd.prog 28 _ _ _ at hcon
        rw [List.take_of_length_le (Nat.le_refl _)] at hcon
        refine hcon.mono ?_
        rintro e w' ⟨rfl, hb'⟩
        exact ⟨rfl, by simpa using hb'⟩
    have hix := idx_range (fun y => y.f0.toList == name.toList) l
    have e1 : valB name l = if Lib.idxBy (fun _ (y : S37) => y.f0.toList == name.toList) l z37 < 0 then ByteArray.empty
        else (rd_T37 l (Lib.idxBy (fun _ (y : S37) => y.f0.toList == name.toList) l z37)).f1 := by unfold valB; rw [if_neg (by simpa using h0')]
    rw [e1]
    clear e1
    generalize Lib.idxBy (fun _ (y : S37) => y.f0.toList == name.toList) l z37 = r at cI hix ⊢
    rcases hix with hix | ⟨h1, h2⟩
    · rw [if_pos hix]
      have d1 : decide (r < 0) = true := decide_eq_true hix
      clear hr1
      go_enter Tryd.func20, Tryd.ntmps20
      go_wp2_with (go_at_call 28; refine cI.mono ?_; rintro e w' ⟨rfl, hb'⟩)
      go_ret
      exact ⟨rfl, ((Below.refl _ w).alloc (Nat.le_refl _) _).trans (hb'.mono (by omega))⟩
    · rw [if_neg (by omega)]
      have d1 : decide (r < 0) = false := decide_eq_false (by omega)
      obtain ⟨ad, rfl, hx0, hx1⟩ := at_T37 hr1 r h1 h2
      generalize (rd_T37 l r).f1 = res at hx1 ⊢
      have hbl := World.block_lt_of_cell? w _ hx1
      have hy : ∀ W, Below (w.heap.size + 1) (w.alloc (.cells #[.string name] 9)) W → W.cell? ⟨(ad.add (r.toNat * 2)).block, (ad.add (r.toNat * 2)).off + 1, none⟩ = some (.string res) := fun W hW => by
        rw [hW.cell (Nat.lt_succ_of_lt hbl), World.cell?_alloc_lt _ _ _ hbl]; exact hx1
      have d2 : decide (0 ≤ r) = true := decide_eq_true h1
      have d3 : decide (r < (l.length : Int)) = true := decide_eq_true h2
      clear hx0 hx1 hr1
      go_enter Tryd.func20, Tryd.ntmps20
      go_wp2_with (go_at_call 28; refine cI.mono ?_; rintro e w' ⟨rfl, hb'⟩; have hz := hy _ hb')
      go_ret
      exact ⟨rfl, ((Below.refl _ w).alloc (Nat.le_refl _) _).trans (hb'.mono (by omega))⟩

/-! ### the builder -/
theorem builder_below {T e B b : Nat} {bs : List Value} {w w' : World} (h : Lib.IsBuilder T e B b bs w) (hb : Below w.heap.size w w') : Lib.IsBuilder T e B b bs w' := by
  have h1 : ∀ p, Lib.BuilderAt T e B b p bs w → Lib.BuilderAt T e B b p bs w' := by
    rintro p ⟨h0, v, hv, ho, hne⟩
    have hlt : b < w.heap.size := by
      rcases Nat.lt_or_ge b w.heap.size with h' | h'
      · exact h'
      · rw [Array.getElem?_eq_none h'] at hv; cases hv
    exact ⟨h0, v, (hb.block b hlt).trans hv, ownsRow_below ho hb, hne⟩
  rcases h with h | h
  · exact Or.inl (h1 _ h)
  · exact Or.inr (h1 _ h)
theorem writeString (B b : Nat) (bs : List Value) (s : ByteArray) (w : World) (h : Lib.IsBuilder 53 5 B b bs w) (hlen : bs.length + s.size ≤ 140737488355328) (hBw : B ≤ w.heap.size) :
    Calls Tryd.prog 22 #[.pointer (some ⟨b, 0, none⟩), .string s] w fun e w' => e = .returned (.tuple #[.int .i64 s.size, .nilIface]) ∧ Lib.IsBuilder 53 5 B b (bs ++ Lib.strCells s) w' ∧ Below B w w' :=
  (Any.Builder_WriteString { Tryd.lays154 with } Tryd.Builder_Extra_154 B b bs s w h hlen hBw).mono fun _ _ ⟨he, h1, h2⟩ => ⟨he, Or.inr h1, h2⟩

/-! ### Expand -/
def macro_Expand.f (a0 : ByteArray) (l1 : List S37) : Option (ByteArray × Option Int) :=
  some (⟨(Mac.expd (l1.map mac) (bl a0)).1.toArray⟩, if (Mac.expd (l1.map mac) (bl a0)).2 = 0 then none else some (Mac.expd (l1.map mac) (bl a0)).2)

theorem expand_err (s : ByteArray) (A1 : Option Addr) (c1 n : Nat) (l : List S37) (c : Int) (w w1 : World) (h : Calls Tryd.prog 19 #[.string s] w fun e w' => e = .returned (.tuple #[.slice none 0 0, .iface 56 (.int .i64 c)]) ∧ w1 = w') (hb : Below w.heap.size w w1) :
    Calls Tryd.prog 10 #[.string s, .slice A1 n c1] w fun e w' => e = .returned (.tuple #[.string ⟨#[]⟩, .iface 56 (.int .i64 c)]) ∧ Below w.heap.size w w' := by
  have hu := Tryd.underlying26
  have hu2 := Tryd.underlying56
  go_enter Tryd.func10, Tryd.ntmps10
  go_wp2_with (go_at_call 19; refine h.mono ?_; rintro e w' ⟨rfl, rfl⟩)
  go_ret2
  exact ⟨rfl, hb⟩

/-- what the loop's rounds keep -/
def XRel (L : List (Mac.B × Mac.B)) (ps : List ByteArray) (B : Nat) (w : World) (k : Nat) (wr : World) : Prop :=
  ∃ acc : Mac.B, acc.length ≤ 65536 ∧ Mac.expGo L false (ps.map bl) [] = Mac.expGo L (decide (k % 2 = 1)) ((ps.drop k).map bl) acc ∧ Lib.IsBuilder 53 5 B B (Lib.byteCells acc) wr ∧ Below w.heap.size w wr ∧ B ≤ wr.heap.size ∧ (∀ j, j < ps.length → wr.cell? ⟨w.heap.size, j, none⟩ = some (.string ps[j]!))
def xres : Option Mac.B → Value
  | none => .tuple #[.string ⟨#[]⟩, .iface 56 (.int .i64 2)]
  | some o => .tuple #[.string ⟨o.toArray⟩, .nilIface]
def XEnd (L : List (Mac.B × Mac.B)) (ps : List ByteArray) (w : World) (e : Ending) (w' : World) : Prop :=
  e = .returned (xres (Mac.expGo L false (ps.map bl) [])) ∧ Below w.heap.size w w'

set_option maxHeartbeats 1000000 in
set_option maxRecDepth 100000 in
theorem expand_loop (s : ByteArray) (A1 : Option Addr) (c1 : Nat) (l : List S37) (ps : List ByteArray) (w : World) (hr1 : Kd.C k37 w A1 l.length l) (hc1 : l.length ≤ c1) (hps : ps.length ≤ 65537)
    (h : Calls Tryd.prog 19 #[.string s] w fun e w' => e = .returned (.tuple #[.slice (some ⟨w.heap.size, 0, none⟩) ps.length ps.length, .nilIface]) ∧ w.alloc (.cells (ps.map Value.string).toArray 9) = w') :
    Calls Tryd.prog 10 #[.string s, .slice A1 l.length c1] w (XEnd (l.map mac) ps w) := by
  have hu := Tryd.underlying26
  have hu2 := Tryd.underlying56
  have HR := Lib.hid hr1
  clear hr1
  have hz2 := Tryd.zeroValue53
  go_enter Tryd.func10, Tryd.ntmps10
  go_wp2_with (go_at_call 19; refine h.mono ?_; rintro e w' ⟨rfl, rfl⟩)
  go_loopw [21] (fun v21 wr => ∃ k : Nat, k ≤ ps.length ∧ v21 = .int .i64 k ∧ XRel (l.map mac) ps (w.heap.size + 1) w k wr) (fun v21 wr => ps.length - (intOf v21).toNat)
  case atStart =>
    refine ⟨0, Nat.zero_le _, rfl, [], by simp, rfl, ?_, ?_, ?_, ?_⟩
    · have := Lib.fresh_isBuilder 53 5 (w.alloc (.cells (ps.map Value.string).toArray 9))
      simpa [Lib.byteCells] using this
    · go_grown
    · simp
    · intro j hj
      rw [World.cell?_alloc_lt _ _ _ (by simp), World.cell?_alloc_at _ _ _ _ rfl]
      simp [hj]
  case round =>
    obtain ⟨k, hk, rfl, acc, ha, hgo, hB, hW, hsz, hcell⟩ := hrel
    by_cases hlt : k < ps.length
    · have hc := hcell k hlt
      have hd : (ps.drop k).map bl = bl ps[k] :: (ps.drop (k + 1)).map bl := by rw [List.drop_eq_getElem_cons hlt]; rfl
      have e0 : ps[k]! = ps[k] := getElem!_pos ps k hlt
      rw [e0] at hc
      clear e0
      generalize hp : ps[k] = p at hc hd
      clear hp
      by_cases hodd : k % 2 = 1
      · have hm : (((k : Int) % 2) == 1) = true := by simp; omega
        have hstep : Mac.expGo (l.map mac) (decide (k % 2 = 1)) ((ps.drop k).map bl) acc = if acc.length + (Mac.valM (l.map mac) (bl p)).length > 65536 then none else Mac.expGo (l.map mac) false ((ps.drop (k + 1)).map bl) (acc ++ Mac.valM (l.map mac) (bl p)) := by
          rw [hd, decide_eq_true hodd]
          simp only [Mac.expGo, if_true, Bool.not_true]
        have cV := macro_value p A1 c1 l wr (Kd.C_below HR.out hW) hc1
        rw [← valB_eq p l] at hstep
        have HGO := Lib.hid hgo
        have HST := Lib.hid hstep
        clear hgo hstep
        have HM := Lib.hid hodd
        clear hodd
        have HCC := Lib.hid hcell
        clear hcell
        go_wp2_with (go_at_call 20; refine cV.mono ?_; rintro e w2 ⟨rfl, hb2⟩)
        have hgo := HGO.out
        have hstep := HST.out
        have hodd := HM.out
        have hcell := HCC.out
        clear HGO HST HM HCC
        have hB2 := builder_below hB hb2
        have hWW := hW.trans (hb2.mono hW.size)
        have hszW : w.heap.size + 1 ≤ w2.heap.size := Nat.le_trans hsz hb2.size
        have hcW : ∀ j, j < ps.length → w2.cell? ⟨w.heap.size, j, none⟩ = some (.string ps[j]!) := fun j hj => (hb2.cell (p := ⟨w.heap.size, j, none⟩) (by simp; omega)).trans (hcell j hj)
        have HCW := Lib.hid hcW
        clear hcell hcW
        generalize valB p l = v at *
        have hLen : Calls Tryd.prog 21 #[.pointer (some ⟨w.heap.size + 1, 0, none⟩)] w2 fun e w' => e = .returned (.int .i64 acc.length) ∧ w' = w2 := by
          have := Tryd.Builder_Len (w.heap.size + 1) (w.heap.size + 1) (Lib.byteCells acc) w2 hB2
          rw [Lib.byteCells_length] at this
          exact this
        by_cases hv : acc.length + (v).size > 65536
        · have d1 : decide (65536 - (acc.length : Int) < ((v).size : Int)) = true := decide_eq_true (by omega)
          have hnone : Mac.expGo (l.map mac) false (ps.map bl) [] = none := by
            rw [hgo, hstep]; exact if_pos (by rw [bl_size]; exact hv)
          have HN := Lib.hid hnone
          clear hnone hgo hstep
          go_wp2_with (go_at_call 21; refine hLen.mono ?_; rintro e w' ⟨rfl, rfl⟩)
          go_ret2
          refine ⟨?_, hWW⟩
          rw [HN.out]
          rfl
        · have d1 : decide (65536 - (acc.length : Int) < ((v).size : Int)) = false := decide_eq_false (by omega)
          have hWS := writeString (w.heap.size + 1) (w.heap.size + 1) (Lib.byteCells acc) (v) w2 hB2 (by rw [Lib.byteCells_length]; omega) hszW
          have hnext : Mac.expGo (l.map mac) false (ps.map bl) [] = Mac.expGo (l.map mac) (decide ((k + 1) % 2 = 1)) ((ps.drop (k + 1)).map bl) (acc ++ bl (v)) := by
            rw [hgo, hstep, if_neg (by rw [bl_size]; exact hv)]
            congr 1
            simp; omega
          have HN := Lib.hid hnext
          have hks : ps.length - (k + 1) < ps.length - k := by omega
          have hla : (acc ++ bl (v)).length ≤ 65536 := by rw [List.length_append, bl_size]; omega
          clear hnext hgo hstep
          go_wp2_with (first | (go_at_call 21; refine hLen.mono ?_; rintro e w' ⟨rfl, rfl⟩) | (go_at_call 22; refine hWS.mono ?_; rintro e w3 ⟨rfl, hB3, hW3⟩))
          go_roundw
          case measure => simp [intOf]; omega
          case rel =>
            refine ⟨k + 1, by omega, by go_num, acc ++ bl (v), hla, HN.out, ?_, ?_, ?_, ?_⟩
            · rw [Lib.byteCells_append]; exact hB3
            · exact hWW.trans (hW3.mono (by omega))
            · exact Nat.le_trans hszW hW3.size
            · exact fun j hj => (hW3.cell (p := ⟨w.heap.size, j, none⟩) (by simp)).trans (HCW.out j hj)
      · have hm : (((k : Int) % 2) == 1) = false := by simp; omega
        have hstep : Mac.expGo (l.map mac) (decide (k % 2 = 1)) ((ps.drop k).map bl) acc = if acc.length + (bl p).length > 65536 then none else Mac.expGo (l.map mac) true ((ps.drop (k + 1)).map bl) (acc ++ bl p) := by
          rw [hd, decide_eq_false hodd]
          simp only [Mac.expGo, Bool.false_eq_true, if_false, Bool.not_false]
        obtain ⟨w2, rfl⟩ : ∃ w2, w2 = wr := ⟨_, rfl⟩
        have hB2 := hB
        have hWW := hW
        have hszW := hsz
        have hcW := hcell
        have HCW := Lib.hid hcW
        clear hcell hd hcW
        obtain ⟨v, rfl⟩ : ∃ v, v = p := ⟨_, rfl⟩
        have hLen : Calls Tryd.prog 21 #[.pointer (some ⟨w.heap.size + 1, 0, none⟩)] w2 fun e w' => e = .returned (.int .i64 acc.length) ∧ w' = w2 := by
          have := Tryd.Builder_Len (w.heap.size + 1) (w.heap.size + 1) (Lib.byteCells acc) w2 hB2
          rw [Lib.byteCells_length] at this
          exact this
        by_cases hv : acc.length + (v).size > 65536
        · have d1 : decide (65536 - (acc.length : Int) < ((v).size : Int)) = true := decide_eq_true (by omega)
          have hnone : Mac.expGo (l.map mac) false (ps.map bl) [] = none := by
            rw [hgo, hstep]; exact if_pos (by rw [bl_size]; exact hv)
          have HN := Lib.hid hnone
          clear hnone hgo hstep
          go_wp2_with (go_at_call 21; refine hLen.mono ?_; rintro e w' ⟨rfl, rfl⟩)
          go_ret2
          refine ⟨?_, hWW⟩
          rw [HN.out]
          rfl
        · have d1 : decide (65536 - (acc.length : Int) < ((v).size : Int)) = false := decide_eq_false (by omega)
          have hWS := writeString (w.heap.size + 1) (w.heap.size + 1) (Lib.byteCells acc) (v) w2 hB2 (by rw [Lib.byteCells_length]; omega) hszW
          have hnext : Mac.expGo (l.map mac) false (ps.map bl) [] = Mac.expGo (l.map mac) (decide ((k + 1) % 2 = 1)) ((ps.drop (k + 1)).map bl) (acc ++ bl (v)) := by
            rw [hgo, hstep, if_neg (by rw [bl_size]; exact hv)]
            congr 1
            simp; omega
          have HN := Lib.hid hnext
          have hks : ps.length - (k + 1) < ps.length - k := by omega
          have hla : (acc ++ bl (v)).length ≤ 65536 := by rw [List.length_append, bl_size]; omega
          clear hnext hgo hstep
          go_wp2_with (first | (go_at_call 21; refine hLen.mono ?_; rintro e w' ⟨rfl, rfl⟩) | (go_at_call 22; refine hWS.mono ?_; rintro e w3 ⟨rfl, hB3, hW3⟩))
          go_roundw
          case measure => simp [intOf]; omega
          case rel =>
            refine ⟨k + 1, by omega, by go_num, acc ++ bl (v), hla, HN.out, ?_, ?_, ?_, ?_⟩
            · rw [Lib.byteCells_append]; exact hB3
            · exact hWW.trans (hW3.mono (by omega))
            · exact Nat.le_trans hszW hW3.size
            · exact fun j hj => (hW3.cell (p := ⟨w.heap.size, j, none⟩) (by simp)).trans (HCW.out j hj)
    · have hke : k = ps.length := by omega
      have hsome : Mac.expGo (l.map mac) false (ps.map bl) [] = some acc := by
        rw [hgo, hke]; simp [Mac.expGo]
      clear hgo
      have HS := Lib.hid hsome
      clear hsome hke
      have cS := Tryd.Builder_String_any (w.heap.size + 1) (w.heap.size + 1) acc wr hB hsz
      go_wp2_with (go_at_call 23; refine cS.mono ?_; rintro e w2 ⟨rfl, hb2⟩)
      go_ret2
      refine ⟨?_, hW.trans (hb2.mono (by omega))⟩
      rw [HS.out]
      rfl

theorem pieces_length (s : ByteArray) : (pieces s).length = pn s := by
  have := congrArg List.length (pieces_cut s)
  rw [List.length_map, Mac.cut_length, ← countB_36] at this
  exact this

theorem macro_Expand.calls (a0 : ByteArray) (A1 : Option Addr) (c1 : Nat) (l1 : List S37) (r1 : ByteArray) (r2 : Option Int) (w : World) (hr1 : Kd.C k37 w A1 l1.length l1) (hc1 : l1.length ≤ c1) (hG : Glob w) (h : macro_Expand.f a0 l1 = some (r1, r2)) :
    Calls Tryd.prog 10 #[.string a0, .slice A1 l1.length c1] w fun e w' => e = .returned (.tuple #[.string r1, errW r2]) ∧ Below w.heap.size w w' := by
  simp only [macro_Expand.f, Option.some.injEq, Prod.mk.injEq] at h
  obtain ⟨rfl, rfl⟩ := h
  have hlen := bl_size a0
  by_cases h1 : 65536 < a0.size
  · have e1 : Mac.expd (l1.map mac) (bl a0) = ([], 2) := by unfold Mac.expd; rw [if_pos (by omega)]
    rw [e1]
    exact expand_err a0 A1 c1 l1.length l1 2 w w (parts_long a0 w h1) (Below.refl _ _)
  · have hn : pn a0 = (bl a0).count 36 + 1 := by unfold pn; rw [countB_36]
    by_cases h2 : pn a0 % 2 = 0
    · have e1 : Mac.expd (l1.map mac) (bl a0) = ([], 3) := by unfold Mac.expd; rw [if_neg (by omega), if_pos (by omega)]
      rw [e1]
      exact expand_err a0 A1 c1 l1.length l1 3 w _ (parts_form a0 w hG (by omega) h2) ((Below.refl _ w).alloc (Nat.le_refl _) _)
    · have e1 : Mac.expd (l1.map mac) (bl a0) = Mac.res (Mac.expGo (l1.map mac) false (Mac.cut (bl a0)) []) := by
        unfold Mac.expd; rw [if_neg (by omega), if_neg (by omega)]
        cases Mac.expGo (l1.map mac) false (Mac.cut (bl a0)) [] <;> rfl
      have hp := parts_ok a0 w hG (by omega) (by omega)
      unfold pblk at hp
      rw [← pieces_length] at hp
      refine (expand_loop a0 A1 c1 l1 (pieces a0) w hr1 hc1 (by rw [pieces_length]; exact pn_le a0 (by omega)) hp).mono ?_
      rintro e w' ⟨rfl, hb⟩
      refine ⟨?_, hb⟩
      rw [e1, show (pieces a0).map bl = Mac.cut (bl a0) from pieces_cut a0]
      cases Mac.expGo (l1.map mac) false (Mac.cut (bl a0)) [] <;> rfl
end Go.Proofs.YtdjnpjakbiehdaaDoor.Pr
