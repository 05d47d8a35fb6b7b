/- macro.Names by a walk of Go's text: what it answers is the plain function 'Mac.namesGo' of the pieces, at every text. -/
import Derived.Test.YtdjnpjakbiehdaaDoorGExpand
import Derived.Maps.Own
import Derived.Maps.OwnOps
import Derived.Maps.Views
import Derived.Maps.OwnSet
import Derived.StringKeys
namespace Go.Proofs.YtdjnpjakbiehdaaDoor.Pr
open Go Go.RowKit Go.Shelf Go.Maps
open Go.Proofs.YtdjnpjakbiehdaaDoorW.PrintWords Go.Proofs.YtdjnpjakbiehdaaDoorW.PrintLast
set_option linter.unusedVariables false
set_option linter.unusedSimpArgs false

def ba (l : Mac.B) : ByteArray := ⟨l.toArray⟩
/-- what Names answers: the error's number, and the names -/
def nameCode (s : Mac.B) : Int := if s.length > 65536 then 2 else if (Mac.cut s).length % 2 = 0 then 3 else 0
def names (s : Mac.B) : List Mac.B := if nameCode s = 0 then Mac.namesGo false (Mac.cut s) [] else []
def macro_Names.f (a0 : ByteArray) : Option (List ByteArray × Option Int) :=
  some ((names (bl a0)).map ba, if nameCode (bl a0) = 0 then none else some (nameCode (bl a0)))

section
variable {P : Program} {ops : Array Oper} {rest : List Oper} {o : Oper} {a : Act} {Q : Exit → Act → World → Prop}
/-- a literal's entry, as 'm[k] = v' -/
theorem insert_own {H : Type} (w : World) (hg : o.guard = none) (m x v : Operand) (t : TypeId) (hop : o.op = Op.insert t m x v)
    (k e : TypeId) (K : Keyed P k) (ht : P.underlying t = some (.map k e)) (R : Value → Option (DataW H × List MemPlace)) (b n : Nat) (D : DataW H)
    (hm : a.eval m = .map (some b)) (hown : w.ownsMap P k R b n D) (hn : n < maxLen) (key val : Value) (kl : Lit) (hx : a.eval x = key) (hv : a.eval v = val) (hkey : keyOf P k key = some kl)
    (d : DataW H) (ps : List MemPlace) (hval : R val = some (d, ps))
    (hK : ∀ w', w'.ownsMap P k R b (n + 1) (D.put kl d) → w.grownBy w' (some b) → wpList P ops Q rest (a.put o.dst undef) w') :
    wpList P ops Q (o :: rest) a w := by
  refine wpList_plain hg fun K' hK' => ?_
  obtain ⟨w', hrun, r1, r2⟩ := hown.update K ht hn hkey hval
  unfold Oper.wp
  simp [execOp, hop, hm, hx, hv, hrun, Result.andThen]
  exact hK' _ _ (hK w' r1 r2)
/-- a look-up whose answer is known -/
theorem lookup_known {H : Type} (w : World) (hg : o.guard = none) (m x : Operand) (t : TypeId) (hop : o.op = Op.lookup t m x false)
    (k e : TypeId) (q : IntKind) (K : Keyed P k) (ht : P.underlying t = some (.map k e)) (he : P.underlying e = some (.int q)) (hz : (zeroValue e).run P w = .ok (.int q 0) w) (b n : Nat) (D : DataW H)
    (hm : a.eval m = .map (some b)) (hown : w.ownsMap P k (plainElem P e) b n D) (key : Value) (kl : Lit) (hx : a.eval x = key) (hkey : keyOf P k key = some kl)
    (c : Int) (hc : D.atKey kl (.lit (.int q 0)) = .lit (.int q c)) (hK : wpList P ops Q rest (a.put o.dst (.int q c)) w) : wpList P ops Q (o :: rest) a w := by
  refine wpList_lookup_own_int w hg m x t hop k e q K ht he hz b n D hm hown key kl hx hkey fun c' hc' _ => ?_
  rw [hc] at hc'
  injection hc' with h1
  injection h1 with _ h2
  subst h2
  exact hK
end
theorem law9 : Keyed Tryd.prog 9 := string_keyed Tryd.underlying9
theorem zero3 (w : World) : (zeroValue 3).run Tryd.prog w = .ok (.int .i64 0) w := by kernel_rfl
theorem key9 (s : ByteArray) (h : s.size ≤ maxLen) : keyOf Tryd.prog 9 (.string s) = some (.string (bl s)) := WideMaps.keyOf_string_mk Tryd.underlying9 h

/-- how the map counts -/
def Cnt (D : DataW Unit) (xs : List ByteArray) (k : Nat) : Prop :=
  ∀ q : Mac.B, ∃ c : Nat, D.atKey (.string q) (.lit (.int .i64 0)) = .lit (.int .i64 (c : Int)) ∧ c ≤ k + 1 ∧ (1 ≤ c ↔ (q = [] ∨ q ∈ xs.map bl))
def pcells (ps : List ByteArray) : Obj := .cells (ps.map Value.string).toArray 9
def NRel (ps : List ByteArray) (w : World) (k : Nat) (v6 : Value) (wr : World) : Prop :=
  ∃ (xs : List ByteArray) (D : DataW Unit), Mac.namesGo false (ps.map bl) [] = Mac.namesGo (decide (k % 2 = 1)) ((ps.drop k).map bl) (xs.map bl) ∧
    wr.ownsMap Tryd.prog 9 (plainElem Tryd.prog 3) (w.heap.size + 1) (k + 1) D ∧ Cnt D xs k ∧ Kd.R Kd.string 9 wr w.heap.size (fun b => w.heap.size + 2 ≤ b) v6 xs ∧
    Below w.heap.size w wr ∧ w.heap.size + 2 ≤ wr.heap.size ∧ wr.heap[w.heap.size]? = some (pcells ps) ∧ xs.length ≤ k
theorem isKey (q : Mac.B) : WideAt.IsKeyLit (.string q) := trivial
theorem cnt_put {D : DataW Unit} {xs : List ByteArray} {k c : Nat} (hD : IsMap D) (h : Cnt D xs k) (p : ByteArray) (hc : D.atKey (.string (bl p)) (.lit (.int .i64 0)) = .lit (.int .i64 (c : Int))) (hck : c ≤ k + 1) (h0 : c = 0 → bl p ≠ [] ∧ bl p ∉ xs.map bl) :
    Cnt (D.put (.string (bl p)) (.lit (.int .i64 ((c : Int) + 1)))) (if c = 0 then xs ++ [p] else xs) (k + 1) := by
  intro q
  by_cases hq : q = bl p
  · subst hq
    refine ⟨c + 1, by rw [atKey_put_same hD (isKey _)]; rfl, by omega, ?_⟩
    obtain ⟨c', h1, h2, h3⟩ := h (bl p)
    rw [hc] at h1
    have hcc : c = c' := by injection h1 with h1; injection h1 with _ h1; omega
    by_cases h4 : c = 0
    · rw [if_pos h4]; simp
    · rw [if_neg h4]
      exact ⟨fun _ => h3.1 (by omega), fun _ => by omega⟩
  · obtain ⟨c', h1, h2, h3⟩ := h q
    refine ⟨c', by rw [atKey_put_other (by intro e; injection e with e; exact hq e)]; exact h1, by omega, ?_⟩
    rw [h3]
    split
    · simp [hq]
    · rfl

theorem names_err (s : ByteArray) (c : Int) (w w1 : World) (h : Calls Tryd.prog 19 #[.string s] w fun e w' => e = .returned (.tuple #[.slice none 0 0, .iface 56 (.int .i64 c)]) ∧ w1 = w') (hb : Below w.heap.size w w1) :
    Calls Tryd.prog 14 #[.string s] w fun e w' => e = .returned (.tuple #[.slice none 0 0, .iface 56 (.int .i64 c)]) ∧ Below w.heap.size w w' := by
  have hu := Tryd.underlying26
  have hu2 := Tryd.underlying56
  go_enter Tryd.func14, Tryd.ntmps14
  go_wp2_with (go_at_call 19; refine h.mono ?_; rintro e w' ⟨rfl, rfl⟩)
  go_ret2
  exact ⟨rfl, hb⟩

theorem heap_two (w : World) (x y : Obj) : ((w.alloc x).alloc y).heap[w.heap.size]? = some x := by
  show ((w.heap.push x).push y)[w.heap.size]? = some x
  simp [Array.getElem?_push]
theorem pc_cell {ps : List ByteArray} {wr : World} {b j : Nat} (h : wr.heap[b]? = some (pcells ps)) (hj : j < ps.length) : wr.cell? ⟨b, j, none⟩ = some (.string ps[j]!) := by
  simp only [World.cell?, h, pcells]
  simp [hj]
theorem drop_bl {ps : List ByteArray} {k : Nat} (hk : k < ps.length) : (ps.drop k).map bl = bl ps[k] :: (ps.drop (k + 1)).map bl := by rw [List.drop_eq_getElem_cons hk]; rfl
theorem rel_even {ps : List ByteArray} {w wr : World} {k : Nat} {v6 : Value} (hk : k < ps.length) (he : k % 2 = 0) (h : NRel ps w k v6 wr) : NRel ps w (k + 1) v6 wr := by
  obtain ⟨xs, D, h1, h2, h3, h4, h5, h6, h7, h8⟩ := h
  refine ⟨xs, D, ?_, h2.mono (by omega), ?_, h4, h5, h6, h7, by omega⟩
  · rw [h1, drop_bl hk, decide_eq_false (by omega : ¬ k % 2 = 1), decide_eq_true (by omega : (k + 1) % 2 = 1)]
    conv => lhs; unfold Mac.namesGo
    simp only [Bool.false_eq_true, false_and, if_false, Bool.not_false]
  · intro q
    obtain ⟨c, a, b, d⟩ := h3 q
    exact ⟨c, a, by omega, d⟩
theorem bl_inj {a b : ByteArray} (h : bl a = bl b) : a = b := ba_eq h
theorem map_ba (xs : List ByteArray) : (xs.map bl).map ba = xs := by
  rw [List.map_map]
  conv => rhs; rw [← List.map_id xs]
  exact List.map_congr_left fun x _ => ba_eq rfl

def NEnd (ps : List ByteArray) (w : World) (e : Ending) (w' : World) : Prop :=
  ∃ v0 : Value, e = .returned (.tuple #[v0, .nilIface]) ∧ Kd.R Kd.string 9 w' w.heap.size (fun _ => True) v0 ((Mac.namesGo false (ps.map bl) []).map ba) ∧ Below w.heap.size w w'

set_option maxHeartbeats 1000000 in
set_option maxRecDepth 100000 in
theorem names_loop (s : ByteArray) (ps : List ByteArray) (w : World) (hps : ps.length ≤ 65537) (hsz : ∀ j, j < ps.length → ps[j]!.size ≤ 65536)
    (h : Calls Tryd.prog 19 #[.string s] w fun e w' => e = .returned (.tuple #[.slice (some ⟨w.heap.size, 0, none⟩) ps.length ps.length, .nilIface]) ∧ w.alloc (.cells (ps.map Value.string).toArray 9) = w') :
    Calls Tryd.prog 14 #[.string s] w (NEnd ps w) := by
  have hu := Tryd.underlying26
  have hu2 := Tryd.underlying56
  have hmm := @run_makeMap Tryd.prog
  have hu63 := Tryd.underlying63
  have hown0 : ((w.alloc (.cells (ps.map Value.string).toArray 9)).alloc (.map #[] 0)).ownsMap Tryd.prog 9 (plainElem (H := Unit) Tryd.prog 3) (w.heap.size + 1) 0 (.map []) := by
    have := World.ownsMap_made (w.alloc (.cells (ps.map Value.string).toArray 9)) Tryd.prog 9 (plainElem (H := Unit) Tryd.prog 3)
    simpa using this
  go_enter Tryd.func14, Tryd.ntmps14
  go_wp2_with (first | (go_at_call 19; refine h.mono ?_; rintro e w' ⟨rfl, rfl⟩) |
    (refine insert_own _ rfl _ _ _ 63 rfl 9 3 law9 Tryd.underlying63 _ (w.heap.size + 1) 0 _ rfl hown0 (by unfold maxLen; omega) _ _ _ rfl rfl (key9 ⟨#[]⟩ (by decide)) _ [] (plainElem_int Tryd.underlying3 (by decide)) ?_
     intro w1 hown1 hg1))
  have hb1 : Below w.heap.size w w1 := (((Below.refl _ w).alloc (Nat.le_refl _) _).alloc (by simp) _).grown hg1 (by simp; omega) (fun j hj => by cases hj; simp)
  have hs1 : w.heap.size + 2 ≤ w1.heap.size := by have := hg1.size; simp at this; exact this
  have hp1 : w1.heap[w.heap.size]? = some (pcells ps) := by
    rw [hg1.block w.heap.size (by simp; omega) (by simp)]
    exact heap_two w _ _
  clear hown0 hg1
  go_loopw [6, 22] (fun v6 v22 wr => ∃ k : Nat, k ≤ ps.length ∧ v22 = .int .i64 k ∧ NRel ps w k v6 wr) (fun v6 v22 wr => ps.length - (intOf v22).toNat)
  case atStart =>
    refine ⟨0, Nat.zero_le _, rfl, [], _, rfl, hown1, ?_, Kd.R_nil _ _ _ _ _, hb1, hs1, hp1, Nat.le_refl _⟩
    intro q
    by_cases hq : q = []
    · subst hq; exact ⟨1, rfl, Nat.le_refl _, by simp⟩
    · refine ⟨0, ?_, by omega, by simp [hq]⟩
      rw [show bl ⟨#[]⟩ = ([] : Mac.B) from rfl, atKey_put_other (by intro e; injection e with e; exact hq e)]
      rfl
  case round =>
    clear hb1 hs1 hp1 hown1
    obtain ⟨k, hk, rfl, hR⟩ := hrel
    by_cases hlt : k < ps.length
    · have hcell : wr.cell? ⟨w.heap.size, k, none⟩ = some (.string ps[k]!) := by obtain ⟨_, _, _, _, _, _, _, _, h7, _⟩ := hR; exact pc_cell h7 hlt
      by_cases hev : k % 2 = 0
      · have hm : (((k : Int) % 2) == 0) = true := by simp; omega
        have hR' := Lib.hid (rel_even hlt hev hR)
        clear hR hev
        go_wp2
        go_roundw
        case measure => simp [intOf]; omega
        case rel => exact ⟨k + 1, by omega, by go_num, hR'.out⟩
      · have hm : (((k : Int) % 2) == 0) = false := by simp; omega
        obtain ⟨xs, D, h1, h2, h3, h4, h5, h6, h7, h8⟩ := hR
        have hps' : ps[k]!.size ≤ 65536 := hsz k hlt
        have e0 : ps[k]! = ps[k] := getElem!_pos ps k hlt
        rw [drop_bl hlt, ← e0, decide_eq_true (by omega : k % 2 = 1)] at h1
        generalize hp : ps[k]! = p at hcell hps' h1
        clear hp e0
        obtain ⟨c, hc, hck, hcx⟩ := h3 (bl p)
        have hkey := key9 p (by unfold maxLen; omega)
        have hat2 : (D.put (.string (bl p)) (.lit (.int .i64 ((c : Int) + 1)))).atKey (.string (bl p)) (.lit (.int .i64 0)) = .lit (.int .i64 ((c : Int) + 1)) := atKey_put_same (World.ownsMap.isMap h2) (isKey _) _ _
        have hw : wrap64 ((c : Int) + 1) = (c : Int) + 1 := by unfold wrap64; omega
        have hwf : (Lit.int .i64 ((c : Int) + 1)).wf = true := WalkArith.wf_i64 (by omega)
        have hml : k + 1 < maxLen := by unfold maxLen; omega
        by_cases hc0 : c = 0
        · have hnew : bl p ≠ [] ∧ bl p ∉ xs.map bl := by
            have := mt hcx.2 (by omega)
            exact not_or.1 this
          have hC2 := cnt_put (World.ownsMap.isMap h2) h3 p hc hck (fun _ => hnew)
          rw [if_pos hc0] at hC2
          have h1' : Mac.namesGo false (ps.map bl) [] = Mac.namesGo (decide ((k + 1) % 2 = 1)) ((ps.drop (k + 1)).map bl) ((xs ++ [p]).map bl) := by
            rw [h1, decide_eq_false (by omega : ¬ (k + 1) % 2 = 1), List.map_append]
            conv => lhs; unfold Mac.namesGo
            rw [if_pos ⟨rfl, hnew⟩]
            rfl
          have hq : (((c : Int) + 1) == 1) = true := by simp; omega
          obtain ⟨Ao, co, rfl⟩ := Kd.R_slice h4
          have HC2 := Lib.hid hC2
          have HN := Lib.hid h1'
          have HSZ := Lib.hid hsz
          have HC0 := Lib.hid hc0
          clear h1 h1' h3 hC2 hcx hnew hev hsz hc0
          go_wp2_with (first
            | (at_lookup; refine lookup_known _ rfl _ _ 63 rfl 9 3 .i64 law9 Tryd.underlying63 Tryd.underlying3 (zero3 _) (w.heap.size + 1) (k + 1) _ rfl h2 _ _ rfl hkey _ hc ?_)
            | (at_mapUpdate; refine wpList_mapUpdate_own _ rfl _ _ _ 63 rfl 9 3 law9 Tryd.underlying63 _ (w.heap.size + 1) (k + 1) _ rfl h2 hml _ _ _ rfl rfl hkey _ [] (plainElem_int Tryd.underlying3 hwf) ?_
               intro w2 hown2 hg2
               have h4' := Kd.R_grown h4 hg2 (fun j hj => by simp; omega)
               have h5' := h5.grown hg2 (by omega) (fun j hj => by cases hj; omega)
               have hs2 : w.heap.size + 2 ≤ w2.heap.size := Nat.le_trans h6 hg2.size
               have h7' := (hg2.block w.heap.size (by omega) (by simp)).trans h7
               clear hg2)
            | (at_lookup; refine lookup_known _ rfl _ _ 63 rfl 9 3 .i64 law9 Tryd.underlying63 Tryd.underlying3 (zero3 _) (w.heap.size + 1) (k + 1 + 1) _ rfl hown2 _ _ rfl hkey _ hat2 ?_)
            | ((with_reducible refine gate_builtin (b := .append) (xs := #[.tmp 38, .tmp 40]) rfl ?_); at_builtin
               refine Kd.R_append Kd.string (w0 := w) w.heap.size rfl (.tmp 38) (.tmp 40) 40 9 (.string ⟨#[]⟩) 16 rfl Tryd.underlying40 info9 rfl (by decide) (by omega) (.slice Ao xs.length co) xs p [.string p] (fun b => w.heap.size + 2 ≤ b) (fun _ => False) rfl rfl rfl (fun _ hk => hk.elim) (fun j hj => by omega) h4' h5' (by omega) (by omega) ?_
               intro v3 w3 ho hb hg hat))
          go_roundw
          case measure => simp [intOf]; omega
          case rel =>
            refine ⟨k + 1, by omega, by go_num, xs ++ [p], _, HN.out, hown2.kept hg ?_, HC2.out, ho, hb, Nat.le_trans hs2 hg.size, (hg.block w.heap.size (by omega) ?_).trans h7', by simp; omega⟩
            · intro e
              have := h4'.1 _ e.symm
              omega
            · intro e
              have := h4'.1 _ e.symm
              omega
        · have hold : bl p = [] ∨ bl p ∈ xs.map bl := hcx.1 (by omega)
          have hC2 := cnt_put (World.ownsMap.isMap h2) h3 p hc hck (fun h => absurd h hc0)
          rw [if_neg hc0] at hC2
          have h1' : Mac.namesGo false (ps.map bl) [] = Mac.namesGo (decide ((k + 1) % 2 = 1)) ((ps.drop (k + 1)).map bl) (xs.map bl) := by
            rw [h1, decide_eq_false (by omega : ¬ (k + 1) % 2 = 1)]
            conv => lhs; unfold Mac.namesGo
            rw [if_neg (by rintro ⟨_, h8, h9⟩; exact hold.elim h8 h9)]
            rfl
          have hq : (((c : Int) + 1) == 1) = false := by simp; omega
          have HC2 := Lib.hid hC2
          have HN := Lib.hid h1'
          have HSZ := Lib.hid hsz
          clear h1 h1' h3 hC2 hcx hold hev hsz
          go_wp2_with (first
            | (at_lookup; refine lookup_known _ rfl _ _ 63 rfl 9 3 .i64 law9 Tryd.underlying63 Tryd.underlying3 (zero3 _) (w.heap.size + 1) (k + 1) _ rfl h2 _ _ rfl hkey _ hc ?_)
            | (at_mapUpdate; refine wpList_mapUpdate_own _ rfl _ _ _ 63 rfl 9 3 law9 Tryd.underlying63 _ (w.heap.size + 1) (k + 1) _ rfl h2 hml _ _ _ rfl rfl hkey _ [] (plainElem_int Tryd.underlying3 hwf) ?_
               intro w2 hown2 hg2
               have h4' := Kd.R_grown h4 hg2 (fun j hj => by simp; omega)
               have h5' := h5.grown hg2 (by omega) (fun j hj => by cases hj; omega)
               have hs2 : w.heap.size + 2 ≤ w2.heap.size := Nat.le_trans h6 hg2.size
               have h7' := (hg2.block w.heap.size (by omega) (by simp)).trans h7
               clear hg2)
            | (at_lookup; refine lookup_known _ rfl _ _ 63 rfl 9 3 .i64 law9 Tryd.underlying63 Tryd.underlying3 (zero3 _) (w.heap.size + 1) (k + 1 + 1) _ rfl hown2 _ _ rfl hkey _ hat2 ?_))
          go_roundw
          case measure => simp [intOf]; omega
          case rel => exact ⟨k + 1, by omega, by go_num, xs, _, HN.out, hown2, HC2.out, h4', h5', hs2, h7', by omega⟩
    · have hke : k = ps.length := by omega
      obtain ⟨xs, D, h1, h2, h3, h4, h5, h6, h7, h8⟩ := hR
      have he : Mac.namesGo false (ps.map bl) [] = xs.map bl := by rw [h1, hke]; simp [Mac.namesGo]
      have HE := Lib.hid he
      have H4 := Lib.hid h4
      have H5 := Lib.hid h5
      clear h1 h2 h3 h4 h5 h7 he
      go_wp2
      go_ret2
      exact ⟨_, rfl, by rw [HE.out, map_ba]; exact Kd.R_mono H4.out (fun _ _ => trivial), H5.out⟩

theorem cut_le : ∀ (s : Mac.B), ∀ p ∈ Mac.cut s, p.length ≤ s.length
  | [], p, h => by simp [Mac.cut] at h; subst h; simp
  | c :: r, p, h => by
    by_cases hc : c = 36
    · subst hc
      rw [Mac.cut_mark] at h
      rcases List.mem_cons.1 h with rfl | h
      · simp
      · have := cut_le r p h; simp; omega
    · obtain ⟨x, t, e1, e2⟩ := Mac.cut_cons_ne (r := r) hc
      rw [e2] at h
      rcases List.mem_cons.1 h with rfl | h
      · have := cut_le r x (by rw [e1]; simp); simp; omega
      · have := cut_le r p (by rw [e1]; simp [h]); simp; omega
theorem piece_size (s : ByteArray) (j : Nat) (hj : j < (pieces s).length) : (pieces s)[j]!.size ≤ s.size := by
  have hm : bl (pieces s)[j]! ∈ Mac.cut (bl s) := by
    rw [← pieces_cut s, getElem!_pos (pieces s) j hj]
    exact List.mem_map_of_mem (List.getElem_mem hj)
  exact cut_le _ _ hm

theorem macro_Names.calls (a0 : ByteArray) (r1 : List ByteArray) (r2 : Option Int) (w : World) (hG : Glob w) (h : macro_Names.f a0 = some (r1, r2)) :
    Calls Tryd.prog 14 #[.string a0] w fun e w' => ∃ v0_ : Value, e = .returned (.tuple #[v0_, errW r2]) ∧ Kd.R Kd.string 9 w' w.heap.size (fun _ => True) v0_ r1 ∧ Below w.heap.size w w' := by
  simp only [macro_Names.f, Option.some.injEq, Prod.mk.injEq] at h
  obtain ⟨rfl, rfl⟩ := h
  have hlen := bl_size a0
  have hpl : (Mac.cut (bl a0)).length = pn a0 := by rw [← pieces_length, ← pieces_cut a0, List.length_map]; rfl
  by_cases h1 : 65536 < a0.size
  · have e1 : nameCode (bl a0) = 2 := by unfold nameCode; rw [if_pos (by omega)]
    rw [show names (bl a0) = [] by unfold names; rw [e1]; rfl, e1]
    refine (names_err a0 2 w w (parts_long a0 w h1) (Below.refl _ _)).mono ?_
    rintro e w' ⟨rfl, hb⟩
    exact ⟨_, rfl, Kd.R_nil _ _ _ _ _, hb⟩
  · by_cases h2 : pn a0 % 2 = 0
    · have e1 : nameCode (bl a0) = 3 := by unfold nameCode; rw [if_neg (by omega), if_pos (by omega)]
      rw [show names (bl a0) = [] by unfold names; rw [e1]; rfl, e1]
      refine (names_err a0 3 w _ (parts_form a0 w hG (by omega) h2) ((Below.refl _ w).alloc (Nat.le_refl _) _)).mono ?_
      rintro e w' ⟨rfl, hb⟩
      exact ⟨_, rfl, Kd.R_nil _ _ _ _ _, hb⟩
    · have e1 : nameCode (bl a0) = 0 := by unfold nameCode; rw [if_neg (by omega), if_neg (by omega)]
      have hp := parts_ok a0 w hG (by omega) (by omega)
      unfold pblk at hp
      rw [← pieces_length] at hp
      refine (names_loop a0 (pieces a0) w (by rw [pieces_length]; exact pn_le a0 (by omega)) (fun j hj => Nat.le_trans (piece_size a0 j hj) (by omega)) hp).mono ?_
      rintro e w' ⟨v0, rfl, hR, hb⟩
      refine ⟨v0, ?_, ?_, hb⟩
      · rw [e1]; rfl
      · unfold names
        rw [if_pos e1]
        rw [show (pieces a0).map bl = Mac.cut (bl a0) from pieces_cut a0] at hR
        exact hR
end Go.Proofs.YtdjnpjakbiehdaaDoor.Pr
