/- strings.IndexAny at the cutset of layer 8's blanks, at every text: the place of the first blank. -/
import Derived.Test.YthccokfajpgllaaDoorGStr
import Derived.Lib.OthersKept
import Derived.Laws.RangeAny
import Derived.Lib.DecodeN
import Derived.Lib.IndexAny
import Derived.Lib.Hide
import Derived.Deep.LoopGhost
import Derived.Deep.QuietTactic
import Derived.BigQuiet
namespace Go.Proofs.YthccokfajpgllaaDoor.Pr
open Go Go.RowKit Go.Shelf
open Go.Proofs.YthccokfajpgllaaDoorW.PrintWords Go.Proofs.YthccokfajpgllaaDoorW.PrintLast
set_option linter.unusedVariables false
set_option linter.unusedSimpArgs false
theorem u8_at {n : Nat} (h1 : 128 ≤ n) (h2 : n < 256) : 128 ≤ (UInt8.ofNat n).toNat := by
  rw [UInt8.toNat_ofNat']; omega
theorem enc_cases (r : Int) (h1 : 128 ≤ r) (h2 : r < 55296 ∨ (57343 < r ∧ r ≤ 1114111)) :
    (∃ x z : UInt8, 128 ≤ z.toNat ∧ Utf8.encode r = ⟨#[x, z]⟩) ∨ (∃ x y z : UInt8, 128 ≤ z.toNat ∧ Utf8.encode r = ⟨#[x, y, z]⟩) ∨ (∃ x y t z : UInt8, 128 ≤ z.toNat ∧ Utf8.encode r = ⟨#[x, y, t, z]⟩) := by
  have hv : Utf8.valid r = true := by unfold Utf8.valid; simp; omega
  unfold Utf8.encode
  simp only [hv, if_true]
  rw [if_neg (by omega)]
  by_cases g1 : r.toNat < 2048
  · rw [if_pos g1]
    exact Or.inl ⟨_, _, u8_at (by omega) (by omega), rfl⟩
  · rw [if_neg g1]
    by_cases g2 : r.toNat < 65536
    · rw [if_pos g2]
      exact Or.inr (Or.inl ⟨_, _, _, u8_at (by omega) (by omega), rfl⟩)
    · rw [if_neg g2]
      exact Or.inr (Or.inr ⟨_, _, _, _, u8_at (by omega) (by omega), rfl⟩)
theorem no_byte (z : UInt8) (hz : 128 ≤ z.toNat) : Lib.indexByte [13] ((z.toNat : Int)).toNat.toUInt8 = -1 := by
  have : ¬ (13 : UInt8) = z := by intro e; rw [← e] at hz; revert hz; decide
  have e2 : ((z.toNat : Int)).toNat.toUInt8 = z := by simp
  rw [e2]
  simp [Lib.indexByte, this]
theorem quiet_add_same {P : Program} {f : FuncId} {args : Array Value} {w : World} {a n : Nat} {v : Value}
    (h : Calls P f args (w.drewN (a + n)) fun e w' => e = .returned v ∧ w' = w.drewN (a + n)) :
    Calls P f args (w.drewN (a + n)) fun e w'' => e = .returned v ∧ ∃ m, w'' = w.drewN (a + m) :=
  h.mono fun _ _ ⟨he, hm⟩ => ⟨he, n, hm⟩
theorem below_drewN_ (w : World) (n : Nat) : Below w.heap.size w (w.drewN n) := pw_below_drewN (Below.refl _ w) n
set_option maxHeartbeats 1000000 in
set_option maxRecDepth 100000 in
theorem idx_high (r : Int) (h1 : 128 ≤ r) (h2 : r < 55296 ∨ (57343 < r ∧ r ≤ 1114111)) (h3 : r ≠ 65533) (w : World) :
    Calls Tryd.prog 30 #[.string ⟨#[32, 9, 13]⟩, .int .i32 r] w fun e w' => e = .returned (.int .i64 (-1)) ∧ Below w.heap.size w w' := by
  have hv : Lib.validRune r = true := by unfold Lib.validRune; simp; omega
  have n1 : ¬ (r < 128) := by omega
  have n0 : (0 : Int) ≤ r := by omega
  rcases enc_cases r h1 h2 with ⟨x, z, hz, he⟩ | ⟨x, y, z, hz, he⟩ | ⟨x, y, t, z, hz, he⟩
  · have hb : Lib.indexByte [13] ((⟨#[x, z]⟩ : ByteArray)[1]'(by show 1 < 2; omega)) < 0 := by
      have := no_byte z hz
      rw [show ((z.toNat : Int)).toNat.toUInt8 = z by simp] at this
      show Lib.indexByte [13] z < 0
      omega
    have hne : ((((⟨#[32, 9, 13]⟩ : ByteArray)[1]'(by show 1 < 3; omega)).toNat : Int) != (((⟨#[x, z]⟩ : ByteArray)[1]'(by show 1 < 2; omega)).toNat : Int)) = true := by
      show ((((9 : UInt8).toNat : Nat) : Int) != (z.toNat : Int)) = true
      simp; omega
    clear h2
    go_enter Tryd.func30, Tryd.ntmps30
    go_wp2_with (go_at_call 43; refine (Tryd.utf8_ValidRune _ _).mono ?_; rintro e w' ⟨rfl, hw⟩; subst hw)
    go_step3
    go_wp2
    refine wp_loop_rounds 1 ?_
    rw [rounds_succ]
    go_wp2
    go_step3
    go_wp2
    go_quiet (fail)
    go_wp2
    go_quiet ((go_at_call 42; exact quiet_add_same (Tryd.strings_IndexByte _ _ _)))
    go_wp2
    simp only [Exit.noGoto_ret, Exit.inBlock, Exit.then]
    go_ret
    exact ⟨rfl, below_drewN_ _ _⟩
  · have hb : Lib.indexByte [] ((⟨#[x, y, z]⟩ : ByteArray)[2]'(by show 2 < 3; omega)) < 0 := by simp [Lib.indexByte]
    have hne : ((((⟨#[32, 9, 13]⟩ : ByteArray)[2]'(by show 2 < 3; omega)).toNat : Int) != (((⟨#[x, y, z]⟩ : ByteArray)[2]'(by show 2 < 3; omega)).toNat : Int)) = true := by
      show ((((13 : UInt8).toNat : Nat) : Int) != (z.toNat : Int)) = true
      simp; omega
    clear h2
    go_enter Tryd.func30, Tryd.ntmps30
    go_wp2_with (go_at_call 43; refine (Tryd.utf8_ValidRune _ _).mono ?_; rintro e w' ⟨rfl, hw⟩; subst hw)
    go_step3
    go_wp2
    refine wp_loop_rounds 1 ?_
    rw [rounds_succ]
    go_wp2
    go_step3
    go_wp2
    go_quiet (fail)
    go_wp2
    go_quiet ((go_at_call 42; exact quiet_add_same (Tryd.strings_IndexByte _ _ _)))
    go_wp2
    simp only [Exit.noGoto_ret, Exit.inBlock, Exit.then]
    go_ret
    exact ⟨rfl, below_drewN_ _ _⟩
  · clear h2
    go_enter Tryd.func30, Tryd.ntmps30
    go_wp2_with (go_at_call 43; refine (Tryd.utf8_ValidRune _ _).mono ?_; rintro e w' ⟨rfl, hw⟩; subst hw)
    go_step3
    go_wp2
    refine wp_loop_rounds 1 ?_
    rw [rounds_succ]
    go_wp2
    simp only [Exit.noGoto_ret, Exit.inBlock, Exit.then]
    go_ret
    exact ⟨rfl, Below.refl _ _⟩
set_option maxHeartbeats 1000000 in
set_option maxRecDepth 100000 in
theorem idx_err (w : World) :
    Calls Tryd.prog 30 #[.string ⟨#[32, 9, 13]⟩, .int .i32 65533] w fun e w' => e = .returned (.int .i64 (-1)) ∧ Below w.heap.size w w' := by
  obtain ⟨s, hs⟩ : ∃ s : ByteArray, s = ⟨#[32, 9, 13]⟩ := ⟨_, rfl⟩
  have hsz : s.size = 3 := by rw [hs]; rfl
  have hb : ∀ (i : Nat) (h : i < s.size), (s[i]'h).toNat < 128 := by
    subst hs
    intro i h
    have h : i < 3 := h
    obtain rfl | rfl | rfl : i = 0 ∨ i = 1 ∨ i = 2 := by omega
    · show (32 : UInt8).toNat < 128; decide
    · show (9 : UInt8).toNat < 128; decide
    · show (13 : UInt8).toNat < 128; decide
  rw [← hs]
  have HB := Lib.hid hb
  have HZ := Lib.hid hsz
  clear hb hsz hs
  go_enter Tryd.func30, Tryd.ntmps30
  go_wp2
  go_loopg [5, 6] s.size (fun g _ _ wx => ∃ i : Nat, i + g = s.size ∧ wx = w.iter s i)
  case atStart => exact ⟨0, by omega, rfl⟩
  case round =>
    obtain ⟨i, hig, rfl⟩ := hrel
    cases gk with
    | zero =>
      obtain rfl : i = s.size := by omega
      have hnx := run_next_end (P := Tryd.prog) w s s.size
      go_wp2
      go_ret
      exact ⟨rfl, (Below.refl _ w).alloc (Nat.le_refl _) _⟩
    | succ g =>
      have hi : i < s.size := by omega
      obtain ⟨x, hx⟩ : ∃ x : UInt8, s[i]'hi = x := ⟨_, rfl⟩
      have hx128 : x.toNat < 128 := by rw [← hx]; exact HB.out i hi
      have hnx := fun ty => run_next_ascii (P := Tryd.prog) w s i ty hi (by rw [hx]; exact hx128)
      rw [hx] at hnx
      have hne : ((x.toNat : Int) == 65533) = false := by simp; omega
      clear hx
      go_wp2
      go_roundg g
      case measure => omega
      case rel => exact ⟨i + 1, by omega, rfl⟩
/-! ### a rune that begins beyond ASCII -/
theorem dec_nat (n b0 b1 b2 b3 : Nat) (hn : 1 ≤ n) (h0 : 128 ≤ b0) (h0' : b0 < 256) :
    128 ≤ (Lib.decodeN n b0 b1 b2 b3).1 ∧ ((Lib.decodeN n b0 b1 b2 b3).1 < 55296 ∨ (57343 < (Lib.decodeN n b0 b1 b2 b3).1 ∧ (Lib.decodeN n b0 b1 b2 b3).1 ≤ 1114111)) ∧
    1 ≤ (Lib.decodeN n b0 b1 b2 b3).2 ∧ (Lib.decodeN n b0 b1 b2 b3).2 ≤ n ∧ (Lib.decodeN n b0 b1 b2 b3).2 ≤ 4 ∧
    (2 ≤ (Lib.decodeN n b0 b1 b2 b3).2 → 128 ≤ b1) ∧ (3 ≤ (Lib.decodeN n b0 b1 b2 b3).2 → 128 ≤ b2) ∧ (4 ≤ (Lib.decodeN n b0 b1 b2 b3).2 → 128 ≤ b3) := by
  unfold Lib.decodeN
  rw [if_neg (by omega)]
  repeat' split
  all_goals (simp only; omega)
theorem get_list (s : ByteArray) (j : Nat) (b : UInt8) (h : s.data.toList[j]? = some b) : s.get! j = b := by
  obtain ⟨hj, e⟩ := List.getElem?_eq_some_iff.1 h
  have hj' : j < s.data.size := by simpa using hj
  show s.data[j]! = b
  rw [getElem!_pos s.data j hj', ← e]
  simp
theorem dec_high (s : ByteArray) (i : Nat) (h : i < s.size) (ha : 128 ≤ (s[i]'h).toNat) :
    128 ≤ (Utf8.decode s i).1 ∧ ((Utf8.decode s i).1 < 55296 ∨ (57343 < (Utf8.decode s i).1 ∧ (Utf8.decode s i).1 ≤ 1114111)) ∧ 1 ≤ (Utf8.decode s i).2 ∧ i + (Utf8.decode s i).2 ≤ s.size ∧
    ∀ (j : Nat) b, i ≤ j → j < i + (Utf8.decode s i).2 → s.data.toList[j]? = some b → 128 ≤ b.toNat := by
  have e0 : s.get! i = s[i]'h := get_list s i _ (Lib.data_getElem? s i h)
  have D := dec_nat (s.size - i) (s.get! i).toNat (s.get! (i + 1)).toNat (s.get! (i + 2)).toNat (s.get! (i + 3)).toNat (by omega) (by rw [e0]; exact ha) (UInt8.toNat_lt _)
  rw [← Lib.decode_at s i] at D
  obtain ⟨d1, d2, d3, d4, d5, d6, d7, d8⟩ := D
  refine ⟨d1, d2, d3, by omega, fun j b hij hj hb => ?_⟩
  have hg := get_list s j b hb
  obtain rfl | rfl | rfl | rfl : j = i ∨ j = i + 1 ∨ j = i + 2 ∨ j = i + 3 := by omega
  · rw [← hg, e0]; exact ha
  · rw [← hg]; exact d6 (by omega)
  · rw [← hg]; exact d7 (by omega)
  · rw [← hg]; exact d8 (by omega)
theorem not_in {b : UInt8} (h : 128 ≤ b.toNat) : ([32, 9, 13] : List UInt8).contains b = false := by
  cases hc : ([32, 9, 13] : List UInt8).contains b with
  | false => rfl
  | true =>
    simp at hc
    rcases hc with rfl | rfl | rfl <;> revert h <;> decide

def Miss (r : Int) : Prop := (128 ≤ r ∧ (r < 55296 ∨ (57343 < r ∧ r ≤ 1114111))) ∨ ∃ x : UInt8, r = x.toNat ∧ x.toNat < 128 ∧ ([32, 9, 13] : List UInt8).contains x = false
theorem idx_miss (r : Int) (h : Miss r) (w : World) :
    Calls Tryd.prog 30 #[.string ⟨#[32, 9, 13]⟩, .int .i32 r] w fun e w' => e = .returned (.int .i64 (-1)) ∧ Below w.heap.size w w' := by
  rcases h with ⟨h1, h2⟩ | ⟨x, rfl, hx, hc⟩
  · by_cases h3 : r = 65533
    · subst h3; exact idx_err w
    · exact idx_high r h1 h2 h3 w
  · refine (Tryd.strings_IndexRune_ascii ⟨#[32, 9, 13]⟩ _ w (by omega) (by omega)).mono ?_
    rintro e w' ⟨rfl, rfl⟩
    have hi := Lib.contains_iff_indexByte [32, 9, 13] x
    rw [hc] at hi
    have h0 : ¬ (0 ≤ Lib.indexByte [32, 9, 13] x) := of_decide_eq_false hi.symm
    have h1 : -1 ≤ Lib.indexByte [32, 9, 13] x := by rw [← Lib.indexAny_one]; exact Lib.indexAny_ge _ _
    refine ⟨?_, Below.refl _ _⟩
    rw [show ((x.toNat : Int)).toNat.toUInt8 = x by simp]
    show Ending.returned (.int .i64 (Lib.indexByte [32, 9, 13] x)) = _
    rw [show Lib.indexByte [32, 9, 13] x = -1 by omega]
theorem idx_hit (x : UInt8) (hx : x.toNat < 128) (hc : ([32, 9, 13] : List UInt8).contains x = true) (w : World) :
    Calls Tryd.prog 30 #[.string ⟨#[32, 9, 13]⟩, .int .i32 x.toNat] w fun e w' => ∃ v : Nat, e = .returned (.int .i64 (v : Int)) ∧ Below w.heap.size w w' := by
  refine (Tryd.strings_IndexRune_ascii ⟨#[32, 9, 13]⟩ _ w (by omega) (by omega)).mono ?_
  rintro e w' ⟨rfl, rfl⟩
  have hi := Lib.contains_iff_indexByte [32, 9, 13] x
  rw [hc] at hi
  have h0 : 0 ≤ Lib.indexByte [32, 9, 13] x := of_decide_eq_true hi.symm
  obtain ⟨v, hv⟩ := Int.eq_ofNat_of_zero_le h0
  refine ⟨v, ?_, Below.refl _ _⟩
  rw [show ((x.toNat : Int)).toNat.toUInt8 = x by simp]
  show Ending.returned (.int .i64 (Lib.indexByte [32, 9, 13] x)) = _
  rw [hv]

theorem iter_kept {w wx w1 : World} {s : ByteArray} {i j : Nat} (h : wx.heap[w.heap.size]? = some (.stringIter s i)) (hb : Below w.heap.size w wx)
    (h1 : Below (wx.iterAt w.heap.size s j).heap.size (wx.iterAt w.heap.size s j) w1) : w1.heap[w.heap.size]? = some (.stringIter s j) ∧ Below w.heap.size w w1 := by
  have hlt : w.heap.size < wx.heap.size := (Array.getElem?_eq_some_iff.1 h).1
  rw [Lib.iterAt_size] at h1
  exact ⟨(h1.block _ hlt).trans (Lib.iterAt_heap wx _ s i j h), (Lib.below_iterAt hb (Nat.le_refl _) s j).trans (h1.mono (by omega))⟩

set_option maxHeartbeats 4000000 in
set_option maxRecDepth 100000 in
theorem any_short (s : ByteArray) (w : World) (h8 : s.size ≤ 8) :
    Calls Tryd.prog 18 #[.string s, .string ⟨#[32, 9, 13]⟩] w fun e w' => e = .returned (.int .i64 (Lib.indexAny s.data.toList [32, 9, 13])) ∧ Below w.heap.size w w' := by
  have h8z : decide ((8 : Int) < (s.size : Int)) = false := decide_eq_false (by omega)
  go_enter Tryd.func18, Tryd.ntmps18
  go_wp2_with (go_at_call 31; refine (Tryd.strings_shouldUseASCIISet _ _).mono ?_; rintro e w' ⟨rfl, hw⟩; rw [hw, h8z]; clear hw w')
  go_loopg [9, 10] s.size (fun g _ _ wx => ∃ i : Nat, i + g = s.size ∧ wx.heap[w.heap.size]? = some (.stringIter s i) ∧ Below w.heap.size w wx ∧ Lib.NoAny s.data.toList [32, 9, 13] i)
  case atStart => exact ⟨0, by omega, World.iter_heap w s 0, (Below.refl _ w).alloc (Nat.le_refl _) _, Lib.NoAny.zero _ _⟩
  case round =>
    obtain ⟨i, hig, hit, hbx, hno⟩ := hrel
    have HN := Lib.hid hno
    have HI := Lib.hid hit
    have HB := Lib.hid hbx
    clear hno hit hbx
    cases gk with
    | zero =>
      obtain rfl : i = s.size := by omega
      have hnx := fun ty => Lib.run_next_end_at (P := Tryd.prog) wr w.heap.size s s.size ty HI.out (Nat.lt_irrefl _)
      go_wp2
      go_ret
      exact ⟨by rw [Lib.indexAny_none (by rw [← Lib.size_eq]; exact HN.out)]; rfl, HB.out⟩
    | succ g =>
      have hi : i < s.size := by omega
      have hnx := fun ty => Lib.run_next_any_at (P := Tryd.prog) wr w.heap.size s i ty HI.out hi
      by_cases hx128 : (s[i]'hi).toNat < 128
      · obtain ⟨x, hx⟩ : ∃ x : UInt8, s[i]'hi = x := ⟨_, rfl⟩
        have hxl : s.data.toList[i]? = some x := by rw [← hx]; exact Lib.data_getElem? s i hi
        rw [decode_ascii s i hi hx128, hx] at hnx
        rw [hx] at hx128
        have HX := Lib.hid hxl
        have HX1 := Lib.hid hx128
        clear hxl hx hx128
        cases hin : ([32, 9, 13] : List UInt8).contains x
        · have HC := Lib.hid hin
          clear hin
          go_wp2_with (go_at_call 30; refine (idx_miss _ (.inr ⟨x, rfl, HX1.out, HC.out⟩) _).mono ?_; rintro e w1 ⟨rfl, hb1⟩; have HW := Lib.hid (iter_kept HI.out HB.out hb1); clear hb1)
          go_roundg g
          case measure => omega
          case rel => exact ⟨i + 1, by omega, HW.out.1, HW.out.2, HN.out.succ HX.out HC.out⟩
        · have HC := Lib.hid hin
          clear hin
          go_wp2_with (go_at_call 30; refine (idx_hit x HX1.out HC.out _).mono ?_; rintro e w1 ⟨v, rfl, hb1⟩; have HW := Lib.hid (iter_kept HI.out HB.out hb1); clear hb1)
          go_ret
          exact ⟨by rw [Lib.indexAny_hit HN.out HX.out HC.out]; rfl, HW.out.2⟩
      · obtain ⟨d1, d2, d3, d4, d5⟩ := dec_high s i hi (by omega)
        generalize hd : Utf8.decode s i = d at hnx d1 d2 d3 d4 d5
        obtain ⟨r, k⟩ := d
        simp only at hnx d1 d2 d3 d4 d5
        have HM : Hid (Miss r) := Lib.hid (.inl ⟨by omega, by omega⟩)
        have H5 := Lib.hid d5
        obtain ⟨rr, hrr⟩ : ∃ rr : Int, rr = (r : Int) := ⟨_, rfl⟩
        rw [← hrr] at hnx HM
        have HK := Lib.hid (And.intro d3 d4)
        clear hx128 hd d1 d2 d5 hrr d3 d4
        go_wp2_with (go_at_call 30; refine (idx_miss rr HM.out _).mono ?_; rintro e w1 ⟨rfl, hb1⟩; have HW := Lib.hid (iter_kept HI.out HB.out hb1); clear hb1)
        have hk3 := HK.out.1
        have hk4 := HK.out.2
        go_roundg (g + 1 - k)
        case measure => omega
        case rel => exact ⟨i + k, by omega, HW.out.1, HW.out.2, fun j b hj hb => if h : j < i then HN.out j b h hb else not_in (H5.out j b (by omega) hj hb)⟩
def strings_IndexAny.f (a0 a1 : ByteArray) : Option Int := if a0.size < 4294967281 ∧ bl a1 = [32, 9, 13] then some (Lib.indexAny (bl a0) [32, 9, 13]) else none
theorem strings_IndexAny.calls (a0 a1 : ByteArray) (r : Int) (w : World) (h : strings_IndexAny.f a0 a1 = some r) :
    Calls Tryd.prog 18 #[.string a0, .string a1] w fun e w' => e = .returned (.int .i64 r) ∧ Below w.heap.size w w' := by
  unfold strings_IndexAny.f at h
  split at h
  case isFalse => cases h
  rename_i hh
  obtain ⟨h1, h2⟩ := hh
  obtain rfl := Option.some.inj h
  obtain rfl : a1 = ⟨#[32, 9, 13]⟩ := by rw [← ba_bl a1, h2]; rfl
  by_cases h8 : a0.size ≤ 8
  · exact any_short a0 w h8
  · refine (Tryd.strings_IndexAny_long (fun w => by kernel_rfl) a0 ⟨#[32, 9, 13]⟩ w (by decide) (by omega) h1 (by decide) (ascii_of_all (by decide))).mono ?_
    rintro e w' ⟨rfl, rfl⟩
    exact ⟨rfl, ((Below.refl _ w).alloc (Nat.le_refl _) _).alloc (by simp) _⟩
end Go.Proofs.YthccokfajpgllaaDoor.Pr
