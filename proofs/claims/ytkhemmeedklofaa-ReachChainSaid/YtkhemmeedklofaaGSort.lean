/- graph.sort: what it hands back is an order as 'Kn.Inv' tells it. -/
import Derived.Test.YtkhemmeedklofaaGIns
import Derived.Test.YtkhemmeedklofaaKahn
import Derived.Test.YtkhemmeedklofaaPr1
import Derived.Deep.LoopGhost
import Derived.Outline
import Derived.Deep.DeepCutAuto
import Derived.Deep.CutBlock
import Derived.Laws.MakeOwn
namespace Go.Proofs.Ytkhemmeedklofaa.Pr
open Go Go.RowKit Go.Shelf
open Go.Proofs.YtkhemmeedklofaaW.PrintWords Go.Proofs.YtkhemmeedklofaaW.PrintLast
set_option linter.unusedVariables false
set_option linter.unusedSimpArgs false

def wsOf (l : List S42) : Kn.Ws := l.map fun s => (s.f0, s.f1)
set_option maxHeartbeats 4000000 in
set_option maxRecDepth 100000 in
theorem make_run (n : Nat) (hn : n ≤ 4096) (W : World) : (Instr.makeSlice 26 (.int .i64 n) (.int .i64 n)).run Try.prog W = .ok (.slice (some ⟨W.heap.size, 0, none⟩) n n) (W.alloc (.cells (madeCells #[.int .i64 0] n) 3)) := by
  have hi : ∃ i, Try.prog.info? 3 = some i ∧ i.zero = some (.int .i64 0) ∧ i.size = 1 ∧ i.bytes = 8 := by
    have h : (Try.prog.info? 3).map (fun i => (i.zero, i.size, i.bytes)) = some (some (.int .i64 0), 1, 8) := by kernel_rfl
    cases hx : Try.prog.info? 3 with
    | none => rw [hx] at h; cases h
    | some i => rw [hx] at h; simp at h; exact ⟨i, rfl, h.1, h.2.1, h.2.2⟩
  obtain ⟨i, h1, h2, h3, h4⟩ := hi
  have := run_makeSlice (P := Try.prog) (w := W) 26 3 i (.int .i64 0) Try.underlying26 h1 h2 .i64 .i64 n n (by omega) (by omega) (by rw [h3]; omega) (by rw [h4]; omega) (by omega)
  rw [h3] at this
  simpa [Value.cells] using this
theorem made_QI (W : World) (n : Nat) (hn : n ≤ 4096) (base : Nat) (hb : base ≤ W.heap.size) : QI (W.alloc (.cells (madeCells #[.int .i64 0] n) 3)) base (.slice (some ⟨W.heap.size, 0, none⟩) n n) (List.replicate n 0) := by
  have hm : maxLen = 9223372036854775807 := rfl
  have h := World.ownsRow_lit (base := base) (e := 3) (size := 1) W (madeCells #[.int .i64 0] n) n hb (by omega) (by rw [size_madeCells]; omega)
  have e : (madeCells #[Value.int .i64 0] n).toList = encs (Value.int .i64) (List.replicate n 0) := by
    unfold encs madeCells
    apply List.ext_getElem (by simp)
    intro j h1 h2
    simp [Nat.mod_one]
  rw [e] at h
  unfold QI
  rw [List.length_replicate]
  exact q_of_own h
theorem QI_move {w w1 : World} {base : Nat} {v : Value} {xs : List Int} (h : QI w base v xs) (hm : ∀ k, v.ownBlock = some k → w1.heap[k]? = w.heap[k]?) : QI w1 base v xs := q_move h hm
theorem QI_below {w w1 : World} {base : Nat} {v : Value} {xs : List Int} (h : QI w base v xs) (hb : Below w.heap.size w w1) : QI w1 base v xs :=
  QI_move h fun k hk => hb.block k (q_lt h k hk)
theorem QI_grown {w w1 : World} {base : Nat} {v : Value} {xs : List Int} {row : Option Nat} (h : QI w base v xs) (hg : w.grownBy w1 row) (hne : ∀ k, v.ownBlock = some k → some k ≠ row) : QI w1 base v xs :=
  QI_move h fun k hk => hg.block k (q_lt h k hk) (hne k hk)
theorem QI_cell {w : World} {base g n cap : Nat} {xs : List Int} (h : QI w base (.slice (some ⟨g, 0, none⟩) n cap) xs) (j : Nat) (hj : j < xs.length) :
    w.cell? ⟨g, j, none⟩ = some (.int .i64 (xs.getD j 0)) ∧ w.frozen? ⟨g, j, none⟩ = false := by
  have hn : n = xs.length := (Kd.Q_reads' (Q_of_QI h)).1
  have := Kd.Q_cell (enc := Value.int .i64) (h1 := fun _ => rfl) 0 (Q_of_QI h) (j : Int) (by omega) (by omega)
  simpa [rdOf] using this
theorem QI_put {w : World} {base g n cap : Nat} {xs : List Int} (h : QI w base (.slice (some ⟨g, 0, none⟩) n cap) xs) (j : Nat) (hj : j < xs.length) (z : Int) :
    QI (w.setCell ⟨g, j, none⟩ (.int .i64 z)) base (.slice (some ⟨g, 0, none⟩) n cap) (xs.set j z) ∧ w.grownBy (w.setCell ⟨g, j, none⟩ (.int .i64 z)) (some g) := by
  have hn : n = xs.length := (Kd.Q_reads' (Q_of_QI h)).1
  have := Kd.Q_putg (enc := Value.int .i64) (h1 := fun _ => rfl) (Q_of_QI h) (j : Int) (by omega) (by omega) z
  obtain ⟨h1, h2⟩ := this
  simp at h1 h2
  exact ⟨QI_of_Q h1, h2⟩
theorem QI_base {w : World} {base g n cap : Nat} {o : Nat} {xs : List Int} (h : QI w base (.slice (some ⟨g, o, none⟩) n cap) xs) : base ≤ g ∧ g < w.heap.size :=
  ⟨(q_typed h g rfl).1, q_lt h g rfl⟩
theorem app_QI {ops : Array Oper} {rest : List Oper} {o : Oper} {a : Act} {Q' : Exit → Act → World → Prop} (hgd : o.guard = none) (s x : Operand) (ho : o.op = .call { callee := .builtin .append, args := #[s, x], argTypes := #[26, 26] })
    {w0 W : World} (base : Nat) (v : Value) (xs : List Int) (p : Int) (hs : a.eval s = v) (hx : a.eval x = .slice (some ⟨W.heap.size, 0, none⟩) 1 1) (HO : QI W base v xs) (HB : Below base w0 W) (hbase : base ≤ W.heap.size) (hl : xs.length ≤ 1000000)
    (h : ∀ v1 w1, QI w1 base v1 (xs ++ [p]) → Below base w0 w1 → W.grownBy w1 v.ownBlock → (v1.ownBlock = v.ownBlock ∨ ∃ b, v1.ownBlock = some b ∧ W.heap.size ≤ b) → wpList Try.prog ops Q' rest (a.put o.dst v1) w1) :
    wpList Try.prog ops Q' (o :: rest) a (W.alloc (.cells #[.int .i64 p] 3)) :=
  Kd.Q_append (Kd.int .i64) (w0 := w0) base hgd s x 26 3 (.int .i64 0) 8 ho Try.underlying26 info3 rfl (by decide) (by omega) v xs p [.int .i64 p] (fun _ => True) (fun _ => False) hs hx rfl (fun _ hk => hk.elim) (fun _ _ => trivial) (Q_of_QI HO) HB hbase (by omega)
    (fun v1 w1 h1 h2 h3 h4 => h v1 w1 (QI_of_Q h1) h2 h3 h4)
theorem sorted_cut (y : Int) : ∀ xs : List Int, xs.Pairwise (· ≤ ·) → xs.countP (fun z => decide (z < y)) ≤ xs.length ∧ (∀ z ∈ xs.take (xs.countP fun z => decide (z < y)), z ≤ y) ∧ ∀ z ∈ xs.drop (xs.countP fun z => decide (z < y)), y ≤ z
  | [], _ => ⟨Nat.zero_le _, fun z hz => by simp at hz, fun z hz => by simp at hz⟩
  | x :: xs, h => by
    obtain ⟨h1, h2⟩ := List.pairwise_cons.1 h
    obtain ⟨i1, i2, i3⟩ := sorted_cut y xs h2
    rw [List.countP_cons]
    by_cases hx : x < y
    · rw [if_pos (decide_eq_true hx)]
      refine ⟨by simp; omega, fun z hz => ?_, fun z hz => i3 z (by simpa using hz)⟩
      rw [List.take_succ_cons] at hz
      rcases List.mem_cons.1 hz with rfl | hz
      · omega
      · exact i2 z hz
    · have h0 : xs.countP (fun z => decide (z < y)) = 0 := by
        rw [List.countP_eq_zero]
        intro z hz; have := h1 z hz; simp; omega
      rw [if_neg (by simpa using hx), h0]
      refine ⟨Nat.zero_le _, fun z hz => by simp at hz, fun z hz => ?_⟩
      rcases List.mem_cons.1 (by simpa using hz) with rfl | hz
      · omega
      · have := h1 z hz; omega
theorem bs_calls {W : World} {base : Nat} {v : Value} {xs : List Int} (h : QI W base v xs) (hs : xs.Pairwise (· ≤ ·)) (hl : xs.length ≤ 1000000) (y : Int) :
    Calls Try.prog 27 #[v, .int .i64 y] W fun e w' => ∃ (p : Nat) (b : Bool) (q : Nat), e = .returned (.tuple #[.int .i64 p, .bool b]) ∧ w' = W.drewN q ∧ p ≤ xs.length ∧ (∀ z ∈ xs.take p, z ≤ y) ∧ ∀ z ∈ xs.drop p, y ≤ z := by
  obtain ⟨c1, c2, c3⟩ := sorted_cut y xs hs
  by_cases h0 : xs.length = 0
  · obtain ⟨A, c, rfl, _⟩ := q_slice h
    rw [h0]
    refine (Try.slices_BinarySearch_int_empty A c y W).mono ?_
    rintro e w' ⟨rfl, rfl⟩
    have hx : xs = [] := List.eq_nil_of_length_eq_zero h0
    subst hx
    exact ⟨0, false, 0, rfl, rfl, Nat.le_refl _, fun z hz => by simp at hz, fun z hz => by simp at hz⟩
  · obtain ⟨g, o, cap, rfl, hb, hg, cells, hc⟩ := Kd.Q_form (Q_of_QI h) (by omega)
    refine (Try.slices_BinarySearch_int g o xs.length cap xs y W (Nat.le_refl _) (by omega) (fun j hj => ?_) (by rw [List.take_length]; exact hs)).mono ?_
    · have := (Kd.Q_cell (enc := Value.int .i64) (h1 := fun _ => rfl) 0 (Q_of_QI h) (j : Int) (by omega) (by omega)).1
      simpa [rdOf] using this
    · rintro e w' ⟨rfl, q, rfl⟩
      rw [List.take_length]
      exact ⟨_, _, q, rfl, rfl, c1, c2, c3⟩
theorem two_made (W0 : World) (n : Nat) (hn : n ≤ 4096) (W1 W2 : World) (h1 : W1.heap = (W0.alloc (.cells (madeCells #[Value.int .i64 0] n) 3)).heap) (h2 : Below W0.heap.size W0 W1) (h3 : W2.heap = (W1.alloc (.cells (madeCells #[Value.int .i64 0] n) 3)).heap) (h4 : Below W1.heap.size W1 W2) :
    QI W2 W0.heap.size (.slice (some ⟨W0.heap.size, 0, none⟩) n n) (List.replicate n 0) ∧ QI W2 W0.heap.size (.slice (some ⟨W0.heap.size + 1, 0, none⟩) n n) (List.replicate n 0) ∧ Below W0.heap.size W0 W2 := by
  have s1 : W1.heap.size = W0.heap.size + 1 := by rw [h1]; simp
  have a := made_QI W0 n hn W0.heap.size (Nat.le_refl _)
  have b := made_QI W1 n hn W0.heap.size (by omega)
  rw [s1] at b
  refine ⟨QI_below (QI_move a fun k _ => by rw [h1]) h4, QI_move b fun k _ => by rw [h3], h2.trans (h4.mono (by omega))⟩
set_option maxHeartbeats 4000000 in
set_option maxRecDepth 100000 in
theorem sort_calls (n : Nat) (A : Option Addr) (c : Nat) (l : List S42) (w : World) (hr : Kd.C k42 w A l.length l) (hc : l.length ≤ c) (hn : n ≤ 4096) (hl : l.length ≤ 1048576) (hin : ∀ x ∈ l, inR n x)
    (k : Nat) (tl : List (List Int)) (hs : graph_sides.f k n l = some tl) (hto : tl.length = n) (htos : ∀ x : Nat, x < n → rd_L2 tl (x : Int) = Kn.tos (wsOf l) x) :
    Calls Try.prog 19 #[.int .i64 n, .slice A l.length c] w fun e w' => ∃ v1 v2 os many, e = .returned (.tuple #[v1, v2, .bool (decide ((os.length : Int) = (n : Int)))]) ∧ QI w' w.heap.size v1 os ∧ Below w.heap.size w w' ∧ Kn.Inv n (wsOf l) os [] many [] := by
  have cS := graph_sides.calls k n A c l tl w hr hc hs
  have HR := Lib.hid hr
  have HIN := Lib.hid hin
  have HS := Lib.hid hs
  have HTO := Lib.hid hto
  have HTS := Lib.hid htos
  have HL := Lib.hid hl
  clear hr hin hs hto hl hc htos
  go_enter Try.func19, Try.ntmps19
  go_wp2_with (go_at_call 26; refine cS.mono ?_; rintro e W0 ⟨vt, rfl, hS, hB0⟩; obtain ⟨At, ct, rfl⟩ := Kd.S_slice hS; have HS0 := Lib.hid hS; have HB0 := Lib.hid hB0; clear hS hB0)
  have hmk := fun W => make_run n hn W
  have hmd := made_QI
  generalize hZ : madeCells #[Value.int .i64 0] n = Z at hmk
  have HZ := Lib.hid hZ
  clear hZ
  go_cut [8, 9] (fun v8 v9 wx => ∃ bm bd : Nat, v8 = .slice (some ⟨bm, 0, none⟩) n n ∧ v9 = .slice (some ⟨bd, 0, none⟩) n n ∧ bm ≠ bd ∧ Hid (QI wx W0.heap.size (.slice (some ⟨bm, 0, none⟩) n n) (List.replicate n 0)) ∧ Hid (QI wx W0.heap.size (.slice (some ⟨bd, 0, none⟩) n n) (List.replicate n 0)) ∧ Hid (Below W0.heap.size W0 wx))
  case first =>
    go_region
    all_goals go_wp2_with fail
    all_goals go_meet
    all_goals (have h2 := two_made W0 n hn (W0.alloc (.cells Z 3)) ((W0.alloc (.cells Z 3)).alloc (.cells Z 3)).drew (by rw [HZ.out]) ((Below.refl _ W0).alloc (Nat.le_refl _) _) (by rw [HZ.out]; rfl) (((Below.refl _ _).alloc (Nat.le_refl _) _).drew))
    · exact ⟨_, _, rfl, rfl, by omega, h2.1, h2.2.1, h2.2.2⟩
    · exact ⟨_, _, rfl, rfl, by omega, h2.2.1, h2.1, h2.2.2⟩
  case rest =>
    obtain ⟨bm, bd, rfl, rfl, hne, HM, HD, HB⟩ := hcut
    go_wp2
    go_loopg [30] l.length (fun g s30 wr => ∃ (k : Nat) (many : List Int), k + g = l.length ∧ s30 = .int .i64 k ∧ Hid (QI wr W0.heap.size (.slice (some ⟨bm, 0, none⟩) n n) many) ∧ Hid (QI wr W0.heap.size (.slice (some ⟨bd, 0, none⟩) n n) (List.replicate n 0)) ∧ Hid (Below W0.heap.size W0 wr) ∧ Hid (many.length = n ∧ ∀ y : Nat, y < n → many.getD y 0 = (Kn.cnt ((wsOf l).take k) [] y : Int)))
    case atStart => exact ⟨0, List.replicate n 0, by omega, rfl, HM, HD, HB, ⟨by simp, fun y hy => by simp [Kn.cnt, hy]⟩⟩
    case round =>
      clear HM HD HB
      obtain ⟨k, many, hkg, rfl, HM, HD, HB, HC⟩ := hrel
      cases gk with
      | zero =>
        obtain rfl : k = l.length := by omega
        have hst : Kn.Inv n (wsOf l) [] (Kn.free0 many n) many [] := Kn.Inv.start HC.out.1 (fun y hy => by
          have := HC.out.2 y hy
          rwa [List.take_of_length_le (by simp [wsOf])] at this)
        have HST := Lib.hid hst
        clear hst
        have hfl : ∀ k : Nat, k ≤ n → (Kn.free0 many k).length ≤ k := fun k _ => by
          unfold Kn.free0
          rw [List.length_map]
          exact Nat.le_trans (List.length_filter_le _ _) (by simp)
        have HFL := Lib.hid hfl
        clear hfl
        obtain ⟨wo, rfl⟩ : ∃ wo : World, wo = wr := ⟨_, rfl⟩
        go_wp2
        go_loopg [12, 44] n (fun g s12 s44 wr => ∃ k : Nat, k + g = n ∧ s44 = .int .i64 k ∧ Hid (QI wr W0.heap.size s12 (Kn.free0 many k)) ∧ Hid (QI wr W0.heap.size (.slice (some ⟨bm, 0, none⟩) n n) many) ∧ Hid (QI wr W0.heap.size (.slice (some ⟨bd, 0, none⟩) n n) (List.replicate n 0)) ∧ Hid (Below W0.heap.size W0 wr) ∧ Hid (∀ j, s12.ownBlock = some j → j ≠ bm ∧ j ≠ bd))
        case atStart => exact ⟨0, by omega, rfl, QI_of_R (Kd.R_nil (Kd.int .i64) 3 _ _ (fun _ => True)), HM, HD, HB, fun j hj => by cases hj⟩
        case round =>
          clear HM HD HB
          obtain ⟨k, hkg, rfl, HF, HM, HD, HB, HA⟩ := hrel
          cases gk with
          | zero =>
            obtain rfl : k = n := by omega
            obtain ⟨wo2, rfl⟩ : ∃ wo2 : World, wo2 = wr := ⟨_, rfl⟩
            go_wp2
            go_loopg [12, 13] k (fun g s12 s13 wr => ∃ free order many depths, order.length + g = k ∧ Hid (QI wr W0.heap.size s12 free) ∧ Hid (QI wr W0.heap.size s13 order) ∧ Hid (QI wr W0.heap.size (.slice (some ⟨bm, 0, none⟩) k k) many) ∧ Hid (QI wr W0.heap.size (.slice (some ⟨bd, 0, none⟩) k k) depths) ∧ Hid (Below W0.heap.size W0 wr) ∧ Hid (∀ j, s12.ownBlock = some j → j ≠ bm ∧ j ≠ bd) ∧ Hid (∀ j, s13.ownBlock = some j → j ≠ bm ∧ j ≠ bd ∧ some j ≠ s12.ownBlock) ∧ Hid (depths.length = k ∧ Kn.Inv k (wsOf l) order free many []))
            case atStart => exact ⟨_, [], many, List.replicate k 0, by simp, HF, QI_of_R (Kd.R_nil (Kd.int .i64) 3 _ _ (fun _ => True)), HM, HD, HB, HA, Lib.hid (fun j hj => by cases hj), Lib.hid ⟨by simp, HST.out⟩⟩
            case round =>
              clear HF HM HD HB HA HST HFL HC
              obtain ⟨free, order, mn, dp, hog, HF, HO, HM, HD, HB, HA, HA2, HI⟩ := hrel
              have hbd := HI.out.2.bound
              cases free with
              | nil =>
                obtain ⟨A1, c1, rfl, _⟩ := q_slice HF.out
                obtain ⟨A2, c2, rfl, _⟩ := q_slice HO.out
                go_wp2
                go_ret3
                exact ⟨_, .slice (some ⟨bd, 0, none⟩) k k, order, mn, rfl, q_lower HO.out HB0.out.size, HB0.out.trans (HB.out.mono HB0.out.size), HI.out.2⟩
              | cons x fr =>
                have HOG := Lib.hid (And.intro hog hbd)
                have hxr := HI.out.2.rng x (by simp)
                obtain ⟨xn, rfl⟩ := Int.eq_ofNat_of_zero_le hxr.1
                have hxk : xn < k := by omega
                obtain ⟨gf, of, cf, rfl, hbf, hgf, cells, hcells⟩ := Kd.Q_form (Q_of_QI HF.out) (by simp)
                have hxc := (Kd.Q_cell (enc := Value.int .i64) (h1 := fun _ => rfl) 0 (Q_of_QI HF.out) 0 (by omega) (by simp)).1
                have hxc : wr.cell? ⟨gf, of, none⟩ = some (.int .i64 (xn : Int)) := by simpa [rdOf] using hxc
                obtain ⟨i0, hi0, _, hsz0, _⟩ := info_parts info3
                have hcut := cut_from (P := Try.prog) 26 3 .i64 Try.underlying26 hi0 1 hsz0 (some ⟨gf, of, none⟩) (fr.length + 1) cf 1 (by omega) (by omega)
                have hdrop := Kd.Q_drop (k := 1) (Q_of_QI HF.out) (by simp)
                have hown : ∀ (A : Option Addr), A = (if cf = 1 then some (⟨gf, of, none⟩ : Addr) else (some (⟨gf, of, none⟩ : Addr)).map (·.add (1 * 1))) → ∀ m c', (Value.slice A m c').ownBlock = some gf := by
                  intro A hA m c'
                  subst hA
                  split
                  · rfl
                  · simp only [Option.map_some, addr_add]; rfl
                generalize hA1 : (if cf = 1 then some (⟨gf, of, none⟩ : Addr) else (some (⟨gf, of, none⟩ : Addr)).map (·.add (1 * 1))) = A1 at hown
                have hcut1 : ∀ W : World, (Instr.slice 26 (.slice (some ⟨gf, of, none⟩) (fr.length + 1) cf) (some (.int .i64 1)) none none).run Try.prog W = .ok (.slice A1 fr.length (cf - 1)) W := by
                  intro W; rw [← hA1]; exact hcut W
                have HF1 : Hid (QI wr W0.heap.size (.slice A1 fr.length (cf - 1)) fr) := by
                  have := QI_of_Q hdrop
                  rw [show (1 * (Kd.int .i64).sz) = 1 * 1 from rfl, hA1] at this
                  exact this
                have HW1 := Lib.hid (hown A1 rfl fr.length (cf - 1))
                have HA1' := Lib.hid (show ∀ j, (Value.slice A1 fr.length (cf - 1)).ownBlock = some j → j ≠ bm ∧ j ≠ bd from fun j hj => HA.out j (by rw [HW1.out] at hj; cases hj; rfl))
                have HA2' := Lib.hid (show ∀ j, u13.ownBlock = some j → j ≠ bm ∧ j ≠ bd ∧ some j ≠ (Value.slice A1 fr.length (cf - 1)).ownBlock from fun j hj => by rw [HW1.out]; exact HA2.out j hj)
                obtain ⟨ad, At1, ct1, hAt, hxt, hlt, hCt⟩ := at_L2 (Kd.S_reads' HS0.out).2.2 (xn : Int) (by omega) (by rw [HTO.out]; omega)
                have hys := HTS.out xn hxk
                generalize rd_L2 tl (xn : Int) = ys at hxt hlt hCt hys
                cases hAt
                rw [show ((xn : Int)).toNat = xn by omega] at hxt
                have hadb := World.block_lt_of_cell? W0 _ hxt
                have HXT := Lib.hid (And.intro hxt hadb)
                have HCT := Lib.hid hCt
                have HYS := Lib.hid hys
                have hsz := HB.out.size
                have hxi0 : (0 : Int) ≤ (xn : Int) := by omega
                have hxi1 : (xn : Int) < (tl.length : Int) := by rw [HTO.out]; omega
                have hxn1 : xn < tl.length := by rw [HTO.out]; omega
                have hol : order.length ≤ 1000000 := by omega
                have HM1 := Lib.hid (And.intro hsz (And.intro hol (And.intro (QI_base HM.out).2 (QI_base HD.out).2)))
                clear hys hxt hadb hCt hsz hol hdrop hcut hcells hi0 hsz0 hA1 hown hlt
                have HP := Lib.hid HI.out.2.pop
                simp only [List.length_cons] at *
                go_wp2_with (at_builtin; refine app_QI rfl (.tmp 64) (.tmp 66) rfl (w0 := W0) W0.heap.size _ order (xn : Int) rfl rfl HO.out HB.out HM1.out.1 HM1.out.2.1 ?_; intro v1 w1 ho hb hg hat; have hxt1 := (hb.cell HXT.out.2).trans HXT.out.1; have HQ1 := Lib.hid (And.intro ho (And.intro hb (And.intro hg hat))); clear ho hb hg hat)
                obtain ⟨wo3, rfl⟩ : ∃ wo3 : World, wo3 = wr := ⟨_, rfl⟩
                obtain ⟨gko, rfl⟩ : ∃ gko : Nat, gko = gk := ⟨_, rfl⟩
                go_loopg [12, 73] ys.length (fun g s12 s73 wr => ∃ j free mn dp, j + g = ys.length ∧ s73 = .int .i64 (j : Nat) ∧ Hid (QI wr W0.heap.size s12 free) ∧ Hid (QI wr W0.heap.size v1 (order ++ [(xn : Int)])) ∧ Hid (QI wr W0.heap.size (.slice (some ⟨bm, 0, none⟩) k k) mn) ∧ Hid (QI wr W0.heap.size (.slice (some ⟨bd, 0, none⟩) k k) dp) ∧ Hid (Below W0.heap.size W0 wr) ∧ Hid (∀ j, s12.ownBlock = some j → j ≠ bm ∧ j ≠ bd) ∧ Hid (∀ j, v1.ownBlock = some j → j ≠ bm ∧ j ≠ bd ∧ some j ≠ s12.ownBlock) ∧ Hid (dp.length = k ∧ Kn.Inv k (wsOf l) (order ++ [(xn : Int)]) free mn (ys.drop j)))
                case atStart =>
                  refine ⟨0, fr, mn, dp, by omega, rfl, ?_, HQ1.out.1, ?_, ?_, HQ1.out.2.1, HA1', ?_, Lib.hid ⟨HI.out.1, by rw [HYS.out]; exact HP.out⟩⟩
                  · exact QI_grown HF1.out HQ1.out.2.2.1 (fun j hj e => by
                      have := (HA2'.out j e.symm).2.2
                      exact this (by rw [← hj]))
                  · exact QI_grown HM.out HQ1.out.2.2.1 (fun j hj e => (HA2.out j e.symm).1 (by cases hj; rfl))
                  · exact QI_grown HD.out HQ1.out.2.2.1 (fun j hj e => (HA2.out j e.symm).2.1 (by cases hj; rfl))
                  · intro j hj
                    rcases HQ1.out.2.2.2 with h3 | ⟨b, h3, h4⟩
                    · exact HA2'.out j (h3 ▸ hj)
                    · rw [h3] at hj
                      cases hj
                      have h5 := HM1.out.2.2
                      have h6 := q_lt HF1.out _ HW1.out
                      refine ⟨by omega, by omega, ?_⟩
                      rw [HW1.out]
                      intro e; have := Option.some.inj e; omega
                case round =>
                  clear HF1 HW1 HA1' HA2' HQ1 HM1 HF HO HM HD HB HA HA2 HI hbd hcut1 hxc HP hxt1
                  obtain ⟨j, free, mn2, dp2, hjg, rfl, HF, HO, HM, HD, HB, HA, HA2, HI⟩ := hrel
                  cases gk with
                  | zero =>
                    obtain rfl : j = ys.length := by omega
                    clear hog
                    go_wp2
                    have hog := HOG.out.1
                    have hbd := HOG.out.2
                    go_roundg (gko - 1)
                    case measure => omega
                    case rel =>
                      refine ⟨free, order ++ [(xn : Int)], mn2, dp2, by simp; omega, HF, HO, HM, HD, HB, HA, HA2, Lib.hid ⟨HI.out.1, ?_⟩⟩
                      have := HI.out.2
                      rwa [List.drop_length] at this
                  | succ g2 =>
                    have hjl : j < ys.length := by omega
                    have HJ := Lib.hid hjg
                    have hjb : j < 1048576 := by
                      have h1 := HL.out
                      have h2 : (wsOf l).length = l.length := by simp [wsOf]
                      have h3 : ys.length ≤ (wsOf l).length := by
                        rw [HYS.out]; unfold Kn.tos; rw [List.length_map]
                        exact List.length_filter_le _ _
                      omega
                    obtain ⟨ad2, hAt2, hyc⟩ := Kd.at_int HCT.out (j : Int) (by omega) (by omega)
                    cases hAt2
                    rw [show ((j : Int)).toNat = j by omega] at hyc
                    have hyj : rd ys (j : Int) = ys[j] := by unfold rd; simp [hjl]
                    rw [hyj] at hyc
                    have hdr : ys.drop j = ys[j] :: ys.drop (j + 1) := List.drop_eq_getElem_cons hjl
                    have hyr : 0 ≤ ys[j] ∧ ys[j] < k := by
                      have hm : ys[j] ∈ Kn.tos (wsOf l) xn := by rw [← HYS.out]; exact List.getElem_mem hjl
                      unfold Kn.tos wsOf at hm
                      obtain ⟨p, hp, e⟩ := List.mem_map.1 hm
                      obtain ⟨s, hs, rfl⟩ := List.mem_map.1 (List.mem_filter.1 hp).1
                      have := (HIN.out s hs).2
                      rw [← e]; exact this
                    have hI := HI.out.2
                    rw [hdr] at hI
                    generalize ys[j] = y at hyc hyr hI hdr
                    have hdpl := HI.out.1
                    obtain ⟨y, rfl⟩ := Int.eq_ofNat_of_zero_le hyr.1
                    have hyk : y < k := by omega
                    have hmn := hI.many_eq y hyk
                    have hml := hI.many_le y hyk
                    have hyl : y < mn2.length := by rw [hI.len]; exact hyk
                    have hcs : 1 ≤ mn2.getD y 0 := by rw [hmn, List.count_cons_self]; omega
                    have hub : mn2.getD y 0 ≤ 10000000 := by
                      have h1 := HL.out
                      have h2 : (wsOf l).length = l.length := by simp [wsOf]
                      have h3 : ((y : Int) :: ys.drop (j + 1)).length ≤ l.length := by
                        rw [← hdr]
                        refine Nat.le_trans (by rw [List.length_drop]; omega : _ ≤ ys.length) ?_
                        rw [HYS.out]; unfold Kn.tos; rw [List.length_map]
                        exact Nat.le_trans (List.length_filter_le _ _) (by rw [h2]; exact Nat.le_refl _)
                      omega
                    obtain ⟨hmc, hmf⟩ := QI_cell HM.out y hyl
                    obtain ⟨hdc, hdf⟩ := QI_cell HD.out y (by omega)
                    obtain ⟨hdx, _⟩ := QI_cell HD.out xn (by omega)
                    have HI2 := Lib.hid hI
                    generalize hmv : mn2.getD y 0 = mv at hmc hcs hub
                    generalize dp2.getD y 0 = dy at hdc
                    generalize dp2.getD xn 0 = dx at hdx
                    have HMV := Lib.hid hmv
                    have hyc1 := (HB.out.cell (World.block_lt_of_cell? W0 _ hyc)).trans hyc
                    have hxi0 : (0 : Int) ≤ (xn : Int) := by omega
                    have hxi1 : (xn : Int) < (k : Int) := by omega
                    have hyi0 : (0 : Int) ≤ (y : Int) := by omega
                    have hyi1 : (y : Int) < (k : Int) := by omega
                    have HYL := Lib.hid (And.intro hyl (And.intro hyk hdpl))
                    clear hI hmn hml hyj hdr hmv hyl hdpl hyc hjg hog
                    go_upto_region 22 with fail
                    go_cut [12, 13] (fun v12 v13 wx => v12 = u12 ∧ v13 = v1 ∧ ∃ z : Int, Hid (∃ q, wx = (wr.drewN q).setCell ⟨bd, y, none⟩ (.int .i64 z)))
                    case first =>
                      go_region
                      all_goals (go_wp2_with fail; go_meet; exact ⟨rfl, rfl, _, Lib.hid ⟨1, rfl⟩⟩)
                    case rest =>
                      obtain ⟨rfl, rfl, z, HZ2⟩ := hcut
                      obtain ⟨q, hwx⟩ := HZ2.out
                      have hbdr : Below wr.heap.size wr (wr.drewN q) := pw_below_drewN (Below.refl _ _) q
                      have q1 := QI_put (QI_below HD.out hbdr) y (by rw [HYL.out.2.2]; exact HYL.out.2.1) z
                      rw [← hwx] at q1
                      have HD2 := Lib.hid q1.1
                      have HF2 := Lib.hid (QI_grown (QI_below HF.out hbdr) q1.2 (fun j hj e => (HA.out j hj).2 (Option.some.inj e)))
                      have HO2 := Lib.hid (QI_grown (QI_below HO.out hbdr) q1.2 (fun j hj e => (HA2.out j hj).2.1 (Option.some.inj e)))
                      have HM2 := Lib.hid (QI_grown (QI_below HM.out hbdr) q1.2 (fun j hj e => by cases hj; exact hne (Option.some.inj e)))
                      have HB2 : Hid (Below W0.heap.size W0 wc) := by
                        rw [hwx]; exact (pw_below_drewN HB.out q).setCell (p := ⟨bd, y, none⟩) (QI_base HD.out).1 _
                      obtain ⟨hmc2, hmf2⟩ := QI_cell HM2.out y HYL.out.1
                      rw [HMV.out] at hmc2
                      clear q1 hbdr hwx HZ2 HD HF HO HM HB hmc hmf hdc hdf hdx hyc1
                      have q2 := QI_put HM2.out y HYL.out.1 (mv - 1)
                      have HM3 := Lib.hid q2.1
                      have HF3 := Lib.hid (QI_grown HF2.out q2.2 (fun j hj e => (HA.out j hj).1 (Option.some.inj e)))
                      have HO3 := Lib.hid (QI_grown HO2.out q2.2 (fun j hj e => (HA2.out j hj).1 (Option.some.inj e)))
                      have HD3 := Lib.hid (QI_grown HD2.out q2.2 (fun j hj e => by cases hj; exact hne (Option.some.inj e).symm))
                      have HB3 := Lib.hid (HB2.out.setCell (p := ⟨bm, y, none⟩) (QI_base HM2.out).1 (.int .i64 (mv - 1)))
                      have hbs1 := (QI_base HM3.out).2
                      have hbs2 := (QI_base HD3.out).2
                      have HSZ := Lib.hid (And.intro hbs1 hbs2)
                      clear q2 hbs1 hbs2 HM2 HF2 HO2 HD2 HB2
                      by_cases h0 : mv = 1
                      · have hb0 : (mv - 1 == 0) = true := by simp [h0]
                        have hfl : free.length ≤ 1000000 := by have := HI2.out.bound; omega
                        have hcb := bs_calls HF3.out HI2.out.sorted hfl (y : Int)
                        have hins : ∀ (q p : Nat), p ≤ free.length → Calls Try.prog 28 #[u12, .int .i64 p, .slice (some ⟨wc.heap.size, 0, none⟩) 1 1] (((wc.setCell ⟨bm, y, none⟩ (.int .i64 (mv - 1))).drewN q).alloc (.cells #[.int .i64 (y : Int)] 3))
                            fun e W' => ∃ v', e = .returned v' ∧ QI W' W0.heap.size v' (free.take p ++ (y : Int) :: free.drop p) ∧ (((wc.setCell ⟨bm, y, none⟩ (.int .i64 (mv - 1))).drewN q).alloc (.cells #[.int .i64 (y : Int)] 3)).grownBy W' u12.ownBlock ∧ (v'.ownBlock = u12.ownBlock ∨ ∃ b, v'.ownBlock = some b ∧ (((wc.setCell ⟨bm, y, none⟩ (.int .i64 (mv - 1))).drewN q).alloc (.cells #[.int .i64 (y : Int)] 3)).heap.size ≤ b) := by
                          intro q p hp
                          have hB : Below (wc.setCell ⟨bm, y, none⟩ (.int .i64 (mv - 1))).heap.size (wc.setCell ⟨bm, y, none⟩ (.int .i64 (mv - 1))) (((wc.setCell ⟨bm, y, none⟩ (.int .i64 (mv - 1))).drewN q).alloc (.cells #[.int .i64 (y : Int)] 3)) := (pw_below_drewN (Below.refl _ _) q).alloc (Nat.le_of_eq (by simp)) _
                          refine ins_calls (QI_below HF3.out hB) p hp wc.heap.size (y : Int) ?_ ?_ hfl ?_
                          · have := heap_alloc_new ((wc.setCell ⟨bm, y, none⟩ (.int .i64 (mv - 1))).drewN q) (.cells #[.int .i64 (y : Int)] 3)
                            simpa using this
                          · intro e
                            have := q_lt HF3.out _ e
                            simp at this
                          · have := HB3.out.size
                            simp at this ⊢; omega
                        have HINS := Lib.hid hins
                        clear h0 hins hfl
                        go_wp2_with fail
                        refine hcb.mono ?_
                        rintro e w' ⟨p, b, q, rfl, rfl, hp1, hp2, hp3⟩
                        have HP3 := Lib.hid (And.intro hp1 (And.intro hp2 hp3))
                        clear hp1 hp2 hp3 hcb
                        go_wp2_with fail
                        refine (HINS.out q p HP3.out.1).mono ?_
                        rintro e w5 ⟨v5, rfl, hq5, hg5, ha5⟩
                        have HQ5 := Lib.hid (And.intro hq5 (And.intro hg5 ha5))
                        clear hq5 hg5 ha5
                        go_wp2_with fail
                        go_roundg g2
                        case measure => omega
                        case rel =>
                          have hjg := HJ.out
                          have hB : Below (wc.setCell ⟨bm, y, none⟩ (.int .i64 (mv - 1))).heap.size (wc.setCell ⟨bm, y, none⟩ (.int .i64 (mv - 1))) (((wc.setCell ⟨bm, y, none⟩ (.int .i64 (mv - 1))).drewN q).alloc (.cells #[.int .i64 (y : Int)] 3)) := (pw_below_drewN (Below.refl _ _) q).alloc (Nat.le_of_eq (by simp)) _
                          have h1 := HSZ.out.1
                          have h2 := HSZ.out.2
                          have h3 := hB.size
                          have h4 := HB3.out.size
                          have hput := HI2.out.put (y := (y : Int)) ⟨by omega, by omega⟩ (by rw [show ((y : Int)).toNat = y by omega, HMV.out]; simpa using hb0) p HP3.out.1 HP3.out.2.1 HP3.out.2.2
                          rw [show ((y : Int)).toNat = y by omega, HMV.out] at hput
                          refine ⟨j + 1, free.take p ++ (y : Int) :: free.drop p, mn2.set y (mv - 1), dp2.set y z, by omega, by go_num, HQ5.out.1,
                            QI_grown (QI_below HO3.out hB) HQ5.out.2.1 (fun i hi e => (HA2.out i hi).2.2 e),
                            QI_grown (QI_below HM3.out hB) HQ5.out.2.1 (fun i hi e => (HA.out i e.symm).1 (by cases hi; rfl)),
                            QI_grown (QI_below HD3.out hB) HQ5.out.2.1 (fun i hi e => (HA.out i e.symm).2 (by cases hi; rfl)), ?_, ?_, ?_, Lib.hid ⟨by rw [List.length_set]; exact HYL.out.2.2, hput⟩⟩
                          · refine (HB3.out.trans (hB.mono h4)).grown HQ5.out.2.1 (by omega) (fun i hi => ?_)
                            exact (q_typed HF3.out i hi).1
                          · intro i hi
                            rcases HQ5.out.2.2 with h5 | ⟨b', h5, h6⟩
                            · exact HA.out i (h5 ▸ hi)
                            · rw [h5] at hi; cases hi
                              exact ⟨by omega, by omega⟩
                          · intro i hi
                            refine ⟨(HA2.out i hi).1, (HA2.out i hi).2.1, ?_⟩
                            rcases HQ5.out.2.2 with h5 | ⟨b', h5, h6⟩
                            · rw [h5]; exact (HA2.out i hi).2.2
                            · rw [h5]
                              have h7 := q_lt HO3.out i hi
                              intro e; have := Option.some.inj e; omega
                      · have hb0 : (mv - 1 == 0) = false := by simp; omega
                        go_wp2_with fail
                        go_roundg g2
                        case measure => omega
                        case rel =>
                          have hjg := HJ.out
                          refine ⟨j + 1, free, mn2.set y (mv - 1), dp2.set y z, by omega, by go_num, HF3, HO3, HM3, HD3, HB3, HA, HA2, Lib.hid ⟨by rw [List.length_set]; exact HYL.out.2.2, ?_⟩⟩
                          have := HI2.out.keep (y := (y : Int)) ⟨by omega, by omega⟩ (by rw [show ((y : Int)).toNat = y by omega, HMV.out]; omega)
                          rw [show ((y : Int)).toNat = y by omega, HMV.out] at this
                          exact this
          | succ g =>
            have hkn : k < n := by omega
            have hkb : k < 4096 := by omega
            obtain ⟨hm1, hm2⟩ := QI_cell HM.out k (by rw [HC.out.1]; exact hkn)
            have hfs := Kn.free0_succ many k
            have hflk := HFL.out k (by omega)
            generalize hmv : many.getD k 0 = mv at hm1 hfs
            have HFS := Lib.hid hfs
            have hbs := (QI_base HM.out).2
            have hbs2 := (QI_base HD.out).2
            have hsz := HB.out.size
            have HSZ := Lib.hid (And.intro hbs (And.intro hbs2 (And.intro hsz hflk)))
            clear hfs hm2 hmv hbs hbs2 hsz hflk
            by_cases h0 : mv = 0
            · have hb0 : (mv == 0) = true := by simp [h0]
              have HFS2 := Lib.hid (show Kn.free0 many (k + 1) = Kn.free0 many k ++ [(k : Int)] by rw [HFS.out, if_pos h0])
              clear h0
              go_wp2_with (at_builtin; refine app_QI rfl (.tmp 51) (.tmp 53) rfl (w0 := W0) W0.heap.size _ (Kn.free0 many k) (k : Int) rfl rfl HF.out HB.out HSZ.out.2.2.1 (Nat.le_trans HSZ.out.2.2.2 (by omega)) ?_; intro v1 w1 ho hb hg hat; have HQ1 := Lib.hid (And.intro ho (And.intro hb (And.intro hg hat))); clear ho hb hg hat)
              go_roundg g
              case measure => omega
              case rel =>
                refine ⟨k + 1, by omega, by go_num, by rw [HFS2.out]; exact HQ1.out.1, QI_grown HM.out HQ1.out.2.2.1 (fun j hj e => (HA.out j e.symm).1 (by cases hj; rfl)), QI_grown HD.out HQ1.out.2.2.1 (fun j hj e => (HA.out j e.symm).2 (by cases hj; rfl)), HQ1.out.2.1, fun j hj => ?_⟩
                have h1 := HSZ.out.1
                have h2 := HSZ.out.2.1
                rcases HQ1.out.2.2.2 with h3 | ⟨b, h3, h4⟩
                · exact HA.out j (h3 ▸ hj)
                · rw [h3] at hj
                  cases hj
                  exact ⟨by omega, by omega⟩
            · have hb0 : (mv == 0) = false := by simp [h0]
              have HFS2 := Lib.hid (show Kn.free0 many (k + 1) = Kn.free0 many k by rw [HFS.out, if_neg h0, List.append_nil])
              clear h0
              go_wp2
              go_roundg g
              case measure => omega
              case rel => exact ⟨k + 1, by omega, by go_num, by rw [HFS2.out]; exact HF.out, HM.out, HD.out, HB.out, HA.out⟩
      | succ g =>
        have hk : k < l.length := by omega
        have hkb : k < 1048576 := by have := HL.out; omega
        obtain ⟨ad, e, hx0, hx1⟩ := at_T42 HR.out (k : Int) (by omega) (by omega)
        have hxj : rd_T42 l (k : Int) = l[k] := by unfold rd_T42; simp [hk]
        have hri := HIN.out l[k] (List.getElem_mem hk)
        have hwl := congrArg (fun f : Nat => f) (rfl : n = n)
        have htk : (wsOf l).take (k + 1) = (wsOf l).take k ++ [(l[k].f0, l[k].f1)] := by
          unfold wsOf
          rw [← List.map_take, ← List.map_take, List.take_succ_eq_append_getElem hk, List.map_append]; rfl
        rw [hxj] at hx0 hx1
        rw [show ((k : Int)).toNat = k by omega] at hx0 hx1
        replace hx0 := (HB.out.cell (by have := World.block_lt_of_cell? w _ hx0; have := HB0.out.size; omega)).trans ((HB0.out.cell (World.block_lt_of_cell? w _ hx0)).trans hx0)
        replace hx1 := (HB.out.cell (by have := World.block_lt_of_cell? w _ hx1; have := HB0.out.size; omega)).trans ((HB0.out.cell (World.block_lt_of_cell? w _ hx1)).trans hx1)
        cases e
        generalize l[k] = x at hx0 hx1 hri htk
        obtain ⟨x0, x1⟩ := x
        obtain ⟨⟨hr1, hr2⟩, hr3, hr4⟩ := hri
        simp only at hx0 hx1 hr1 hr2 hr3 hr4 htk
        obtain ⟨y, rfl⟩ := Int.eq_ofNat_of_zero_le hr3
        have hyn : y < n := by omega
        have hyl : y < many.length := by rw [HC.out.1]; exact hyn
        obtain ⟨hm1, hm2⟩ := QI_cell HM.out y hyl
        have hmv := HC.out.2 y hyn
        have hcl := Kn.cnt_le ((wsOf l).take k) [] y
        have hcl2 : ((wsOf l).take k).length ≤ 1048576 := by have := HL.out; rw [List.length_take]; simp [wsOf]; omega
        have hbl := (QI_base HM.out).2
        generalize hmvE : many.getD y 0 = mv at hm1 hmv
        have hmv0 : 0 ≤ mv := by omega
        have hmv1 : mv ≤ 1048576 := by omega
        have HV := Lib.hid (And.intro hmvE hmv)
        have hm1' : (wr.alloc (.cells #[.int .i64 x0, .int .i64 (y : Int)] 42)).cell? ⟨bm, y, none⟩ = some (.int .i64 mv) := (World.cell?_alloc_lt _ _ ⟨bm, y, none⟩ hbl).trans hm1
        have hm2' : (wr.alloc (.cells #[.int .i64 x0, .int .i64 (y : Int)] 42)).frozen? ⟨bm, y, none⟩ = false := (World.frozen?_alloc_old _ _ ⟨bm, y, none⟩ (Nat.ne_of_lt hbl)).trans hm2
        have HT := Lib.hid htk
        have HY := Lib.hid (And.intro hyn hyl)
        have hyi0 : (0 : Int) ≤ (y : Int) := by omega
        have hyi1 : (y : Int) < (n : Int) := by omega
        have HB9 := Lib.hid hbl
        clear hmvE hmv htk hm1 hm2 hcl hcl2 hr3 hr4 hr1 hr2 hwl hxj hyl hbl
        go_wp2
        go_roundg g
        case measure => omega
        case rel =>
          have hsz := HB.out.size
          have hA : Below wr.heap.size wr (wr.alloc (.cells #[.int .i64 x0, .int .i64 (y : Int)] 42)) := (Below.refl _ wr).alloc (Nat.le_refl _) _
          have q1 := QI_put (QI_below HM.out hA) y HY.out.2 (mv + 1)
          have q2 := QI_grown (QI_below HD.out hA) q1.2 (fun j hj => by cases hj; intro e; exact hne (Option.some.inj e).symm)
          refine ⟨k + 1, many.set y (mv + 1), by omega, by go_num, q1.1, q2, (HB.out.alloc hsz _).setCell (QI_base HM.out).1 _, ?_, fun z hz => ?_⟩
          · rw [List.length_set]; exact HC.out.1
          · rw [Kn.set_getD _ _ _ _ HY.out.2, HT.out, Kn.cnt_snoc]
            by_cases e : z = y
            · subst e
              rw [if_pos rfl, HV.out.2]; simp
            · rw [if_neg e, HC.out.2 z hz, if_neg (by simp; omega)]; simp
end Go.Proofs.Ytkhemmeedklofaa.Pr
