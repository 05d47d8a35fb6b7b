/- What the printed functions of layer 21's references come to: the plain functions of 'Mac'. -/
import Derived.Test.YtdjnpjakbiehdaaDoorPr1
import Derived.Test.YtdjnpjakbiehdaaDoorPr3
import Derived.Test.YtdjnpjakbiehdaaDoorPr4
import Derived.Test.YtdjnpjakbiehdaaDoorPr6
import Derived.Test.YtdjnpjakbiehdaaDoorGExpand
import Derived.Test.YtdjnpjakbiehdaaDoorGNum
namespace Go.Proofs.YtdjnpjakbiehdaaDoor.Pr
open Go Go.RowKit
open Go.Proofs.YtdjnpjakbiehdaaDoorW.PrintWords Go.Proofs.YtdjnpjakbiehdaaDoorW.PrintLast
set_option linter.unusedVariables false

theorem w64 {x : Int} (h1 : -9223372036854775808 ≤ x) (h2 : x ≤ 9223372036854775807) : wrap64 x = x := by unfold wrap64; omega
theorem bt_nat {s : ByteArray} {i : Nat} (h : i < (bl s).length) : bt s (i : Int) = ((bl s)[i].toNat : Int) := by
  have h' : (i : Int).toNat < s.size := by have := bl_size s; omega
  unfold bt
  rw [dif_pos h']
  rfl
theorem bt_36 {s : ByteArray} {i : Nat} (h : i < (bl s).length) : bt s (i : Int) = 36 ↔ (bl s)[i] = 36 := by
  rw [bt_nat h]
  constructor
  · intro e
    have : (bl s)[i].toNat = 36 := by omega
    exact UInt8.toNat_inj.1 this
  · intro e; rw [e]; rfl
theorem drop_at {s : ByteArray} {i : Nat} (h : i < (bl s).length) : (bl s).drop i = (bl s)[i] :: (bl s).drop (i + 1) := List.drop_eq_getElem_cons h
theorem ext_one {s : ByteArray} {i : Nat} (h : i < (bl s).length) (hs : s.size ≤ 4294967296) : bl (s.extract (i : Int).toNat (wrap64 ((i : Int) + 1)).toNat) = [(bl s)[i]] := by
  have hb := bl_size s
  rw [w64 (by omega) (by omega)]
  rw [show ((i : Int) + 1).toNat = i + 1 by omega, show (i : Int).toNat = i by omega]
  unfold bl
  rw [Lib.extract_data]
  have h' : i < s.data.toList.length := h
  rw [List.drop_eq_getElem_cons h', Nat.add_sub_cancel_left]
  rfl
theorem bl_append (a b : ByteArray) : bl (a ++ b) = bl a ++ bl b := by simp [bl]

/-! ### Check -/
def chk (s : Mac.B) : Int := if s.length > 65536 then 2 else if s.count 36 % 2 = 1 then 3 else 0
theorem check_l0 (s : ByteArray) (hs : s.size ≤ 65536) : ∀ (d i n : Nat), i + d = s.size → n ≤ i →
    Ev (fun k => belvedereref21_Check.l0 k s n i) (if (n + ((bl s).drop i).count 36) % 2 = 1 then 3 else 0)
  | 0, i, n, hi, hn => by
    refine Ev.step (f := fun _ => some _) (fun k => ?_) (Ev.now _)
    simp only [belvedereref21_Check.l0]
    rw [if_neg (by omega)]
    have e : (bl s).drop i = [] := List.drop_eq_nil_of_le (by rw [bl_size]; omega)
    rw [e]
    have e2 : (Int.tmod (n : Int) 2 = 1) ↔ ((n + ([] : List UInt8).count 36) % 2 = 1) := by
      rw [Int.tmod_eq_emod_of_nonneg (by omega)]; simp; omega
    by_cases h : (n + ([] : List UInt8).count 36) % 2 = 1
    · rw [if_pos h, if_pos (e2.2 h)]
    · rw [if_neg h, if_neg (fun g => h (e2.1 g))]
  | d + 1, i, n, hi, hn => by
    have hl : i < (bl s).length := by rw [bl_size]; omega
    by_cases hc : (bl s)[i] = 36
    · refine Ev.step (f := fun k => belvedereref21_Check.l0 k s ((n + 1 : Nat) : Int) ((i + 1 : Nat) : Int)) (fun k => ?_) ?_
      · simp only [belvedereref21_Check.l0]
        rw [if_pos (by omega), if_pos (by omega), if_pos ((bt_36 hl).2 hc), w64 (by omega) (by omega), w64 (by omega) (by omega)]
        rfl
      · have := check_l0 s hs d (i + 1) (n + 1) (by omega) (by omega)
        rw [drop_at hl, hc, List.count_cons_self]
        rw [show n + (List.count 36 ((bl s).drop (i + 1)) + 1) = n + 1 + List.count 36 ((bl s).drop (i + 1)) by omega]
        exact this
    · refine Ev.step (f := fun k => belvedereref21_Check.l0 k s (n : Int) ((i + 1 : Nat) : Int)) (fun k => ?_) ?_
      · simp only [belvedereref21_Check.l0]
        rw [if_pos (by omega), if_pos (by omega), if_neg (fun g => hc ((bt_36 hl).1 g)), w64 (by omega) (by omega)]
        rfl
      · have := check_l0 s hs d (i + 1) n (by omega) (by omega)
        rw [drop_at hl, List.count_cons_of_ne (by simpa using hc)]
        exact this
theorem check_ev (s : ByteArray) : Ev (fun k => belvedereref21_Check.f k s) (chk (bl s)) := by
  have hb := bl_size s
  unfold belvedereref21_Check.f chk
  by_cases h : s.size > 65536
  · rw [if_pos (by omega)]
    refine Ev.congr (f := fun _ => some 2) (fun k => if_pos (by omega)) (Ev.now _)
  · rw [if_neg (by omega)]
    refine Ev.congr (f := fun k => belvedereref21_Check.l0 k s 0 0) (fun k => if_neg (by omega)) ?_
    have := check_l0 s (by omega) s.size 0 0 (by omega) (Nat.le_refl _)
    simpa using this

/-! ### the reference's Expand -/
def mac9 (x : S49) : Mac.B × Mac.B := (bl x.f0, bl x.f1)
def findD (name : Mac.B) (d : Mac.B) : List (Mac.B × Mac.B) → Mac.B
  | [] => d
  | (n, v) :: t => if n = name then v else findD name d t
theorem findD_V (name : Mac.B) : ∀ l, findD name [] l = Mac.findV name l
  | [] => rfl
  | (n, v) :: t => by simp only [findD, Mac.findV, findD_V name t]
theorem findD_snoc (name : Mac.B) (d : Mac.B) (m : Mac.B × Mac.B) : ∀ l, findD name d (l ++ [m]) = findD name (if m.1 = name then m.2 else d) l
  | [] => rfl
  | (n, v) :: t => by simp only [List.cons_append, findD, findD_snoc name d m t]

def xr : Option Mac.B → ByteArray × Int
  | none => (⟨#[]⟩, 2)
  | some o => (⟨o.toArray⟩, 0)

/-- a loop's call, one state on -/
theorem expand_l1 (s : ByteArray) (l : List S49) (hl : l.length ≤ 60) (out name : ByteArray) (i : Int) (r : ByteArray × Int) :
    ∀ (j : Nat) (v : ByteArray), j ≤ l.length →
      (∀ v' : ByteArray, bl v' = findD (bl name) (bl v) ((l.take j).map mac9) → Ev (fun k => belvedereref21_Expand.l1 k s l out name false i v' (-1)) r) →
      Ev (fun k => belvedereref21_Expand.l1 k s l out name false i v ((j : Int) - 1)) r
  | 0, v, hj, h => by
    have := h v rfl
    simpa using this
  | j + 1, v, hj, h => by
    have hjl : j < l.length := by omega
    have ht : (l.take (j + 1)).map mac9 = (l.take j).map mac9 ++ [mac9 l[j]] := by
      rw [List.take_succ_eq_append_getElem hjl, List.map_append]; rfl
    have hrd : rd_T49 l (j : Int) = l[j] := by unfold rd_T49; rw [show (j : Int).toNat = j by omega]; simp [hjl]
    have e1 : ((j + 1 : Nat) : Int) - 1 = (j : Int) := by omega
    rw [e1]
    have hcmp : ((rd_T49 l (j : Int)).f0.toList = name.toList) ↔ (mac9 l[j]).1 = bl name := by
      rw [hrd, Lib.toList_data, Lib.toList_data]; rfl
    by_cases hc : (mac9 l[j]).1 = bl name
    · refine Ev.step (f := fun k => belvedereref21_Expand.l1 k s l out name false i l[j].f1 ((j : Int) - 1)) (fun k => ?_) ?_
      · simp only [belvedereref21_Expand.l1]
        rw [if_pos (by omega), if_pos (by omega), if_pos (by omega), if_pos (hcmp.2 hc), hrd, w64 (by omega) (by omega)]
      · refine expand_l1 s l hl out name i r j l[j].f1 (by omega) (fun v' hv' => h v' ?_)
        rw [ht, findD_snoc, if_pos hc]
        exact hv'
    · refine Ev.step (f := fun k => belvedereref21_Expand.l1 k s l out name false i v ((j : Int) - 1)) (fun k => ?_) ?_
      · simp only [belvedereref21_Expand.l1]
        rw [if_pos (by omega), if_pos (by omega), if_pos (by omega), if_neg (fun g => hc (hcmp.1 g)), w64 (by omega) (by omega)]
      · refine expand_l1 s l hl out name i r j v (by omega) (fun v' hv' => h v' ?_)
        rw [ht, findD_snoc, if_neg hc]
        exact hv'

theorem findD_le (name : Mac.B) (n : Nat) : ∀ (l : List S49), (∀ m ∈ l, m.f1.size ≤ n) → (findD name [] (l.map mac9)).length ≤ n
  | [], _ => Nat.zero_le _
  | m :: t, h => by
    simp only [List.map_cons, mac9, findD]
    split
    · have := h m (by simp); rw [bl_size]; exact this
    · exact findD_le name n t (fun x hx => h x (List.mem_cons_of_mem _ hx))

theorem nil_36 : bl (⟨#[36]⟩ : ByteArray) = [36] := rfl
theorem nil_bl : bl (⟨#[]⟩ : ByteArray) = [] := rfl

theorem expand_l0 (s : ByteArray) (hs : s.size ≤ 65536) (l : List S49) (hl : l.length ≤ 60) (hm : ∀ m ∈ l, m.f1.size ≤ 8000) : ∀ (d i : Nat) (out name : ByteArray) (inn : Bool), i + d = s.size → out.size ≤ 65536 → name.size ≤ i →
    Ev (fun k => belvedereref21_Expand.l0 k s l out name inn i) (xr (Mac.refGo (l.map mac9) ((bl s).drop i) (bl out) (bl name) inn))
  | 0, i, out, name, inn, hi, ho, hn => by
    have hb := bl_size s
    refine Ev.step (f := fun _ => some _) (fun k => ?_) (Ev.now _)
    simp only [belvedereref21_Expand.l0]
    rw [if_neg (by omega)]
    have e : (bl s).drop i = [] := List.drop_eq_nil_of_le (by omega)
    rw [e]
    rfl
  | d + 1, i, out, name, inn, hi, ho, hn => by
    have hb := bl_size s
    have hli : i < (bl s).length := by omega
    have hbo := bl_size out
    have hbn := bl_size name
    have w1 : wrap64 ((i : Int) + 1) = ((i + 1 : Nat) : Int) := by rw [w64 (by omega) (by omega)]; rfl
    have hx := ext_one hli (by omega)
    have hxs : (s.extract (i : Int).toNat (wrap64 ((i : Int) + 1)).toNat).size = 1 := by rw [← bl_size, hx]; rfl
    rw [drop_at hli]
    by_cases hc : (bl s)[i] = 36
    · rw [hc]
      -- a mark
      refine Ev.step (f := fun k => belvedereref21_Expand.j1 k s l out name inn i false) (fun k => ?_) ?_
      · simp only [belvedereref21_Expand.l0]
        rw [if_pos (by omega), if_pos (by omega), if_pos ((bt_36 hli).2 hc)]
      cases inn
      · -- it opens
        have hg : Mac.refGo (l.map mac9) (36 :: (bl s).drop (i + 1)) (bl out) (bl name) false = Mac.refGo (l.map mac9) ((bl s).drop (i + 1)) (bl out) [] true := by
          simp only [Mac.refGo, ne_eq, not_true_eq_false, if_false, Bool.false_eq_true]
          rw [if_neg (by omega)]
        rw [hg]
        refine Ev.step (f := fun k => belvedereref21_Expand.l0 k s l out ⟨#[]⟩ true ((i + 1 : Nat) : Int)) (fun k => ?_) ?_
        · simp only [belvedereref21_Expand.j1]
          rw [if_neg (by simp), if_pos (by omega), if_pos (by omega), if_pos ((bt_36 hli).2 hc), if_neg (by simp), if_neg (by omega), w1]
        · exact expand_l0 s hs l hl hm d (i + 1) out ⟨#[]⟩ true (by omega) ho (Nat.zero_le _)
      · -- it closes
        refine Ev.step (f := fun k => belvedereref21_Expand.l1 k s l out name false i ⟨#[]⟩ (wrap64 ((l.length : Int) - 1))) (fun k => ?_) ?_
        · simp only [belvedereref21_Expand.j1]
          rw [if_neg (by simp), if_pos (by omega), if_pos (by omega), if_pos ((bt_36 hli).2 hc), if_pos trivial]
        rw [w64 (by omega) (by omega)]
        refine expand_l1 s l hl out name i _ l.length ⟨#[]⟩ (Nat.le_refl _) (fun v' hv' => ?_)
        rw [List.take_of_length_le (Nat.le_refl _), nil_bl] at hv'
        have hvs : v'.size ≤ 8000 := by rw [← bl_size, hv']; exact findD_le _ _ l hm
        rw [findD_V] at hv'
        have hname : (name.toList = ([] : List UInt8)) ↔ bl name = [] := by rw [Lib.toList_data]; rfl
        by_cases hne : bl name = []
        · have hv : Mac.valM (l.map mac9) (bl name) = [36] := by unfold Mac.valM; rw [if_pos hne]
          by_cases hbig : (bl out ++ [36]).length > 65536
          · have hg : Mac.refGo (l.map mac9) (36 :: (bl s).drop (i + 1)) (bl out) (bl name) true = none := by
              simp only [Mac.refGo, ne_eq, not_true_eq_false, if_false, if_true]
              rw [hv, if_pos hbig]
            rw [hg]
            refine Ev.step (f := fun _ => some _) (fun k => ?_) (Ev.now _)
            simp only [belvedereref21_Expand.l1]
            rw [if_neg (by omega), if_pos (hname.2 hne), if_pos (by omega), if_pos (by have := bl_size (out ++ ⟨#[36]⟩); rw [bl_append, nil_36] at this; omega)]
            rfl
          · have hg : Mac.refGo (l.map mac9) (36 :: (bl s).drop (i + 1)) (bl out) (bl name) true = Mac.refGo (l.map mac9) ((bl s).drop (i + 1)) (bl (out ++ ⟨#[36]⟩)) (bl name) false := by
              simp only [Mac.refGo, ne_eq, not_true_eq_false, if_false, if_true]
              rw [hv, if_neg hbig, bl_append, nil_36]
            have hsz : (out ++ (⟨#[36]⟩ : ByteArray)).size = (bl out ++ [36]).length := by rw [← bl_size, bl_append, nil_36]
            rw [hg]
            refine Ev.step (f := fun k => belvedereref21_Expand.l0 k s l (out ++ ⟨#[36]⟩) name false ((i + 1 : Nat) : Int)) (fun k => ?_) ?_
            · simp only [belvedereref21_Expand.l1]
              rw [if_neg (by omega), if_pos (hname.2 hne), if_pos (by omega), if_neg (by omega), w1]
            · exact expand_l0 s hs l hl hm d (i + 1) _ name false (by omega) (by omega) (by omega)
        · have hv : Mac.valM (l.map mac9) (bl name) = bl v' := by unfold Mac.valM; rw [if_neg hne, hv']
          by_cases hbig : (bl out ++ bl v').length > 65536
          · have hg : Mac.refGo (l.map mac9) (36 :: (bl s).drop (i + 1)) (bl out) (bl name) true = none := by
              simp only [Mac.refGo, ne_eq, not_true_eq_false, if_false, if_true]
              rw [hv, if_pos hbig]
            rw [hg]
            refine Ev.step (f := fun _ => some _) (fun k => ?_) (Ev.now _)
            simp only [belvedereref21_Expand.l1]
            rw [if_neg (by omega), if_neg (fun g => hne (hname.1 g)), if_pos (by omega), if_pos (by have := bl_size (out ++ v'); rw [bl_append] at this; omega)]
            rfl
          · have hg : Mac.refGo (l.map mac9) (36 :: (bl s).drop (i + 1)) (bl out) (bl name) true = Mac.refGo (l.map mac9) ((bl s).drop (i + 1)) (bl (out ++ v')) (bl name) false := by
              simp only [Mac.refGo, ne_eq, not_true_eq_false, if_false, if_true]
              rw [hv, if_neg hbig, bl_append]
            have hsz : (out ++ v').size = (bl out ++ bl v').length := by rw [← bl_size, bl_append]
            rw [hg]
            refine Ev.step (f := fun k => belvedereref21_Expand.l0 k s l (out ++ v') name false ((i + 1 : Nat) : Int)) (fun k => ?_) ?_
            · simp only [belvedereref21_Expand.l1]
              rw [if_neg (by omega), if_neg (fun g => hne (hname.1 g)), if_pos (by omega), if_neg (by omega), w1]
            · exact expand_l0 s hs l hl hm d (i + 1) _ name false (by omega) (by omega) (by omega)
    · -- no mark
      have hb36 : ¬ bt s (i : Int) = 36 := fun g => hc ((bt_36 hli).1 g)
      refine Ev.step (f := fun k => belvedereref21_Expand.j1 k s l out name inn i inn) (fun k => ?_) ?_
      · simp only [belvedereref21_Expand.l0]
        rw [if_pos (by omega), if_pos (by omega), if_neg hb36]
      cases inn
      · by_cases hbig : (bl out ++ [(bl s)[i]]).length > 65536
        · have hg : Mac.refGo (l.map mac9) ((bl s)[i] :: (bl s).drop (i + 1)) (bl out) (bl name) false = none := by
            simp only [Mac.refGo, ne_eq, hc, not_false_eq_true, if_true, Bool.false_eq_true, if_false]
            rw [if_pos hbig]
          rw [hg]
          refine Ev.step (f := fun _ => some _) (fun k => ?_) (Ev.now _)
          simp only [belvedereref21_Expand.j1]
          rw [if_neg (by simp), if_pos (by omega), if_pos (by omega), if_neg hb36, if_pos (by rw [w1]; omega), if_pos (by rw [w1]; omega), if_pos (by rw [hxs]; omega),
            if_pos (by have := bl_size (out ++ (s.extract (i : Int).toNat (wrap64 ((i : Int) + 1)).toNat)); rw [bl_append, hx] at this; omega)]
          rfl
        · have hg : Mac.refGo (l.map mac9) ((bl s)[i] :: (bl s).drop (i + 1)) (bl out) (bl name) false = Mac.refGo (l.map mac9) ((bl s).drop (i + 1)) (bl (out ++ (s.extract (i : Int).toNat (wrap64 ((i : Int) + 1)).toNat))) (bl name) false := by
            simp only [Mac.refGo, ne_eq, hc, not_false_eq_true, if_true, Bool.false_eq_true, if_false]
            rw [if_neg hbig, bl_append, hx]
          have hsz : (out ++ (s.extract (i : Int).toNat (wrap64 ((i : Int) + 1)).toNat)).size = (bl out ++ [(bl s)[i]]).length := by rw [← bl_size, bl_append, hx]
          rw [hg]
          refine Ev.step (f := fun k => belvedereref21_Expand.l0 k s l (out ++ (s.extract (i : Int).toNat (wrap64 ((i : Int) + 1)).toNat)) name false ((i + 1 : Nat) : Int)) (fun k => ?_) ?_
          · simp only [belvedereref21_Expand.j1]
            rw [if_neg (by simp), if_pos (by omega), if_pos (by omega), if_neg hb36, if_pos (by rw [w1]; omega), if_pos (by rw [w1]; omega), if_pos (by rw [hxs]; omega), if_neg (by omega), ← w1]
          · exact expand_l0 s hs l hl hm d (i + 1) _ name false (by omega) (by omega) (by omega)
      · have hg : Mac.refGo (l.map mac9) ((bl s)[i] :: (bl s).drop (i + 1)) (bl out) (bl name) true = Mac.refGo (l.map mac9) ((bl s).drop (i + 1)) (bl out) (bl (name ++ (s.extract (i : Int).toNat (wrap64 ((i : Int) + 1)).toNat))) true := by
          simp only [Mac.refGo, ne_eq, hc, not_false_eq_true, if_true]
          rw [if_neg (by omega), bl_append, hx]
        have hsz : (name ++ (s.extract (i : Int).toNat (wrap64 ((i : Int) + 1)).toNat)).size = name.size + 1 := by rw [← bl_size, bl_append, hx, List.length_append, hbn]; rfl
        rw [hg]
        refine Ev.step (f := fun k => belvedereref21_Expand.l0 k s l out (name ++ (s.extract (i : Int).toNat (wrap64 ((i : Int) + 1)).toNat)) true ((i + 1 : Nat) : Int)) (fun k => ?_) ?_
        · simp only [belvedereref21_Expand.j1]
          rw [if_pos trivial, if_pos (by omega), if_pos (by rw [w1]; omega), if_pos (by rw [w1]; omega), if_pos (by rw [hxs]; omega), if_neg (by omega), ← w1]
        · exact expand_l0 s hs l hl hm d (i + 1) out _ true (by omega) ho (by omega)

theorem expand_ev (s : ByteArray) (l : List S49) (hl : l.length ≤ 60) (hm : ∀ m ∈ l, m.f1.size ≤ 8000) :
    Ev (fun k => belvedereref21_Expand.f k s l) (⟨(Mac.expd (l.map mac9) (bl s)).1.toArray⟩, (Mac.expd (l.map mac9) (bl s)).2) := by
  have hb := bl_size s
  unfold belvedereref21_Expand.f
  refine Ev.bind (check_ev s) ?_
  rw [Mac.expd_ref _ _ []]
  unfold chk
  by_cases h1 : (bl s).length > 65536
  · rw [if_pos h1, if_pos h1]
    exact Ev.congr (fun k => if_neg (by decide)) (Ev.now _)
  rw [if_neg h1, if_neg h1]
  by_cases h2 : (bl s).count 36 % 2 = 1
  · rw [if_pos h2, if_pos h2]
    exact Ev.congr (fun k => if_neg (by decide)) (Ev.now _)
  rw [if_neg h2, if_neg h2]
  refine Ev.congr (fun k => if_pos rfl) ?_
  have := expand_l0 s (by omega) l hl hm s.size 0 ⟨#[]⟩ ⟨#[]⟩ false (by omega) (Nat.zero_le _) (Nat.zero_le _)
  rw [List.drop_zero, nil_bl] at this
  have e : ∀ o, xr o = ((⟨(Mac.res o).1.toArray⟩ : ByteArray), (Mac.res o).2) := by intro o; cases o <;> rfl
  rw [e] at this
  exact this

/-! ### huge, give, sure -/
theorem rd49 {l : List S49} {j : Nat} (h : j < l.length) : rd_T49 l (j : Int) = l[j] := by
  unfold rd_T49; rw [show (j : Int).toNat = j by omega]; simp [h]
theorem mn_le (a b : Int) : mn a b ≤ b ∧ mn a b ≤ a := by unfold mn; split <;> omega
theorem mn_ge {a b : Int} (h : 0 ≤ a) (hb : 0 ≤ b) : 0 ≤ mn a b := by unfold mn; split <;> omega
theorem mn_small {a b c : Int} (h : mn a b ≤ c) (hc : c < b) : a ≤ c := by unfold mn at h; split at h <;> omega
theorem huge_l0 (l : List S49) : ∀ (d i : Nat) (n : Int), min l.length 100 - i = d → i ≤ 100 → i ≤ l.length → 0 ≤ n → n ≤ 20000 * i → (l.length ≤ 60 → n ≤ 8000 → ∀ j, (h : j < i) → (hj : j < l.length) → l[j].f0.size ≤ 8000 ∧ l[j].f1.size ≤ 8000) →
    ∃ b, Ev (fun k => belvederelaw21_huge.l0 k l n i) b ∧ (b = false → l.length ≤ 60 ∧ ∀ m ∈ l, m.f0.size ≤ 8000 ∧ m.f1.size ≤ 8000)
  | 0, i, n, hd, hi, hl, h0, hn, hall => by
    by_cases h60 : l.length > 60
    · refine ⟨true, Ev.step (f := fun _ => some true) (fun k => ?_) (Ev.now _), fun h => by cases h⟩
      simp only [belvederelaw21_huge.l0]
      by_cases hll : (i : Int) < (l.length : Int)
      · rw [if_pos hll, if_neg (by omega), if_pos (by omega)]
      · rw [if_neg hll, if_pos (by omega)]
    · refine ⟨decide (n > 8000), Ev.step (f := fun _ => some _) (fun k => ?_) (Ev.now _), fun h => ⟨by omega, ?_⟩⟩
      · simp only [belvederelaw21_huge.l0]
        rw [if_neg (by omega), if_neg (by omega)]
      · intro m hm
        obtain ⟨j, hj, rfl⟩ := List.getElem_of_mem hm
        have : ¬ n > 8000 := of_decide_eq_false h
        exact hall (by omega) (by omega) j (by omega) hj
  | d + 1, i, n, hd, hi, hl, h0, hn, hall => by
    have hil : i < l.length := by omega
    have hi1 : i < 100 := by omega
    have a1 := mn_le (l[i].f0.size : Int) 10000
    have a2 := mn_le (l[i].f1.size : Int) 10000
    have b1 := mn_ge (a := (l[i].f0.size : Int)) (b := 10000) (by omega) (by omega)
    have b2 := mn_ge (a := (l[i].f1.size : Int)) (b := 10000) (by omega) (by omega)
    obtain ⟨b, hev, hb⟩ := huge_l0 l d (i + 1) (n + mn (l[i].f0.size : Int) 10000 + mn (l[i].f1.size : Int) 10000) (by omega) (by omega) (by omega) (by omega) (by omega) (by
      intro h60 hle j hj hjl
      by_cases hji : j = i
      · subst hji
        have c1 := mn_small (a := (l[j].f0.size : Int)) (b := 10000) (c := 8000) (by omega) (by omega)
        have c2 := mn_small (a := (l[j].f1.size : Int)) (b := 10000) (c := 8000) (by omega) (by omega)
        omega
      · exact hall h60 (by omega) j (by omega) hjl)
    refine ⟨b, Ev.step (f := fun k => belvederelaw21_huge.l0 k l (n + mn (l[i].f0.size : Int) 10000 + mn (l[i].f1.size : Int) 10000) ((i + 1 : Nat) : Int)) (fun k => ?_) hev, hb⟩
    simp only [belvederelaw21_huge.l0]
    rw [if_pos (by omega), if_pos (by omega), if_pos (by omega), rd49 hil, w64 (x := n + mn (l[i].f0.size : Int) 10000) (by omega) (by omega), w64 (by omega) (by omega), w64 (by omega) (by omega)]
    rfl
theorem huge_ev (l : List S49) : ∃ b, Ev (fun k => belvederelaw21_huge.f k l) b ∧ (b = false → l.length ≤ 60 ∧ ∀ m ∈ l, m.f0.size ≤ 8000 ∧ m.f1.size ≤ 8000) :=
  huge_l0 l _ 0 0 rfl (by omega) (by omega) (by omega) (by omega) (fun _ _ j h => absurd h (by omega))

def conv (x : S49) : S37 := ⟨x.f0, x.f1⟩
theorem mac_conv (l : List S49) : (l.map conv).map mac = l.map mac9 := by rw [List.map_map]; rfl
theorem give_l0 (l : List S49) (hl : l.length ≤ 60) : ∀ (d i : Nat), i + d = l.length → Ev (fun k => belvederelaw21_give.l0 k l ((l.take i).map conv) i) (l.map conv)
  | 0, i, hi => by
    refine Ev.step (f := fun _ => some _) (fun k => ?_) (Ev.now _)
    simp only [belvederelaw21_give.l0]
    rw [if_neg (by omega), List.take_of_length_le (by omega)]
  | d + 1, i, hi => by
    have hil : i < l.length := by omega
    refine Ev.step (f := fun k => belvederelaw21_give.l0 k l ((l.take (i + 1)).map conv) ((i + 1 : Nat) : Int)) (fun k => ?_) (give_l0 l hl d (i + 1) (by omega))
    simp only [belvederelaw21_give.l0]
    rw [if_pos (by omega), if_pos (by omega), if_pos (by simp; omega), rd49 hil, w64 (by omega) (by omega), List.take_succ_eq_append_getElem hil, List.map_append]
    rfl
theorem give_ev (l : List S49) (hl : l.length ≤ 60) : Ev (fun k => belvederelaw21_give.f k l) (l.map conv) := by
  have := give_l0 l hl l.length 0 (by omega)
  simpa [belvederelaw21_give.f] using this

theorem sure_true : belvederelaw21_sure.f = some true := by
  unfold belvederelaw21_sure.f macro_Expand.f
  have e : Mac.expd ([(⟨⟨#[72]⟩, ⟨#[97]⟩⟩ : S37), ⟨⟨#[83]⟩, ⟨#[117, 112]⟩⟩].map mac) (bl ⟨#[36, 72, 36, 32, 105, 115, 32, 36, 83, 36, 58, 32, 36, 36, 53]⟩) = ([97, 32, 105, 115, 32, 117, 112, 58, 32, 36, 53], 0) := by decide +kernel
  rw [e]
  simp [Lib.toList_data]
end Go.Proofs.YtdjnpjakbiehdaaDoor.Pr
