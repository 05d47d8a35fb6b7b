/- ReachAway: the printed law answers true for every hosts. -/
import Derived.Test.YtkhemmeedklofaaPureA
import Derived.Test.YtkhemmeedklofaaPr9
namespace Go.Proofs.Ytkhemmeedklofaa.Pr
open Go Go.RowKit
open Go.Proofs.YtkhemmeedklofaaW.PrintWords Go.Proofs.YtkhemmeedklofaaW.PrintLast Go.Proofs.YtkhemmeedklofaaW.PrintMore
set_option linter.unusedVariables false
set_option linter.unusedSimpArgs false
set_option linter.unusedSectionVars false

section
variable (ps : List (List Int)) (fs : List Bool) (more : Int) (h1 : ps.length ≤ 1024) (h2 : ps.length = fs.length) (h3 : good ps) (h4 : AcyP ps) (h5 : ∀ j : Nat, j < ps.length → (rd_L2 ps (j : Int)).length ≤ 1000000)
/-- with one more that failed nothing comes up -/
theorem worse_state {fs' : List Bool} (hg : good ps) (hw : ∀ j, fs.getD j false = true → fs'.getD j false = true) (i : Nat) (hi : i < ps.length) :
    (stateOf ps fs i ≠ 0 → stateOf ps fs' i ≠ 0) ∧ (stateOf ps fs i = 3 → stateOf ps fs' i = 3) := by
  refine ⟨fun h e => ?_, fun h => ?_⟩
  · rw [state_pos] at e
    apply h
    rw [state_pos]
    cases hf : fs.getD i false with
    | false => rfl
    | true => rw [hw i hf] at e; cases e
  · unfold stateOf at h ⊢
    by_cases hf : fs.getD i false = true
    · rw [if_pos hf] at h
      rw [if_pos (hw i hf)]
      by_cases hc : rd_L2 ps (i : Int) = [] ∨ ((rd_L2 ps (i : Int)).any fun p => !fs.getD p.toNat false) = true
      · rw [if_pos hc] at h; cases h
      · rw [if_neg]
        rintro (e | e)
        · exact hc (Or.inl e)
        · apply hc
          refine Or.inr ?_
          rw [List.any_eq_true] at e ⊢
          obtain ⟨p, hp, hn⟩ := e
          refine ⟨p, hp, ?_⟩
          cases hfp : fs.getD p.toNat false with
          | false => rfl
          | true => rw [hw _ hfp] at hn; cases hn
    · rw [if_neg hf] at h; cases h
theorem away_l2 (fs' : List Bool) (hg : good ps) (h1 : ps.length ≤ 1024) (hw : ∀ j, fs.getD j false = true → fs'.getD j false = true) : ∀ (d i : Nat), i + d = ps.length →
    Ev (fun k => belvederelaw19_ReachAway.l2 k (hostsOut ps fs) (hostsOut ps fs') i) true
  | 0, i, h => by
    refine Ev.step (f := fun k => (belvederelaw19_sure.f k).bind fun t160 => (some t160)) (fun k => ?_) (Ev.bind sure_ev (Ev.now _))
    simp only [belvederelaw19_ReachAway.l2]
    rw [if_neg (by rw [out_length]; omega)]
  | d + 1, i, h => by
    have hi : i < ps.length := by omega
    obtain ⟨w1, w2⟩ := worse_state ps fs hg hw i hi
    refine Ev.step (fun k => ?_) (away_l2 fs' hg h1 hw d (i + 1) (by omega))
    simp only [belvederelaw19_ReachAway.l2]
    rw [if_pos (by rw [out_length]; omega), if_pos (by omega), out_rd hi, out_rd hi, out_length, w64 (by omega) (by omega)]
    by_cases c0 : stateOf ps fs i = 0
    · rw [if_pos c0, if_neg (by omega)]; rfl
    · rw [if_neg c0, if_pos (by omega), if_neg (w1 c0)]
      by_cases c3 : stateOf ps fs i = 3
      · rw [if_pos c3, if_pos (w2 c3)]; rfl
      · rw [if_neg c3]; rfl
include h1 h2 h3 h4 h5
theorem away_end : Ev (fun k => belvederelaw19_ReachAway.l0 k ps fs more (hostsOut ps fs) ps.length) true := by
  by_cases h0 : ps.length = 0
  · refine Ev.step (f := fun k => (belvederelaw19_sure.f k).bind fun t144 => (some t144)) (fun k => ?_) (Ev.bind sure_ev (Ev.now _))
    simp only [belvederelaw19_ReachAway.l0]
    rw [if_neg (by rw [out_length]; omega), if_pos (by rw [out_length]; omega)]
  · have hu : IntKind.u64.wrap (ps.length : Int) = (ps.length : Int) := by rw [IntKind.wrap_u64]; omega
    have hm0 : 0 ≤ IntKind.u64.wrap more := by rw [IntKind.wrap_u64]; omega
    obtain ⟨x, hx⟩ : ∃ x : Nat, (x : Int) = IntKind.u64.wrap more % (ps.length : Int) := ⟨(IntKind.u64.wrap more % (ps.length : Int)).toNat, by have := Int.emod_nonneg (IntKind.u64.wrap more) (show (ps.length : Int) ≠ 0 by omega); omega⟩
    have hlt : IntKind.u64.wrap more % (ps.length : Int) < ps.length := Int.emod_lt_of_pos _ (by omega)
    have hxe : wrap64 (Int.tmod (IntKind.u64.wrap more) (ps.length : Int)) = (x : Int) := by
      rw [Int.tmod_eq_emod_of_nonneg hm0, w64 (by omega) (by omega), hx]
    have hw : ∀ j, fs.getD j false = true → (fs.set x true).getD j false = true := fun j hj => by
      rw [List.getD_eq_getElem?_getD, List.getElem?_set] at *
      by_cases e : x = j
      · rw [if_pos e, if_pos (by omega)]; rfl
      · rw [if_neg e]; exact hj
    have hf : reach_Hosts.f ps (fs.set x true) = some (hostsOut ps (fs.set x true), none) := by
      rw [hosts_f (Or.inr h5), hostsG_ok h1 (by rw [List.length_set]; exact h2) h3 h4]
    refine Ev.step (f := fun k => belvederelaw19_ReachAway.j3 k (hostsOut ps fs) (hostsOut ps (fs.set x true)) false) (fun k => ?_) (Ev.step (fun k => ?_) (away_l2 ps fs (fs.set x true) h3 h1 hw ps.length 0 (by omega)))
    · simp only [belvederelaw19_ReachAway.l0]
      rw [if_neg (by rw [out_length]; omega), if_neg (by rw [out_length]; omega), if_pos (by show 0 + fs.length < _; omega)]
      simp only [Option.bind_some, List.nil_append, out_length, hu, hxe]
      rw [if_neg (by omega), if_pos (by omega), if_pos (by omega), show ((x : Int)).toNat = x by omega, hf]
      simp only [Option.bind_some, Option.isNone_none, if_true, out_length]
      simp
    · simp only [belvederelaw19_ReachAway.j3]
      rw [if_neg (by decide)]; rfl
theorem away_j2 (i : Nat) (hi : i < ps.length) (b : Bool) (hb : stateOf ps fs i = if b = true then 2 else 3) (next : Ev (fun k => belvederelaw19_ReachAway.l0 k ps fs more (hostsOut ps fs) ((i + 1 : Nat) : Int)) true) :
    Ev (fun k => belvederelaw19_ReachAway.j2 k ps fs more (hostsOut ps fs) i 3 b) true := by
  refine Ev.step (fun k => ?_) next
  simp only [belvederelaw19_ReachAway.j2]
  rw [out_rd hi, out_length, w64 (by omega) (by omega)]
  cases b with
  | true => rw [if_pos rfl, if_pos (by omega), if_pos (by omega), if_pos (by rw [hb]; rfl)]; rfl
  | false => rw [if_neg (by decide), if_pos (by omega), if_pos (by omega), if_pos (by rw [hb]; rfl)]; rfl
theorem away_l1 (i : Nat) (hi : i < ps.length) (next : Ev (fun k => belvederelaw19_ReachAway.l0 k ps fs more (hostsOut ps fs) ((i + 1 : Nat) : Int)) true) : ∀ (d j : Nat) (some_ : Bool), j + d = (rd_L2 ps (i : Int)).length → some_ = (((rd_L2 ps (i : Int)).take j).any fun p => !fs.getD p.toNat false) →
    Ev (fun k => belvederelaw19_ReachAway.l1 k ps fs more (hostsOut ps fs) i some_ j) true
  | 0, j, sm, h, hs => by
    have hrow := h5 i hi
    rw [List.take_of_length_le (by omega)] at hs
    have hst : stateOf ps fs i = if fs.getD i false = true then (if rd_L2 ps i = [] ∨ (rd_L2 ps i).any (fun p => !fs.getD p.toNat false) = true then 2 else 3) else 0 := rfl
    have hfi : rdOf false fs (i : Int) = fs.getD i false := by unfold rdOf; simp
    rw [← hs] at hst
    by_cases hf : fs.getD i false = true
    · rw [if_pos hf] at hst
      cases sm with
      | true =>
        refine Ev.step (fun k => ?_) (away_j2 ps fs more h1 h2 h3 h4 h5 i hi true (by rw [hst, if_pos (Or.inr rfl)]; rfl) next)
        simp only [belvederelaw19_ReachAway.l1]
        rw [if_pos (by omega), if_pos (by omega), if_neg (by omega), if_pos (by omega), hfi, if_pos hf, if_pos trivial]
      | false =>
        refine Ev.step (fun k => ?_) (away_j2 ps fs more h1 h2 h3 h4 h5 i hi (((rd_L2 ps (i : Int)).length : Int) == 0) ?_ next)
        · simp only [belvederelaw19_ReachAway.l1]
          rw [if_pos (by omega), if_pos (by omega), if_neg (by omega), if_pos (by omega), hfi, if_pos hf, if_neg (by decide)]
        · rw [hst]
          by_cases he : rd_L2 ps (i : Int) = []
          · rw [if_pos (Or.inl he), he]; rfl
          · rw [if_neg (by simp [he]), if_neg (by simp [he])]
    · rw [if_neg hf] at hst
      refine Ev.step (fun k => ?_) next
      simp only [belvederelaw19_ReachAway.l1]
      rw [if_pos (by omega), if_pos (by omega), if_neg (by omega), if_pos (by omega), hfi, if_neg hf, if_pos (by rw [out_length]; omega), out_rd hi, if_pos hst, w64 (by omega) (by omega)]
      rfl
  | d + 1, j, sm, h, hs => by
    have hrow := h5 i hi
    have hj : j < (rd_L2 ps (i : Int)).length := by omega
    have htk : (((rd_L2 ps (i : Int)).take (j + 1)).any fun p => !fs.getD p.toNat false) = (sm || !fs.getD (rd_L2 ps (i : Int))[j].toNat false) := by
      rw [List.take_succ_eq_append_getElem hj, List.any_append, ← hs]; simp
    have hp := h3 i hi (rd_L2 ps (i : Int))[j] (List.getElem_mem hj)
    have hrd : rd (rd_L2 ps (i : Int)) (j : Int) = (rd_L2 ps (i : Int))[j] := by unfold rd; simp [hj]
    cases sm with
    | true =>
      refine Ev.step (fun k => ?_) (away_l1 i hi next d (j + 1) true (by omega) (by rw [htk]; rfl))
      simp only [belvederelaw19_ReachAway.l1]
      rw [if_pos (by omega), if_pos (by omega), if_pos (by omega), if_pos trivial, w64 (by omega) (by omega)]
      rfl
    | false =>
      refine Ev.step (fun k => ?_) (away_l1 i hi next d (j + 1) (!fs.getD (rd_L2 ps (i : Int))[j].toNat false) (by omega) (by rw [htk]; rfl))
      simp only [belvederelaw19_ReachAway.l1]
      rw [if_pos (by omega), if_pos (by omega), if_pos (by omega), if_neg (by decide), if_pos (by omega), hrd, if_pos hp.1, if_pos (by rw [out_length]; exact hp.2), w64 (by omega) (by omega)]
      have e : rd (hostsOut ps fs) (rd_L2 ps (i : Int))[j] = stateOf ps fs (rd_L2 ps (i : Int))[j].toNat := by
        rw [← out_rd (i := (rd_L2 ps (i : Int))[j].toNat) (by omega), show (((rd_L2 ps (i : Int))[j].toNat : Nat) : Int) = (rd_L2 ps (i : Int))[j] by omega]
      have e2 : (stateOf ps fs (rd_L2 ps (i : Int))[j].toNat == 0) = !fs.getD (rd_L2 ps (i : Int))[j].toNat false := by
        rw [Bool.eq_iff_iff, beq_iff_eq, state_pos]; simp
      rw [e, e2]
      rfl
theorem away_l0 : ∀ (d i : Nat), i + d = ps.length → Ev (fun k => belvederelaw19_ReachAway.l0 k ps fs more (hostsOut ps fs) i) true
  | 0, i, h => by
    obtain rfl : i = ps.length := by omega
    exact away_end ps fs more h1 h2 h3 h4 h5
  | d + 1, i, h => by
    refine Ev.step (fun k => ?_) (away_l1 ps fs more h1 h2 h3 h4 h5 i (by omega) (away_l0 d (i + 1) (by omega)) (rd_L2 ps (i : Int)).length 0 false (by omega) (by simp))
    simp only [belvederelaw19_ReachAway.l0]
    rw [if_pos (by rw [out_length]; omega)]
    rfl
end
theorem away_true (ps : List (List Int)) (fs : List Bool) (more : Int) : ∃ k, belvederelaw19_ReachAway.f k ps fs more = some true := by
  refine Ev.rounds ?_
  obtain ⟨b, hb, hp⟩ := huge_ev ps
  refine Ev.bind (f := fun k t128 => (if t128 = true then ((belvederelaw19_sure.f k).bind fun t129 => (some t129)) else ((reach_Hosts.f ps fs).bind fun bt130 => (if bt130.2.isNone = true then (if (bt130.1.length : Int) = (ps.length : Int) then (belvederelaw19_ReachAway.l0 k ps fs more bt130.1 0) else (some false)) else (if (bt130.1.length : Int) = 0 then ((belvederelaw19_sure.f k).bind fun t161 => (some t161)) else (some false)))))) hb ?_
  cases b with
  | true => exact Ev.congr (fun k => if_pos rfl) (Ev.bind sure_ev (Ev.now _))
  | false =>
    have hp := hp rfl
    refine Ev.congr (fun k => if_neg (by decide)) ?_
    rw [hosts_f hp]
    simp only [Option.bind_some]
    rcases hostsG_cases ps fs with ⟨c, hc⟩ | ⟨hc, h1, h2, h3, h4⟩
    · rw [hc]
      refine Ev.congr (fun k => ?_) (Ev.bind sure_ev (Ev.now true))
      simp
    · rw [hc]
      refine Ev.congr (fun k => ?_) (away_l0 ps fs more h1 h2 h3 h4 (hp.resolve_left (by omega)) ps.length 0 (by omega))
      simp [out_length]
theorem final_ReachAway (A0 : Option Addr) (c0 : Nat) (l0 : List (List Int)) (A1 : Option Addr) (c1 : Nat) (l1 : List Bool) (a2 : Int) (w : World) (hr0 : Kd.C (Kd.slice 3 (Kd.int .i64)) w A0 l0.length l0) (hc0 : l0.length ≤ c0) (hr1 : Kd.C Kd.bool w A1 l1.length l1) (hc1 : l1.length ≤ c1) (_w2 : (Lit.int IntKind.i64 a2).wf = true) :
    Calls Try.prog 3 #[.slice A0 l0.length c0, .slice A1 l1.length c1, .int .i64 a2] w fun e w' => e = .returned (.bool true) ∧ Below w.heap.size w w' := by
  obtain ⟨k, hk⟩ := away_true l0 l1 a2
  exact belvederelaw19_ReachAway.calls k A0 c0 l0 A1 c1 l1 a2 true w hr0 hc0 hr1 hc1 hk
end Go.Proofs.Ytkhemmeedklofaa.Pr
