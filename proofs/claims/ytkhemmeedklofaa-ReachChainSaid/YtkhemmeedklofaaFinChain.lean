/- ReachChain: the printed law answers true for every two numbers. -/
import Derived.Test.YtkhemmeedklofaaPureA
import Derived.Test.YtkhemmeedklofaaPr10
namespace Go.Proofs.Ytkhemmeedklofaa.Pr
open Go Go.RowKit
open Go.Proofs.YtkhemmeedklofaaW.PrintWords Go.Proofs.YtkhemmeedklofaaW.PrintLast Go.Proofs.YtkhemmeedklofaaW.PrintMore
set_option linter.unusedVariables false
set_option linter.unusedSimpArgs false

def chRow (i : Nat) : List Int := if 0 < i then [((i : Int)) - 1] else []
def chP (i : Nat) : List (List Int) := (List.range i).map chRow
def chF (at_ i : Nat) : List Bool := (List.range i).map fun j => decide (((j : Nat) : Int) ≥ (at_ : Int))
theorem chP_succ (i : Nat) : chP (i + 1) = chP i ++ [chRow i] := by simp [chP, List.range_succ]
theorem chF_succ (at_ i : Nat) : chF at_ (i + 1) = chF at_ i ++ [decide ((i : Int) ≥ (at_ : Int))] := by simp [chF, List.range_succ]
theorem chP_row {K i : Nat} (h : i < K) : rd_L2 (chP K) (i : Int) = chRow i := by unfold rd_L2 chP; simp [h]
theorem chF_get {at_ K i : Nat} (h : i < K) : (chF at_ K).getD i false = decide (at_ ≤ i) := by
  unfold chF
  simp [h]
theorem ch_state {at_ K i : Nat} (h : i < K) : stateOf (chP K) (chF at_ K) i = if i < at_ then 0 else if i = at_ then 2 else 3 := by
  unfold stateOf
  rw [chF_get h, chP_row h]
  by_cases h1 : i < at_
  · rw [if_neg (by simp; omega), if_pos h1]
  · rw [if_pos (by simp; omega), if_neg h1]
    unfold chRow
    by_cases h0 : 0 < i
    · rw [if_pos h0]
      have e : ((i : Int) - 1).toNat = i - 1 := by omega
      simp only [List.any_cons, List.any_nil, Bool.or_false, e]
      rw [chF_get (by omega : i - 1 < K)]
      by_cases h2 : i = at_
      · rw [if_pos h2, if_pos (Or.inr (by simp; omega))]
      · rw [if_neg h2, if_neg (by simp; omega)]
    · rw [if_neg h0, if_pos (Or.inl rfl), if_pos (by omega)]
section
variable (K at_ : Nat) (hK : K ≤ 40) (hK1 : 1 ≤ K)
include hK
theorem chain_l1 : ∀ (d i : Nat), i + d = K → Ev (fun k => belvederelaw19_ReachChain.l1 k K at_ (hostsOut (chP K) (chF at_ K)) i) true
  | 0, i, h => by
    refine Ev.step (f := fun k => (belvederelaw19_sure.f k).bind fun t182 => (some t182)) (fun k => ?_) (Ev.bind sure_ev (Ev.now _))
    simp only [belvederelaw19_ReachChain.l1]
    rw [if_neg (by omega)]
  | d + 1, i, h => by
    have hi : i < K := by omega
    have hl : (hostsOut (chP K) (chF at_ K)).length = K := by rw [out_length]; simp [chP]
    have hr : rd (hostsOut (chP K) (chF at_ K)) (i : Int) = if i < at_ then 0 else if i = at_ then 2 else 3 := by
      rw [out_rd (by simp [chP]; exact hi), ch_state hi]
    have next : ∀ v : Int, (i ≤ at_ → v = if i < at_ then 0 else 2) → Ev (fun k => belvederelaw19_ReachChain.j3 k K at_ (hostsOut (chP K) (chF at_ K)) i v) true := fun v hv => by
      refine Ev.step (fun k => ?_) (chain_l1 d (i + 1) (by omega))
      simp only [belvederelaw19_ReachChain.j3]
      by_cases h1 : at_ < i
      · have h3 : rd (hostsOut (chP K) (chF at_ K)) (i : Int) = 3 := by rw [hr, if_neg (by omega), if_neg (by omega)]
        rw [if_pos (by omega), if_pos (by omega), if_pos (by omega), if_pos h3, w64 (by omega) (by omega)]; rfl
      · have h3 : rd (hostsOut (chP K) (chF at_ K)) (i : Int) = v := by
          rw [hr, hv (by omega)]
          by_cases h2 : i < at_
          · rw [if_pos h2, if_pos h2]
          · rw [if_neg h2, if_neg h2, if_pos (by omega)]
        rw [if_neg (by omega), if_pos (by omega), if_pos (by omega), if_pos h3, w64 (by omega) (by omega)]; rfl
    by_cases h1 : i = at_
    · refine Ev.step (fun k => ?_) (next 2 (fun _ => by rw [if_neg (by omega)]))
      simp only [belvederelaw19_ReachChain.l1]
      rw [if_pos (by omega), if_pos (by omega)]
    · refine Ev.step (fun k => ?_) (next 0 (fun _ => by rw [if_pos (by omega)]))
      simp only [belvederelaw19_ReachChain.l1]
      rw [if_pos (by omega), if_neg (by omega)]
theorem chain_l0 : ∀ (d i : Nat), i + d = K → Ev (fun k => belvederelaw19_ReachChain.l0 k K at_ (chP i) (chF at_ i) i) true
  | 0, i, h => by
    obtain rfl : i = K := by omega
    have ha := acy_of (ps := chP i) (fun j hj p hp => by
      have hj : j < i := by simpa [chP] using hj
      rw [chP_row hj] at hp
      unfold chRow at hp
      by_cases h0 : 0 < j
      · rw [if_pos h0] at hp; simp at hp; omega
      · rw [if_neg h0] at hp; cases hp)
    have hl : (chP i).length = i := by simp [chP]
    have hl2 : (chF at_ i).length = i := by simp [chF]
    have hf : reach_Hosts.f (chP i) (chF at_ i) = some (hostsOut (chP i) (chF at_ i), none) := by
      rw [hosts_f (Or.inr (fun j hj => ?_)), hostsG_ok (by omega) (by omega) ha.1 ha.2]
      rw [chP_row (by omega)]; unfold chRow; split <;> simp
    refine Ev.step (f := fun k => belvederelaw19_ReachChain.j1 k i at_ (hostsOut (chP i) (chF at_ i)) false) (fun k => ?_) (Ev.step (fun k => ?_) (chain_l1 i at_ hK i 0 (by omega)))
    · simp only [belvederelaw19_ReachChain.l0]
      rw [if_neg (by omega), hf]
      simp only [Option.bind_some, Option.isNone_none, if_true]
      rw [out_length, hl]
      simp
    · simp only [belvederelaw19_ReachChain.j1]
      rw [if_neg (by decide)]; rfl
  | d + 1, i, h => by
    have hl : (chP i).length = i := by simp [chP]
    have hl2 : (chF at_ i).length = i := by simp [chF]
    have ih := chain_l0 d (i + 1) (by omega)
    rw [chP_succ, chF_succ] at ih
    refine Ev.step (fun k => ?_) ih
    simp only [belvederelaw19_ReachChain.l0]
    rw [if_pos (by omega)]
    unfold chRow
    by_cases h0 : 0 < i
    · rw [if_pos (by omega), if_pos (by decide), if_pos (by omega), if_pos (by omega), if_pos h0, w64 (by omega) (by omega), w64 (by omega) (by omega)]
      rfl
    · rw [if_neg (by omega), if_pos (by omega), if_pos (by omega), if_neg h0, w64 (by omega) (by omega)]
      rfl
end
theorem chain_true (a0 a1 : Int) : ∃ k, belvederelaw19_ReachChain.f k a0 a1 = some true := by
  refine Ev.rounds ?_
  have h0 : 0 ≤ IntKind.u64.wrap a0 := by rw [IntKind.wrap_u64]; omega
  have h1 : 0 ≤ IntKind.u64.wrap a1 := by rw [IntKind.wrap_u64]; omega
  obtain ⟨K, hK⟩ : ∃ K : Nat, (K : Int) = 1 + IntKind.u64.wrap a0 % 40 := ⟨(1 + IntKind.u64.wrap a0 % 40).toNat, by omega⟩
  have hK1 : wrap64 (1 + (wrap64 (Int.tmod (IntKind.u64.wrap a0) 40))) = (K : Int) := by
    rw [Int.tmod_eq_emod_of_nonneg h0, w64 (x := IntKind.u64.wrap a0 % 40) (by omega) (by omega), w64 (by omega) (by omega), hK]
  have hKK : IntKind.u64.wrap (K : Int) = (K : Int) := by rw [IntKind.wrap_u64]; omega
  obtain ⟨at_, hat⟩ : ∃ at_ : Nat, (at_ : Int) = IntKind.u64.wrap a1 % (K : Int) := ⟨(IntKind.u64.wrap a1 % (K : Int)).toNat, by have := Int.emod_nonneg (IntKind.u64.wrap a1) (show (K : Int) ≠ 0 by omega); omega⟩
  have hlt : IntKind.u64.wrap a1 % (K : Int) < K := Int.emod_lt_of_pos _ (by omega)
  have hat1 : wrap64 (Int.tmod (IntKind.u64.wrap a1) (K : Int)) = (at_ : Int) := by
    rw [Int.tmod_eq_emod_of_nonneg h1, w64 (by omega) (by omega), hat]
  refine Ev.congr (fun k => ?_) (chain_l0 K at_ (by omega) K 0 (by omega))
  unfold belvederelaw19_ReachChain.f
  rw [hK1, hKK, if_neg (by omega), hat1]
  rfl
theorem final_ReachChain (a0 a1 : Int) (w : World) (_h0 : (Lit.int IntKind.i64 a0).wf = true) (_h1 : (Lit.int IntKind.i64 a1).wf = true) :
    Calls Try.prog 4 #[.int .i64 a0, .int .i64 a1] w fun e w' => e = .returned (.bool true) ∧ Below w.heap.size w w' := by
  obtain ⟨k, hk⟩ := chain_true a0 a1
  exact belvederelaw19_ReachChain.calls k a0 a1 true w hk
end Go.Proofs.Ytkhemmeedklofaa.Pr
