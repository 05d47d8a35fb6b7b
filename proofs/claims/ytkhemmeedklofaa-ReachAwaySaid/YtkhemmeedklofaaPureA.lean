/- What the printed functions of layer 19's laws come to. -/
import Derived.Test.YtkhemmeedklofaaPr5
import Derived.Test.YtkhemmeedklofaaPr7
import Derived.Test.YtkhemmeedklofaaPr8
namespace Go.Proofs.Ytkhemmeedklofaa.Pr
open Go Go.RowKit
open Go.Proofs.YtkhemmeedklofaaW.PrintWords Go.Proofs.YtkhemmeedklofaaW.PrintLast Go.Proofs.YtkhemmeedklofaaW.PrintMore
set_option linter.unusedVariables false
set_option linter.unusedSimpArgs false

theorem rowL2 {ps : List (List Int)} {i : Nat} : rd_L2 ps (i : Int) = ps.getD i [] := rfl
/-! ### huge -/
theorem huge_end (ps : List (List Int)) (s : Int) : ∃ b, (if (ps.length : Int) > 30 then (if (ps.length : Int) ≤ 1024 then (some true) else (some (decide (s > 100)))) else (some (decide (s > 100)))) = some b ∧ (b = false → 1024 < ps.length ∨ (ps.length ≤ 30 ∧ s ≤ 100)) := by
  by_cases h1 : (ps.length : Int) > 30
  · rw [if_pos h1]
    by_cases h2 : (ps.length : Int) ≤ 1024
    · rw [if_pos h2]; exact ⟨true, rfl, fun h => by cases h⟩
    · rw [if_neg h2]; exact ⟨_, rfl, fun _ => Or.inl (by omega)⟩
  · rw [if_neg h1]; exact ⟨_, rfl, fun h => Or.inr ⟨by omega, by have := of_decide_eq_false h; omega⟩⟩
theorem huge_l0 (ps : List (List Int)) : ∀ (d i : Nat) (s : Int), i + d = 100 → 0 ≤ s → s ≤ 200 * i →
    ∃ b, Ev (fun k => belvederelaw19_huge.l0 k ps s i) b ∧ (b = false → 1024 < ps.length ∨ (ps.length ≤ 30 ∧ s ≤ 100 ∧ ∀ j, i ≤ j → j < ps.length → (rd_L2 ps (j : Int)).length ≤ 100))
  | 0, i, s, h, h0, h1 => by
    obtain ⟨b, hb, hp⟩ := huge_end ps s
    refine ⟨b, Ev.step (f := fun _ => some b) (fun k => ?_) (Ev.now b), fun e => (hp e).elim Or.inl (fun ⟨a, c⟩ => Or.inr ⟨a, c, fun j h1 h2 => by omega⟩)⟩
    simp only [belvederelaw19_huge.l0]
    by_cases hi : (i : Int) < (ps.length : Int)
    · rw [if_pos hi, if_neg (by omega), hb]
    · rw [if_neg hi, hb]
  | d + 1, i, s, h, h0, h1 => by
    by_cases hi : i < ps.length
    · have hm : mn ((rd_L2 ps (i : Int)).length : Int) 200 = if ((rd_L2 ps (i : Int)).length : Int) ≤ 200 then ((rd_L2 ps (i : Int)).length : Int) else 200 := by
        unfold mn; split <;> split <;> omega
      obtain ⟨b, hb, hp⟩ := huge_l0 ps d (i + 1) (s + (if ((rd_L2 ps (i : Int)).length : Int) ≤ 200 then ((rd_L2 ps (i : Int)).length : Int) else 200)) (by omega) (by split <;> omega) (by split <;> omega)
      refine ⟨b, Ev.step (fun k => ?_) hb, fun e => (hp e).elim Or.inl (fun ⟨a, c, f⟩ => Or.inr ⟨a, by split at c <;> omega, fun j h1 h2 => ?_⟩)⟩
      · simp only [belvederelaw19_huge.l0]
        rw [if_pos (by omega), if_pos (by omega), if_pos (by omega), hm, w64 (by split <;> omega) (by split <;> omega), w64 (by omega) (by omega)]
        rfl
      · by_cases ej : j = i
        · subst ej; split at c <;> omega
        · exact f j (by omega) h2
    · obtain ⟨b, hb, hp⟩ := huge_end ps s
      refine ⟨b, Ev.step (f := fun _ => some b) (fun k => ?_) (Ev.now b), fun e => (hp e).elim Or.inl (fun ⟨a, c⟩ => Or.inr ⟨a, c, fun j h1 h2 => by omega⟩)⟩
      simp only [belvederelaw19_huge.l0]
      rw [if_neg (by omega), hb]
theorem huge_ev (ps : List (List Int)) : ∃ b, Ev (fun k => belvederelaw19_huge.f k ps) b ∧ (b = false → 1024 < ps.length ∨ ∀ j : Nat, j < ps.length → (rd_L2 ps (j : Int)).length ≤ 1000000) := by
  obtain ⟨b, hb, hp⟩ := huge_l0 ps 100 0 0 (by omega) (by omega) (by omega)
  exact ⟨b, hb, fun e => (hp e).elim Or.inl (fun ⟨_, _, f⟩ => Or.inr (fun j hj => Nat.le_trans (f j (by omega) hj) (by omega)))⟩
/-! ### Hosts -/
theorem hosts_f {ps : List (List Int)} {fs : List Bool} (h : 1024 < ps.length ∨ ∀ j : Nat, j < ps.length → (rd_L2 ps (j : Int)).length ≤ 1000000) : reach_Hosts.f ps fs = some (hostsG ps fs) := by
  unfold reach_Hosts.f; rw [if_pos h]
theorem hostsG_cases (ps : List (List Int)) (fs : List Bool) : (∃ c, hostsG ps fs = ([], some c)) ∨ (hostsG ps fs = (hostsOut ps fs, none) ∧ ps.length ≤ 1024 ∧ ps.length = fs.length ∧ good ps ∧ AcyP ps) := by
  unfold hostsG
  by_cases h1 : 1024 < ps.length ∨ 1024 < fs.length
  · rw [if_pos h1]; exact Or.inl ⟨_, rfl⟩
  · rw [if_neg h1]
    by_cases h2 : ps.length ≠ fs.length
    · rw [if_pos h2]; exact Or.inl ⟨_, rfl⟩
    · rw [if_neg h2]
      by_cases h3 : ¬ good ps
      · rw [if_pos h3]; exact Or.inl ⟨_, rfl⟩
      · rw [if_neg h3]
        by_cases h4 : AcyP ps
        · rw [if_pos h4]; exact Or.inr ⟨rfl, by omega, by omega, Classical.not_not.1 h3, h4⟩
        · rw [if_neg h4]; exact Or.inl ⟨_, rfl⟩
theorem hostsG_ok {ps : List (List Int)} {fs : List Bool} (h1 : ps.length ≤ 1024) (h2 : ps.length = fs.length) (h3 : good ps) (h4 : AcyP ps) : hostsG ps fs = (hostsOut ps fs, none) := by
  unfold hostsG
  rw [if_neg (by omega), if_neg (by omega), if_neg (by simpa using h3), if_pos h4]
theorem out_length (ps : List (List Int)) (fs : List Bool) : (hostsOut ps fs).length = ps.length := by simp [hostsOut]
theorem out_rd {ps : List (List Int)} {fs : List Bool} {i : Nat} (h : i < ps.length) : rd (hostsOut ps fs) (i : Int) = stateOf ps fs i := by
  unfold rd hostsOut; simp [h]
/-- parents that stand ahead lead nowhere back -/
theorem acy_of {ps : List (List Int)} (h : ∀ i : Nat, i < ps.length → ∀ p ∈ rd_L2 ps (i : Int), 0 ≤ p ∧ p < (i : Int)) : good ps ∧ AcyP ps := by
  refine ⟨fun i hi p hp => by have := h i hi p hp; omega, fun z => z.toNat, fun w hw => ?_⟩
  unfold wsOf at hw
  obtain ⟨s, hs, rfl⟩ := List.mem_map.1 hw
  obtain ⟨j, h1, h2, h3⟩ := (waysTo_mem ps _ s).1 hs
  have := h j h1 s.f0 h3
  show s.f0.toNat < s.f1.toNat
  omega
theorem ints_ev (l : List Int) (hl : l.length ≤ 100000) : Ev (fun k => belvederelaw19_ints.f k l l) true := by
  have key : ∀ (d i : Nat), i + d = l.length → Ev (fun k => belvederelaw19_ints.l0 k l l i) true := by
    intro d
    induction d with
    | zero =>
      intro i h
      refine Ev.step (f := fun _ => some _) (fun k => ?_) (Ev.now _)
      simp only [belvederelaw19_ints.l0]
      rw [if_neg (by omega)]
    | succ d ih =>
      intro i h
      refine Ev.step (fun k => ?_) (ih (i + 1) (by omega))
      simp only [belvederelaw19_ints.l0]
      rw [if_pos (by omega), if_pos (by omega), if_pos (by omega), if_pos trivial, w64 (by omega) (by omega)]
      rfl
  refine Ev.congr (fun k => ?_) (key l.length 0 (by omega))
  unfold belvederelaw19_ints.f
  rw [if_pos rfl]; rfl
theorem sure_ev : Ev (fun k => belvederelaw19_sure.f k) true := by
  have ha := acy_of (ps := [[], [0], [1]]) (fun i hi p hp => by
    have hi : i < 3 := hi
    obtain rfl | rfl | rfl : i = 0 ∨ i = 1 ∨ i = 2 := by omega
    · rw [show rd_L2 [[], [0], [1]] ((0 : Nat) : Int) = [] from rfl] at hp; cases hp
    · rw [show rd_L2 [[], [0], [1]] ((1 : Nat) : Int) = [0] from rfl] at hp; simp at hp; omega
    · rw [show rd_L2 [[], [0], [1]] ((2 : Nat) : Int) = [1] from rfl] at hp; simp at hp; omega)
  have hf : reach_Hosts.f [[], [0], [1]] [true, true, true] = some ([2, 3, 3], none) := by
    rw [hosts_f (Or.inr (fun j hj => ?_)), hostsG_ok (by decide) rfl ha.1 ha.2]
    · rfl
    · have hj : j < 3 := hj
      obtain rfl | rfl | rfl : j = 0 ∨ j = 1 ∨ j = 2 := by omega
      · exact Nat.zero_le _
      · show 1 ≤ 1000000; omega
      · show 1 ≤ 1000000; omega
  unfold belvederelaw19_sure.f
  rw [hf]
  simp only [Option.bind_some, Option.isNone_none, if_true]
  exact Ev.bind (ints_ev [2, 3, 3] (by decide)) (Ev.now _)
end Go.Proofs.Ytkhemmeedklofaa.Pr
