/- What reach.Hosts answers (layer 19), as a function of its arguments; and the ways that it lays. -/
import Derived.Test.YtkhemmeedklofaaGOrder
import Derived.Test.YtkhemmeedklofaaGIter
import Derived.Test.YtkhemmeedklofaaPlain
namespace Go.Proofs.Ytkhemmeedklofaa.Pr
open Go Go.RowKit Go.Shelf
open Go.Proofs.YtkhemmeedklofaaW.PrintWords Go.Proofs.YtkhemmeedklofaaW.PrintLast
set_option linter.unusedVariables false
set_option linter.unusedSimpArgs false

def cmp (l : List Int) : List Int := Lib.compact (srt l)
theorem cmp_mem (l : List Int) (x : Int) : x ∈ cmp l ↔ x ∈ l := (Nfy.once_spec l).2 x
theorem cmp_nodup (l : List Int) : (cmp l).Nodup := (Nfy.once_spec l).1.imp (fun h => by omega)
theorem cmp_le (l : List Int) : (cmp l).length ≤ l.length := by
  unfold cmp Lib.compact Lib.compactUpTo
  rw [List.length_map]
  exact Nat.le_trans (List.length_filter_le _ _) (by simp [srt_length])
def mkW (i : Nat) (p : Int) : S42 := ⟨p, (i : Int)⟩
def rowWays (l : List Int) (i : Nat) : List S42 := (cmp l).map (mkW i)
def waysTo (ps : List (List Int)) : Nat → List S42
  | 0 => []
  | i + 1 => waysTo ps i ++ rowWays (rd_L2 ps i) i
def good (ps : List (List Int)) : Prop := ∀ i : Nat, i < ps.length → ∀ p ∈ rd_L2 ps i, 0 ≤ p ∧ p < ps.length
theorem waysTo_mem (ps : List (List Int)) : ∀ (i : Nat) (x : S42), x ∈ waysTo ps i ↔ ∃ j : Nat, j < i ∧ x.f1 = j ∧ x.f0 ∈ rd_L2 ps j
  | 0, x => by simp [waysTo]
  | i + 1, x => by
    simp only [waysTo, List.mem_append, waysTo_mem ps i x, rowWays, List.mem_map, cmp_mem]
    constructor
    · rintro (⟨j, h1, h2, h3⟩ | ⟨p, h1, rfl⟩)
      · exact ⟨j, by omega, h2, h3⟩
      · exact ⟨i, by omega, rfl, h1⟩
    · rintro ⟨j, h1, h2, h3⟩
      by_cases e : j = i
      · subst e
        exact Or.inr ⟨x.f0, h3, by cases x; simp only at h2; subst h2; rfl⟩
      · exact Or.inl ⟨j, by omega, h2, h3⟩
theorem row_le {n : Nat} {l : List Int} (h : ∀ p ∈ l, 0 ≤ p ∧ p < n) : (cmp l).length ≤ n :=
  Kn.pig n (cmp l) (cmp_nodup l) (fun x hx => h x ((cmp_mem l x).1 hx))
theorem waysTo_le (ps : List (List Int)) (n : Nat) : ∀ i : Nat, (∀ x ∈ waysTo ps i, inR n x) → (waysTo ps i).length ≤ i * n
  | 0, _ => by simp [waysTo]
  | i + 1, h => by
    have ih := waysTo_le ps n i (fun x hx => h x (by simp [waysTo, hx]))
    have hr : (rowWays (rd_L2 ps i) i).length ≤ n := by
      unfold rowWays
      rw [List.length_map]
      refine row_le fun p hp => ?_
      have := h (mkW i p) (by simp only [waysTo, List.mem_append, rowWays, List.mem_map]; exact Or.inr ⟨p, (cmp_mem _ _).2 hp, rfl⟩)
      exact this.1
    simp only [waysTo, List.length_append]
    rw [Nat.succ_mul]; omega
/-- one host's state -/
def stateOf (ps : List (List Int)) (fs : List Bool) (i : Nat) : Int :=
  if fs.getD i false = true then (if rd_L2 ps i = [] ∨ (rd_L2 ps i).any (fun p => !fs.getD p.toNat false) = true then 2 else 3) else 0
def hostsOut (ps : List (List Int)) (fs : List Bool) : List Int := (List.range ps.length).map (stateOf ps fs)
def AcyP (ps : List (List Int)) : Prop := Kn.Acy (wsOf (waysTo ps ps.length))
open Classical in
noncomputable def hostsG (ps : List (List Int)) (fs : List Bool) : List Int × Option Int :=
  if 1024 < ps.length ∨ 1024 < fs.length then ([], some 2) else if ps.length ≠ fs.length then ([], some 1) else if ¬ good ps then ([], some 5) else if AcyP ps then (hostsOut ps fs, none) else ([], some 9)
open Classical in
noncomputable def reach_Hosts.f (ps : List (List Int)) (fs : List Bool) : Option (List Int × Option Int) :=
  if 1024 < ps.length ∨ ∀ i : Nat, i < ps.length → (rd_L2 ps i).length ≤ 1000000 then some (hostsG ps fs) else none
end Go.Proofs.Ytkhemmeedklofaa.Pr
