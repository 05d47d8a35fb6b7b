/- An argument of a row, opened: a slice that reads as data holds a list of elements of one kind (the print's words 'Kd'). -/
import Derived.Test.YtecgjkikgggoeaaDoorPr0
import Derived.Deep.Slices
import Derived.Deep.Strs
import Derived.ChangeSame
import Derived.ProofKit
namespace Go.Proofs.YtecgjkikgggoeaaDoor
open Go Go.RowKit Go.Deep
open Go.Proofs.YtecgjkikgggoeaaDoorW.PrintWords

section
variable {H : Type} {enc : TypeId × Value → H} {P : Program} {w : World} {base : Nat} {spare : Nat → Bool} {held : Bool}

/-- Every reading of type t is of kind d. -/
def Opens (enc : TypeId × Value → H) (P : Program) (w : World) (base : Nat) (spare : Nat → Bool) (held : Bool) {α : Type} (d : Kd α) (t : TypeId) : Prop :=
  ∀ n cs x, DataW.trod enc P w base spare held n t cs = some x → ∃ y, d.K w y cs

theorem opens_string {t : TypeId} (ht : P.underlying t = some .string) : Opens enc P w base spare held Kd.string t := by
  intro n cs x h
  obtain ⟨s, rfl, _, _⟩ := DataW.trod_string ht h
  exact ⟨s, rfl⟩
theorem opens_int {t : TypeId} {k : IntKind} (ht : P.underlying t = some (.int k)) : Opens enc P w base spare held (Kd.int k) t := by
  intro n cs x h
  obtain ⟨z, rfl, _, _⟩ := DataW.trod_int ht h
  exact ⟨z, rfl⟩

/-- a slice's value that reads: its elements, as a list -/
theorem open_kd {α : Type} [Inhabited α] {d : Kd α} {t e : TypeId} {fuel : Nat} {A : Option Addr} {len cap : Nat} {x : DataW H × List MemPlace} (ht : P.underlying t = some (.slice e)) (hsz : P.cellsOf e = d.sz)
    (hel : Opens enc P w base spare held d e) (h : DataW.trod enc P w base spare held fuel t [.slice A len cap] = some x) :
    ∃ xs : List α, xs.length = len ∧ d.C w A len xs ∧ len ≤ cap := by
  rcases open_slice ht h with ⟨hcs, _⟩ | ⟨a, l, c, m, n, D, Pl, hcs, hb, hl, hm, hmm, _, hx⟩
  · simp at hcs
    obtain ⟨rfl, rfl, rfl⟩ := hcs
    exact ⟨[], rfl, ⟨rfl, by omega, fun h => by omega⟩, Nat.le_refl _⟩
  · simp at hcs
    obtain ⟨rfl, rfl, rfl⟩ := hcs
    have hlm : len ≤ m := by rw [hmm]; split <;> omega
    obtain ⟨Y, hY⟩ := choose_lt (α := α) (n := len) (p := fun i y => ∃ c, c.length = d.sz ∧ d.K w y c ∧ ∀ j u, c[j]? = some u → w.cell? (a.add (i * d.sz + j)) = some u) (fun i hi => by
      obtain ⟨cs', h1, h2⟩ := hx i (by omega)
      obtain ⟨y, hy⟩ := hel _ _ _ h2
      obtain ⟨_, hlen, hcell⟩ := World.cells?_some h1
      refine ⟨y, cs', by rw [hlen, hsz], hy, fun j u hu => ?_⟩
      have hj : j < cs'.length := (List.getElem?_eq_some_iff.1 hu).1
      have := hcell j (by omega)
      rw [hu, Go.Deep.add_add, hsz] at this
      exact this)
    refine ⟨(List.range len).map Y, by simp, ⟨by simp, ?_, fun _ => ⟨a, rfl, fun j p hj => ?_⟩⟩, hl⟩
    · have : maxLen = 9223372036854775807 := rfl
      omega
    · have hj' : j < len := by
        have := (List.getElem?_eq_some_iff.1 hj).1
        simpa using this
      rw [List.getElem?_map, List.getElem?_range hj'] at hj
      simp at hj
      subst hj
      exact hY j hj'
/-- a slice among a struct's fields -/
theorem opens_slice {α : Type} [Inhabited α] {d : Kd α} {t e : TypeId} {e0 : Nat} (ht : P.underlying t = some (.slice e)) (hsz : P.cellsOf e = d.sz) (hel : Opens enc P w base spare held d e) :
    Opens enc P w base spare held (Kd.slice e0 d) t := by
  intro n cs x h
  have hcs : ∃ A len cap, cs = [.slice A len cap] := by
    rcases open_slice ht h with ⟨hcs, _⟩ | ⟨a, l, c, m, n, D, Pl, hcs, _⟩
    · exact ⟨_, _, _, hcs⟩
    · exact ⟨_, _, _, hcs⟩
  obtain ⟨A, len, cap, rfl⟩ := hcs
  obtain ⟨xs, rfl, hC, hc⟩ := open_kd ht hsz hel h
  exact ⟨xs, A, cap, rfl, hc, hC⟩
theorem trod_struct5 {t : TypeId} {f0 f1 f2 f3 f4 : Field} {fuel : Nat} {cs : List Value} {x : DataW H × List MemPlace} (ht : P.underlying t = some (.struct #[f0, f1, f2, f3, f4])) (h : DataW.trod enc P w base spare held fuel t cs = some x) :
    ∃ y0 y1 y2 y3 y4 n, cs.length = P.cellsOf t ∧ DataW.trod enc P w base spare held n f0.type ((cs.drop f0.offset).take (P.cellsOf f0.type)) = some y0 ∧
      DataW.trod enc P w base spare held n f1.type ((cs.drop f1.offset).take (P.cellsOf f1.type)) = some y1 ∧ DataW.trod enc P w base spare held n f2.type ((cs.drop f2.offset).take (P.cellsOf f2.type)) = some y2 ∧
      DataW.trod enc P w base spare held n f3.type ((cs.drop f3.offset).take (P.cellsOf f3.type)) = some y3 ∧ DataW.trod enc P w base spare held n f4.type ((cs.drop f4.offset).take (P.cellsOf f4.type)) = some y4 := by
  obtain ⟨xs, n, _, rfl, hl, hlen, hf⟩ := DataW.trod_struct ht h
  match xs, hlen with
  | [y0, y1, y2, y3, y4], _ => exact ⟨y0, y1, y2, y3, y4, n, hl, by simpa using hf 0 f0 rfl, by simpa using hf 1 f1 rfl, by simpa using hf 2 f2 rfl, by simpa using hf 3 f3 rfl, by simpa using hf 4 f4 rfl⟩
end
instance inhS28 : Inhabited Pr.S28 := ⟨Pr.z28⟩
section
variable {H : Type} {enc : TypeId × Value → H} {w : World} {base : Nat} {spare : Nat → Bool} {held : Bool}
theorem opens_28 : Opens enc Tryd.prog w base spare held Pr.k28 28 := by
  intro n cs x h
  obtain ⟨y0, y1, y2, y3, y4, m, hl, h0, h1, h2, h3, h4⟩ := trod_struct5 Tryd.underlying28 h
  have hc : Tryd.prog.cellsOf 3 = 1 := by kernel_rfl
  have hc1 : Tryd.prog.cellsOf 22 = 1 := by kernel_rfl
  have hc2 : Tryd.prog.cellsOf 28 = 5 := by kernel_rfl
  simp only [hc, hc1] at h0 h1 h2 h3 h4
  rw [hc2] at hl
  obtain ⟨s0, e0, _, _⟩ := DataW.trod_int Tryd.underlying3 h0
  obtain ⟨s1, e1, _, _⟩ := DataW.trod_int Tryd.underlying3 h1
  obtain ⟨s2, e2, _, _⟩ := DataW.trod_int Tryd.underlying3 h2
  obtain ⟨s4, e4, _, _⟩ := DataW.trod_int Tryd.underlying3 h4
  obtain ⟨s3, A3, c3, e3, l3, g3⟩ := opens_slice (d := Kd.int .i64) (e0 := 3) Tryd.underlying22 (by kernel_rfl) (opens_int Tryd.underlying3) _ _ _ h3
  match cs, hl with
  | [a, b, c, d, f], _ =>
    simp at e0 e1 e2 e3 e4
    subst e0 e1 e2 e3 e4
    exact ⟨⟨s0, s1, s2, s3, s4⟩, Pr.k28_mk w _ l3 g3⟩
/-- the question -/
theorem open_25 {r : Reach} {b0 : Nat} {v : Value} {d : DataW H} {ps : List MemPlace} (hval : Value.okWide Tryd.prog w r b0 25 v) (hd : DataW.Trod enc Tryd.prog w base spare held 25 v d ps) :
    ∃ a b c, v = .agg #[.int .i64 a, .int .i64 b, .int .i64 c] := by
  obtain ⟨cs, rfl, hs⟩ := Go.WideShapes.okWide_struct Tryd.underlying25 hval
  obtain ⟨fuel, hf⟩ := hd
  obtain ⟨y0, y1, y2, m, _, hl, h0, h1, h2⟩ := Go.Deep.trod_struct3 Tryd.underlying25 hf
  have hc : Tryd.prog.cellsOf 3 = 1 := by kernel_rfl
  have hc2 : Tryd.prog.cellsOf 25 = 3 := by kernel_rfl
  simp only [hc] at h0 h1 h2
  rw [hc2] at hs
  obtain ⟨s0, e0, _, _⟩ := DataW.trod_int Tryd.underlying3 h0
  obtain ⟨s1, e1, _, _⟩ := DataW.trod_int Tryd.underlying3 h1
  obtain ⟨s2, e2, _, _⟩ := DataW.trod_int Tryd.underlying3 h2
  obtain ⟨l⟩ := cs
  match l, hs with
  | [a, b, c], _ =>
    simp [Value.cells] at e0 e1 e2
    subst e0 e1 e2
    exact ⟨s0, s1, s2, rfl⟩
end
end Go.Proofs.YtecgjkikgggoeaaDoor
