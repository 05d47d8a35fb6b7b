/- MacroExpands answers true: the printed law's function comes to true, whatever the text and the macros. -/
import Derived.Test.YtdjnpjakbiehdaaDoorPureA
import Derived.Test.YtdjnpjakbiehdaaDoorPr8
namespace Go.Proofs.YtdjnpjakbiehdaaDoor.Pr
open Go Go.RowKit
open Go.Proofs.YtdjnpjakbiehdaaDoorW.PrintWords Go.Proofs.YtdjnpjakbiehdaaDoorW.PrintLast

theorem sure_ev (g : Nat → Option Bool) (h : ∀ k, g (k + 1) = belvederelaw21_sure.f.bind fun t => some t) : Ev g true :=
  Ev.step (f := fun _ => some true) (fun k => by rw [h, sure_true]; rfl) (Ev.now _)

theorem expands_true (s : ByteArray) (l : List S49) : Ev (fun k => belvederelaw21_MacroExpands.f k s l) true := by
  unfold belvederelaw21_MacroExpands.f
  by_cases h1 : s.size > 1500
  · refine Ev.congr (fun k => if_pos (by omega)) ?_
    refine sure_ev _ (fun k => ?_)
    simp only [belvederelaw21_MacroExpands.j0]
    rw [if_pos trivial]
  · refine Ev.congr (fun k => if_neg (by omega)) ?_
    obtain ⟨b, hb, hs⟩ := huge_ev l
    refine Ev.bind hb ?_
    cases b
    · obtain ⟨hl, hm⟩ := hs rfl
      refine Ev.step (f := fun k => (belvederelaw21_give.f k l).bind fun t118 => ((macro_Expand.f s t118).bind fun bt121 => ((belvedereref21_Expand.f k s l).bind fun bt123 => (if bt121.1.toList = bt123.1.toList then ((belvederelaw21_num.f bt121.2).bind fun t125 => (if t125 = bt123.2 then (belvederelaw21_sure.f.bind fun t126 => (some t126)) else (some false))) else (some false))))) (fun k => ?_) ?_
      · simp only [belvederelaw21_MacroExpands.j0]
        rw [if_neg (by simp)]
      · refine Ev.bind (give_ev l hl) ?_
        unfold macro_Expand.f
        rw [mac_conv]
        simp only [Option.bind_some]
        refine Ev.bind (expand_ev s l hl (fun m h => (hm m h).2)) ?_
        refine Ev.congr (f := fun _ => some true) (fun k => ?_) (Ev.now _)
        rw [if_pos rfl]
        unfold belvederelaw21_num.f
        simp only [Option.bind_some]
        rw [if_pos (by split <;> simp_all), sure_true]
        rfl
    · refine sure_ev _ (fun k => ?_)
      simp only [belvederelaw21_MacroExpands.j0]
      rw [if_pos trivial]

theorem final_MacroExpands (s : ByteArray) (A1 : Option Addr) (c1 : Nat) (l : List S49) (w : World) (_h0 : s.size ≤ 140737488351232) (hr1 : Kd.C k49 w A1 l.length l) (hc1 : l.length ≤ c1) (hG : Glob w) :
    Calls Tryd.prog 3 #[.string s, .slice A1 l.length c1] w fun e w' => e = .returned (.bool true) ∧ Below w.heap.size w w' := by
  obtain ⟨k, hk⟩ := (expands_true s l).rounds
  exact belvederelaw21_MacroExpands.calls k s A1 c1 l true w hr1 hc1 hG hk
end Go.Proofs.YtdjnpjakbiehdaaDoor.Pr
