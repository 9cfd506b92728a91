/-
  What the condition on the variable conf gives the walks, and that the door's own heap meets it.
-/
import Derived.Test.YtbfobodaeimklaaDoorRows
import Derived.Test.YtbfobodaeimklaaDoorPllG
import Derived.Test.YtbfobodaeimklaaDoorSteps
import Derived.ProofKit
import Derived.LaidMore
import Derived.OpenShut
import Derived.Stop.Joined
set_option linter.unusedVariables false
set_option linter.unusedSimpArgs false
namespace Go.Proofs.YtbfobodaeimklaaDoor
open Go.ChangeShapes Go.WideShapes Go.ChangeAt Go.WideMaps Go.WideElems Go.RowKit
theorem own : ownKnob Tryd.prog.godebug = none := by kernel_rfl
theorem laidOut : laidOutB Tryd.prog = true := by kernel_rfl
theorem gConf : Tryd.prog.globalNamed "timesync/timesynclaw13.conf" = some 0 := by kernel_rfl
theorem tConf : (Tryd.prog.globals[0]?).map (·.type) = some 23 := by kernel_rfl
def laidL : List (String × DataW Unit) := [("timesync/timesynclaw13.conf", Rows.laid_timesync_timesynclaw13_conf)]
theorem one_lit {w : World} {n : Nat} {v : Value} {k : Int} {y : DataW Unit × List MemPlace} (h : DataW.trod (fun _ => ()) Tryd.prog w 0 (fun _ => true) false n 3 [v] = some y) (hk : y.1 = .lit (.int .i64 k)) : v = .int .i64 k := by
  obtain ⟨a, e, e2, _⟩ := DataW.trod_int Tryd.underlying3 h
  rw [e2] at hk
  simp at e hk
  rw [e, hk]
theorem conf_of_laid {W : World} (h : laidMetH Tryd.prog laidL W) : ConfAt W := by
  rw [MakeChecks.laidMetH_plain _ _ _ (by kernel_rfl)] at h
  obtain ⟨ps, ⟨g, t, cs, fuel, p, q, hg, ht, hv, hd, _, _⟩, _, _⟩ := h
  obtain rfl := Option.some.inj (gConf.symm.trans hg)
  obtain rfl := Option.some.inj (tConf.symm.trans ht)
  have hcell := fun i => World.var?_cell hg hv i
  obtain ⟨l⟩ := cs
  simp only at hd
  obtain ⟨xs, n, _, hx, hlen, hxl, hf⟩ := DataW.trod_struct Tryd.underlying23 hd
  have hl5 : l.length = 5 := hlen.trans (by kernel_rfl)
  have c1 : Tryd.prog.cellsOf 3 = 1 := by kernel_rfl
  match l, hl5, hf, hcell with
  | [v0, v1, v2, v3, v4], _, hf, hcell =>
    match xs, hxl, hx, hf with
    | [x0, x1, x2, x3, x4], _, hx, hf =>
      simp only [Prod.mk.injEq, Rows.laid_timesync_timesynclaw13_conf, DataW.agg.injEq, List.map_cons, List.map_nil, List.cons.injEq] at hx
      obtain ⟨⟨h0, h1, h2, h3, h4, _⟩, _⟩ := hx
      have f0 := hf 0 _ rfl
      have f1 := hf 1 _ rfl
      have f2 := hf 2 _ rfl
      have f3 := hf 3 _ rfl
      have f4 := hf 4 _ rfl
      simp [c1] at f0 f1 f2 f3 f4
      have e0 := one_lit f0 h0.symm
      have e1 := one_lit f1 h1.symm
      have e2 := one_lit f2 h2.symm
      have e3 := one_lit f3 h3.symm
      have e4 := one_lit f4 h4.symm
      subst e0 e1 e2 e3 e4
      exact ⟨by simpa using hcell 0, by simpa using hcell 1, by simpa using hcell 2, by simpa using hcell 3, by simpa using hcell 4⟩
theorem door_met (os : Os) (args : Array Value) : laidMetH Tryd.prog laidL ((World.doorLaid Tryd.prog 400 os).forCall (fun _ _ => 0) ⟨#[], args, []⟩).memory := by
  rw [MakeChecks.laidMetH_plain _ _ _ (by kernel_rfl)]
  exact laidMet_of_run' 8 (by kernel_rfl) (by kernel_rfl)
end Go.Proofs.YtbfobodaeimklaaDoor
