/- What all rows of this seat share: the listed variable read off the row's condition, a world for the witness. -/
import Derived.Test.YtcpglghklmfbcaaDoorT14
import Derived.Test.YtcpglghklmfbcaaDoorCards
import Derived.Test.YtcpglghklmfbcaaDoorTie
import Derived.ProofKit
import Derived.OpenShut
import Derived.Deep.DeepHandedRow
import Derived.Deep.Strs
import Derived.Lib.LaidTab
namespace Go.Proofs.YtcpglghklmfbcaaDoor.T
open Go Go.RowKit Go.ChangeShapes Go.WideShapes Go.ChangeAt
set_option linter.unusedVariables false

theorem own : ownKnob Tryd.prog.godebug = none := by kernel_rfl
theorem gBad : Tryd.prog.globalNamed "platter/tables.bad" = some 0 := by kernel_rfl
theorem gBadType : (Tryd.prog.globals[0]?).map (·.type) = some 78 := by kernel_rfl
theorem cells3 : Tryd.prog.cellsOf 3 = 1 := by kernel_rfl
theorem cells4 : Tryd.prog.cellsOf 4 = 1 := by kernel_rfl
theorem cells78 : Tryd.prog.cellsOf 78 = 3 := by kernel_rfl
/-- What the row's list gives. -/
theorem isBad_of_laid {W : World} (h : laidMetH Tryd.prog [("platter/tables.bad", Rows.laid_platter_tables_bad)] W) : IsBad W := by
  have h' : laidMet Tryd.prog [("platter/tables.bad", Rows.laid_platter_tables_bad)] W := h
  obtain ⟨ps, ⟨g', t', cs, fuel, p, q, hg', ht', hvar, hd, _, _⟩, _⟩ := h'
  obtain rfl := Option.some.inj (gBad.symm.trans hg')
  obtain rfl := Option.some.inj (gBadType.symm.trans ht')
  obtain ⟨y0, y1, y2, n, hx, hl, h0, h1, h2⟩ := Deep.trod_struct3 Tryd.underlying78 hd
  rw [cells78] at hl
  simp only [cells3, cells4, List.drop_zero] at h0 h1 h2
  obtain ⟨n0, e0, rfl, _⟩ := DataW.trod_int Tryd.underlying3 h0
  obtain ⟨n1, e1, rfl, _⟩ := DataW.trod_int Tryd.underlying3 h1
  obtain ⟨b2, e2, rfl⟩ := DataW.trod_bool Tryd.underlying4 h2
  simp only [Rows.laid_platter_tables_bad, Prod.mk.injEq, DataW.agg.injEq, List.cons.injEq, DataW.lit.injEq, Lit.int.injEq, Lit.bool.injEq, true_and, and_true] at hx
  obtain ⟨⟨rfl, rfl, rfl⟩, _⟩ := hx
  have c0 : cs[0]? = some (.int .i64 0) := by
    have := congrArg (fun l : List Value => l[0]?) e0
    simpa [List.getElem?_take] using this
  have c1 : cs[1]? = some (.int .i64 0) := by
    have := congrArg (fun l : List Value => l[0]?) e1
    simpa [List.getElem?_take] using this
  have c2 : cs[2]? = some (.bool true) := by
    have := congrArg (fun l : List Value => l[0]?) e2
    simpa [List.getElem?_take] using this
  exact ⟨(World.var?_cell gBad hvar 0).trans c0, (World.var?_cell gBad hvar 1).trans c1, (World.var?_cell gBad hvar 2).trans c2⟩
/-- A world for the witnesses: the settled one, the variable (block 0) holding what its initialiser lays. -/
noncomputable def laidWorld (os : Os) : World :=
  { World.holding Tryd.prog os ⟨#[], #[], []⟩ with heap := (World.holding Tryd.prog os ⟨#[], #[], []⟩).heap.modify 0 fun
      | .cells _ t frozen => .cells #[.int .i64 0, .int .i64 0, .bool true] t frozen
      | o => o }
theorem laid_met (os : Os) (args : Array Value) : laidMet Tryd.prog [("platter/tables.bad", Rows.laid_platter_tables_bad)] ((laidWorld os).forCall (fun _ _ => 0) ⟨#[], args, []⟩).memory :=
  laidMet_of_run' 8 (by kernel_rfl) (by kernel_rfl)
end Go.Proofs.YtcpglghklmfbcaaDoor.T
