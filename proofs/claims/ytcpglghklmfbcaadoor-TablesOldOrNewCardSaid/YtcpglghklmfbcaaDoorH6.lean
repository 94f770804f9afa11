/- Arguments that came in, opened: copies, and cuts. -/
import Derived.Test.YtcpglghklmfbcaaDoorH3
import Derived.Lib.SmallJoins
namespace Go.Proofs.YtcpglghklmfbcaaDoor.T
open Go Go.RowKit Go.ChangeShapes Go.WideShapes Go.ChangeAt Go.Deep Go.Proofs.YtcpglghklmfbcaaDoor.R
set_option linter.unusedVariables false
set_option linter.unusedSimpArgs false

section
variable {H : Type} {en : TypeId × Value → H} {W : World}
theorem opn24 {base : Nat} {v : Value} {d : DataW H} {p : List MemPlace} (hval : Value.okWide Tryd.prog W .any base 24 v) (h : DataW.Trod en Tryd.prog W 0 (fun _ => true) true 24 v d p) : ∃ A n c, ∃ l : Cop, v = .agg #[.slice A n c] ∧ n = l.length ∧ Row2 encS 3 W A l := by
  obtain ⟨cs, rfl, _⟩ := okWide_struct Tryd.underlying24 hval
  obtain ⟨A, n, c, l, h1, h2, h3⟩ := open_cop (Or.inr trivial) h
  refine ⟨A, n, c, l, ?_, h2, h3⟩
  have : cs.toList = [.slice A n c] := h1
  rw [show cs = cs.toList.toArray by simp, this]
theorem layout : laidOutB Tryd.prog = true := by kernel_rfl
theorem cels25 : Tryd.prog.cellsOf 25 = 1 := by kernel_rfl
theorem cels51 : Tryd.prog.cellsOf 51 = 1 := by kernel_rfl
theorem cels53 : Tryd.prog.cellsOf 53 = 4 := by kernel_rfl
theorem cels68 : Tryd.prog.cellsOf 68 = 4 := by kernel_rfl
theorem trod_pat (n : Nat) (cs : List Value) (y : DataW H × List MemPlace) (h : DataW.trod en Tryd.prog W 0 (fun _ => true) true n 68 cs = some y) : ∃ a : Pat, cs = encP a := by
  obtain ⟨y0, y1, y2, y3, n, hx, hl, h0, h1, h2, h3⟩ := Go.Joins.trod_struct4 Tryd.underlying68 h
  rw [cels68] at hl
  simp only [cells3, List.drop_zero] at h0 h1 h2 h3
  obtain ⟨n0, e0, _, _⟩ := DataW.trod_int Tryd.underlying3 h0
  obtain ⟨n1, e1, _, _⟩ := DataW.trod_int Tryd.underlying3 h1
  obtain ⟨n2, e2, _, _⟩ := DataW.trod_int Tryd.underlying3 h2
  obtain ⟨n3, e3, _, _⟩ := DataW.trod_int Tryd.underlying3 h3
  refine ⟨⟨n0, n1, n2, n3⟩, ?_⟩
  match cs, hl with
  | [x, y, z, u], _ =>
    simp at e0 e1 e2 e3
    rw [e0, e1, e2, e3]
    rfl
/-- The cells of a cut. -/
theorem trod_cut (n : Nat) (cs : List Value) (y : DataW H × List MemPlace) (h : DataW.trod en Tryd.prog W 0 (fun _ => true) true n 53 cs = some y) :
    ∃ A1 n1 c1 A2 n2 c2 d b, ∃ (t : List Int) (q : List Pat), cs = [.slice A1 n1 c1, .slice A2 n2 c2, .int .i64 d, .bool b] ∧ n1 = t.length ∧ n2 = q.length ∧ Row encI 1 W A1 t ∧ Row encP 4 W A2 q ∧ n2 ≤ c2 := by
  obtain ⟨y0, y1, y2, y3, n, hx, hl, h0, h1, h2, h3⟩ := Go.Joins.trod_struct4 Tryd.underlying53 h
  rw [cels53] at hl
  simp only [cels25, cels51, cells3, cells4, List.drop_zero] at h0 h1 h2 h3
  match cs, hl with
  | [u0, u1, u2, u3], _ =>
    simp at h0 h1 h2 h3
    obtain ⟨A, n, c, l, rfl, e1, e2, _⟩ := open_row Tryd.underlying25 cells3 (by decide) trod_i h0
    obtain ⟨A', n', c', l', rfl, e1', e2', e3'⟩ := open_row Tryd.underlying51 cels68 (by decide) trod_pat h1
    obtain ⟨k2, e4, _, _⟩ := DataW.trod_int Tryd.underlying3 h2
    obtain ⟨k3, e5, _⟩ := DataW.trod_bool Tryd.underlying4 h3
    simp at e4 e5
    subst e4 e5
    exact ⟨A, n, c, A', n', c', k2, k3, l, l', rfl, e1, e1', e2, e2', e3'⟩
theorem opn53 {base : Nat} {v : Value} {d : DataW H} {p : List MemPlace} (hval : Value.okWide Tryd.prog W .any base 53 v) (h : DataW.Trod en Tryd.prog W 0 (fun _ => true) true 53 v d p) :
    ∃ A1 n1 c1 A2 n2 c2 k b, ∃ (t : List Int) (q : List Pat), v = .agg #[.slice A1 n1 c1, .slice A2 n2 c2, .int .i64 k, .bool b] ∧ n1 = t.length ∧ n2 = q.length ∧ Row encI 1 W A1 t ∧ Row encP 4 W A2 q ∧ n2 ≤ c2 := by
  obtain ⟨cs, rfl, _⟩ := okWide_struct Tryd.underlying53 hval
  obtain ⟨fuel, hf⟩ := h
  obtain ⟨A1, n1, c1, A2, n2, c2, k, b, t, q, hcs, hr⟩ := trod_cut _ _ _ hf
  have : cs.toList = _ := hcs
  exact ⟨A1, n1, c1, A2, n2, c2, k, b, t, q, by rw [show cs = cs.toList.toArray by simp, this], hr⟩
end
end Go.Proofs.YtcpglghklmfbcaaDoor.T
