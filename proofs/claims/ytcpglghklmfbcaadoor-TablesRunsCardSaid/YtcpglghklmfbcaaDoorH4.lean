/- 'platterlaw10.TablesRot' returns true for every input, and each argument reads behind the call as it read before; the variable 'platter/tables.bad' is tied to the program's text. -/
import Derived.Test.YtcpglghklmfbcaaDoorL2
import Derived.Test.YtcpglghklmfbcaaDoorH3
namespace Go.Proofs.YtcpglghklmfbcaaDoor.T
open Go Go.RowKit Go.ChangeShapes Go.WideShapes Go.ChangeAt Go.Deep Go.Proofs.YtcpglghklmfbcaaDoor.R
set_option linter.unusedVariables false
set_option linter.unusedSimpArgs false

section
variable {H : Type} {en : TypeId × Value → H} {W : World}
theorem open24 {base : Nat} {v : Value} {d : DataW H} {p : List MemPlace} (hval : Value.okWide Tryd.prog W .any base 24 v) (h : DataW.Trod en Tryd.prog W 0 (fun _ => true) true 24 v d p) : ∃ A n c, ∃ l : Cop, v = .agg #[.slice A n c] ∧ n = l.length ∧ Row2 encS 3 W A l := by
  obtain ⟨cs, rfl, _⟩ := okWide_struct Tryd.underlying24 hval
  obtain ⟨A, n, c, l, h1, h2, h3⟩ := open_cop (Or.inr trivial) h
  refine ⟨A, n, c, l, ?_, h2, h3⟩
  have : cs.toList = [.slice A n c] := h1
  rw [show cs = cs.toList.toArray by simp, this]
theorem laidOut : laidOutB Tryd.prog = true := by kernel_rfl
theorem cells25 : Tryd.prog.cellsOf 25 = 1 := by kernel_rfl
theorem cells27 : Tryd.prog.cellsOf 27 = 2 := by kernel_rfl
theorem open27 {base : Nat} {v : Value} {d : DataW H} {p : List MemPlace} (hval : Value.okWide Tryd.prog W .any base 27 v) (h : DataW.Trod en Tryd.prog W 0 (fun _ => true) true 27 v d p) :
    ∃ A1 n1 c1 A2 n2 c2, ∃ xs ys : List Int, v = .agg #[.slice A1 n1 c1, .slice A2 n2 c2] ∧ n1 = xs.length ∧ n2 = ys.length ∧ Row encI 1 W A1 xs ∧ Row encI 1 W A2 ys := by
  obtain ⟨cs, rfl, _⟩ := okWide_struct Tryd.underlying27 hval
  obtain ⟨fuel, hf⟩ := h
  obtain ⟨y0, y1, n, hx, hl, h0, h1⟩ := trod_struct2 Tryd.underlying27 hf
  rw [cells27] at hl
  simp only [cells25, List.drop_zero] at h0 h1
  match hcs : cs.toList, hl with
  | [u, u2], _ =>
    have hcs' : (Value.agg cs).cells.toList = [u, u2] := hcs
    rw [hcs'] at h0 h1
    obtain ⟨A, n, c, l, rfl, e1, e2, _⟩ := open_row Tryd.underlying25 cells3 (by decide) trod_i h0
    obtain ⟨A', n', c', l', rfl, e1', e2', _⟩ := open_row Tryd.underlying25 cells3 (by decide) trod_i h1
    exact ⟨A, n, c, A', n', c', l, l', by rw [show cs = cs.toList.toArray by simp, hcs], e1, e1', e2, e2'⟩
end
theorem tablesRot_contract (H : Type) (enc : TypeId × Value → H) (W : World) (base : Nat) (args : Array Value) (ds gs : List (DataW H)) (before : List MemPlace)
    (hval : ∀ (j : Nat) t v, Tryd.f3.params[j]? = some t → args[j]? = some v → Value.okWide Tryd.prog W .any base t v)
    (hW : DataW.Whole enc Tryd.prog Tryd.f3.params.toList Rows.tablesRotSpec.vars false W args.toList ds gs before) (hL : laidMetH Tryd.prog Rows.tablesRotRow.laid W) :
    Calls Tryd.prog 3 args W fun e W' => ∃ v, e = .returned v ∧ Rows.tablesRotSpec.post enc Tryd.prog Tryd.f3 false true false false W args v W' := by
  have hW' := hW
  obtain ⟨p, q, hA0, hV, rfl, hfz, hnd⟩ := hW
  have hA : DataW.TrodAll enc Tryd.prog W 0 (fun _ => true) true Tryd.f3.params.toList args.toList ds p := hA0
  rw [Tryd.params3] at hA hval
  obtain ⟨v0, v1, d0, d1, p0, p1, rfl, rfl, rfl, h0, h1⟩ := trodAll_two hA
  obtain ⟨rfl, rfl⟩ := trodVars_none hV
  obtain ⟨A, n, c, l, rfl, hn, hR⟩ := open24 (hval 0 24 v0 rfl rfl) h0
  obtain ⟨A1, n1, c1, A2, n2, c2, xs, ys, rfl, hn1, hn2, hR1, hR2⟩ := open27 (hval 1 27 v1 rfl rfl) h1
  clear hA0
  simp only [List.append_nil] at hW'
  have hlt : ∀ x ∈ p0 ++ p1, x.block < W.heap.size := fun x hx => by simpa using hW'.lt x hx
  refine (TablesRot_calls A A1 A2 n c n1 c1 n2 c2 l xs ys W hn hn1 hn2 hR hR1 hR2 (isBad_of_laid hL)).mono fun e W' ⟨he, hg⟩ => ?_
  subst he
  exact ⟨_, rfl, _, _, _, [], p0 ++ p1, [], hW', trodAll_cons_mk (shut_bool Tryd.underlying4 _) trodAll_mk0,
    trodAll_mk2 (Below.trod laidOut (by kernel_rfl) (of_decide_eq_true (by kernel_rfl)) h0 hg (fun x hx => hlt x (by simp [hx]))) (Below.trod laidOut (by kernel_rfl) (of_decide_eq_true (by kernel_rfl)) h1 hg (fun x hx => hlt x (by simp [hx]))), rfl, hg.frame _, fun h => by cases h⟩
theorem tablesRot_reads (os : Os) {H : Type} (enc : TypeId × Value → H) : ∃ places, DataW.whole enc Tryd.prog ((laidWorld os).forCall (fun _ _ => 0) ⟨#[], #[.agg #[.slice none 0 0], .agg #[.slice none 0 0, .slice none 0 0]], []⟩).memory Tryd.f3.params.toList Rows.tablesRotSpec.vars false #[Value.agg #[.slice none 0 0], .agg #[.slice none 0 0, .slice none 0 0]].toList 8 = some ([.agg [.nil], .agg [.nil, .nil]], [], places) :=
  ⟨[], by kernel_rfl⟩

set_option maxRecDepth 100000 in
theorem tablesRot_lifted (os : Os) (started : os.Started) (H : Type) (enc : TypeId × Value → H) (F : Stop.Interp) :
    ReturnsInHanded {} Tryd.checked os 3 .any ((OpenSpec.ofChange Rows.tablesRotSpec).preRow enc Tryd.prog Tryd.f3 Rows.tablesRotRow.domain false Rows.tablesRotRow.laid) (((OpenSpec.ofChange Rows.tablesRotSpec).at F).post enc Tryd.prog Tryd.f3 false true false false) := by
  obtain ⟨places, hx⟩ := tablesRot_reads os enc
  refine returnsInHanded_of_row (C := Tryd.checked) (s := OpenSpec.ofChange Rows.tablesRotSpec) own started (by kernel_rfl) Tryd.func3
    (witness_row_at (enc := enc) (C := Tryd.checked) false (laidWorld os) #[.agg #[.slice none 0 0], .agg #[.slice none 0 0, .slice none 0 0]] rfl (by kernel_rfl) (by kernel_rfl) (by kernel_rfl)
      (OpenSpec.preRow_of_cond 8 hx (by kernel_rfl) (fun k hk => by cases hk) (by kernel_rfl) (laid_met os _))) ?_
  intro W base args ds gs before hval hW _ _ _ hL _ _
  exact tablesRot_contract H enc W base args ds gs before hval hW hL

theorem tablesRot_said : Rows.TablesRotSaid :=
  OpenClaim.holds_of_cond 3 Tryd.f3 rfl rfl rfl rfl rfl rfl rfl ⟨rfl, rfl, rfl, rfl, rfl⟩ rfl rfl rfl rfl rfl (by kernel_rfl) Tryd.func3 (by kernel_rfl)
    (of_decide_eq_true (by kernel_rfl)) (by unfold Func.isWrapper; first | (rw [if_pos (by decide +kernel)]; kernel_rfl) | (rw [if_neg (by decide +kernel)]; exact ⟨rfl, rfl⟩))
    (fun os started H enc _ F => by rw [OpenClaim.pre_eq_preRow]; exact tablesRot_lifted os started H enc F)
theorem tablesRot_plain (f : FuncId) (fn : Func) (hf : Tryd.pinned.checked.prog.funcNamed "platter/platterlaw10.TablesRot" = some f) (hfn : Tryd.pinned.checked.prog.funcs[f]? = some fn) :
    false = Tryd.pinned.checked.prog.looks [] ∧ ∀ (j : Nat) t, fn.params[j]? = some t → Tryd.pinned.checked.prog.wantsStandIn t = false := by
  obtain rfl : f = 3 := Option.some.inj ((show Tryd.prog.funcNamed "platter/platterlaw10.TablesRot" = some 3 by kernel_rfl).symm.trans hf) |>.symm
  obtain rfl : fn = Tryd.f3 := (Option.some.inj (Tryd.func3.symm.trans hfn)).symm
  refine ⟨by kernel_rfl, fun j t ht => ?_⟩
  rw [Tryd.params3] at ht
  have hm := Array.mem_of_getElem? ht
  simp only [List.mem_toArray, List.mem_cons, List.not_mem_nil, or_false] at hm
  rcases hm with rfl | rfl
  · exact (show Tryd.prog.wantsStandIn 24 = false by kernel_rfl)
  · exact (show Tryd.prog.wantsStandIn 27 = false by kernel_rfl)
end Go.Proofs.YtcpglghklmfbcaaDoor.T
namespace Go.Proofs.YtcpglghklmfbcaaDoor
theorem tablesRot_card : Rows.TablesRotCardSaid :=
  Claim7.holds_tied_plain_at .later [] _ _ _ _ T.tablesRot_said (fun _ h => by cases h) (by kernel_rfl) (fun _ h => by cases h) tablesRot_row_tie rfl ⟨rfl, rfl⟩ (by kernel_rfl) rfl T.tablesRot_plain (by kernel_rfl)
#print axioms tablesRot_card
end Go.Proofs.YtcpglghklmfbcaaDoor
