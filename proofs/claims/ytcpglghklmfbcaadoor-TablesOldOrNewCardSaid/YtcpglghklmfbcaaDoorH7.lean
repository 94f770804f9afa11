/- 'platterlaw10.TablesOldOrNew' returns true for every input, and each argument reads behind the call as it read before; the variable 'platter/tables.bad' is tied to the program's text. -/
import Derived.Test.YtcpglghklmfbcaaDoorL4
import Derived.Test.YtcpglghklmfbcaaDoorH6
namespace Go.Proofs.YtcpglghklmfbcaaDoor.T
open Go Go.RowKit Go.ChangeShapes Go.WideShapes Go.ChangeAt Go.Deep Go.Proofs.YtcpglghklmfbcaaDoor.R
set_option linter.unusedVariables false
set_option linter.unusedSimpArgs false

theorem tablesOldOrNew_contract (H : Type) (enc : TypeId × Value → H) (W : World) (base : Nat) (args : Array Value) (ds gs : List (DataW H)) (before : List MemPlace)
    (hval : ∀ (j : Nat) t v, Tryd.f6.params[j]? = some t → args[j]? = some v → Value.okWide Tryd.prog W .any base t v)
    (hW : DataW.Whole enc Tryd.prog Tryd.f6.params.toList Rows.tablesOldOrNewSpec.vars false W args.toList ds gs before) (hL : laidMetH Tryd.prog Rows.tablesOldOrNewRow.laid W) :
    Calls Tryd.prog 6 args W fun e W' => ∃ v, e = .returned v ∧ Rows.tablesOldOrNewSpec.post enc Tryd.prog Tryd.f6 false true false false W args v W' := by
  have hW' := hW
  obtain ⟨p, q, hA0, hV, rfl, hfz, hnd⟩ := hW
  have hA : DataW.TrodAll enc Tryd.prog W 0 (fun _ => true) true Tryd.f6.params.toList args.toList ds p := hA0
  rw [Tryd.params6] at hA hval
  obtain ⟨v0, v1, d0, d1, p0, p1, rfl, rfl, rfl, h0, h1⟩ := trodAll_two hA
  obtain ⟨rfl, rfl⟩ := trodVars_none hV
  obtain ⟨A, n, c, l, rfl, hn, hR⟩ := opn24 (hval 0 24 v0 rfl rfl) h0
  obtain ⟨A1, n1, c1, A2, n2, c2, k, b, t, q, rfl, rfl, hn2, hR1, hR2, hc2⟩ := opn53 (hval 1 53 v1 rfl rfl) h1
  clear hA0
  simp only [List.append_nil] at hW'
  have hlt := hW'.lt
  refine (TablesOldOrNew_calls A A1 A2 n c c1 n2 c2 l t q k b W hn hR hR1 (isBad_of_laid hL)).mono fun e W' ⟨he, hg⟩ => ?_
  subst he
  exact ⟨_, rfl, _, _, _, [], _, [], hW', trodAll_cons_mk (shut_bool Tryd.underlying4 _) trodAll_mk0,
    trodAll_mk2 (Below.trod layout (by kernel_rfl) (of_decide_eq_true (by kernel_rfl)) h0 hg (fun x hx => by first | (cases hx; done) | (have h_ := hlt x (by simp [hx]); simpa using h_))) (Below.trod layout (by kernel_rfl) (of_decide_eq_true (by kernel_rfl)) h1 hg (fun x hx => by first | (cases hx; done) | (have h_ := hlt x (by simp [hx]); simpa using h_))), rfl, hg.frame _, fun h => by cases h⟩
theorem tablesOldOrNew_reads (os : Os) {H : Type} (enc : TypeId × Value → H) : ∃ places, DataW.whole enc Tryd.prog ((laidWorld os).forCall (fun _ _ => 0) ⟨#[], #[.agg #[.slice none 0 0], .agg #[.slice none 0 0, .slice none 0 0, .int .i64 0, .bool false]], []⟩).memory Tryd.f6.params.toList Rows.tablesOldOrNewSpec.vars false (#[.agg #[.slice none 0 0], .agg #[.slice none 0 0, .slice none 0 0, .int .i64 0, .bool false]] : Array Value).toList 8 = some ([.agg [.nil], .agg [.nil, .nil, .lit (.int .i64 0), .lit (.bool false)]], [], places) :=
  ⟨[], by kernel_rfl⟩

set_option maxRecDepth 100000 in
theorem tablesOldOrNew_lifted (os : Os) (started : os.Started) (H : Type) (enc : TypeId × Value → H) (F : Stop.Interp) :
    ReturnsInHanded {} Tryd.checked os 6 .any ((OpenSpec.ofChange Rows.tablesOldOrNewSpec).preRow enc Tryd.prog Tryd.f6 Rows.tablesOldOrNewRow.domain false Rows.tablesOldOrNewRow.laid) (((OpenSpec.ofChange Rows.tablesOldOrNewSpec).at F).post enc Tryd.prog Tryd.f6 false true false false) := by
  obtain ⟨places, hx⟩ := tablesOldOrNew_reads os enc
  refine returnsInHanded_of_row (C := Tryd.checked) (s := OpenSpec.ofChange Rows.tablesOldOrNewSpec) own started (by kernel_rfl) Tryd.func6
    (witness_row_at (enc := enc) (C := Tryd.checked) false (laidWorld os) #[.agg #[.slice none 0 0], .agg #[.slice none 0 0, .slice none 0 0, .int .i64 0, .bool false]] rfl (by kernel_rfl) (by kernel_rfl) (by kernel_rfl)
      (OpenSpec.preRow_of_cond 8 hx (by kernel_rfl) (fun k hk => by cases hk) (by kernel_rfl) (laid_met os _))) ?_
  intro W base args ds gs before hval hW _ _ _ hL _ _
  exact tablesOldOrNew_contract H enc W base args ds gs before hval hW hL

theorem tablesOldOrNew_said : Rows.TablesOldOrNewSaid :=
  OpenClaim.holds_of_cond 6 Tryd.f6 rfl rfl rfl rfl rfl rfl rfl ⟨rfl, rfl, rfl, rfl, rfl⟩ rfl rfl rfl rfl rfl (by kernel_rfl) Tryd.func6 (by kernel_rfl)
    (of_decide_eq_true (by kernel_rfl)) (by unfold Func.isWrapper; first | (rw [if_pos (by decide +kernel)]; kernel_rfl) | (rw [if_neg (by decide +kernel)]; exact ⟨rfl, rfl⟩))
    (fun os started H enc _ F => by rw [OpenClaim.pre_eq_preRow]; exact tablesOldOrNew_lifted os started H enc F)
theorem tablesOldOrNew_plain (f : FuncId) (fn : Func) (hf : Tryd.pinned.checked.prog.funcNamed "platter/platterlaw10.TablesOldOrNew" = some f) (hfn : Tryd.pinned.checked.prog.funcs[f]? = some fn) :
    false = Tryd.pinned.checked.prog.looks [] ∧ ∀ (j : Nat) t, fn.params[j]? = some t → Tryd.pinned.checked.prog.wantsStandIn t = false := by
  obtain rfl : f = 6 := Option.some.inj ((show Tryd.prog.funcNamed "platter/platterlaw10.TablesOldOrNew" = some 6 by kernel_rfl).symm.trans hf) |>.symm
  obtain rfl : fn = Tryd.f6 := (Option.some.inj (Tryd.func6.symm.trans hfn)).symm
  refine ⟨by kernel_rfl, fun j t ht => ?_⟩
  rw [Tryd.params6] at ht
  have hm := Array.mem_of_getElem? ht
  simp only [List.mem_toArray, List.mem_cons, List.not_mem_nil, or_false] at hm
  rcases hm with rfl | rfl
  · exact (show Tryd.prog.wantsStandIn 24 = false by kernel_rfl)
  · exact (show Tryd.prog.wantsStandIn 53 = false by kernel_rfl)
end Go.Proofs.YtcpglghklmfbcaaDoor.T
namespace Go.Proofs.YtcpglghklmfbcaaDoor
theorem tablesOldOrNew_card : Rows.TablesOldOrNewCardSaid :=
  Claim7.holds_tied_plain_at .later [] _ _ _ _ T.tablesOldOrNew_said (fun _ h => by cases h) (by kernel_rfl) (fun _ h => by cases h) tablesOldOrNew_row_tie rfl ⟨rfl, rfl⟩ (by kernel_rfl) rfl T.tablesOldOrNew_plain (by kernel_rfl)
#print axioms tablesOldOrNew_card
end Go.Proofs.YtcpglghklmfbcaaDoor
