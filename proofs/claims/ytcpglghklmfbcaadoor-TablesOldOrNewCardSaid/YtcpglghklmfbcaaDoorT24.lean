import Derived.Test.YtcpglghklmfbcaaDoorT13
import Derived.Test.YtcpglghklmfbcaaDoorT14
import Derived.Lib.SliceRun
namespace Go.Proofs.YtcpglghklmfbcaaDoor.T
open Go Go.RowKit Go.Proofs.YtcpglghklmfbcaaDoor.M Go.Proofs.YtcpglghklmfbcaaDoor.R Go.Proofs.YtcpglghklmfbcaaDoorW.PrintLast
set_option linter.unusedVariables false
set_option linter.unusedSimpArgs false

set_option maxRecDepth 100000 in
theorem Clone_calls (A : Option Addr) (c : Nat) (xs : List Sec) (w : World) (hR : Row encS 3 w A xs) (hl : xs.length ≤ 1000) :
    Calls Tryd.prog 68 #[.slice A xs.length c] w fun e w' => (∃ v, e = .returned v ∧ Own encS 3 78 w' w.heap.size v xs) ∧ Below w.heap.size w w' := by
  cases A with
  | none =>
    have hx : xs = [] := by
      cases xs with
      | nil => rfl
      | cons x l => obtain ⟨b, off, e, _⟩ := hR.2 (by simp); cases e
    subst hx
    clear hR
    have hq := Lib.run_eql_slice_nil (P := Tryd.prog) w 41 78 none 0 c 0 0 Tryd.underlying41
    go_enter Tryd.func68, Tryd.ntmps68
    go_wp2
    go_ret
    exact ⟨⟨_, rfl, Own.nil⟩, Below.refl _ _⟩
  | some a =>
    have HR := Lib.hid hR
    have hq := Lib.run_eql_slice_nil (P := Tryd.prog) w 41 78 (some a) xs.length c 0 0 Tryd.underlying41
    clear hR
    go_enter Tryd.func68, Tryd.ntmps68
    go_wp2_with (at_builtin; go_must (refine wp_append_row encS_len encS_one rfl _ _ 41 rfl Tryd.underlying41 _ 24 info78 rfl (by decide) xs (some a) c rfl rfl (HR.out.below ((Below.refl w.heap.size w).alloc (Nat.le_refl _) _)) (Own.empty encS 3 78 w w.heap.size (Nat.le_refl _)) ((Below.refl w.heap.size w).alloc (Nat.le_refl _) _) (by simp) (by simp; omega) (fun v1 w1 H => ?_)))
    go_ret
    exact ⟨⟨_, rfl, H.out.1⟩, H.out.2.1⟩

set_option maxHeartbeats 1000000 in
set_option maxRecDepth 100000 in
theorem copied_calls (A : Option Addr) (n c : Nat) (l : Cop) (w : World) (hn : n = l.length) (hR : Row2 encS 3 w A l) (hl : l.length ≤ 1000) (hs : ∀ s, s < l.length → (sl l s).length ≤ 1000) :
    Calls Tryd.prog 42 #[.agg #[.slice A n c]] w (RetC w l) := by
  have HR := Lib.hid hR
  have HN := Lib.hid hn
  have HS := Lib.hid hs
  have hl20 : n ≤ 1000 := by omega
  clear hR hn hs
  go_enter Tryd.func42, Tryd.ntmps42
  go_wp2
  go_loopg [9] n (fun g i wr => ∃ (k : Nat) (v : Value) (vs : List Value), k ≤ n ∧ i = .int .i64 k ∧ g = n - k ∧ Gr (bs2 w (.slice A n c) 24 (.slice none 0 0) 24) wr ∧ Cell1 wr (w.heap.size + 1 + 1) v 24 ∧ Own2 encS 3 78 41 wr (w.heap.size + 1 + 1 + 1) v (l.take k) vs)
  case atStart => exact ⟨0, .slice none 0 0, [], Nat.zero_le _, rfl, rfl, Gr.alloc (Gr.refl (bs2 w (.slice A n c) 24 (.slice none 0 0) 24)) _, by have := Cell1.new (bs2 w (.slice A n c) 24 (.slice none 0 0) 24) (.slice none 0 0) 24; rwa [bs2_size] at this, Own2.nil⟩
  case round =>
    obtain ⟨k, v, vs, hk, rfl, hg, hB, hC, hO⟩ := hrel
    have HB := Lib.hid hB
    have HC := Lib.hid hC
    have HA := Lib.hid (And.intro hg hO)
    have hbox := bs2_box hB
    have hout := hC.cell
    have hfr := hC.free 0
    have hlo := hC.lt
    clear hB hC hO hg
    by_cases hlt : k < n
    · have hkl : k < l.length := by have := HN.out; omega
      obtain ⟨b1, o1, Ak, ck, rfl, h1, h2, h3⟩ := (HR.out.below (bs2_old HB.out)).at (sl_get hkl)
      have HX := Lib.hid (And.intro h3 hkl)
      have HKEEP : Hid (∀ W', Below (w.heap.size + 1 + 1 + 1) wr W' → (Below (w.heap.size + 1 + 1 + 1) wr W' ∧ W'.cell? ⟨w.heap.size + 1 + 1, 0, none⟩ = some v ∧ W'.frozen? ⟨w.heap.size + 1 + 1, 0, none⟩ = false)) := Lib.hid fun W' hb => ⟨hb, (hb.cell (p := ⟨_, _, none⟩) (by simp)).trans hout, (hb.frozen (p := ⟨_, _, none⟩) (by simp)).trans hfr⟩
      clear h3 h2 hkl
      go_wp2_with (fail)
      refine start_ (n := 8) (S := fun W' => Below (w.heap.size + 1 + 1 + 1) wr W' ∧ W'.cell? ⟨w.heap.size + 1 + 1, 0, none⟩ = some v ∧ W'.frozen? ⟨w.heap.size + 1 + 1, 0, none⟩ = false) (ds := [7]) #[false, false, false, false, false, false, false, false] (by kernel_rfl) rfl rfl (HKEEP.out _ (Below.drew (Below.refl _ _))) (fun hHeld => ?_)
      refine pure_ (i := 0) (N := some 13) (v := ?_) (a' := ?_) #[true, false, false, false, false, false, false, false] rfl rfl (by kernel_rfl) (fun _ _ _ h => h) (Or.inl ⟨by rfl, ?_⟩) ?_ ?_
      rotate_left
      · intro w_
        go_simp
        with_reducible rfl
      rotate_left
      · simp only [Act.put, List.setIfInBounds_toArray, List.set_cons_zero, List.set_cons_succ]
        rfl
      refine pure_ (i := 2) (N := some 15) (v := ?_) (a' := ?_) #[true, false, true, false, false, false, false, false] rfl rfl (by kernel_rfl) (fun _ _ _ h => h) (Or.inl ⟨by rfl, ?_⟩) ?_ ?_
      rotate_left
      · intro w_
        go_simp
        with_reducible rfl
      rotate_left
      · simp only [Act.put, List.setIfInBounds_toArray, List.set_cons_zero, List.set_cons_succ]
        rfl
      refine take_ (i := 1) (N := some 14) (v := ?_) (a' := ?_) #[true, true, true, false, false, false, false, false] rfl rfl (by kernel_rfl) (fun _ _ _ h => h) (Or.inl ⟨by rfl, ?_⟩) hHeld ?_ ?_
      rotate_left
      · rintro w_ ⟨s0, s1, s2⟩
        go_simp
        with_reducible rfl
      rotate_left
      · simp only [Act.put, List.setIfInBounds_toArray, List.set_cons_zero, List.set_cons_succ]
        rfl
      refine one_ (i := 3) (N := some 16) #[true, true, true, true, false, false, false, false] rfl rfl (by kernel_rfl) (by decide) (fun K hK => ?_)
      refine goes_ Tryd.func68 (by kernel_rfl) rfl #[.slice Ak (sl l k).length ck] (by rfl) rfl rfl (by simp [Act.eval]) ?_
      refine (Clone_calls Ak ck (sl l k) wr.drew (HX.out.1.below (Below.drew (Below.refl _ _))) (by have := HS.out k HX.out.2; omega)).mono ?_
      rintro e W2 ⟨⟨u, rfl, hU⟩, hb0⟩
      have hW2 : Below wr.heap.size wr W2 := (Below.drew (Below.refl wr.heap.size wr)).trans hb0
      have hs1 : w.heap.size + 1 + 1 + 1 ≤ wr.heap.size := by have := HB.out.size; rw [bs2_size] at this; omega
      have hB2 : Below (w.heap.size + 1 + 1 + 1) wr W2 := hW2.mono hs1
      have hU' : Own encS 3 78 W2 wr.heap.size u (sl l k) := hU
      have HU := Lib.hid hU'
      have HW2 := Lib.hid hW2
      have HO2 := Lib.hid (HA.out.2.below hW2)
      refine ⟨u, rfl, hK.out _ _ (HKEEP.out _ hB2) (fun hHeld => ?_)⟩
      clear hK K
      simp only [Act.put, List.setIfInBounds_toArray, List.set_cons_zero, List.set_cons_succ]
      obtain ⟨A2, c2, rfl, hrow2, hc2⟩ := HU.out.row encS_len
      have HB2 := Lib.hid hB2
      have hs2 : w.heap.size + 1 + 1 + 1 ≤ W2.heap.size := Nat.le_trans hs1 HW2.out.size
      clear hB2 hrow2 hc2 hU hU' hW2 hb0
      refine one_ (i := 4) (N := some 17) #[true, true, true, true, true, false, false, false] rfl rfl (by kernel_rfl) (by decide) (fun K hK => ?_)
      refine value_ (v := .slice (some ⟨W2.heap.size, 0, none⟩) 1 1) (w1 := W2.alloc (.cells #[.slice A2 (sl l k).length c2] 41)) (by rfl) rfl ?_ ?_
      · first | (go_simp; done) | (go_simp; rfl)
      refine hK.out _ _ (HKEEP.out _ (HB2.out.alloc hs2 _)) (fun hHeld => ?_)
      clear hK K
      simp only [Act.put, List.setIfInBounds_toArray, List.set_cons_zero, List.set_cons_succ]
      refine one_ (i := 5) (N := some 18) #[true, true, true, true, true, true, false, false] rfl rfl (by kernel_rfl) (by decide) (fun K hK => ?_)
      have hd : (∀ k', (Value.slice A2 (sl l k).length c2).ownBlock = some k' → wr.heap.size ≤ k') := fun k' hk' => (HU.out.lt k' hk').1
      refine step_append1 (enc := encV) (w := W2) (v := v) (xs := vs) encV_len ?hg (.tmp 14) (.tmp 17) 22 ?ho Tryd.underlying22 _ 24 info41 rfl (by decide) (.slice A2 (sl l k).length c2) (by intro u hu; simp [encV] at hu; subst hu; rfl) ?hs ?hx (HO2.out.2.1) (Below.refl _ _) hs2 (by have := HO2.out.1; rw [List.length_take] at this; omega) (fun v1 W3 H3 => ?_)
      case hg => rfl
      case ho => rfl
      case hs => rfl
      case hx => rfl
      have hB3 : Below (w.heap.size + 1 + 1 + 1) wr W3 := HB2.out.trans H3.out.2.1
      refine hK.out _ _ (HKEEP.out _ hB3) (fun hHeld => ?_)
      clear hK K
      simp only [Act.put, List.setIfInBounds_toArray, List.set_cons_zero, List.set_cons_succ]
      have hN := Own2.append HA.out.2 HW2.out (HU.out.mono (by omega)) hd H3.out.1 H3.out.2.2.1 (by
        rcases H3.out.2.2.2 with e | e
        · exact Or.inl e
        · exact Or.inr ⟨_, e, Nat.le_succ _⟩)
      have HC3 := Lib.hid (HC.out.keep (hB3.block _ (Nat.lt_succ_self _)))
      have HB3 := Lib.hid (HB.out.trans (hB3.mono (by rw [bs2_size]; exact Nat.le_succ _)))
      have hl3 := HC3.out.lt
      have hfr3 := HC3.out.free 0
      have hout3 := HC3.out.cell
      obtain ⟨A3, c3, rfl, hrow3, hc3⟩ := H3.out.1.row encV_len
      have HN3 := Lib.hid hN
      clear hN hB3 hd hrow3 hc3
      refine pure_ (i := 6) (N := some 19) (v := ?_) (a' := ?_) #[true, true, true, true, true, true, true, false] rfl rfl (by kernel_rfl) (fun _ _ _ h => h) (Or.inl ⟨by rfl, ?_⟩) ?_ ?_
      rotate_left
      · intro w_
        go_simp
        with_reducible rfl
      rotate_left
      · simp only [Act.put, List.setIfInBounds_toArray, List.set_cons_zero, List.set_cons_succ]
        rfl
      refine last_ (i := 7) (N := none) #[true, true, true, true, true, true, true, true] rfl rfl (by kernel_rfl) (by decide) (fun K hK => ?_)
      refine skip_ (w1 := W3.setCell ⟨w.heap.size + 1 + 1, 0, none⟩ (.slice A3 (vs ++ [Value.slice A2 (sl l k).length c2]).length c3)) (by rfl) rfl ?_ ?_
      · first | (go_simp; done) | (go_simp; rfl)
      refine hK.out _ _ ?_
      clear hK K
      refine done_ (by kernel_rfl) ?_

      go_wp2_with (fail)
      go_roundg (n - (k + 1))
      case measure => have := HA.out.1; omega
      case rel =>
        refine ⟨k + 1, _, vs ++ [Value.slice A2 (sl l k).length c2], by omega, by go_num, rfl, Below.setCell HB3.out (by rw [bs2_size]; exact Nat.le_refl _) _, HC3.out.set, ?_⟩
        rw [take_succ_sl HX.out.2]
        have := HN3.out.kept (setCell_grown W3 ⟨w.heap.size + 1 + 1, 0, none⟩ (.slice A3 (vs ++ [Value.slice A2 (sl l k).length c2]).length c3)) (Nat.lt_succ_self (w.heap.size + 1 + 1))
        simpa only [List.length_append, List.length_cons, List.length_nil, Nat.zero_add, List.nil_append] using this
    · have hbox2 := bs2_box2 HB.out
      have hfr2 : wr.frozen? ⟨w.heap.size + 1, 0, none⟩ = false := bs2_free HB.out
      have ek : l.take k = l := List.take_of_length_le (by have := HN.out; omega)
      rw [ek] at HA
      obtain ⟨A3, c3, rfl, hrow3, hc3⟩ := HA.out.2.row2 encS_len
      have hres : (wr.setCell ⟨w.heap.size + 1, 0, none⟩ (.slice A3 l.length c3)).cell? ⟨w.heap.size + 1, 0, none⟩ = some (.slice A3 l.length c3) := (bs2_cell2 HB.out).set.cell
      have hlo2 : w.heap.size + 1 < wr.heap.size := Nat.lt_of_succ_lt hlo
      go_wp2_with (fail)
      exact bodyPost_ret (v := .agg #[.slice A3 l.length c3]) (by simp [results, Tryd.results42, go_sem, hres]) rfl ⟨⟨_, _, rfl, (HA.out.2.kept (setCell_grown wr ⟨w.heap.size + 1, 0, none⟩ _) (Nat.lt_succ_of_lt (Nat.lt_succ_self (w.heap.size + 1)))).mono (by omega)⟩, Below.setCell (bs2_old HB.out) (by simp) _⟩
end Go.Proofs.YtcpglghklmfbcaaDoor.T
