import Derived.Test.YtcpglghklmfbcaaDoorT6
import Derived.Test.YtcpglghklmfbcaaDoorN
import Derived.Test.YtcpglghklmfbcaaDoorWLast
namespace Go.Proofs.YtcpglghklmfbcaaDoor.T
open Go Go.RowKit Go.Proofs.YtcpglghklmfbcaaDoor.M Go.Proofs.YtcpglghklmfbcaaDoor.R Go.Proofs.YtcpglghklmfbcaaDoorW.PrintLast
set_option linter.unusedVariables false
set_option linter.unusedSimpArgs false
theorem info78 : (Tryd.prog.info? 78).map (fun i => (i.zero, i.size, i.bytes)) = some (some (.agg #[(.int .i64 0), (.int .i64 0), (.bool false)]), 3, 24) := by kernel_rfl
theorem info41 : (Tryd.prog.info? 41).map (fun i => (i.zero, i.size, i.bytes)) = some (some (.slice none 0 0), 1, 24) := by kernel_rfl

theorem take_succ_sl {l : Cop} {k : Nat} (hk : k < l.length) : l.take (k + 1) = l.take k ++ [sl l k] := by
  rw [List.take_succ_eq_append_getElem hk]
  have := sl_get hk
  rw [List.getElem?_eq_getElem hk] at this
  rw [Option.some.inj this]
theorem bs2_cell2 {w b : World} {v v' : Value} {t t' : TypeId} (h : Gr (bs2 w v t v' t') b) : Cell1 b (w.heap.size + 1) v' t' := by
  have := Cell1.new (w.alloc (.cells #[v] t)) v' t'
  rw [show (w.alloc (.cells #[v] t)).heap.size = w.heap.size + 1 by simp] at this
  exact this.keep (h.block _ (by rw [bs2_size]; omega))
/-- What hands back copies of its own. -/
def RetC (w : World) (c : Cop) (e : Ending) (w' : World) : Prop := (∃ v vs, e = .returned (.agg #[v]) ∧ Own2 encS 3 78 41 w' w.heap.size v c vs) ∧ Below w.heap.size w w'

set_option maxHeartbeats 1000000 in
set_option maxRecDepth 100000 in
theorem Copy_calls (A : Option Addr) (n c : Nat) (l : Cop) (w : World) (hn : n = l.length) (hR : Row2 encS 3 w A l) (hl : l.length ≤ 1000) (hs : ∀ s, s < l.length → (sl l s).length ≤ 1000) :
    Calls Tryd.prog 21 #[.agg #[.slice A n c]] w (RetC w l) := by
  have HR := Lib.hid hR
  have HN := Lib.hid hn
  have HS := Lib.hid hs
  have hl20 : n ≤ 1000 := by omega
  clear hR hn hs
  go_enter Tryd.func21, Tryd.ntmps21
  go_wp2
  go_loopg [4] n (fun g i wr => ∃ (k : Nat) (v : Value) (vs : List Value), k ≤ n ∧ i = .int .i64 k ∧ g = n - k ∧ Gr (bs2 w (.slice A n c) 24 (.slice none 0 0) 24) wr ∧ Cell1 wr (w.heap.size + 1 + 1) v 24 ∧ Own2 encS 3 78 41 wr (w.heap.size + 1 + 1 + 1) v (l.take k) vs)
  case atStart => exact ⟨0, .slice none 0 0, [], Nat.zero_le _, rfl, rfl, Gr.alloc (Gr.refl (bs2 w (.slice A n c) 24 (.slice none 0 0) 24)) _, by have := Cell1.new (bs2 w (.slice A n c) 24 (.slice none 0 0) 24) (.slice none 0 0) 24; rwa [bs2_size] at this, Own2.nil⟩
  case round =>
    obtain ⟨k, v, vs, hk, rfl, hg, hB, hC, hO⟩ := hrel
    have HB := Lib.hid hB
    have HC := Lib.hid hC
    have HA := Lib.hid (And.intro hg hO)
    have hbox := bs2_box hB
    have hout := hC.cell
    have hfr := hC.free 0
    have hlo := hC.lt
    clear hB hC hO hg
    by_cases hlt : k < n
    · have hkl : k < l.length := by have := HN.out; omega
      obtain ⟨b1, o1, Ak, ck, rfl, h1, h2, h3⟩ := (HR.out.below (bs2_old HB.out)).at (sl_get hkl)
      have hl1 : b1 < w.heap.size := by
        obtain ⟨b2, o2, _, _, e2, h4, _⟩ := HR.out.at (sl_get hkl)
        cases e2
        exact World.block_lt_of_cell? w _ h4
      have HX := Lib.hid (And.intro h3 (And.intro h2 hkl))
      have HKEEP : Hid (∀ W', Below (w.heap.size + 1 + 1 + 1) wr W' → (Below (w.heap.size + 1 + 1 + 1) wr W' ∧ W'.cell? ⟨w.heap.size, 0, none⟩ = some (.slice (some ⟨b1, o1, none⟩) n c) ∧ W'.cell? ⟨w.heap.size + 1 + 1, 0, none⟩ = some v ∧ W'.cell? ⟨b1, o1 + k, none⟩ = some (.slice Ak (sl l k).length ck) ∧ W'.frozen? ⟨w.heap.size + 1 + 1, 0, none⟩ = false)) := Lib.hid fun W' hb => ⟨hb, (hb.cell (p := ⟨_, _, none⟩) (by simp; omega)).trans hbox, (hb.cell (p := ⟨_, _, none⟩) (by simp)).trans hout, (hb.cell (p := ⟨_, _, none⟩) (by simp; omega)).trans h1, (hb.frozen (p := ⟨_, _, none⟩) (by simp)).trans hfr⟩
      clear h3 h2 hkl
      go_wp2_with (fail)
      refine start_ (n := 13) (S := fun W' => Below (w.heap.size + 1 + 1 + 1) wr W' ∧ W'.cell? ⟨w.heap.size, 0, none⟩ = some (.slice (some ⟨b1, o1, none⟩) n c) ∧ W'.cell? ⟨w.heap.size + 1 + 1, 0, none⟩ = some v ∧ W'.cell? ⟨b1, o1 + k, none⟩ = some (.slice Ak (sl l k).length ck) ∧ W'.frozen? ⟨w.heap.size + 1 + 1, 0, none⟩ = false) (ds := [12]) #[false, false, false, false, false, false, false, false, false, false, false, false, false] (by kernel_rfl) rfl rfl (HKEEP.out _ (Below.drew (Below.refl _ _))) (fun hHeld => ?_)
      refine pure_ (i := 0) (N := some 12) (v := ?_) (a' := ?_) #[true, false, false, false, false, false, false, false, false, false, false, false, false] rfl rfl (by kernel_rfl) (fun _ _ _ h => h) (Or.inl ⟨by rfl, ?_⟩) ?_ ?_
      rotate_left
      · intro w_
        go_simp
        with_reducible rfl
      rotate_left
      · simp only [Act.put, List.setIfInBounds_toArray, List.set_cons_zero, List.set_cons_succ]
        rfl
      refine pure_ (i := 3) (N := some 15) (v := ?_) (a' := ?_) #[true, false, false, true, false, false, false, false, false, false, false, false, false] rfl rfl (by kernel_rfl) (fun _ _ _ h => h) (Or.inl ⟨by rfl, ?_⟩) ?_ ?_
      rotate_left
      · intro w_
        go_simp
        with_reducible rfl
      rotate_left
      · simp only [Act.put, List.setIfInBounds_toArray, List.set_cons_zero, List.set_cons_succ]
        rfl
      refine pure_ (i := 5) (N := some 17) (v := ?_) (a' := ?_) #[true, false, false, true, false, true, false, false, false, false, false, false, false] rfl rfl (by kernel_rfl) (fun _ _ _ h => h) (Or.inl ⟨by rfl, ?_⟩) ?_ ?_
      rotate_left
      · intro w_
        go_simp
        with_reducible rfl
      rotate_left
      · simp only [Act.put, List.setIfInBounds_toArray, List.set_cons_zero, List.set_cons_succ]
        rfl
      refine take_ (i := 1) (N := some 13) (v := ?_) (a' := ?_) #[true, true, false, true, false, true, false, false, false, false, false, false, false] rfl rfl (by kernel_rfl) (fun _ _ _ h => h) (Or.inl ⟨by rfl, ?_⟩) hHeld ?_ ?_
      rotate_left
      · rintro w_ ⟨s0, s1, s2, s3, s4⟩
        go_simp
        with_reducible rfl
      rotate_left
      · simp only [Act.put, List.setIfInBounds_toArray, List.set_cons_zero, List.set_cons_succ]
        rfl
      refine take_ (i := 4) (N := some 16) (v := ?_) (a' := ?_) #[true, true, false, true, true, true, false, false, false, false, false, false, false] rfl rfl (by kernel_rfl) (fun _ _ _ h => h) (Or.inl ⟨by rfl, ?_⟩) hHeld ?_ ?_
      rotate_left
      · rintro w_ ⟨s0, s1, s2, s3, s4⟩
        go_simp
        with_reducible rfl
      rotate_left
      · simp only [Act.put, List.setIfInBounds_toArray, List.set_cons_zero, List.set_cons_succ]
        rfl
      refine pure_ (i := 6) (N := some 18) (v := ?_) (a' := ?_) #[true, true, false, true, true, true, true, false, false, false, false, false, false] rfl rfl (by kernel_rfl) (fun _ _ _ h => h) (Or.inl ⟨by rfl, ?_⟩) ?_ ?_
      rotate_left
      · intro w_
        go_simp
        with_reducible rfl
      rotate_left
      · simp only [Act.put, List.setIfInBounds_toArray, List.set_cons_zero, List.set_cons_succ]
        rfl
      refine take_ (i := 7) (N := some 19) (v := ?_) (a' := ?_) #[true, true, false, true, true, true, true, true, false, false, false, false, false] rfl rfl (by kernel_rfl) (fun _ _ _ h => h) (Or.inl ⟨by rfl, ?_⟩) hHeld ?_ ?_
      rotate_left
      · rintro w_ ⟨s0, s1, s2, s3, s4⟩
        go_simp
        with_reducible rfl
      rotate_left
      · simp only [Act.put, List.setIfInBounds_toArray, List.set_cons_zero, List.set_cons_succ]
        rfl
      refine one_ (i := 2) (N := some 14) #[true, true, true, true, true, true, true, true, false, false, false, false, false] rfl rfl (by kernel_rfl) (by decide) (fun K hK => ?_)
      refine value_ (v := .slice (some ⟨wr.heap.size, 0, none⟩) 0 0) (w1 := wr.drew.alloc (.cells #[] 78)) (by rfl) rfl ?_ ?_
      · first | (go_simp; done) | (go_simp; rfl)
      have hB1 : Below (w.heap.size + 1 + 1 + 1) wr (wr.drew.alloc (.cells #[] 78)) := (Below.drew (Below.refl _ _)).alloc (by simp; omega) _
      have HE := Lib.hid (Own.empty encS 3 78 wr.drew (w.heap.size + 1 + 1 + 1) (by simp; omega))
      refine hK.out _ _ (HKEEP.out _ hB1) (fun hHeld => ?_)
      clear hK K
      simp only [Act.put, List.setIfInBounds_toArray, List.set_cons_zero, List.set_cons_succ]
      have HB1 := Lib.hid hB1
      have HW1 := Lib.hid (((Below.drew (Below.refl _ _)).alloc (by simp) _ : Below wr.heap.size wr (wr.drew.alloc (.cells #[] 78))))
      have HR1 := Lib.hid (((HX.out.1.below (Below.drew (Below.refl _ _))).below ((Below.refl _ _).alloc (Nat.le_refl _) _) : Row encS 3 (wr.drew.alloc (.cells #[] 78)) Ak (sl l k)))
      have hs1 : w.heap.size + 1 + 1 + 1 ≤ (wr.drew.alloc (.cells #[] 78)).heap.size := by simp; omega
      have hs2 : wr.heap.size < (wr.drew.alloc (.cells #[] 78)).heap.size := by simp
      clear hB1
      generalize wr.drew.alloc (.cells #[] 78) = W1 at *
      refine one_ (i := 8) (N := some 20) #[true, true, true, true, true, true, true, true, true, false, false, false, false] rfl rfl (by kernel_rfl) (by decide) (fun K hK => ?_)
      refine step_append_row encS_len encS_one rfl _ _ 41 rfl Tryd.underlying41 _ 24 info78 rfl (by decide) (sl l k) Ak ck rfl rfl HR1.out HE.out (Below.refl _ _) hs1 (by have := HS.out k HX.out.2.2; simp; omega) (fun u W2 H2 => ?_)
      have hB2 : Below (w.heap.size + 1 + 1 + 1) wr W2 := HB1.out.trans H2.out.2.1
      refine hK.out _ _ (HKEEP.out _ hB2) (fun hHeld => ?_)
      clear hK K
      simp only [Act.put, List.setIfInBounds_toArray, List.set_cons_zero, List.set_cons_succ]
      have hW2 : Below wr.heap.size wr W2 := HW1.out.grown H2.out.2.2.1 (Nat.le_of_lt hs2) (fun k' hk' => Nat.le_of_eq (Option.some.inj hk'))
      have HW2 := Lib.hid hW2
      have HO2 := Lib.hid (HA.out.2.below hW2)
      clear hW2
      obtain ⟨A2, c2, rfl, hrow2, hc2⟩ := H2.out.1.row encS_len
      have HU := Lib.hid H2.out
      have HB2 := Lib.hid hB2
      clear hB2 hrow2 hc2 H2
      refine one_ (i := 9) (N := some 21) #[true, true, true, true, true, true, true, true, true, true, false, false, false] rfl rfl (by kernel_rfl) (by decide) (fun K hK => ?_)
      refine value_ (v := .slice (some ⟨W2.heap.size, 0, none⟩) 1 1) (w1 := W2.alloc (.cells #[.slice A2 ([] ++ sl l k).length c2] 41)) (by rfl) rfl ?_ ?_
      · first | (go_simp; done) | (go_simp; rfl)
      refine hK.out _ _ (HKEEP.out _ (HB2.out.alloc (Nat.le_trans hs1 HU.out.2.1.size) _)) (fun hHeld => ?_)
      clear hK K
      simp only [Act.put, List.setIfInBounds_toArray, List.set_cons_zero, List.set_cons_succ]
      refine one_ (i := 10) (N := some 22) #[true, true, true, true, true, true, true, true, true, true, true, false, false] rfl rfl (by kernel_rfl) (by decide) (fun K hK => ?_)
      have hd : (∀ k', (Value.slice A2 ([] ++ sl l k).length c2).ownBlock = some k' → wr.heap.size ≤ k') := by
        intro k' hk'
        rcases HU.out.2.2.2 with e | e
        · rw [e] at hk'
          have := Option.some.inj hk'
          exact Nat.le_of_eq this
        · rw [e] at hk'
          have := Option.some.inj hk'
          exact this ▸ Nat.le_of_lt hs2
      refine step_append1 (enc := encV) (w := W2) (v := v) (xs := vs) encV_len ?hg (.tmp 13) (.tmp 21) 22 ?ho Tryd.underlying22 _ 24 info41 rfl (by decide) (.slice A2 ([] ++ sl l k).length c2) (by intro u hu; simp [encV] at hu; subst hu; rfl) ?hs ?hx (HO2.out.2.1) (Below.refl _ _) (Nat.le_trans hs1 HU.out.2.1.size) (by have := HO2.out.1; rw [List.length_take] at this; omega) (fun v1 W3 H3 => ?_)
      case hg => rfl
      case ho => rfl
      case hs => rfl
      case hx => rfl
      have hB3 : Below (w.heap.size + 1 + 1 + 1) wr W3 := HB2.out.trans H3.out.2.1
      refine hK.out _ _ (HKEEP.out _ hB3) (fun hHeld => ?_)
      clear hK K
      simp only [Act.put, List.setIfInBounds_toArray, List.set_cons_zero, List.set_cons_succ]
      have hN := Own2.append HA.out.2 HW2.out HU.out.1 hd H3.out.1 H3.out.2.2.1 (by
        rcases H3.out.2.2.2 with e | e
        · exact Or.inl e
        · exact Or.inr ⟨_, e, Nat.le_succ _⟩)
      have HC3 := Lib.hid (HC.out.keep (hB3.block _ (Nat.lt_succ_self _)))
      have HB3 := Lib.hid (HB.out.trans (hB3.mono (by rw [bs2_size]; exact Nat.le_succ _)))
      have hl3 := HC3.out.lt
      have hfr3 := HC3.out.free 0
      have hout3 := HC3.out.cell
      rw [List.nil_append] at hN
      obtain ⟨A3, c3, rfl, hrow3, hc3⟩ := H3.out.1.row encV_len
      have HN3 := Lib.hid hN
      clear hN hB3 hd hrow3 hc3
      refine pure_ (i := 11) (N := some 23) (v := ?_) (a' := ?_) #[true, true, true, true, true, true, true, true, true, true, true, true, false] rfl rfl (by kernel_rfl) (fun _ _ _ h => h) (Or.inl ⟨by rfl, ?_⟩) ?_ ?_
      rotate_left
      · intro w_
        go_simp
        with_reducible rfl
      rotate_left
      · simp only [Act.put, List.setIfInBounds_toArray, List.set_cons_zero, List.set_cons_succ]
        rfl
      refine last_ (i := 12) (N := none) #[true, true, true, true, true, true, true, true, true, true, true, true, true] rfl rfl (by kernel_rfl) (by decide) (fun K hK => ?_)
      refine skip_ (w1 := W3.setCell ⟨w.heap.size + 1 + 1, 0, none⟩ (.slice A3 (vs ++ [Value.slice A2 ([] ++ sl l k).length c2]).length c3)) (by rfl) rfl ?_ ?_
      · first | (go_simp; done) | (go_simp; rfl)
      refine hK.out _ _ ?_
      clear hK K
      refine done_ (by kernel_rfl) ?_
      go_wp2_with (fail)
      go_roundg (n - (k + 1))
      case measure => have := HA.out.1; omega
      case rel =>
        refine ⟨k + 1, _, vs ++ [Value.slice A2 (sl l k).length c2], by omega, by go_num, rfl, Below.setCell HB3.out (by rw [bs2_size]; exact Nat.le_refl _) _, HC3.out.set, ?_⟩
        rw [take_succ_sl HX.out.2.2]
        have := HN3.out.kept (setCell_grown W3 ⟨w.heap.size + 1 + 1, 0, none⟩ (.slice A3 (vs ++ [Value.slice A2 ([] ++ sl l k).length c2]).length c3)) (Nat.lt_succ_self (w.heap.size + 1 + 1))
        simpa only [List.length_append, List.length_cons, List.length_nil, Nat.zero_add, List.nil_append] using this
    · have hbox2 := bs2_box2 HB.out
      have hfr2 : wr.frozen? ⟨w.heap.size + 1, 0, none⟩ = false := bs2_free HB.out
      have ek : l.take k = l := List.take_of_length_le (by have := HN.out; omega)
      rw [ek] at HA
      obtain ⟨A3, c3, rfl, hrow3, hc3⟩ := HA.out.2.row2 encS_len
      have hres : (wr.setCell ⟨w.heap.size + 1, 0, none⟩ (.slice A3 l.length c3)).cell? ⟨w.heap.size + 1, 0, none⟩ = some (.slice A3 l.length c3) := (bs2_cell2 HB.out).set.cell
      have hlo2 : w.heap.size + 1 < wr.heap.size := Nat.lt_of_succ_lt hlo
      go_wp2_with (fail)
      exact bodyPost_ret (v := .agg #[.slice A3 l.length c3]) (by simp [results, Tryd.results21, go_sem, hres]) rfl ⟨⟨_, _, rfl, (HA.out.2.kept (setCell_grown wr ⟨w.heap.size + 1, 0, none⟩ _) (Nat.lt_succ_of_lt (Nat.lt_succ_self (w.heap.size + 1)))).mono (by omega)⟩, Below.setCell (bs2_old HB.out) (by simp) _⟩
end Go.Proofs.YtcpglghklmfbcaaDoor.T
