import Derived.Test.YtcpglghklmfbcaaDoorT19
namespace Go.Proofs.YtcpglghklmfbcaaDoor.T
open Go Go.RowKit Go.Proofs.YtcpglghklmfbcaaDoor.M Go.Proofs.YtcpglghklmfbcaaDoor.R Go.Proofs.YtcpglghklmfbcaaDoorW.PrintLast
set_option linter.unusedVariables false
set_option linter.unusedSimpArgs false

theorem gRecover_calls (A : Option Addr) (n c : Nat) (l : Cop) (w : World) (hn : n = l.length) (hR : Row2 encS 3 w A l) (hs : small l) (hbad : IsBad w) :
    Calls Tryd.prog 12 #[.agg #[.slice A n c]] w (Ret3 w (recover l).1 (recover l).2.1 (recover l).2.2) := by
  have HR := Lib.hid hR
  have HN := Lib.hid hn
  have HO := Lib.hid (open_calls A n c l (bs w (.slice A n c) 24) hn (hR.below (bs_old (Gr.refl _))) hs (hbad.below (bs_old (Gr.refl (bs w (.slice A n c) 24))) hbad.lt))
  clear hR hn hs hbad
  by_cases h1 : checkM l = 0
  · have HM := Lib.hid h1
    have HOK := Lib.hid (checkM_ok h1).1
    clear h1
    cases h2 : newest l with
    | none =>
      have HE := Lib.hid (recover_none HM.out h2)
      have HW := Lib.hid (newI_none h2)
      rw [HE.out]
      clear h2
      go_enter Tryd.func12, Tryd.ntmps12
      go_wp2_with (go_at_call 40; refine HO.out.mono ?_; rintro e w2 ⟨hb, h3, _⟩; obtain ⟨g, m, hg, hm, rfl, hop⟩ := h3 HM.out; have HB2 := Lib.hid (show Gr (bs w (.slice A n c) 24) w2 from hb); have hc2 := (cp_cells hop.1).2.2.1; rw [HW.out] at hc2; clear hb h3 hop)
      go_ret3
      exact ⟨⟨_, rfl, Own.nil⟩, bs_old HB2.out⟩
    | some s =>
      have HE := Lib.hid (recover_some HM.out h2)
      have HW := Lib.hid (newI_some h2)
      have HL := Lib.hid (newest_lt h2)
      have hsn : s < n := by have := HN.out; have := HL.out.1; omega
      rw [HE.out]
      clear h2
      go_enter Tryd.func12, Tryd.ntmps12
      go_wp2_with (go_at_call 40; refine HO.out.mono ?_; rintro e w2 ⟨hb, h3, _⟩; obtain ⟨g, m, hg, hm, rfl, hop⟩ := h3 HM.out; have HB2 := Lib.hid (bs_old (show Gr (bs w (.slice A n c) 24) w2 from hb)); have hc2 := (cp_cells hop.1).2.2.1; have hg2 := (cp_cells hop.1).2.2.2.2; have HOP := Lib.hid hop; rw [HW.out] at hc2; clear hb h3 hop)
      refine start_ (n := 13) (S := fun W' => Gr w2 W' ∧ W'.cell? ⟨g, 2, none⟩ = some (.int .i64 (s : Int))) (ds := []) #[false, false, false, false, false, false, false, false, false, false, false, false, false] (by kernel_rfl) rfl rfl ⟨Below.drew (Below.refl _ _), hc2⟩ (fun hHeld => ?_)
      refine pure_ (i := 0) (N := some 19) (v := ?_) (a' := ?_) #[true, false, false, false, false, false, false, false, false, false, false, false, false] rfl rfl (by kernel_rfl) (fun _ _ _ h => h) (Or.inl ⟨by rfl, ?_⟩) ?_ ?_
      rotate_left
      · intro w_
        go_simp
        with_reducible rfl
      rotate_left
      · simp only [Act.put, List.setIfInBounds_toArray, List.set_cons_zero, List.set_cons_succ]
        rfl
      refine pure_ (i := 1) (N := some 20) (v := ?_) (a' := ?_) #[true, true, false, false, false, false, false, false, false, false, false, false, false] rfl rfl (by kernel_rfl) (fun _ _ _ h => h) (Or.inl ⟨by rfl, ?_⟩) ?_ ?_
      rotate_left
      · intro w_
        go_simp
        with_reducible rfl
      rotate_left
      · simp only [Act.put, List.setIfInBounds_toArray, List.set_cons_zero, List.set_cons_succ]
        rfl
      refine pure_ (i := 2) (N := some 21) (v := ?_) (a' := ?_) #[true, true, true, false, false, false, false, false, false, false, false, false, false] rfl rfl (by kernel_rfl) (fun _ _ _ h => h) (Or.inl ⟨by rfl, ?_⟩) ?_ ?_
      rotate_left
      · intro w_
        go_simp
        with_reducible rfl
      rotate_left
      · simp only [Act.put, List.setIfInBounds_toArray, List.set_cons_zero, List.set_cons_succ]
        rfl
      refine pure_ (i := 3) (N := some 22) (v := ?_) (a' := ?_) #[true, true, true, true, false, false, false, false, false, false, false, false, false] rfl rfl (by kernel_rfl) (fun _ _ _ h => h) (Or.inl ⟨by rfl, ?_⟩) ?_ ?_
      rotate_left
      · intro w_
        go_simp
        with_reducible rfl
      rotate_left
      · simp only [Act.put, List.setIfInBounds_toArray, List.set_cons_zero, List.set_cons_succ]
        rfl
      refine pure_ (i := 6) (N := some 25) (v := ?_) (a' := ?_) #[true, true, true, true, false, false, true, false, false, false, false, false, false] rfl rfl (by kernel_rfl) (fun _ _ _ h => h) (Or.inl ⟨by rfl, ?_⟩) ?_ ?_
      rotate_left
      · intro w_
        go_simp
        with_reducible rfl
      rotate_left
      · simp only [Act.put, List.setIfInBounds_toArray, List.set_cons_zero, List.set_cons_succ]
        rfl
      refine pure_ (i := 7) (N := some 26) (v := ?_) (a' := ?_) #[true, true, true, true, false, false, true, true, false, false, false, false, false] rfl rfl (by kernel_rfl) (fun _ _ _ h => h) (Or.inl ⟨by rfl, ?_⟩) ?_ ?_
      rotate_left
      · intro w_
        go_simp
        with_reducible rfl
      rotate_left
      · simp only [Act.put, List.setIfInBounds_toArray, List.set_cons_zero, List.set_cons_succ]
        rfl
      refine pure_ (i := 8) (N := some 27) (v := ?_) (a' := ?_) #[true, true, true, true, false, false, true, true, true, false, false, false, false] rfl rfl (by kernel_rfl) (fun _ _ _ h => h) (Or.inl ⟨by rfl, ?_⟩) ?_ ?_
      rotate_left
      · intro w_
        go_simp
        with_reducible rfl
      rotate_left
      · simp only [Act.put, List.setIfInBounds_toArray, List.set_cons_zero, List.set_cons_succ]
        rfl
      refine take_ (i := 4) (N := some 23) (v := ?_) (a' := ?_) #[true, true, true, true, true, false, true, true, true, false, false, false, false] rfl rfl (by kernel_rfl) (fun _ _ _ h => h) (Or.inl ⟨by rfl, ?_⟩) hHeld ?_ ?_
      rotate_left
      · rintro w_ ⟨s0, s1⟩
        go_simp
        with_reducible rfl
      rotate_left
      · simp only [Act.put, List.setIfInBounds_toArray, List.set_cons_zero, List.set_cons_succ]
        rfl
      refine take_ (i := 9) (N := some 28) (v := ?_) (a' := ?_) #[true, true, true, true, true, false, true, true, true, true, false, false, false] rfl rfl (by kernel_rfl) (fun _ _ _ h => h) (Or.inl ⟨by rfl, ?_⟩) hHeld ?_ ?_
      rotate_left
      · rintro w_ ⟨s0, s1⟩
        go_simp
        with_reducible rfl
      rotate_left
      · simp only [Act.put, List.setIfInBounds_toArray, List.set_cons_zero, List.set_cons_succ]
        rfl
      refine one_ (i := 5) (N := some 24) #[true, true, true, true, true, true, true, true, true, true, false, false, false] rfl rfl (by kernel_rfl) (by decide) (fun K hK => ?_)
      refine goes_ Tryd.func41 (by kernel_rfl) rfl #[.pointer (some ⟨g, 0, none⟩), .int .i64 (s : Int)] (by rfl) rfl rfl (by simp [Act.eval]) ?_
      refine (gtable_calls g A n c s l w2.drew (cp_cells HOP.out.1).1 HN.out (HR.out.below (HB2.out.drew _)) HL.out.1 (by have := okC_slot HOK.out HL.out.1; have := okC_len HOK.out; omega)).mono ?_
      rintro e w3 ⟨⟨v, rfl, hO⟩, hb0⟩
      have hb : Gr w2 w3 := (Below.drew (Below.refl w2.heap.size w2)).trans hb0
      refine ⟨v, rfl, hK.out _ _ ⟨hb, (hb.cell (p := ⟨g, 2, none⟩) hg2).trans hc2⟩ (fun hHeld => ?_)⟩
      clear hK K
      simp only [Act.put, List.setIfInBounds_toArray, List.set_cons_zero, List.set_cons_succ]
      refine pure_ (i := 10) (N := some 2) (v := ?_) (a' := ?_) #[true, true, true, true, true, true, true, true, true, true, true, false, false] rfl rfl (by kernel_rfl) (fun _ _ _ h => h) (Or.inl ⟨by rfl, ?_⟩) ?_ ?_
      rotate_left
      · intro w_
        go_simp
        with_reducible rfl
      rotate_left
      · simp only [Act.put, List.setIfInBounds_toArray, List.set_cons_zero, List.set_cons_succ]
        rfl
      refine pure_ (i := 11) (N := some 3) (v := ?_) (a' := ?_) #[true, true, true, true, true, true, true, true, true, true, true, true, false] rfl rfl (by kernel_rfl) (fun _ _ _ h => h) (Or.inl ⟨by rfl, ?_⟩) ?_ ?_
      rotate_left
      · intro w_
        go_simp
        with_reducible rfl
      rotate_left
      · simp only [Act.put, List.setIfInBounds_toArray, List.set_cons_zero, List.set_cons_succ]
        rfl
      refine pure_ (i := 12) (N := some 4) (v := ?_) (a' := ?_) #[true, true, true, true, true, true, true, true, true, true, true, true, true] rfl rfl (by kernel_rfl) (fun _ _ _ h => h) (Or.inl ⟨by rfl, ?_⟩) ?_ ?_
      rotate_left
      · intro w_
        go_simp
        with_reducible rfl
      rotate_left
      · simp only [Act.put, List.setIfInBounds_toArray, List.set_cons_zero, List.set_cons_succ]
        rfl
      refine done_ (by kernel_rfl) ?_

      go_wp2_with (fail)
      go_ret3
      exact ⟨⟨_, rfl, hO.mono HB2.out.size⟩, HB2.out.step (show Gr w2 w3 from hb)⟩
  · have HE := Lib.hid (recover_err h1)
    have hq := neq_of h1
    have HQ := Lib.hid h1
    rw [HE.out]
    clear h1
    go_enter Tryd.func12, Tryd.ntmps12
    go_wp2_with (go_at_call 40; refine HO.out.mono ?_; rintro e w2 ⟨hb, _, h3⟩; obtain rfl := h3 HQ.out; have HB2 := Lib.hid (show Gr (bs w (.slice A n c) 24) w2 from hb); clear hb h3)
    go_ret3
    exact ⟨⟨_, rfl, Own.nil⟩, bs_old HB2.out⟩
end Go.Proofs.YtcpglghklmfbcaaDoor.T
