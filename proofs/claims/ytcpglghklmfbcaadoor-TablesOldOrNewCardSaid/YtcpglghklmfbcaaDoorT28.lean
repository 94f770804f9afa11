import Derived.Test.YtcpglghklmfbcaaDoorT27
namespace Go.Proofs.YtcpglghklmfbcaaDoor.T
open Go Go.RowKit Go.Proofs.YtcpglghklmfbcaaDoor.M Go.Proofs.YtcpglghklmfbcaaDoor.R
set_option linter.unusedVariables false
set_option linter.unusedSimpArgs false

set_option maxRecDepth 100000 in
theorem exC_ok : okC exC = true := by decide +kernel
set_option maxRecDepth 100000 in
theorem exC_recover : recover exC = ([9, 9], 1, 0) := by decide +kernel
set_option maxRecDepth 100000 in
theorem exC_update : update exC [4, 5] = ([⟨2, 0, 1, 4⟩, ⟨2, 1, 1, 5⟩], 0) := by decide +kernel
set_option maxRecDepth 100000 in
theorem exC_margin : gmargin exC = (1, 0) := by decide +kernel
theorem exRecover (A : Option Addr) (c : Nat) (w : World) (hR : Row2 encS 3 w A exC) (hbad : IsBad w) : Calls Tryd.prog 12 #[.agg #[.slice A 3 c]] w (Ret3 w [9, 9] 1 0) := by
  have h := gRecover_calls A 3 c exC w rfl hR (okC_small exC_ok) hbad
  rwa [exC_recover] at h
theorem exUpdate (A A' : Option Addr) (c c' : Nat) (w : World) (hR : Row2 encS 3 w A exC) (hR' : Row encI 1 w A' [4, 5]) (hbad : IsBad w) : Calls Tryd.prog 29 #[.agg #[.slice A 3 c], .slice A' 2 c'] w (RetR encP 4 68 w [⟨2, 0, 1, 4⟩, ⟨2, 1, 1, 5⟩] 0) := by
  have h := gUpdate_calls A A' 3 c c' exC [4, 5] w rfl hR hR' (okC_small exC_ok) (by decide) hbad
  rwa [exC_update] at h
theorem exMargin (A : Option Addr) (c : Nat) (w : World) (hR : Row2 encS 3 w A exC) (hbad : IsBad w) : Calls Tryd.prog 13 #[.agg #[.slice A 3 c]] w fun e w' => e = .returned (.tuple #[.int .i64 1, .int .i64 0]) ∧ Below w.heap.size w w' := by
  have h := gMargin_calls A 3 c exC w rfl hR (okC_small exC_ok) hbad
  rwa [exC_margin] at h

set_option maxHeartbeats 1000000 in
theorem works_calls (w : World) (hbad : IsBad w) : Calls Tryd.prog 11 #[] w fun e w' => e = .returned (.bool true) ∧ Below w.heap.size w w' := by
  have HB0 := Lib.hid hbad
  clear hbad
  have hb : ∀ W, Gr w W → IsBad W := fun W h => HB0.out.below h HB0.out.lt
  have HB := Lib.hid hb
  have HW := Lib.hid (Gr.refl w)
  clear hb
  go_enter Tryd.func11, Tryd.ntmps11
  go_wp2_with (first
    | (go_at_call 39; refine (Example_calls _).mono ?_; rintro e w1 ⟨⟨A, c, rfl, hR⟩, hb⟩; have HR := Lib.hid hR; first | (have HW3 := Lib.hid (HW2u.out.step hb); have HT := Lib.hid (HT.out.below hb); have HP := Lib.hid (HP.out.below hb)) | (have HW2 := Lib.hid (HW1r.out.step hb); have HT := Lib.hid (HT.out.below hb)) | (have HW1 := Lib.hid (HW.out.step hb)); clear hR hb)
    | (go_at_call 12; refine (exRecover _ _ _ HR.out (HB.out _ HW1.out)).mono ?_; rintro e w2 ⟨⟨v1, rfl, hO1⟩, hb⟩; have HW1r := Lib.hid (HW1.out.step hb); obtain ⟨A1, c1, rfl, hr1, _⟩ := hO1.row encI_len; have HT := Lib.hid hr1; clear hO1 hb hr1 HR)
    | (go_at_call 29; go_must (refine (exUpdate _ _ _ _ _ (HR.out.below ((Below.refl _ _).alloc (Nat.le_refl _) _)) (row_of_lit encI_len _ 3 [4, 5] (by simp) _ rfl _ rfl) (HB.out _ (HW2.out.alloc _))).mono ?_); rintro e w3 ⟨⟨v2, rfl, hO2⟩, hb⟩; have HW2u := Lib.hid ((HW2.out.alloc _).step hb); have HT := Lib.hid ((HT.out.below ((Below.refl _ _).alloc (Nat.le_refl _) _)).below hb); obtain ⟨A2, c2, rfl, hr2, _⟩ := hO2.row encP_len; have HP := Lib.hid hr2; clear hO2 hb hr2 HR)
    | (go_at_call 13; refine (exMargin _ _ _ HR.out (HB.out _ HW3.out)).mono ?_; rintro e w4 ⟨rfl, hb⟩; have HW4 := Lib.hid (HW3.out.step hb); have HT := Lib.hid (HT.out.below hb); have HP := Lib.hid (HP.out.below hb); clear hb)
    | (go_at_call 16; go_must (refine (sameInts_calls _ _ _ _ [9, 9] [9, 9] _ (HT.out.below ((Below.refl _ _).alloc (Nat.le_refl _) _)) (row_of_lit encI_len _ 3 [9, 9] (by simp) _ rfl _ rfl)).mono ?_); rintro e w5 ⟨rfl, hb⟩; rw [show (([9, 9] : List Int) == [9, 9]) = true from rfl]; have HW5 := Lib.hid ((HW4.out.alloc _).step hb); have HP := Lib.hid ((HP.out.below ((Below.refl _ _).alloc (Nat.le_refl _) _)).below hb); clear hb)
    | (go_at_call 36; go_must (refine (samePatches_calls _ _ _ _ [⟨2, 0, 1, 4⟩, ⟨2, 1, 1, 5⟩] [⟨2, 0, 1, 4⟩, ⟨2, 1, 1, 5⟩] _ (HP.out.below ((Below.refl _ _).alloc (Nat.le_refl _) _)) (row_of_lit encP_len _ 68 [⟨2, 0, 1, 4⟩, ⟨2, 1, 1, 5⟩] (by simp) _ rfl _ rfl)).mono ?_); rintro e w6 ⟨rfl, hb⟩; rw [show (([⟨2, 0, 1, 4⟩, ⟨2, 1, 1, 5⟩] : List Pat) == [⟨2, 0, 1, 4⟩, ⟨2, 1, 1, 5⟩]) = true from by decide]; have HW6 := Lib.hid ((HW5.out.alloc _).step hb); clear hb))
  go_ret
  exact ⟨rfl, HW6.out⟩
end Go.Proofs.YtcpglghklmfbcaaDoor.T
