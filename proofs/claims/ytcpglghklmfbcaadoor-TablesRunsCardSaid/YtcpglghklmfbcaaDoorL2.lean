/- The law of the rot: what it calls, step by step. -/
import Derived.Test.YtcpglghklmfbcaaDoorT32
namespace Go.Proofs.YtcpglghklmfbcaaDoor.T
open Go Go.RowKit Go.Proofs.YtcpglghklmfbcaaDoor.M Go.Proofs.YtcpglghklmfbcaaDoor.R
set_option linter.unusedVariables false
set_option linter.unusedSimpArgs false

theorem margin_none {l : Cop} (h : checkM l = 0) (h2 : newest l = none) : margin l = (0, 0) := by simp [margin, h, h2]
theorem margin_some {l : Cop} {s : Nat} (h : checkM l = 0) (h2 : newest l = some s) : margin l = (((firsts l s).length : Int), 0) := by simp [margin, h, h2, firsts]
theorem validC_spec {l : Cop} (h : validC l = true) : small l ∧ checkM l = 0 := by
  simp only [validC, Bool.and_eq_true, Bool.not_eq_true', beq_iff_eq] at h
  exact ⟨far_small h.1, h.2⟩

set_option maxHeartbeats 2000000 in
set_option maxRecDepth 100000 in
theorem TablesRot_calls (A A1 A2 : Option Addr) (n c n1 c1 n2 c2 : Nat) (l : Cop) (xs ps : List Int) (w : World) (hn : n = l.length) (hn1 : n1 = xs.length) (hn2 : n2 = ps.length) (hR : Row2 encS 3 w A l) (hR1 : Row encI 1 w A1 xs) (hR2 : Row encI 1 w A2 ps) (hbad : IsBad w) :
    Calls Tryd.prog 3 #[.agg #[.slice A n c], .agg #[.slice A1 n1 c1, .slice A2 n2 c2]] w fun e w' => e = .returned (.bool true) ∧ Below w.heap.size w w' := by
  have HN := Lib.hid hn
  have HR := Lib.hid hR
  have HR1 := Lib.hid hR1
  have HR2 := Lib.hid hR2
  have HLN := Lib.hid (And.intro hn1 hn2)
  have HBA := Lib.hid (show ∀ W, Gr w W → IsBad W from fun W h => hbad.below h hbad.lt)
  have HRW := Lib.hid (show ∀ W, Gr w W → Row2 encS 3 W A l from fun W h => hR.below h)
  clear hn hn1 hn2 hR hR1 hR2 hbad
  rcases hv : validC l with _ | _
  · have HV := Lib.hid hv
    clear hv
    go_enter Tryd.func3, Tryd.ntmps3
    go_wp2_with (first
      | (go_at_call 10; refine (valid_calls A n c l _ HN.out (HRW.out _ (bx_old (Gr.refl _)))).mono ?_; rintro e w1 ⟨rfl, hb⟩; rw [HV.out]; have HB1 := Lib.hid (show Gr (bx w (.slice A n c) 24 (.slice A1 n1 c1) (.slice A2 n2 c2) 27) w1 from hb); clear hb)
      | (go_at_call 11; refine (works_calls _ (HBA.out _ (bx_old HB1.out))).mono ?_; rintro e w2 ⟨rfl, hb⟩; have HB2 := Lib.hid (HB1.out.step hb); clear hb))
    go_ret
    exact ⟨rfl, bx_old HB2.out⟩
  have HV := Lib.hid hv
  have HSM := Lib.hid (validC_spec hv).1
  have HM := Lib.hid (validC_spec hv).2
  clear hv
  by_cases a1 : 20 < n1
  · go_enter Tryd.func3, Tryd.ntmps3
    go_wp2_with (first
      | (go_at_call 10; refine (valid_calls A n c l _ HN.out (HRW.out _ (bx_old (Gr.refl _)))).mono ?_; rintro e w1 ⟨rfl, hb⟩; rw [HV.out]; have HB1 := Lib.hid (show Gr (bx w (.slice A n c) 24 (.slice A1 n1 c1) (.slice A2 n2 c2) 27) w1 from hb); obtain ⟨hbox, hx1, hx2⟩ := bx_box HB1.out; clear hb)
      | (go_at_call 11; refine (works_calls _ (HBA.out _ (bx_old HB1.out))).mono ?_; rintro e w2 ⟨rfl, hb⟩; have HB2 := Lib.hid (HB1.out.step hb); clear hb))
    go_ret
    exact ⟨rfl, bx_old HB2.out⟩
  by_cases a2 : 20 < n2
  · go_enter Tryd.func3, Tryd.ntmps3
    go_wp2_with (first
      | (go_at_call 10; refine (valid_calls A n c l _ HN.out (HRW.out _ (bx_old (Gr.refl _)))).mono ?_; rintro e w1 ⟨rfl, hb⟩; rw [HV.out]; have HB1 := Lib.hid (show Gr (bx w (.slice A n c) 24 (.slice A1 n1 c1) (.slice A2 n2 c2) 27) w1 from hb); obtain ⟨hbox, hx1, hx2⟩ := bx_box HB1.out; clear hb)
      | (go_at_call 11; refine (works_calls _ (HBA.out _ (bx_old HB1.out))).mono ?_; rintro e w2 ⟨rfl, hb⟩; have HB2 := Lib.hid (HB1.out.step hb); clear hb))
    go_ret
    exact ⟨rfl, bx_old HB2.out⟩
  have HMA := Lib.hid (show ∀ W, Gr w W → Calls Tryd.prog 13 #[.agg #[.slice A n c]] W fun e w' => e = .returned (.tuple #[.int .i64 (margin l).1, .int .i64 (margin l).2]) ∧ Below W.heap.size W w' from fun W h => by
    have := gMargin_calls A n c l W HN.out (HRW.out _ h) HSM.out (HBA.out _ h)
    rwa [gmargin_eq] at this)
  have HRE := Lib.hid (show ∀ W, Gr w W → Calls Tryd.prog 12 #[.agg #[.slice A n c]] W (Ret3 W (recover l).1 (recover l).2.1 (recover l).2.2) from fun W h => gRecover_calls A n c l W HN.out (HRW.out _ h) HSM.out (HBA.out _ h))
  cases h2 : newest l with
  | none =>
    rw [recover_none HM.out h2] at HRE
    rw [margin_none HM.out h2] at HMA
    clear h2
    go_enter Tryd.func3, Tryd.ntmps3
    go_wp2_with (first
      | (go_at_call 10; refine (valid_calls A n c l _ HN.out (HRW.out _ (bx_old (Gr.refl _)))).mono ?_; rintro e w1 ⟨rfl, hb⟩; rw [HV.out]; have HB1 := Lib.hid (show Gr (bx w (.slice A n c) 24 (.slice A1 n1 c1) (.slice A2 n2 c2) 27) w1 from hb); obtain ⟨hbox, hx1, hx2⟩ := bx_box HB1.out; clear hb)
      | (go_at_call 12; refine (HRE.out _ (bx_old HB1.out)).mono ?_; rintro e w2 ⟨⟨v2, rfl, hO2⟩, hb⟩; have HB2 := Lib.hid (HB1.out.step hb); obtain ⟨hbox2, hx12, hx22⟩ := bx_box HB2.out; clear hb hO2)
      | (go_at_call 13; refine (HMA.out _ (bx_old HB2.out)).mono ?_; rintro e w3 ⟨rfl, hb⟩; have HB3 := Lib.hid (HB2.out.step hb); clear hb)
      | (go_at_call 11; refine (works_calls _ (HBA.out _ (bx_old HB3.out))).mono ?_; rintro e w4 ⟨rfl, hb⟩; have HB4 := Lib.hid (HB3.out.step hb); clear hb))
    go_ret
    exact ⟨rfl, bx_old HB4.out⟩
  | some o =>
    have HNE := Lib.hid h2
    rw [recover_some HM.out h2] at HRE
    rw [margin_some HM.out h2] at HMA
    have hm1 := firsts_pos HM.out h2
    have hm2 := firsts_len l o
    have HOK := Lib.hid (checkM_ok HM.out).1
    have hln := okC_len HOK.out
    have hnl : n = l.length := HN.out
    have hmn : (firsts l o).length ≤ n := by omega
    have hm0 : ¬ ((firsts l o).length : Int) < 1 := by omega
    have htl : (tab (sl l o)).length = parts l := by rw [show (tab (sl l o)).length = (sl l o).length by simp [tab]]; exact (okC_slot HOK.out (newest_lt h2).1).1
    obtain ⟨T, hT⟩ : ∃ T, T = tab (sl l o) := ⟨_, rfl⟩
    have HT := Lib.hid hT
    rw [← hT] at HRE htl
    clear h2 hT
    obtain ⟨M, hM⟩ : ∃ M, M = (firsts l o).length := ⟨_, rfl⟩
    have HMM := Lib.hid hM
    rw [← hM] at HMA hm1 hm2 hmn hm0
    clear hM
    have HTL := Lib.hid htl
    have HSP := Lib.hid (show ∀ W, Gr w W → Calls Tryd.prog 14 #[.agg #[.slice A n c], .agg #[.slice A1 n1 c1, .slice A2 n2 c2]] W (RetSp W (spoilU l xs ps (min n1 n2)).1 (spoilU l xs ps (min n1 n2)).2) from fun W h => spoilt_calls A A1 A2 n c n1 c1 n2 c2 l xs ps W HN.out HLN.out.1 HLN.out.2 (HRW.out _ h) (HR1.out.below h) (HR2.out.below h) HOK.out (min n1 n2) rfl (by omega))
    have HSUB1 := Lib.hid (spoilU_sub xs ps HOK.out (min n1 n2))
    have HST := Lib.hid (rot_stays xs ps (min n1 n2) HM.out HNE.out)
    rw [← HMM.out, ← HT.out] at HST
    have hq1 := spoilU_le l xs ps (min n1 n2)
    clear hln hnl htl
    generalize spoilU l xs ps (min n1 n2) = Y1 at *
    obtain ⟨y1, q1⟩ := Y1
    dsimp only at HSP HSUB1 HST hq1
    by_cases hq : q1 < M
    · have HST := Lib.hid (HST.out hq)
      obtain ⟨t', ht'⟩ := HST.out
      have HST := Lib.hid ht'
      clear ht'
      go_enter Tryd.func3, Tryd.ntmps3
      go_wp2_with (first
        | (go_at_call 10; refine (valid_calls A n c l _ HN.out (HRW.out _ (bx_old (Gr.refl _)))).mono ?_; rintro e w1 ⟨rfl, hb⟩; rw [HV.out]; have HB1 := Lib.hid (show Gr (bx w (.slice A n c) 24 (.slice A1 n1 c1) (.slice A2 n2 c2) 27) w1 from hb); obtain ⟨hbox, hx1, hx2⟩ := bx_box HB1.out; clear hb)
        | (go_at_call 12; refine (HRE.out _ (bx_old HB1.out)).mono ?_; rintro e w2 ⟨⟨v2, rfl, hO2⟩, hb⟩; obtain ⟨A5, c5, rfl, hrow5, hc5⟩ := hO2.row encI_len; have HROW := Lib.hid hrow5; have HB2 := Lib.hid (HB1.out.step hb); obtain ⟨hbox2, hx12, hx22⟩ := bx_box HB2.out; clear hb hO2 hrow5 hc5)
        | (go_at_call 13; refine (HMA.out _ (bx_old HB2.out)).mono ?_; rintro e w3 ⟨rfl, hb⟩; have HB3 := Lib.hid (HB2.out.step hb); have HROW3 := Lib.hid (HROW.out.below hb); obtain ⟨hbox3, hx13, hx23⟩ := bx_box HB3.out; clear hb)
        | (go_at_call 14; refine (HSP.out _ (bx_old HB3.out)).mono ?_; rintro e w4 ⟨⟨v4, vs4, rfl, hO4⟩, hb⟩; obtain ⟨A6, c6, rfl, hrow6, hc6⟩ := hO4.row2 encS_len; have HROW6 := Lib.hid hrow6; have HROW4 := Lib.hid (HROW3.out.below hb); have HB4 := Lib.hid (HB3.out.step hb); have HBOX := Lib.hid (Cell1.new w4 (.slice A6 y1.length c6) 24);clear hb hO4 hrow6 hc6)
        | (go_at_call 15; refine (recovered_calls A6 y1.length c6 y1 T t' _ rfl (HROW6.out.below ((Below.refl w4.heap.size w4).alloc (Nat.le_refl _) (.cells #[.slice A6 y1.length c6] 24))) (okC_small HSUB1.out.ok) (HBA.out _ (bx_old (HB4.out.alloc _))) HST.out.2 (by rw [HTL.out]; exact HSUB1.out.prt.symm) (by rw [HSUB1.out.len]; exact HST.out.1)).mono ?_; rintro e w6 ⟨⟨v6, rfl, hO6⟩, hb⟩; obtain ⟨A7, c7, rfl, hrow7, hc7⟩ := hO6.row encI_len; have HROW7 := Lib.hid hrow7; have HB6 := Lib.hid (((Gr.refl w4).alloc (.cells #[.slice A6 y1.length c6] 24)).step hb); have HC6 := Lib.hid (HBOX.out.keep (hb.block _ HBOX.out.lt)); have HR6 := Lib.hid ((HROW4.out.below ((Below.refl w4.heap.size w4).alloc (Nat.le_refl _) _)).below hb); clear hb hO6 hrow7 hc7)
        | (go_at_call 16; refine (sameInts_calls _ _ _ _ T T w6 HROW7.out HR6.out).mono ?_; rintro e w5 ⟨rfl, hb⟩; rw [beq_self_eq_true]; have HW := Lib.hid (And.intro (HB6.out.step hb) (HC6.out.keep (hb.block _ HC6.out.lt))); clear hb))
      clear HROW HROW3 HROW6 HB1 HB2 HB3 HB6 HC6 HR6 HROW7 HBOX HST hbox hx1 hx2 hbox2 hx12 hx22 hbox3 hx13 hx23
      have hn4 : n ≤ 4 := by have := okC_len HOK.out; have := HN.out; omega
      have HZ := Lib.hid (Two.new w5)
      have HBX := Lib.hid (show ∀ W, Gr w4 W → Gr (bx w (.slice A n c) 24 (.slice A1 n1 c1) (.slice A2 n2 c2) 27) W from fun W h => HB4.out.step h)
      have hws : w.heap.size ≤ w4.heap.size := (bx_old HB4.out).size
      go_loopg [15] n (fun g i wr => ∃ (k : Nat) (v1 v2 : Value), k ≤ n ∧ i = .int .i64 k ∧ g = n - k ∧ Gr w5 wr ∧ Two wr w5.heap.size v1 v2 (nums (ownU l T k)) (zeros (ownU l T k)))
      case atStart => exact ⟨0, .slice none 0 0, .slice none 0 0, Nat.zero_le _, rfl, rfl, (Gr.refl w5).alloc _, HZ.out⟩
      case round =>
        obtain ⟨k, v1, v2, hk, rfl, hg, hG, hTw⟩ := hrel
        have HG := Lib.hid (And.intro hg (And.intro hG hTw))
        obtain ⟨hbox, hx1, hx2⟩ := bx_box (HBX.out _ (HW.out.1.step hG))
        have hz0 := hTw.box.cell
        clear hg hG hTw HZ
        by_cases hlt : k < n
        · have hkl : k < l.length := by have := HN.out; omega
          obtain ⟨b, off, Ak, ck, rfl, h1, h2, h3⟩ := (HRW.out wr (bx_old (HBX.out _ (HW.out.1.step HG.out.2.1)))).at (sl_get hkl)
          have HK := Lib.hid h3
          clear h2 h3
          rcases hw : whole (sl l k) with _ | _
          · have HWH := Lib.hid hw
            have HE := Lib.hid (ownU_no (t := T) (Or.inl hw))
            clear hw
            go_wp2_with (go_at_call 17; refine (Whole_calls _ _ (sl l k) _ HK.out).mono ?_; rintro e w6 ⟨rfl, hb⟩; rw [HWH.out]; have H6 := Lib.hid hb; clear hb)
            go_roundg (n - (k + 1))
            case measure => have := HG.out.1; omega
            case rel => exact ⟨k + 1, v1, v2, by omega, by go_num, rfl, HG.out.2.1.step H6.out, by rw [HE.out]; exact HG.out.2.2.below H6.out⟩
          have HWH := Lib.hid hw
          rcases ht : (tab (sl l k) == T) with _ | _
          · have HTT := Lib.hid ht
            have HE := Lib.hid (ownU_no (k := k) (Or.inr (by simpa using ht)))
            clear hw ht
            go_wp2_with (first
              | (go_at_call 17; refine (Whole_calls _ _ (sl l k) _ HK.out).mono ?_; rintro e w6 ⟨rfl, hb⟩; rw [HWH.out]; have H6 := Lib.hid hb; obtain ⟨hbox6, _, _⟩ := bx_box (HBX.out _ (HW.out.1.step (HG.out.2.1.step hb))); have h16 := (hb.cell (p := ⟨b, off + k, none⟩) (World.block_lt_of_cell? wr _ h1)).trans h1; clear hb)
              | (go_at_call 18; refine (Table_calls _ _ (sl l k) _ (HK.out.below H6.out) (by have := okC_slot HOK.out hkl; have := okC_len HOK.out; omega)).mono ?_; rintro e w7 ⟨⟨v7, rfl, hO7⟩, hb⟩; obtain ⟨A7, c7, rfl, hrow7, hc7⟩ := hO7.row encI_len; have H7 := Lib.hid (And.intro hrow7 ((Gr.step (Gr.refl wr) H6.out).step hb)); clear hb hO7 hrow7 hc7)
              | (go_at_call 16; refine (sameInts_calls _ _ _ _ (tab (sl l k)) T w7 H7.out.1 (HROW4.out.below ((HW.out.1.step HG.out.2.1).step H7.out.2))).mono ?_; rintro e w8 ⟨rfl, hb⟩; rw [HTT.out]; have H8 := Lib.hid (H7.out.2.step hb); clear hb))
            go_roundg (n - (k + 1))
            case measure => have := HG.out.1; omega
            case rel => exact ⟨k + 1, v1, v2, by omega, by go_num, rfl, HG.out.2.1.step H8.out, by rw [HE.out]; exact HG.out.2.2.below H8.out⟩
          · have HTT := Lib.hid ht
            have HE := Lib.hid (ownU_yes hw (by simpa using ht))
            have hol := ownU_len l T k
            have hnl : (nums (ownU l T k)).length = (ownU l T k).length := by simp [nums]
            have hzl : (zeros (ownU l T k)).length = (ownU l T k).length := by simp [zeros]
            have hb1 : ((nums (ownU l T k)).length + 1) * 8 ≤ 140737488355328 := by have := okC_len HOK.out; omega
            have hb2 : ((zeros (ownU l T k)).length + 1) * 8 ≤ 140737488355328 := by have := okC_len HOK.out; omega
            have HBB := Lib.hid (And.intro hb1 hb2)
            clear hw ht hol hnl hzl hb1 hb2
            go_wp2_with (first
              | (go_at_call 17; refine (Whole_calls _ _ (sl l k) _ HK.out).mono ?_; rintro e w6 ⟨rfl, hb⟩; rw [HWH.out]; have H6 := Lib.hid hb; obtain ⟨hbox6, _, _⟩ := bx_box (HBX.out _ (HW.out.1.step (HG.out.2.1.step hb))); have h16 := (hb.cell (p := ⟨b, off + k, none⟩) (World.block_lt_of_cell? wr _ h1)).trans h1; clear hb)
              | (go_at_call 18; refine (Table_calls _ _ (sl l k) _ (HK.out.below H6.out) (by have := okC_slot HOK.out hkl; have := okC_len HOK.out; omega)).mono ?_; rintro e w7 ⟨⟨v7, rfl, hO7⟩, hb⟩; obtain ⟨A7, c7, rfl, hrow7, hc7⟩ := hO7.row encI_len; have H7 := Lib.hid (And.intro hrow7 ((Gr.step (Gr.refl wr) H6.out).step hb)); clear hb hO7 hrow7 hc7)
              | (go_at_call 16; refine (sameInts_calls _ _ _ _ (tab (sl l k)) T w7 H7.out.1 (HROW4.out.below ((HW.out.1.step HG.out.2.1).step H7.out.2))).mono ?_; rintro e w8 ⟨rfl, hb⟩; rw [HTT.out]; have H8 := Lib.hid (And.intro (HG.out.2.1.step (H7.out.2.step hb)) (HG.out.2.2.below (H7.out.2.step hb))); have hz8 := H8.out.2.box.cell; clear hb)
              | (at_builtin; refine wp_append1 encI_len encI_one rfl _ _ 25 rfl Tryd.underlying25 _ 8 info3 rfl (by decide) (k : Int) rfl rfl H8.out.2.one (Below.refl _ w8) H8.out.2.box.lt HBB.out.1 (fun v3 w9 H9 => ?_); obtain ⟨A8, c8, e8, _, _⟩ := H9.out.1.row encI_len; rw [List.length_append, List.length_singleton] at e8; subst e8; have H9b := Lib.hid (And.intro (H8.out.1.grown H9.out.2.2.1 H8.out.1.size (fun q hq => Nat.le_trans (Nat.le_succ _) (H8.out.2.one.lt q hq).1)) (H8.out.2.box.keep (H9.out.2.1.block _ (Nat.lt_succ_self _)))); have hz9 := H9b.out.2.cell; have hf9 := H9b.out.2.free 0; have hl9 := H9b.out.2.lt; have H10 := Lib.hid (H8.out.2.set0 H9.out.1 H9.out.2.2.1 H9.out.2.2.2); have hz10 := H10.out.box.cell)
              | (at_builtin; refine wp_append1 encI_len encI_one rfl _ _ 25 rfl Tryd.underlying25 _ 8 info3 rfl (by decide) (0 : Int) rfl (by go_simp) H10.out.two (Below.refl _ _) H10.out.box.lt HBB.out.2 (fun v4 w11 H11 => ?_); obtain ⟨A9, c9, e9, _, _⟩ := H11.out.1.row encI_len; rw [List.length_append, List.length_singleton] at e9; subst e9; have H11b := Lib.hid (And.intro ((Below.setCell H9b.out.1 (Nat.le_refl _) _).grown H11.out.2.2.1 (Below.setCell H9b.out.1 (Nat.le_refl _) _).size (fun q hq => Nat.le_trans (Nat.le_succ _) (H10.out.two.lt q hq).1)) (H10.out.box.keep (H11.out.2.1.block _ (Nat.lt_succ_self _)))); have hz11 := H11b.out.2.cell; have hf11 := H11b.out.2.free 1; have hl11 := H11b.out.2.lt; have H12 := Lib.hid (H10.out.set1 H11.out.1 H11.out.2.2.1 H11.out.2.2.2)))
            go_roundg (n - (k + 1))
            case measure => have := HG.out.1; omega
            case rel => exact ⟨k + 1, _, _, by omega, by go_num, rfl, Below.setCell H11b.out.1 (Nat.le_refl _) _, by rw [HE.out, show nums (ownU l T k ++ [k]) = nums (ownU l T k) ++ [(k : Int)] by simp [nums], show zeros (ownU l T k ++ [k]) = zeros (ownU l T k) ++ [0] by simp [zeros]]; exact H12.out⟩
        · have hk' : k = l.length := by have := HN.out; omega
          subst hk'
          obtain ⟨A8, c8, rfl, hr8, hc8⟩ := HG.out.2.2.one.row encI_len
          obtain ⟨A9, c9, rfl, hr9, hc9⟩ := HG.out.2.2.two.row encI_len
          have HRR := Lib.hid (And.intro hr8 hr9)
          have hgo := rot_goes HM.out HNE.out (ownU l T l.length) (by rw [HT.out])
          have hmE := firsts_le (l := l) (o := o)
          rw [← HT.out] at hgo
          rw [← HMM.out, ← HT.out] at hmE
          have HSP2 := Lib.hid (show ∀ W, Gr w W → Row encI 1 wr A8 (nums (ownU l T l.length)) → Row encI 1 wr A9 (zeros (ownU l T l.length)) → W = wr → Calls Tryd.prog 14 #[.agg #[.slice A n c], .agg #[.slice A8 (nums (ownU l T l.length)).length c8, .slice A9 (zeros (ownU l T l.length)).length c9]] W (RetSp W (spoilU l (nums (ownU l T l.length)) (zeros (ownU l T l.length)) (ownU l T l.length).length).1 (spoilU l (nums (ownU l T l.length)) (zeros (ownU l T l.length)) (ownU l T l.length).length).2) from fun W h r1 r2 e => by
            subst e
            exact spoilt_calls A A8 A9 n c _ c8 _ c9 l _ _ W HN.out rfl rfl (HRW.out _ h) r1 r2 HOK.out (ownU l T l.length).length (by simp [nums, zeros]) (by have := ownU_len l T l.length; have := okC_len HOK.out; omega))
          have HSUB2 := Lib.hid (spoilU_sub (nums (ownU l T l.length)) (zeros (ownU l T l.length)) HOK.out (ownU l T l.length).length)
          generalize spoilU l (nums (ownU l T l.length)) (zeros (ownU l T l.length)) (ownU l T l.length).length = Y2 at *
          obtain ⟨y2, q2⟩ := Y2
          dsimp only at hgo HSP2 HSUB2
          have hq2 : M ≤ q2 := by omega
          have HRE2 := Lib.hid (show ∀ B cb W, Gr w4 W → Row2 encS 3 W B y2 → Calls Tryd.prog 12 #[.agg #[.slice B y2.length cb]] W (Ret3 W (recover y2).1 (recover y2).2.1 (recover y2).2.2) from fun B cb W h r => gRecover_calls B _ cb y2 W rfl r (okC_small HSUB2.out.ok) (HBA.out _ (bx_old (HBX.out _ h))))
          clear hr8 hr9 hc8 hc9 hmE
          rcases hgo.2 with h3 | ⟨t3, h3, hne⟩
          · rw [h3] at HRE2
            clear hgo h3
            go_wp2_with (first
            | (go_at_call 14; refine (HSP2.out _ (bx_old (HBX.out _ (HW.out.1.step HG.out.2.1))) HRR.out.1 HRR.out.2 rfl).mono ?_; rintro e w6 ⟨⟨v6, vs6, rfl, hO6⟩, hb⟩; obtain ⟨A10, c10, rfl, _, _⟩ := hO6.row2 encS_len; have H6 := Lib.hid (And.intro hO6 (And.intro (HW.out.1.step (HG.out.2.1.step hb)) ((HW.out.2.keep (HG.out.2.1.block _ HW.out.2.lt)).keep (hb.block _ (HW.out.2.keep (HG.out.2.1.block _ HW.out.2.lt)).lt)))); have hy6 := H6.out.2.2.cell; have hf6 := H6.out.2.2.free 0; have hl6 := H6.out.2.2.lt; have hy7 := (H6.out.2.2.set (u := .slice A10 y2.length c10)).cell; clear hb hO6)
            | (go_at_call 12; refine (HRE2.out A10 c10 _ (Below.setCell H6.out.2.1 (Nat.le_refl _) _) (Own2.rowA (H6.out.1.kept (setCell_grown w6 ⟨w4.heap.size, 0, none⟩ (.slice A10 y2.length c10)) (Nat.lt_of_lt_of_le HW.out.2.lt HG.out.2.1.size)))).mono ?_; rintro e w8 ⟨⟨v8, rfl, hO8⟩, hb⟩; obtain ⟨A11, c11, rfl, hrow11, hc11⟩ := hO8.row encI_len; have H8 := Lib.hid (And.intro hrow11 ((show Gr w4 _ from Below.setCell H6.out.2.1 (Nat.le_refl _) _).step hb)); clear hb hO8 hrow11 hc11)
            | (go_at_call 11; refine (works_calls _ (HBA.out _ (bx_old (HBX.out _ H8.out.2)))).mono ?_; rintro e w10 ⟨rfl, hb⟩; have H10 := Lib.hid (bx_old (HBX.out _ (H8.out.2.step hb))); clear hb))
            go_ret
            exact ⟨rfl, H10.out⟩
          · rw [h3] at HRE2
            have HNE2 : Hid ((tab (sl l t3) == T) = false) := Lib.hid (by simpa using hne)
            clear hgo h3 hne
            go_wp2_with (first
            | (go_at_call 14; refine (HSP2.out _ (bx_old (HBX.out _ (HW.out.1.step HG.out.2.1))) HRR.out.1 HRR.out.2 rfl).mono ?_; rintro e w6 ⟨⟨v6, vs6, rfl, hO6⟩, hb⟩; obtain ⟨A10, c10, rfl, _, _⟩ := hO6.row2 encS_len; have H6 := Lib.hid (And.intro hO6 (And.intro (HW.out.1.step (HG.out.2.1.step hb)) ((HW.out.2.keep (HG.out.2.1.block _ HW.out.2.lt)).keep (hb.block _ (HW.out.2.keep (HG.out.2.1.block _ HW.out.2.lt)).lt)))); have hy6 := H6.out.2.2.cell; have hf6 := H6.out.2.2.free 0; have hl6 := H6.out.2.2.lt; have hy7 := (H6.out.2.2.set (u := .slice A10 y2.length c10)).cell; clear hb hO6)
            | (go_at_call 12; refine (HRE2.out A10 c10 _ (Below.setCell H6.out.2.1 (Nat.le_refl _) _) (Own2.rowA (H6.out.1.kept (setCell_grown w6 ⟨w4.heap.size, 0, none⟩ (.slice A10 y2.length c10)) (Nat.lt_of_lt_of_le HW.out.2.lt HG.out.2.1.size)))).mono ?_; rintro e w8 ⟨⟨v8, rfl, hO8⟩, hb⟩; obtain ⟨A11, c11, rfl, hrow11, hc11⟩ := hO8.row encI_len; have H8 := Lib.hid (And.intro hrow11 ((show Gr w4 _ from Below.setCell H6.out.2.1 (Nat.le_refl _) _).step hb)); clear hb hO8 hrow11 hc11)
            | (go_at_call 16; refine (sameInts_calls _ _ _ _ (tab (sl l t3)) T w8 H8.out.1 (HROW4.out.below H8.out.2)).mono ?_; rintro e w9 ⟨rfl, hb⟩; rw [HNE2.out]; have H9 := Lib.hid (H8.out.2.step hb); clear hb)
            | (go_at_call 11; refine (works_calls _ (HBA.out _ (bx_old (HBX.out _ H9.out)))).mono ?_; rintro e w10 ⟨rfl, hb⟩; have H10 := Lib.hid (bx_old (HBX.out _ (H9.out.step hb))); clear hb))
            go_ret
            exact ⟨rfl, H10.out⟩
    · clear HST
      go_enter Tryd.func3, Tryd.ntmps3
      go_wp2_with (first
        | (go_at_call 10; refine (valid_calls A n c l _ HN.out (HRW.out _ (bx_old (Gr.refl _)))).mono ?_; rintro e w1 ⟨rfl, hb⟩; rw [HV.out]; have HB1 := Lib.hid (show Gr (bx w (.slice A n c) 24 (.slice A1 n1 c1) (.slice A2 n2 c2) 27) w1 from hb); obtain ⟨hbox, hx1, hx2⟩ := bx_box HB1.out; clear hb)
        | (go_at_call 12; refine (HRE.out _ (bx_old HB1.out)).mono ?_; rintro e w2 ⟨⟨v2, rfl, hO2⟩, hb⟩; obtain ⟨A5, c5, rfl, hrow5, hc5⟩ := hO2.row encI_len; have HROW := Lib.hid hrow5; have HB2 := Lib.hid (HB1.out.step hb); obtain ⟨hbox2, hx12, hx22⟩ := bx_box HB2.out; clear hb hO2 hrow5 hc5)
        | (go_at_call 13; refine (HMA.out _ (bx_old HB2.out)).mono ?_; rintro e w3 ⟨rfl, hb⟩; have HB3 := Lib.hid (HB2.out.step hb); have HROW3 := Lib.hid (HROW.out.below hb); obtain ⟨hbox3, hx13, hx23⟩ := bx_box HB3.out; clear hb)
        | (go_at_call 14; refine (HSP.out _ (bx_old HB3.out)).mono ?_; rintro e w4 ⟨⟨v4, vs4, rfl, hO4⟩, hb⟩; obtain ⟨A6, c6, rfl, hrow6, hc6⟩ := hO4.row2 encS_len; have HROW6 := Lib.hid hrow6; have HROW4 := Lib.hid (HROW3.out.below hb); have HB4 := Lib.hid (HB3.out.step hb); clear hb hO4 hrow6 hc6))
      have HW := Lib.hid (And.intro ((Gr.refl w4).alloc (.cells #[.slice A6 y1.length c6] 24)) (Cell1.new w4 (.slice A6 y1.length c6) 24))
      clear HROW HROW3 HROW6 HB1 HB2 HB3 hbox hx1 hx2 hbox2 hx12 hx22 hbox3 hx13 hx23
      have h45 : (w4.alloc (.cells #[.slice A6 y1.length c6] 24)).heap.size = w4.heap.size + 1 := by simp
      rw [← h45]
      clear h45
      generalize w4.alloc (.cells #[.slice A6 y1.length c6] 24) = w5 at *
      have hn4 : n ≤ 4 := by have := okC_len HOK.out; have := HN.out; omega
      have HZ := Lib.hid (Two.new w5)
      have HBX := Lib.hid (show ∀ W, Gr w4 W → Gr (bx w (.slice A n c) 24 (.slice A1 n1 c1) (.slice A2 n2 c2) 27) W from fun W h => HB4.out.step h)
      have hws : w.heap.size ≤ w4.heap.size := (bx_old HB4.out).size
      go_loopg [15] n (fun g i wr => ∃ (k : Nat) (v1 v2 : Value), k ≤ n ∧ i = .int .i64 k ∧ g = n - k ∧ Gr w5 wr ∧ Two wr w5.heap.size v1 v2 (nums (ownU l T k)) (zeros (ownU l T k)))
      case atStart => exact ⟨0, .slice none 0 0, .slice none 0 0, Nat.zero_le _, rfl, rfl, (Gr.refl w5).alloc _, HZ.out⟩
      case round =>
        obtain ⟨k, v1, v2, hk, rfl, hg, hG, hTw⟩ := hrel
        have HG := Lib.hid (And.intro hg (And.intro hG hTw))
        obtain ⟨hbox, hx1, hx2⟩ := bx_box (HBX.out _ (HW.out.1.step hG))
        have hz0 := hTw.box.cell
        clear hg hG hTw HZ
        by_cases hlt : k < n
        · have hkl : k < l.length := by have := HN.out; omega
          obtain ⟨b, off, Ak, ck, rfl, h1, h2, h3⟩ := (HRW.out wr (bx_old (HBX.out _ (HW.out.1.step HG.out.2.1)))).at (sl_get hkl)
          have HK := Lib.hid h3
          clear h2 h3
          rcases hw : whole (sl l k) with _ | _
          · have HWH := Lib.hid hw
            have HE := Lib.hid (ownU_no (t := T) (Or.inl hw))
            clear hw
            go_wp2_with (go_at_call 17; refine (Whole_calls _ _ (sl l k) _ HK.out).mono ?_; rintro e w6 ⟨rfl, hb⟩; rw [HWH.out]; have H6 := Lib.hid hb; clear hb)
            go_roundg (n - (k + 1))
            case measure => have := HG.out.1; omega
            case rel => exact ⟨k + 1, v1, v2, by omega, by go_num, rfl, HG.out.2.1.step H6.out, by rw [HE.out]; exact HG.out.2.2.below H6.out⟩
          have HWH := Lib.hid hw
          rcases ht : (tab (sl l k) == T) with _ | _
          · have HTT := Lib.hid ht
            have HE := Lib.hid (ownU_no (k := k) (Or.inr (by simpa using ht)))
            clear hw ht
            go_wp2_with (first
              | (go_at_call 17; refine (Whole_calls _ _ (sl l k) _ HK.out).mono ?_; rintro e w6 ⟨rfl, hb⟩; rw [HWH.out]; have H6 := Lib.hid hb; obtain ⟨hbox6, _, _⟩ := bx_box (HBX.out _ (HW.out.1.step (HG.out.2.1.step hb))); have h16 := (hb.cell (p := ⟨b, off + k, none⟩) (World.block_lt_of_cell? wr _ h1)).trans h1; clear hb)
              | (go_at_call 18; refine (Table_calls _ _ (sl l k) _ (HK.out.below H6.out) (by have := okC_slot HOK.out hkl; have := okC_len HOK.out; omega)).mono ?_; rintro e w7 ⟨⟨v7, rfl, hO7⟩, hb⟩; obtain ⟨A7, c7, rfl, hrow7, hc7⟩ := hO7.row encI_len; have H7 := Lib.hid (And.intro hrow7 ((Gr.step (Gr.refl wr) H6.out).step hb)); clear hb hO7 hrow7 hc7)
              | (go_at_call 16; refine (sameInts_calls _ _ _ _ (tab (sl l k)) T w7 H7.out.1 (HROW4.out.below ((HW.out.1.step HG.out.2.1).step H7.out.2))).mono ?_; rintro e w8 ⟨rfl, hb⟩; rw [HTT.out]; have H8 := Lib.hid (H7.out.2.step hb); clear hb))
            go_roundg (n - (k + 1))
            case measure => have := HG.out.1; omega
            case rel => exact ⟨k + 1, v1, v2, by omega, by go_num, rfl, HG.out.2.1.step H8.out, by rw [HE.out]; exact HG.out.2.2.below H8.out⟩
          · have HTT := Lib.hid ht
            have HE := Lib.hid (ownU_yes hw (by simpa using ht))
            have hol := ownU_len l T k
            have hnl : (nums (ownU l T k)).length = (ownU l T k).length := by simp [nums]
            have hzl : (zeros (ownU l T k)).length = (ownU l T k).length := by simp [zeros]
            have hb1 : ((nums (ownU l T k)).length + 1) * 8 ≤ 140737488355328 := by have := okC_len HOK.out; omega
            have hb2 : ((zeros (ownU l T k)).length + 1) * 8 ≤ 140737488355328 := by have := okC_len HOK.out; omega
            have HBB := Lib.hid (And.intro hb1 hb2)
            clear hw ht hol hnl hzl hb1 hb2
            go_wp2_with (first
              | (go_at_call 17; refine (Whole_calls _ _ (sl l k) _ HK.out).mono ?_; rintro e w6 ⟨rfl, hb⟩; rw [HWH.out]; have H6 := Lib.hid hb; obtain ⟨hbox6, _, _⟩ := bx_box (HBX.out _ (HW.out.1.step (HG.out.2.1.step hb))); have h16 := (hb.cell (p := ⟨b, off + k, none⟩) (World.block_lt_of_cell? wr _ h1)).trans h1; clear hb)
              | (go_at_call 18; refine (Table_calls _ _ (sl l k) _ (HK.out.below H6.out) (by have := okC_slot HOK.out hkl; have := okC_len HOK.out; omega)).mono ?_; rintro e w7 ⟨⟨v7, rfl, hO7⟩, hb⟩; obtain ⟨A7, c7, rfl, hrow7, hc7⟩ := hO7.row encI_len; have H7 := Lib.hid (And.intro hrow7 ((Gr.step (Gr.refl wr) H6.out).step hb)); clear hb hO7 hrow7 hc7)
              | (go_at_call 16; refine (sameInts_calls _ _ _ _ (tab (sl l k)) T w7 H7.out.1 (HROW4.out.below ((HW.out.1.step HG.out.2.1).step H7.out.2))).mono ?_; rintro e w8 ⟨rfl, hb⟩; rw [HTT.out]; have H8 := Lib.hid (And.intro (HG.out.2.1.step (H7.out.2.step hb)) (HG.out.2.2.below (H7.out.2.step hb))); have hz8 := H8.out.2.box.cell; clear hb)
              | (at_builtin; refine wp_append1 encI_len encI_one rfl _ _ 25 rfl Tryd.underlying25 _ 8 info3 rfl (by decide) (k : Int) rfl rfl H8.out.2.one (Below.refl _ w8) H8.out.2.box.lt HBB.out.1 (fun v3 w9 H9 => ?_); obtain ⟨A8, c8, e8, _, _⟩ := H9.out.1.row encI_len; rw [List.length_append, List.length_singleton] at e8; subst e8; have H9b := Lib.hid (And.intro (H8.out.1.grown H9.out.2.2.1 H8.out.1.size (fun q hq => Nat.le_trans (Nat.le_succ _) (H8.out.2.one.lt q hq).1)) (H8.out.2.box.keep (H9.out.2.1.block _ (Nat.lt_succ_self _)))); have hz9 := H9b.out.2.cell; have hf9 := H9b.out.2.free 0; have hl9 := H9b.out.2.lt; have H10 := Lib.hid (H8.out.2.set0 H9.out.1 H9.out.2.2.1 H9.out.2.2.2); have hz10 := H10.out.box.cell)
              | (at_builtin; refine wp_append1 encI_len encI_one rfl _ _ 25 rfl Tryd.underlying25 _ 8 info3 rfl (by decide) (0 : Int) rfl (by go_simp) H10.out.two (Below.refl _ _) H10.out.box.lt HBB.out.2 (fun v4 w11 H11 => ?_); obtain ⟨A9, c9, e9, _, _⟩ := H11.out.1.row encI_len; rw [List.length_append, List.length_singleton] at e9; subst e9; have H11b := Lib.hid (And.intro ((Below.setCell H9b.out.1 (Nat.le_refl _) _).grown H11.out.2.2.1 (Below.setCell H9b.out.1 (Nat.le_refl _) _).size (fun q hq => Nat.le_trans (Nat.le_succ _) (H10.out.two.lt q hq).1)) (H10.out.box.keep (H11.out.2.1.block _ (Nat.lt_succ_self _)))); have hz11 := H11b.out.2.cell; have hf11 := H11b.out.2.free 1; have hl11 := H11b.out.2.lt; have H12 := Lib.hid (H10.out.set1 H11.out.1 H11.out.2.2.1 H11.out.2.2.2)))
            go_roundg (n - (k + 1))
            case measure => have := HG.out.1; omega
            case rel => exact ⟨k + 1, _, _, by omega, by go_num, rfl, Below.setCell H11b.out.1 (Nat.le_refl _) _, by rw [HE.out, show nums (ownU l T k ++ [k]) = nums (ownU l T k) ++ [(k : Int)] by simp [nums], show zeros (ownU l T k ++ [k]) = zeros (ownU l T k) ++ [0] by simp [zeros]]; exact H12.out⟩
        · have hk' : k = l.length := by have := HN.out; omega
          subst hk'
          obtain ⟨A8, c8, rfl, hr8, hc8⟩ := HG.out.2.2.one.row encI_len
          obtain ⟨A9, c9, rfl, hr9, hc9⟩ := HG.out.2.2.two.row encI_len
          have HRR := Lib.hid (And.intro hr8 hr9)
          have hgo := rot_goes HM.out HNE.out (ownU l T l.length) (by rw [HT.out])
          have hmE := firsts_le (l := l) (o := o)
          rw [← HT.out] at hgo
          rw [← HMM.out, ← HT.out] at hmE
          have HSP2 := Lib.hid (show ∀ W, Gr w W → Row encI 1 wr A8 (nums (ownU l T l.length)) → Row encI 1 wr A9 (zeros (ownU l T l.length)) → W = wr → Calls Tryd.prog 14 #[.agg #[.slice A n c], .agg #[.slice A8 (nums (ownU l T l.length)).length c8, .slice A9 (zeros (ownU l T l.length)).length c9]] W (RetSp W (spoilU l (nums (ownU l T l.length)) (zeros (ownU l T l.length)) (ownU l T l.length).length).1 (spoilU l (nums (ownU l T l.length)) (zeros (ownU l T l.length)) (ownU l T l.length).length).2) from fun W h r1 r2 e => by
            subst e
            exact spoilt_calls A A8 A9 n c _ c8 _ c9 l _ _ W HN.out rfl rfl (HRW.out _ h) r1 r2 HOK.out (ownU l T l.length).length (by simp [nums, zeros]) (by have := ownU_len l T l.length; have := okC_len HOK.out; omega))
          have HSUB2 := Lib.hid (spoilU_sub (nums (ownU l T l.length)) (zeros (ownU l T l.length)) HOK.out (ownU l T l.length).length)
          generalize spoilU l (nums (ownU l T l.length)) (zeros (ownU l T l.length)) (ownU l T l.length).length = Y2 at *
          obtain ⟨y2, q2⟩ := Y2
          dsimp only at hgo HSP2 HSUB2
          have hq2 : M ≤ q2 := by omega
          have HRE2 := Lib.hid (show ∀ B cb W, Gr w4 W → Row2 encS 3 W B y2 → Calls Tryd.prog 12 #[.agg #[.slice B y2.length cb]] W (Ret3 W (recover y2).1 (recover y2).2.1 (recover y2).2.2) from fun B cb W h r => gRecover_calls B _ cb y2 W rfl r (okC_small HSUB2.out.ok) (HBA.out _ (bx_old (HBX.out _ h))))
          clear hr8 hr9 hc8 hc9 hmE
          rcases hgo.2 with h3 | ⟨t3, h3, hne⟩
          · rw [h3] at HRE2
            clear hgo h3
            go_wp2_with (first
            | (go_at_call 14; refine (HSP2.out _ (bx_old (HBX.out _ (HW.out.1.step HG.out.2.1))) HRR.out.1 HRR.out.2 rfl).mono ?_; rintro e w6 ⟨⟨v6, vs6, rfl, hO6⟩, hb⟩; obtain ⟨A10, c10, rfl, _, _⟩ := hO6.row2 encS_len; have H6 := Lib.hid (And.intro hO6 (And.intro (HW.out.1.step (HG.out.2.1.step hb)) ((HW.out.2.keep (HG.out.2.1.block _ HW.out.2.lt)).keep (hb.block _ (HW.out.2.keep (HG.out.2.1.block _ HW.out.2.lt)).lt)))); have hy6 := H6.out.2.2.cell; have hf6 := H6.out.2.2.free 0; have hl6 := H6.out.2.2.lt; have hy7 := (H6.out.2.2.set (u := .slice A10 y2.length c10)).cell; clear hb hO6)
            | (go_at_call 12; refine (HRE2.out A10 c10 _ (Below.setCell H6.out.2.1 (Nat.le_refl _) _) (Own2.rowA (H6.out.1.kept (setCell_grown w6 ⟨w4.heap.size, 0, none⟩ (.slice A10 y2.length c10)) (Nat.lt_of_lt_of_le HW.out.2.lt HG.out.2.1.size)))).mono ?_; rintro e w8 ⟨⟨v8, rfl, hO8⟩, hb⟩; obtain ⟨A11, c11, rfl, hrow11, hc11⟩ := hO8.row encI_len; have H8 := Lib.hid (And.intro hrow11 ((show Gr w4 _ from Below.setCell H6.out.2.1 (Nat.le_refl _) _).step hb)); clear hb hO8 hrow11 hc11)
            | (go_at_call 11; refine (works_calls _ (HBA.out _ (bx_old (HBX.out _ H8.out.2)))).mono ?_; rintro e w10 ⟨rfl, hb⟩; have H10 := Lib.hid (bx_old (HBX.out _ (H8.out.2.step hb))); clear hb))
            go_ret
            exact ⟨rfl, H10.out⟩
          · rw [h3] at HRE2
            have HNE2 : Hid ((tab (sl l t3) == T) = false) := Lib.hid (by simpa using hne)
            clear hgo h3 hne
            go_wp2_with (first
            | (go_at_call 14; refine (HSP2.out _ (bx_old (HBX.out _ (HW.out.1.step HG.out.2.1))) HRR.out.1 HRR.out.2 rfl).mono ?_; rintro e w6 ⟨⟨v6, vs6, rfl, hO6⟩, hb⟩; obtain ⟨A10, c10, rfl, _, _⟩ := hO6.row2 encS_len; have H6 := Lib.hid (And.intro hO6 (And.intro (HW.out.1.step (HG.out.2.1.step hb)) ((HW.out.2.keep (HG.out.2.1.block _ HW.out.2.lt)).keep (hb.block _ (HW.out.2.keep (HG.out.2.1.block _ HW.out.2.lt)).lt)))); have hy6 := H6.out.2.2.cell; have hf6 := H6.out.2.2.free 0; have hl6 := H6.out.2.2.lt; have hy7 := (H6.out.2.2.set (u := .slice A10 y2.length c10)).cell; clear hb hO6)
            | (go_at_call 12; refine (HRE2.out A10 c10 _ (Below.setCell H6.out.2.1 (Nat.le_refl _) _) (Own2.rowA (H6.out.1.kept (setCell_grown w6 ⟨w4.heap.size, 0, none⟩ (.slice A10 y2.length c10)) (Nat.lt_of_lt_of_le HW.out.2.lt HG.out.2.1.size)))).mono ?_; rintro e w8 ⟨⟨v8, rfl, hO8⟩, hb⟩; obtain ⟨A11, c11, rfl, hrow11, hc11⟩ := hO8.row encI_len; have H8 := Lib.hid (And.intro hrow11 ((show Gr w4 _ from Below.setCell H6.out.2.1 (Nat.le_refl _) _).step hb)); clear hb hO8 hrow11 hc11)
            | (go_at_call 16; refine (sameInts_calls _ _ _ _ (tab (sl l t3)) T w8 H8.out.1 (HROW4.out.below H8.out.2)).mono ?_; rintro e w9 ⟨rfl, hb⟩; rw [HNE2.out]; have H9 := Lib.hid (H8.out.2.step hb); clear hb)
            | (go_at_call 11; refine (works_calls _ (HBA.out _ (bx_old (HBX.out _ H9.out)))).mono ?_; rintro e w10 ⟨rfl, hb⟩; have H10 := Lib.hid (bx_old (HBX.out _ (H9.out.step hb))); clear hb))
            go_ret
            exact ⟨rfl, H10.out⟩
end Go.Proofs.YtcpglghklmfbcaaDoor.T
