/- The law of the old table or the new one: what it calls, step by step. -/
import Derived.Test.YtcpglghklmfbcaaDoorT37
namespace Go.Proofs.YtcpglghklmfbcaaDoor.T
open Go Go.RowKit Go.Proofs.YtcpglghklmfbcaaDoor.M Go.Proofs.YtcpglghklmfbcaaDoor.R
set_option linter.unusedVariables false
set_option linter.unusedSimpArgs false

/-- The world behind the boxes of copies and of a cut. -/
def bw (w : World) (v v1 v2 v3 v4 : Value) : World := (w.alloc (.cells #[v] 24)).alloc (.cells #[v1, v2, v3, v4] 53)
section
variable {w b : World} {v v1 v2 v3 v4 : Value}
theorem bw_size (w : World) (v v1 v2 v3 v4 : Value) : (bw w v v1 v2 v3 v4).heap.size = w.heap.size + 1 + 1 := by simp [bw]
theorem bw_old (h : Gr (bw w v v1 v2 v3 v4) b) : Gr w b := Gr.old (Gr.old h)
theorem bw_box (h : Gr (bw w v v1 v2 v3 v4) b) : b.cell? ⟨w.heap.size, 0, none⟩ = some v ∧ b.cell? ⟨w.heap.size + 1, 0, none⟩ = some v1 ∧ b.cell? ⟨w.heap.size + 1, 1, none⟩ = some v2 ∧ b.cell? ⟨w.heap.size + 1, 2, none⟩ = some v3 ∧ b.cell? ⟨w.heap.size + 1, 3, none⟩ = some v4 := by
  have e : (w.alloc (.cells #[v] 24)).heap.size = w.heap.size + 1 := by simp
  have h0 := Gr.box h 0
  have h1 := Gr.box h 1
  have h2 := Gr.box h 2
  have h3 := Gr.box h 3
  rw [e] at h0 h1 h2 h3
  exact ⟨Gr.box (Gr.old h) 0, h0, h1, h2, h3⟩
end
theorem valid_spec {l : Cop} (h : validC l = true) : small l ∧ checkM l = 0 := by
  simp only [validC, Bool.and_eq_true, Bool.not_eq_true', beq_iff_eq] at h
  exact ⟨far_small h.1, h.2⟩
theorem recover_errs {l : Cop} (h : checkM l = 0) : (recover l).2.2 = 0 ∨ (recover l).2.2 = 3 := by
  cases h2 : newest l with
  | none => rw [recover_none h h2]; exact Or.inr rfl
  | some s => rw [recover_some h h2]; exact Or.inl rfl
theorem update_errs {l : Cop} {t : List Int} (h : checkM l = 0) (ht : isTable l t = true) : update l t = ([], 2) ∨ ∃ ps, update l t = (ps, 0) := by
  cases h3 : ahead l (free l [(victim l).toNat]) (victim l) with
  | false => exact Or.inl (update_many h ht h3)
  | true => exact Or.inr ⟨_, update_ok h ht h3⟩

set_option maxHeartbeats 2500000 in
set_option maxRecDepth 100000 in
theorem TablesOldOrNew_calls (A A1 A2 : Option Addr) (n c c1 n2 c2 : Nat) (l : Cop) (t : List Int) (qs : List Pat) (d : Int) (torn : Bool) (w : World) (hn : n = l.length) (hR : Row2 encS 3 w A l) (hR1 : Row encI 1 w A1 t) (hbad : IsBad w) :
    Calls Tryd.prog 6 #[.agg #[.slice A n c], .agg #[.slice A1 t.length c1, .slice A2 n2 c2, .int .i64 d, .bool torn]] w fun e w' => e = .returned (.bool true) ∧ Below w.heap.size w w' := by
  have HN := Lib.hid hn
  have HBA := Lib.hid (show ∀ W, Gr w W → IsBad W from fun W h => hbad.below h hbad.lt)
  have HRW := Lib.hid (show ∀ W, Gr w W → Row2 encS 3 W A l from fun W h => hR.below h)
  have HRT := Lib.hid (show ∀ W, Gr w W → Row encI 1 W A1 t from fun W h => hR1.below h)
  clear hn hR hR1 hbad
  rcases hv : validC l with _ | _
  · have HV := Lib.hid hv
    clear hv
    go_enter Tryd.func6, Tryd.ntmps6
    go_wp2_with (first
      | (go_at_call 10; refine (valid_calls A n c l _ HN.out (HRW.out _ (bw_old (Gr.refl _)))).mono ?_; rintro e w1 ⟨rfl, hb⟩; rw [HV.out]; have HB1 := Lib.hid (show Gr (bw w (.slice A n c) (.slice A1 t.length c1) (.slice A2 n2 c2) (.int .i64 _) (.bool _)) w1 from hb); obtain ⟨hx0, hx1, hx2, hx3, hx4⟩ := bw_box HB1.out; clear hb)
      | (go_at_call 11; refine (works_calls _ (HBA.out _ (bw_old HB1.out))).mono ?_; rintro e wz ⟨rfl, hb⟩; have HZ := Lib.hid (bw_old (HB1.out.step hb)); clear hb))
    go_ret
    exact ⟨rfl, HZ.out⟩
  have HV := Lib.hid hv
  have HSM := Lib.hid (valid_spec hv).1
  have HM := Lib.hid (valid_spec hv).2
  have HOK := Lib.hid (checkM_ok HM.out).1
  have HL0 := Lib.hid (show 0 < l.length by have := okC_len HOK.out; omega)
  clear hv
  by_cases a1 : 20 < t.length
  · go_enter Tryd.func6, Tryd.ntmps6
    go_wp2_with (first
      | (go_at_call 10; refine (valid_calls A n c l _ HN.out (HRW.out _ (bw_old (Gr.refl _)))).mono ?_; rintro e w1 ⟨rfl, hb⟩; rw [HV.out]; have HB1 := Lib.hid (show Gr (bw w (.slice A n c) (.slice A1 t.length c1) (.slice A2 n2 c2) (.int .i64 _) (.bool _)) w1 from hb); obtain ⟨hx0, hx1, hx2, hx3, hx4⟩ := bw_box HB1.out; clear hb)
      | (go_at_call 11; refine (works_calls _ (HBA.out _ (bw_old HB1.out))).mono ?_; rintro e wz ⟨rfl, hb⟩; have HZ := Lib.hid (bw_old (HB1.out.step hb)); clear hb))
    go_ret
    exact ⟨rfl, HZ.out⟩
  rcases hit : isTable l t with _ | _
  · have HIT := Lib.hid hit
    clear hit
    go_enter Tryd.func6, Tryd.ntmps6
    go_wp2_with (first
      | (go_at_call 10; refine (valid_calls A n c l _ HN.out (HRW.out _ (bw_old (Gr.refl _)))).mono ?_; rintro e w1 ⟨rfl, hb⟩; rw [HV.out]; have HB1 := Lib.hid (show Gr (bw w (.slice A n c) (.slice A1 t.length c1) (.slice A2 n2 c2) (.int .i64 _) (.bool _)) w1 from hb); obtain ⟨hx0, hx1, hx2, hx3, hx4⟩ := bw_box HB1.out; clear hb)
      | (go_at_call 28; refine (IsTable_calls A A1 n t.length c c1 l t _ HN.out rfl (HRW.out _ (bw_old HB1.out)) (HRT.out _ (bw_old HB1.out)) HL0.out).mono ?_; rintro e w2 ⟨rfl, hb⟩; rw [HIT.out]; have HB2 := Lib.hid (HB1.out.step hb); obtain ⟨hx20, hx21, hx22, hx23, hx24⟩ := bw_box HB2.out; clear hb)
      | (go_at_call 11; refine (works_calls _ (HBA.out _ (bw_old HB2.out))).mono ?_; rintro e wz ⟨rfl, hb⟩; have HZ := Lib.hid (bw_old (HB2.out.step hb)); clear hb))
    go_ret
    exact ⟨rfl, HZ.out⟩
  have HIT := Lib.hid hit
  have HRE := Lib.hid (show ∀ W, Gr w W → Calls Tryd.prog 12 #[.agg #[.slice A n c]] W (Ret3 W (recover l).1 (recover l).2.1 (recover l).2.2) from fun W h => gRecover_calls A n c l W HN.out (HRW.out _ h) HSM.out (HBA.out _ h))
  have HUP := Lib.hid (show ∀ W, Gr w W → Calls Tryd.prog 29 #[.agg #[.slice A n c], .slice A1 t.length c1] W (RetR encP 4 68 W (update l t).1 (update l t).2) from fun W h => by
    have := gUpdate_calls A A1 n c c1 l t W HN.out (HRW.out _ h) (HRT.out _ h) HSM.out (by omega) (HBA.out _ h)
    exact this)
  clear hit
  obtain ⟨T0, s0, e0, hrec⟩ : ∃ T s e, recover l = (T, s, e) := ⟨_, _, _, rfl⟩
  have he0 := recover_errs HM.out
  rw [hrec] at HRE he0
  have HREC := Lib.hid hrec
  dsimp only at HRE he0
  clear hrec
  rcases update_errs HM.out HIT.out with hu | ⟨ps, hu⟩
  · rw [hu] at HUP
    clear hu
    go_enter Tryd.func6, Tryd.ntmps6
    go_wp2_with (first
      | (go_at_call 10; refine (valid_calls A n c l _ HN.out (HRW.out _ (bw_old (Gr.refl _)))).mono ?_; rintro e w1 ⟨rfl, hb⟩; rw [HV.out]; have HB1 := Lib.hid (show Gr (bw w (.slice A n c) (.slice A1 t.length c1) (.slice A2 n2 c2) (.int .i64 _) (.bool _)) w1 from hb); obtain ⟨hx0, hx1, hx2, hx3, hx4⟩ := bw_box HB1.out; clear hb)
      | (go_at_call 28; refine (IsTable_calls A A1 n t.length c c1 l t _ HN.out rfl (HRW.out _ (bw_old HB1.out)) (HRT.out _ (bw_old HB1.out)) HL0.out).mono ?_; rintro e w2 ⟨rfl, hb⟩; rw [HIT.out]; have HB2 := Lib.hid (HB1.out.step hb); obtain ⟨hx20, hx21, hx22, hx23, hx24⟩ := bw_box HB2.out; clear hb)
      | (go_at_call_of 12 A; refine (HRE.out _ (bw_old HB2.out)).mono ?_; rintro e w3 ⟨⟨v3, rfl, hO3⟩, hb⟩; obtain ⟨A5, c5, rfl, hrow5, hc5⟩ := hO3.row encI_len; have HROW := Lib.hid hrow5; have HB3 := Lib.hid (HB2.out.step hb); obtain ⟨hx30, hx31, hx32, hx33, hx34⟩ := bw_box HB3.out; clear hb hO3 hrow5 hc5)
      | (go_at_call 29; refine (HUP.out _ (bw_old HB3.out)).mono ?_; rintro e w4 ⟨⟨v4, rfl, hO4⟩, hb⟩; obtain ⟨A6, c6, rfl, hrow6, hc6⟩ := hO4.row encP_len; have HROW6 := Lib.hid (And.intro hrow6 hc6); have HB4 := Lib.hid (HB3.out.step hb); have HROW4 := Lib.hid (HROW.out.below hb); obtain ⟨hx40, hx41, hx42, hx43, hx44⟩ := bw_box HB4.out; clear hb hO4 hrow6 hc6)
      | (go_at_call 11; refine (works_calls _ (HBA.out _ (bw_old HB4.out))).mono ?_; rintro e wz ⟨rfl, hb⟩; have HZ := Lib.hid (bw_old (HB4.out.step hb)); clear hb))
    go_ret
    exact ⟨rfl, HZ.out⟩
  rw [hu] at HUP
  obtain ⟨s, nu, hupd⟩ := upd_of HM.out hu
  have HUPD := Lib.hid hupd
  have HAR := Lib.hid (hupd.are HOK.out)
  have HPC := Lib.hid hupd.count
  have HPL := Lib.hid (show ps.length ≤ 1000 by have := hupd.count; have := okC_len HOK.out; omega)
  have hpl4 : ps.length ≤ 4 := by have := hupd.count; have := okC_len HOK.out; omega
  dsimp only at HUP
  clear hu hupd
  by_cases d1 : d < 0
  · rcases he0 with rfl | rfl
    all_goals
      go_enter Tryd.func6, Tryd.ntmps6
      go_wp2_with (first
        | (go_at_call 10; refine (valid_calls A n c l _ HN.out (HRW.out _ (bw_old (Gr.refl _)))).mono ?_; rintro e w1 ⟨rfl, hb⟩; rw [HV.out]; have HB1 := Lib.hid (show Gr (bw w (.slice A n c) (.slice A1 t.length c1) (.slice A2 n2 c2) (.int .i64 _) (.bool _)) w1 from hb); obtain ⟨hx0, hx1, hx2, hx3, hx4⟩ := bw_box HB1.out; clear hb)
        | (go_at_call 28; refine (IsTable_calls A A1 n t.length c c1 l t _ HN.out rfl (HRW.out _ (bw_old HB1.out)) (HRT.out _ (bw_old HB1.out)) HL0.out).mono ?_; rintro e w2 ⟨rfl, hb⟩; rw [HIT.out]; have HB2 := Lib.hid (HB1.out.step hb); obtain ⟨hx20, hx21, hx22, hx23, hx24⟩ := bw_box HB2.out; clear hb)
        | (go_at_call_of 12 A; refine (HRE.out _ (bw_old HB2.out)).mono ?_; rintro e w3 ⟨⟨v3, rfl, hO3⟩, hb⟩; obtain ⟨A5, c5, rfl, hrow5, hc5⟩ := hO3.row encI_len; have HROW := Lib.hid hrow5; have HB3 := Lib.hid (HB2.out.step hb); obtain ⟨hx30, hx31, hx32, hx33, hx34⟩ := bw_box HB3.out; clear hb hO3 hrow5 hc5)
        | (go_at_call 29; refine (HUP.out _ (bw_old HB3.out)).mono ?_; rintro e w4 ⟨⟨v4, rfl, hO4⟩, hb⟩; obtain ⟨A6, c6, rfl, hrow6, hc6⟩ := hO4.row encP_len; have HROW6 := Lib.hid (And.intro hrow6 hc6); have HB4 := Lib.hid (HB3.out.step hb); have HROW4 := Lib.hid (HROW.out.below hb); obtain ⟨hx40, hx41, hx42, hx43, hx44⟩ := bw_box HB4.out; clear hb hO4 hrow6 hc6)
        | (go_at_call 30; refine (Parts_calls A n c l _ HN.out (HRW.out _ (bw_old HB4.out)) HL0.out).mono ?_; rintro e w5 ⟨rfl, hb⟩; rw [← HPC.out]; have HB5 := Lib.hid (HB4.out.step hb); have HG5 := Lib.hid ((Gr.refl w4).step hb); obtain ⟨hx50, hx51, hx52, hx53, hx54⟩ := bw_box HB5.out; clear hb)
        | (go_at_call 31; refine (ArePatches_calls A A6 n c c6 l ps _ HN.out (HRW.out _ (bw_old HB5.out)) (HROW6.out.1.below HG5.out) HOK.out).mono ?_; rintro e w6 ⟨rfl, hb⟩; rw [HAR.out]; have HB6 := Lib.hid (HB5.out.step hb); have HG6 := Lib.hid (HG5.out.step hb); obtain ⟨hx60, hx61, hx62, hx63, hx64⟩ := bw_box HB6.out; clear hb)
        | (go_at_call 11; refine (works_calls _ (HBA.out _ (bw_old HB6.out))).mono ?_; rintro e wz ⟨rfl, hb⟩; have HZ := Lib.hid (bw_old (HB6.out.step hb)); clear hb))
      go_ret
      exact ⟨rfl, HZ.out⟩
  obtain ⟨k, rfl⟩ := Int.eq_ofNat_of_zero_le (show 0 ≤ d by omega)
  by_cases d2 : ps.length < k
  · rcases he0 with rfl | rfl
    all_goals
      go_enter Tryd.func6, Tryd.ntmps6
      go_wp2_with (first
        | (go_at_call 10; refine (valid_calls A n c l _ HN.out (HRW.out _ (bw_old (Gr.refl _)))).mono ?_; rintro e w1 ⟨rfl, hb⟩; rw [HV.out]; have HB1 := Lib.hid (show Gr (bw w (.slice A n c) (.slice A1 t.length c1) (.slice A2 n2 c2) (.int .i64 _) (.bool _)) w1 from hb); obtain ⟨hx0, hx1, hx2, hx3, hx4⟩ := bw_box HB1.out; clear hb)
        | (go_at_call 28; refine (IsTable_calls A A1 n t.length c c1 l t _ HN.out rfl (HRW.out _ (bw_old HB1.out)) (HRT.out _ (bw_old HB1.out)) HL0.out).mono ?_; rintro e w2 ⟨rfl, hb⟩; rw [HIT.out]; have HB2 := Lib.hid (HB1.out.step hb); obtain ⟨hx20, hx21, hx22, hx23, hx24⟩ := bw_box HB2.out; clear hb)
        | (go_at_call_of 12 A; refine (HRE.out _ (bw_old HB2.out)).mono ?_; rintro e w3 ⟨⟨v3, rfl, hO3⟩, hb⟩; obtain ⟨A5, c5, rfl, hrow5, hc5⟩ := hO3.row encI_len; have HROW := Lib.hid hrow5; have HB3 := Lib.hid (HB2.out.step hb); obtain ⟨hx30, hx31, hx32, hx33, hx34⟩ := bw_box HB3.out; clear hb hO3 hrow5 hc5)
        | (go_at_call 29; refine (HUP.out _ (bw_old HB3.out)).mono ?_; rintro e w4 ⟨⟨v4, rfl, hO4⟩, hb⟩; obtain ⟨A6, c6, rfl, hrow6, hc6⟩ := hO4.row encP_len; have HROW6 := Lib.hid (And.intro hrow6 hc6); have HB4 := Lib.hid (HB3.out.step hb); have HROW4 := Lib.hid (HROW.out.below hb); obtain ⟨hx40, hx41, hx42, hx43, hx44⟩ := bw_box HB4.out; clear hb hO4 hrow6 hc6)
        | (go_at_call 30; refine (Parts_calls A n c l _ HN.out (HRW.out _ (bw_old HB4.out)) HL0.out).mono ?_; rintro e w5 ⟨rfl, hb⟩; rw [← HPC.out]; have HB5 := Lib.hid (HB4.out.step hb); have HG5 := Lib.hid ((Gr.refl w4).step hb); obtain ⟨hx50, hx51, hx52, hx53, hx54⟩ := bw_box HB5.out; clear hb)
        | (go_at_call 31; refine (ArePatches_calls A A6 n c c6 l ps _ HN.out (HRW.out _ (bw_old HB5.out)) (HROW6.out.1.below HG5.out) HOK.out).mono ?_; rintro e w6 ⟨rfl, hb⟩; rw [HAR.out]; have HB6 := Lib.hid (HB5.out.step hb); have HG6 := Lib.hid (HG5.out.step hb); obtain ⟨hx60, hx61, hx62, hx63, hx64⟩ := bw_box HB6.out; clear hb)
        | (go_at_call 11; refine (works_calls _ (HBA.out _ (bw_old HB6.out))).mono ?_; rintro e wz ⟨rfl, hb⟩; have HZ := Lib.hid (bw_old (HB6.out.step hb)); clear hb))
      go_ret
      exact ⟨rfl, HZ.out⟩
  by_cases d3 : k = ps.length
  · subst d3
    rcases torn with _ | _
    rotate_left
    · rcases he0 with rfl | rfl
      all_goals
        go_enter Tryd.func6, Tryd.ntmps6
        go_wp2_with (first
          | (go_at_call 10; refine (valid_calls A n c l _ HN.out (HRW.out _ (bw_old (Gr.refl _)))).mono ?_; rintro e w1 ⟨rfl, hb⟩; rw [HV.out]; have HB1 := Lib.hid (show Gr (bw w (.slice A n c) (.slice A1 t.length c1) (.slice A2 n2 c2) (.int .i64 _) (.bool _)) w1 from hb); obtain ⟨hx0, hx1, hx2, hx3, hx4⟩ := bw_box HB1.out; clear hb)
          | (go_at_call 28; refine (IsTable_calls A A1 n t.length c c1 l t _ HN.out rfl (HRW.out _ (bw_old HB1.out)) (HRT.out _ (bw_old HB1.out)) HL0.out).mono ?_; rintro e w2 ⟨rfl, hb⟩; rw [HIT.out]; have HB2 := Lib.hid (HB1.out.step hb); obtain ⟨hx20, hx21, hx22, hx23, hx24⟩ := bw_box HB2.out; clear hb)
          | (go_at_call_of 12 A; refine (HRE.out _ (bw_old HB2.out)).mono ?_; rintro e w3 ⟨⟨v3, rfl, hO3⟩, hb⟩; obtain ⟨A5, c5, rfl, hrow5, hc5⟩ := hO3.row encI_len; have HROW := Lib.hid hrow5; have HB3 := Lib.hid (HB2.out.step hb); obtain ⟨hx30, hx31, hx32, hx33, hx34⟩ := bw_box HB3.out; clear hb hO3 hrow5 hc5)
          | (go_at_call 29; refine (HUP.out _ (bw_old HB3.out)).mono ?_; rintro e w4 ⟨⟨v4, rfl, hO4⟩, hb⟩; obtain ⟨A6, c6, rfl, hrow6, hc6⟩ := hO4.row encP_len; have HROW6 := Lib.hid (And.intro hrow6 hc6); have HB4 := Lib.hid (HB3.out.step hb); have HROW4 := Lib.hid (HROW.out.below hb); obtain ⟨hx40, hx41, hx42, hx43, hx44⟩ := bw_box HB4.out; clear hb hO4 hrow6 hc6)
          | (go_at_call 30; refine (Parts_calls A n c l _ HN.out (HRW.out _ (bw_old HB4.out)) HL0.out).mono ?_; rintro e w5 ⟨rfl, hb⟩; rw [← HPC.out]; have HB5 := Lib.hid (HB4.out.step hb); have HG5 := Lib.hid ((Gr.refl w4).step hb); obtain ⟨hx50, hx51, hx52, hx53, hx54⟩ := bw_box HB5.out; clear hb)
          | (go_at_call 31; refine (ArePatches_calls A A6 n c c6 l ps _ HN.out (HRW.out _ (bw_old HB5.out)) (HROW6.out.1.below HG5.out) HOK.out).mono ?_; rintro e w6 ⟨rfl, hb⟩; rw [HAR.out]; have HB6 := Lib.hid (HB5.out.step hb); have HG6 := Lib.hid (HG5.out.step hb); obtain ⟨hx60, hx61, hx62, hx63, hx64⟩ := bw_box HB6.out; clear hb)
          | (go_at_call 11; refine (works_calls _ (HBA.out _ (bw_old HB6.out))).mono ?_; rintro e wz ⟨rfl, hb⟩; have HZ := Lib.hid (bw_old (HB6.out.step hb)); clear hb))
        go_ret
        exact ⟨rfl, HZ.out⟩
    · have HAPP := Lib.hid (apply_ok (torn := false) HOK.out HAR.out (Nat.le_refl ps.length) (fun e => by cases e))
      have hnew := HUPD.out.new HM.out
      obtain ⟨hc0, q, hq, hr⟩ := hnew
      have HYK := Lib.hid (checkM_ok hc0).1
      have HRY := Lib.hid hr
      clear hc0 hr
      generalize applied l ps ps.length false = y at *
      rcases he0 with rfl | rfl
      all_goals
        go_enter Tryd.func6, Tryd.ntmps6
        go_wp2_with (first
          | (go_at_call 10; refine (valid_calls A n c l _ HN.out (HRW.out _ (bw_old (Gr.refl _)))).mono ?_; rintro e w1 ⟨rfl, hb⟩; rw [HV.out]; have HB1 := Lib.hid (show Gr (bw w (.slice A n c) (.slice A1 t.length c1) (.slice A2 n2 c2) (.int .i64 _) (.bool _)) w1 from hb); obtain ⟨hx0, hx1, hx2, hx3, hx4⟩ := bw_box HB1.out; clear hb)
          | (go_at_call 28; refine (IsTable_calls A A1 n t.length c c1 l t _ HN.out rfl (HRW.out _ (bw_old HB1.out)) (HRT.out _ (bw_old HB1.out)) HL0.out).mono ?_; rintro e w2 ⟨rfl, hb⟩; rw [HIT.out]; have HB2 := Lib.hid (HB1.out.step hb); obtain ⟨hx20, hx21, hx22, hx23, hx24⟩ := bw_box HB2.out; clear hb)
          | (go_at_call_of 12 A; refine (HRE.out _ (bw_old HB2.out)).mono ?_; rintro e w3 ⟨⟨v3, rfl, hO3⟩, hb⟩; obtain ⟨A5, c5, rfl, hrow5, hc5⟩ := hO3.row encI_len; have HROW := Lib.hid hrow5; have HB3 := Lib.hid (HB2.out.step hb); obtain ⟨hx30, hx31, hx32, hx33, hx34⟩ := bw_box HB3.out; clear hb hO3 hrow5 hc5)
          | (go_at_call 29; refine (HUP.out _ (bw_old HB3.out)).mono ?_; rintro e w4 ⟨⟨v4, rfl, hO4⟩, hb⟩; obtain ⟨A6, c6, rfl, hrow6, hc6⟩ := hO4.row encP_len; have HROW6 := Lib.hid (And.intro hrow6 hc6); have HB4 := Lib.hid (HB3.out.step hb); have HROW4 := Lib.hid (HROW.out.below hb); obtain ⟨hx40, hx41, hx42, hx43, hx44⟩ := bw_box HB4.out; clear hb hO4 hrow6 hc6)
          | (go_at_call 30; refine (Parts_calls A n c l _ HN.out (HRW.out _ (bw_old HB4.out)) HL0.out).mono ?_; rintro e w5 ⟨rfl, hb⟩; rw [← HPC.out]; have HB5 := Lib.hid (HB4.out.step hb); have HG5 := Lib.hid ((Gr.refl w4).step hb); obtain ⟨hx50, hx51, hx52, hx53, hx54⟩ := bw_box HB5.out; clear hb)
          | (go_at_call 31; refine (ArePatches_calls A A6 n c c6 l ps _ HN.out (HRW.out _ (bw_old HB5.out)) (HROW6.out.1.below HG5.out) HOK.out).mono ?_; rintro e w6 ⟨rfl, hb⟩; rw [HAR.out]; have HB6 := Lib.hid (HB5.out.step hb); have HG6 := Lib.hid (HG5.out.step hb); obtain ⟨hx60, hx61, hx62, hx63, hx64⟩ := bw_box HB6.out; clear hb)
          | (go_at_call 32; refine (gApply_calls A A6 n c c6 l ps _ _ _ HN.out (HRW.out _ (bw_old HB6.out)) (HROW6.out.1.below HG6.out) HSM.out HPL.out HROW6.out.2 (HBA.out _ (bw_old HB6.out))).mono ?_; rw [HAPP.out]; rintro e w7 ⟨⟨v7, vs7, rfl, hO7⟩, hb⟩; obtain ⟨A7, c7, rfl, hrow7, hc7⟩ := hO7.row2 encS_len; have HB7 := Lib.hid (HB6.out.step hb); have HG7 := Lib.hid (HG6.out.step hb); have HROW7 := Lib.hid hrow7; clear hb hO7 hrow7 hc7)
          | (go_at_call 12; refine (gRecover_calls A7 y.length c7 y _ rfl (HROW7.out.below ((Below.refl w7.heap.size w7).alloc (Nat.le_refl _) _)) (okC_small HYK.out) (HBA.out _ (bw_old (HB7.out.alloc _)))).mono ?_; rw [HRY.out]; rintro e w8 ⟨⟨v8, rfl, hO8⟩, hb⟩; obtain ⟨A8, c8, rfl, hrow8, hc8⟩ := hO8.row encI_len; have HB8 := Lib.hid ((HB7.out.alloc _).step hb); have HG8 := Lib.hid ((HG7.out.alloc _).step hb); have HROW8 := Lib.hid hrow8; obtain ⟨hx80, hx81, hx82, hx83, hx84⟩ := bw_box HB8.out; clear hb hO8 hrow8 hc8)
          | (go_at_call 16; refine (sameInts_calls _ _ _ _ t t w8 HROW8.out (HRT.out _ (bw_old HB8.out))).mono ?_; rintro e w9 ⟨rfl, hb⟩; rw [beq_self_eq_true]; have HB9 := Lib.hid (HB8.out.step hb); clear hb)
          | (go_at_call 11; refine (works_calls _ (HBA.out _ (bw_old HB9.out))).mono ?_; rintro e wz ⟨rfl, hb⟩; have HZ := Lib.hid (bw_old (HB9.out.step hb)); clear hb))
        go_ret
        exact ⟨rfl, HZ.out⟩
  · have hk : k < ps.length := by omega
    have hold := HUPD.out.old HM.out (torn := torn) hk
    have HAPP := Lib.hid (apply_ok (torn := torn) HOK.out HAR.out (Nat.le_of_lt hk) (fun _ => hk))
    have HYK := Lib.hid (checkM_ok hold.1).1
    obtain ⟨T1, s1, e1, hr⟩ : ∃ T s e, recover (applied l ps k torn) = (T, s, e) := ⟨_, _, _, rfl⟩
    have HRY := Lib.hid hr
    have h1 := hold.2.1
    have h2 := hold.2.2
    rw [hr, HREC.out] at h1 h2
    dsimp only at h1 h2
    subst h1 h2
    have hne : ((k : Int) == (ps.length : Int)) = false := by simp; omega
    clear hold hr d2 d3
    generalize applied l ps k torn = y at *
    rcases torn with _ | _
    all_goals
      rcases he0 with rfl | rfl
      all_goals
        go_enter Tryd.func6, Tryd.ntmps6
        go_wp2_with (first
          | (go_at_call 10; refine (valid_calls A n c l _ HN.out (HRW.out _ (bw_old (Gr.refl _)))).mono ?_; rintro e w1 ⟨rfl, hb⟩; rw [HV.out]; have HB1 := Lib.hid (show Gr (bw w (.slice A n c) (.slice A1 t.length c1) (.slice A2 n2 c2) (.int .i64 _) (.bool _)) w1 from hb); obtain ⟨hx0, hx1, hx2, hx3, hx4⟩ := bw_box HB1.out; clear hb)
          | (go_at_call 28; refine (IsTable_calls A A1 n t.length c c1 l t _ HN.out rfl (HRW.out _ (bw_old HB1.out)) (HRT.out _ (bw_old HB1.out)) HL0.out).mono ?_; rintro e w2 ⟨rfl, hb⟩; rw [HIT.out]; have HB2 := Lib.hid (HB1.out.step hb); obtain ⟨hx20, hx21, hx22, hx23, hx24⟩ := bw_box HB2.out; clear hb)
          | (go_at_call_of 12 A; refine (HRE.out _ (bw_old HB2.out)).mono ?_; rintro e w3 ⟨⟨v3, rfl, hO3⟩, hb⟩; obtain ⟨A5, c5, rfl, hrow5, hc5⟩ := hO3.row encI_len; have HROW := Lib.hid hrow5; have HB3 := Lib.hid (HB2.out.step hb); obtain ⟨hx30, hx31, hx32, hx33, hx34⟩ := bw_box HB3.out; clear hb hO3 hrow5 hc5)
          | (go_at_call 29; refine (HUP.out _ (bw_old HB3.out)).mono ?_; rintro e w4 ⟨⟨v4, rfl, hO4⟩, hb⟩; obtain ⟨A6, c6, rfl, hrow6, hc6⟩ := hO4.row encP_len; have HROW6 := Lib.hid (And.intro hrow6 hc6); have HB4 := Lib.hid (HB3.out.step hb); have HROW4 := Lib.hid (HROW.out.below hb); obtain ⟨hx40, hx41, hx42, hx43, hx44⟩ := bw_box HB4.out; clear hb hO4 hrow6 hc6)
          | (go_at_call 30; refine (Parts_calls A n c l _ HN.out (HRW.out _ (bw_old HB4.out)) HL0.out).mono ?_; rintro e w5 ⟨rfl, hb⟩; rw [← HPC.out]; have HB5 := Lib.hid (HB4.out.step hb); have HG5 := Lib.hid ((Gr.refl w4).step hb); obtain ⟨hx50, hx51, hx52, hx53, hx54⟩ := bw_box HB5.out; clear hb)
          | (go_at_call 31; refine (ArePatches_calls A A6 n c c6 l ps _ HN.out (HRW.out _ (bw_old HB5.out)) (HROW6.out.1.below HG5.out) HOK.out).mono ?_; rintro e w6 ⟨rfl, hb⟩; rw [HAR.out]; have HB6 := Lib.hid (HB5.out.step hb); have HG6 := Lib.hid (HG5.out.step hb); obtain ⟨hx60, hx61, hx62, hx63, hx64⟩ := bw_box HB6.out; clear hb)
          | (go_at_call 32; refine (gApply_calls A A6 n c c6 l ps _ _ _ HN.out (HRW.out _ (bw_old HB6.out)) (HROW6.out.1.below HG6.out) HSM.out HPL.out HROW6.out.2 (HBA.out _ (bw_old HB6.out))).mono ?_; rw [HAPP.out]; rintro e w7 ⟨⟨v7, vs7, rfl, hO7⟩, hb⟩; obtain ⟨A7, c7, rfl, hrow7, hc7⟩ := hO7.row2 encS_len; have HB7 := Lib.hid (HB6.out.step hb); have HG7 := Lib.hid (HG6.out.step hb); have HROW7 := Lib.hid hrow7; clear hb hO7 hrow7 hc7)
          | (go_at_call 12; refine (gRecover_calls A7 y.length c7 y _ rfl (HROW7.out.below ((Below.refl w7.heap.size w7).alloc (Nat.le_refl _) _)) (okC_small HYK.out) (HBA.out _ (bw_old (HB7.out.alloc _)))).mono ?_; rw [HRY.out]; rintro e w8 ⟨⟨v8, rfl, hO8⟩, hb⟩; obtain ⟨A8, c8, rfl, hrow8, hc8⟩ := hO8.row encI_len; have HB8 := Lib.hid ((HB7.out.alloc _).step hb); have HG8 := Lib.hid ((HG7.out.alloc _).step hb); have HROW8 := Lib.hid hrow8; obtain ⟨hx80, hx81, hx82, hx83, hx84⟩ := bw_box HB8.out; clear hb hO8 hrow8 hc8)
          | (go_at_call 16; refine (sameInts_calls _ _ _ _ T1 T1 w8 HROW8.out (HROW4.out.below HG8.out)).mono ?_; rintro e w9 ⟨rfl, hb⟩; rw [beq_self_eq_true]; have HB9 := Lib.hid (HB8.out.step hb); clear hb)
          | (go_at_call 11; refine (works_calls _ (HBA.out _ (bw_old HB9.out))).mono ?_; rintro e wz ⟨rfl, hb⟩; have HZ := Lib.hid (bw_old (HB9.out.step hb)); clear hb))
        go_ret
        exact ⟨rfl, HZ.out⟩
end Go.Proofs.YtcpglghklmfbcaaDoor.T
