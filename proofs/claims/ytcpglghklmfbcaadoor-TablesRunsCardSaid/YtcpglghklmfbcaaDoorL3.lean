/- The law that the program's answers are the document's: what it calls, step by step. -/
import Derived.Test.YtcpglghklmfbcaaDoorT34
import Derived.Test.YtcpglghklmfbcaaDoorL2
namespace Go.Proofs.YtcpglghklmfbcaaDoor.T
open Go Go.RowKit Go.Proofs.YtcpglghklmfbcaaDoor.M Go.Proofs.YtcpglghklmfbcaaDoor.R
set_option linter.unusedVariables false
set_option linter.unusedSimpArgs false

/-- What both 'Newer' hand back. -/
theorem newer_both (a b : Int) : ∃ (x : Bool) (y : Int), ∀ w : World,
    Calls Tryd.prog 19 #[.int .i64 a, .int .i64 b] w (fun e w' => e = .returned (.tuple #[.bool x, .int .i64 y]) ∧ w = w') ∧
    Calls Tryd.prog 24 #[.int .i64 a, .int .i64 b] w (fun e w' => e = .returned (.tuple #[.bool x, .int .i64 y]) ∧ w = w') := by
  refine ⟨within a 0 63 && within b 0 63 && newerB a b, if within a 0 63 && within b 0 63 then 0 else 1, fun w => ⟨?_, Newer_calls a b w⟩⟩
  have h := gNewer_calls a b w
  cases hh : (within a 0 63 && within b 0 63) <;> rw [hh] at h <;> simpa using h

set_option maxHeartbeats 2000000 in
set_option maxRecDepth 100000 in
theorem TablesRuns_calls (A : Option Addr) (n c : Nat) (l : Cop) (a b : Int) (w : World) (hn : n = l.length) (hR : Row2 encS 3 w A l) (hbad : IsBad w) :
    Calls Tryd.prog 5 #[.agg #[.slice A n c], .int .i64 a, .int .i64 b] w fun e w' => e = .returned (.bool true) ∧ Below w.heap.size w w' := by
  have HN := Lib.hid hn
  have HBA := Lib.hid (show ∀ W, Gr w W → IsBad W from fun W h => hbad.below h hbad.lt)
  have HRW := Lib.hid (show ∀ W, Gr w W → Row2 encS 3 W A l from fun W h => hR.below h)
  clear hn hR hbad
  rcases hf : far l with _ | _
  rotate_left
  · have HF := Lib.hid hf
    clear hf
    go_enter Tryd.func5, Tryd.ntmps5
    go_wp2_with (first
      | (go_at_call 20; refine (Far_calls A n c l _ HN.out (HRW.out _ (bs_old (Gr.refl _)))).mono ?_; rintro e w1 ⟨rfl, hb⟩; rw [HF.out]; have HB1 := Lib.hid (show Gr (bs w (.slice A n c) 24) w1 from hb); clear hb)
      | (go_at_call 11; refine (works_calls _ (HBA.out _ (bs_old HB1.out))).mono ?_; rintro e w2 ⟨rfl, hb⟩; have HB2 := Lib.hid (HB1.out.step hb); clear hb))
    go_ret
    exact ⟨rfl, bs_old HB2.out⟩
  have HF := Lib.hid hf
  have HS := Lib.hid (far_small hf)
  clear hf
  obtain ⟨x, y, hxy⟩ := newer_both a b
  have HXY := Lib.hid hxy
  clear hxy
  go_enter Tryd.func5, Tryd.ntmps5
  go_wp2_with (first
    | (go_at_call 20; refine (Far_calls A n c l _ HN.out (HRW.out _ (bs_old (Gr.refl _)))).mono ?_; rintro e w1 ⟨rfl, hb⟩; rw [HF.out]; have HB1 := Lib.hid (show Gr (bs w (.slice A n c) 24) w1 from hb); have hbox := bs_box HB1.out; clear hb)
    | (go_at_call 21; refine (Copy_calls A n c l _ HN.out (HRW.out _ (bs_old HB1.out)) (by have := HS.out.1; omega) (fun s hs => by have := HS.out.2 s hs; omega)).mono ?_; rintro e w2 ⟨⟨v, vs, rfl, hO⟩, hb⟩; obtain ⟨A3, c3, rfl, hrow3, hc3⟩ := hO.row2 encS_len; have H2 := Lib.hid (And.intro (HB1.out.step hb) hrow3); clear hO hb hrow3 hc3))
  have HW := Lib.hid (And.intro (H2.out.1.alloc (.cells #[.slice A3 l.length c3] 24)) (And.intro (Cell1.new w2 (.slice A3 l.length c3) 24) (H2.out.2.below ((Below.refl w2.heap.size w2).alloc (Nat.le_refl _) (.cells #[.slice A3 l.length c3] 24)))))
  clear HB1 hbox
  generalize w2.alloc (.cells #[.slice A3 l.length c3] 24) = wz at *
  have HCELL := Lib.hid (show ∀ W, Gr wz W → W.cell? ⟨w.heap.size, 0, none⟩ = some (.slice A n c) ∧ W.cell? ⟨w2.heap.size, 0, none⟩ = some (.slice A3 l.length c3) from fun W h => ⟨bs_box (HW.out.1.step h), (HW.out.2.1.keep (h.block _ HW.out.2.1.lt)).cell⟩)
  have HRO := Lib.hid (show ∀ W, Gr wz W → Row2 encS 3 W A3 l from fun W h => HW.out.2.2.below h)
  have HWW := Lib.hid (show ∀ W, Gr wz W → Gr w W from fun W h => bs_old (HW.out.1.step h))
  clear HW
  have hx0 : ∀ x : Gro wz, x.W.cell? ⟨w.heap.size, 0, none⟩ = some (.slice A n c) := fun x => (HCELL.out _ x.b).1
  have hx1 : ∀ x : Gro wz, x.W.cell? ⟨w2.heap.size, 0, none⟩ = some (.slice A3 l.length c3) := fun x => (HCELL.out _ x.b).2
  refine wp_region_gro (by kernel_rfl) (by kernel_rfl) ?_
  repeat (go_big_quiet_step (first
    | (go_at_call 22; exact Gro.calls _ (gCheck_calls _ _ _ l _ rfl (HRO.out _ (Gro.b _)) HS.out (HBA.out _ (HWW.out _ (Gro.b _)))))
    | (go_at_call 23; exact Gro.calls _ (Check_calls _ _ _ l _ HN.out (HRW.out _ (HWW.out _ (Gro.b _))) HS.out))))
  refine wpQuiet_nil ?_
  intro _ hw'
  obtain ⟨x0, hw''⟩ := hw'
  subst hw''
  have HG0 := Lib.hid (show Gr wz x0.W from x0.b)
  clear hx0 hx1
  generalize x0.W = w5 at *
  obtain ⟨T, s, e1, hrec⟩ : ∃ T s e1, recover l = (T, s, e1) := ⟨_, _, _, rfl⟩
  obtain ⟨m, k, hmar⟩ : ∃ m k, margin l = (m, k) := ⟨_, _, rfl⟩
  have HREC := Lib.hid hrec
  have HMAR := Lib.hid hmar
  have hcl := HCELL.out _ HG0.out
  clear hrec hmar
  go_wp2_with (first
    | (go_at_call 19; refine (HXY.out _).1.mono ?_; rintro e w' ⟨rfl, rfl⟩)
    | (go_at_call 24; refine (HXY.out _).2.mono ?_; rintro e w' ⟨rfl, rfl⟩)
    | (go_at_call 12; have h_ := gRecover_calls A3 l.length c3 l w5 rfl (HRO.out _ HG0.out) HS.out (HBA.out _ (HWW.out _ HG0.out)); simp only [HREC.out] at h_; refine h_.mono ?_; rintro e w6 ⟨⟨v6, rfl, hO6⟩, hb⟩; obtain ⟨A6, c6, rfl, hrow6, hc6⟩ := hO6.row encI_len; have HG1 := Lib.hid (And.intro (HG0.out.step hb) hrow6); have hcl6 := HCELL.out _ HG1.out.1; clear hb hO6 hrow6 hc6 h_)
    | (go_at_call 25; have h_ := Recover_calls A n c l w6 HN.out (HRW.out _ (HWW.out _ HG1.out.1)) HS.out; simp only [HREC.out] at h_; refine h_.mono ?_; rintro e w7 ⟨⟨v7, rfl, hO7⟩, hb⟩; obtain ⟨A7, c7, rfl, hrow7, hc7⟩ := hO7.row encI_len; have HG2 := Lib.hid (And.intro (HG1.out.1.step hb) (And.intro (HG1.out.2.below hb) hrow7)); have hcl7 := HCELL.out _ HG2.out.1; clear hb hO7 hrow7 hc7 h_)
    | (go_at_call 16; refine (sameInts_calls _ _ _ _ T T w7 HG2.out.2.1 HG2.out.2.2).mono ?_; rintro e w8 ⟨rfl, hb⟩; rw [beq_self_eq_true]; have HG3 := Lib.hid (HG2.out.1.step hb); have hcl8 := HCELL.out _ HG3.out; clear hb)
    | (go_at_call 13; have h_ := gMargin_calls A3 l.length c3 l w8 rfl (HRO.out _ HG3.out) HS.out (HBA.out _ (HWW.out _ HG3.out)); simp only [gmargin_eq, HMAR.out] at h_; refine h_.mono ?_; rintro e w9 ⟨rfl, hb⟩; have HG4 := Lib.hid (HG3.out.step hb); have hcl9 := HCELL.out _ HG4.out; clear hb h_)
    | (go_at_call 26; have h_ := Margin_calls A n c l w9 HN.out (HRW.out _ (HWW.out _ HG4.out)) HS.out; simp only [HMAR.out] at h_; refine h_.mono ?_; rintro e w10 ⟨rfl, hb⟩; have HG5 := Lib.hid (HG4.out.step hb); have hcl10 := HCELL.out _ HG5.out; clear hb h_)
    | (go_at_call 27; refine (Same_calls A3 A l.length n c3 c l w10 rfl HN.out (HRO.out _ HG5.out) (HRW.out _ (HWW.out _ HG5.out))).mono ?_; rintro e w11 ⟨rfl, hb⟩; have HG6 := Lib.hid (HG5.out.step hb); clear hb)
    | (go_at_call 11; refine (works_calls _ (HBA.out _ (HWW.out _ HG6.out))).mono ?_; rintro e w12 ⟨rfl, hb⟩; have HG7 := Lib.hid (HWW.out _ (HG6.out.step hb)); clear hb))
  go_ret
  exact ⟨rfl, HG7.out⟩
end Go.Proofs.YtcpglghklmfbcaaDoor.T
