import Derived.Test.YtcpglghklmfbcaaDoorT7
namespace Go.Proofs.YtcpglghklmfbcaaDoor.T
open Go Go.RowKit Go.Proofs.YtcpglghklmfbcaaDoor.M Go.Proofs.YtcpglghklmfbcaaDoor.R
set_option linter.unusedVariables false
set_option linter.unusedSimpArgs false

/-- The program's variable 'bad' holds the sector that cannot be read. -/
def IsBad (w : World) : Prop := w.cell? ⟨0, 0, none⟩ = some (.int .i64 0) ∧ w.cell? ⟨0, 1, none⟩ = some (.int .i64 0) ∧ w.cell? ⟨0, 2, none⟩ = some (.bool true)
theorem IsBad.lt {w : World} (h : IsBad w) : 0 < w.heap.size := World.block_lt_of_cell? w _ h.1
theorem IsBad.below {w w' : World} {B : Nat} (h : IsBad w) (hb : Below B w w') (hB : 0 < B) : IsBad w' :=
  ⟨(hb.cell (p := ⟨0, 0, none⟩) hB).trans h.1, (hb.cell (p := ⟨0, 1, none⟩) hB).trans h.2.1, (hb.cell (p := ⟨0, 2, none⟩) hB).trans h.2.2⟩

theorem gwithin_calls (n lo hi : Int) (w : World) : Calls Tryd.prog 46 #[.int .i64 n, .int .i64 lo, .int .i64 hi] w fun e w' => e = .returned (.bool (within n lo hi)) ∧ w = w' := by
  go_enter Tryd.func46, Tryd.ntmps46
  go_wp2
  all_goals
    go_ret
    exact ⟨rb (by simp [within]; try omega), rfl⟩
theorem gseq_calls (n : Int) (w : World) : Calls Tryd.prog 44 #[.int .i64 n] w fun e w' => e = .returned (.bool (within n 0 63)) ∧ w = w' := by
  go_enter Tryd.func44, Tryd.ntmps44
  go_wp2_with (go_at_call 46; refine (gwithin_calls _ _ _ _).mono ?_; rintro e w1 ⟨rfl, rfl⟩)
  go_ret
  exact ⟨rfl, rfl⟩
theorem gdatum_calls (n : Int) (w : World) : Calls Tryd.prog 47 #[.int .i64 n] w fun e w' => e = .returned (.bool (within n 0 99)) ∧ w = w' := by
  go_enter Tryd.func47, Tryd.ntmps47
  go_wp2_with (go_at_call 46; refine (gwithin_calls _ _ _ _).mono ?_; rintro e w1 ⟨rfl, rfl⟩)
  go_ret
  exact ⟨rfl, rfl⟩
theorem behind_calls (a b : Int) (w : World) (ha : 0 ≤ a) (ha' : a ≤ 63) (hb : 0 ≤ b) (hb' : b ≤ 63) :
    Calls Tryd.prog 69 #[.int .i64 a, .int .i64 b] w fun e w' => e = .returned (.int .i64 ((b - a) % 64)) ∧ w = w' := by
  go_enter Tryd.func69, Tryd.ntmps69
  go_wp2
  go_ret
  exact ⟨ri (by omega), rfl⟩
theorem gnewer_calls (a b : Int) (w : World) (ha : 0 ≤ a) (ha' : a ≤ 63) (hb : 0 ≤ b) (hb' : b ≤ 63) :
    Calls Tryd.prog 45 #[.int .i64 a, .int .i64 b] w fun e w' => e = .returned (.bool (newerB a b)) ∧ w = w' := by
  go_enter Tryd.func45, Tryd.ntmps45
  go_wp2_with (first | (go_at_call 69; refine (behind_calls _ _ _ hb hb' ha ha').mono ?_; rintro e w1 ⟨rfl, rfl⟩) | (go_at_call 46; refine (gwithin_calls _ _ _ _).mono ?_; rintro e w1 ⟨rfl, rfl⟩))
  go_ret
  exact ⟨rb (by simp [newerB, within]), rfl⟩
theorem gNewer_calls (a b : Int) (w : World) : Calls Tryd.prog 19 #[.int .i64 a, .int .i64 b] w fun e w' => e = .returned (if within a 0 63 && within b 0 63 then .tuple #[.bool (newerB a b), .int .i64 0] else .tuple #[.bool false, .int .i64 1]) ∧ w = w' := by
  rcases h1 : within a 0 63 with _ | _
  · have H1 := Lib.hid h1
    go_enter Tryd.func19, Tryd.ntmps19
    go_wp2_with (go_at_call 44; refine (gseq_calls _ _).mono ?_; rintro e w1 ⟨rfl, rfl⟩)
    go_ret2
    exact ⟨by simp, rfl⟩
  rcases h2 : within b 0 63 with _ | _
  · have H1 := Lib.hid h1
    go_enter Tryd.func19, Tryd.ntmps19
    go_wp2_with (go_at_call 44; refine (gseq_calls _ _).mono ?_; rintro e w1 ⟨rfl, rfl⟩)
    go_ret2
    exact ⟨by simp, rfl⟩
  have H1 := Lib.hid (And.intro h1 h2)
  have e1 : 0 ≤ a ∧ a ≤ 63 := by simpa [within] using h1
  have e2 : 0 ≤ b ∧ b ≤ 63 := by simpa [within] using h2
  have H2 := Lib.hid (And.intro e1 e2)
  clear e1 e2
  go_enter Tryd.func19, Tryd.ntmps19
  go_wp2_with (first | (go_at_call 44; refine (gseq_calls _ _).mono ?_; rintro e w1 ⟨rfl, rfl⟩) | (go_at_call 45; refine (gnewer_calls _ _ _ H2.out.1.1 H2.out.1.2 H2.out.2.1 H2.out.2.2).mono ?_; rintro e w1 ⟨rfl, rfl⟩))
  go_ret2
  exact ⟨by simp, rfl⟩

theorem secOk_7 {x : Sec} (h3 : (x.seq == 0) = true) (h4 : (x.data == 0) = true) : secOk x = true := by simp at h3 h4; simp [secOk, h3, h4, within]
theorem secOk_8 {x : Sec} (hb : x.bad = true) (h : (x.seq == 0) = false) : secOk x = false := by simp at h; simp [secOk, hb, h]
theorem secOk_9 {x : Sec} (hb : x.bad = true) (h : (x.data == 0) = false) : secOk x = false := by simp at h; simp [secOk, hb, h]

set_option maxHeartbeats 1000000 in
set_option maxRecDepth 100000 in
theorem gCheck_calls (A : Option Addr) (n c : Nat) (l : Cop) (w : World) (hn : n = l.length) (hR : Row2 encS 3 w A l) (hs : small l) (hbad : IsBad w) :
    Calls Tryd.prog 22 #[.agg #[.slice A n c]] w fun e w' => e = .returned (.int .i64 (checkE l)) ∧ Below w.heap.size w w' := by
  have HR := Lib.hid hR
  have HS := Lib.hid hs
  have HB0 := Lib.hid hbad
  have hl20 : n ≤ 20 := by have := hs.1; omega
  have HN := Lib.hid hn
  clear hR hs hbad
  rcases h1 : within n 2 4 with _ | _
  · clear hn
    have HW := Lib.hid h1
    go_enter Tryd.func22, Tryd.ntmps22
    go_wp2_with (go_at_call 46; refine (gwithin_calls _ _ _ _).mono ?_; rintro e w1 ⟨rfl, rfl⟩)
    go_ret
    exact ⟨ri (checkE_no (okC_no1 (by rw [← HN.out]; exact HW.out))), (Below.refl _ _).alloc (Nat.le_refl _) _⟩
  have hn0 : 0 < n := by simp [within] at h1; omega
  have hl0 : 0 < l.length := by omega
  clear hn
  obtain ⟨b, off, A0, c0, rfl, h01, h02, h03⟩ := HR.out.at (List.getElem?_eq_getElem hl0)
  have h04 := World.block_lt_of_cell? w _ h01
  have e0 : l[0].length = parts l := by cases l with | nil => simp at hl0 | cons x l => rfl
  rw [e0] at h01 h02
  clear h03 e0
  simp only [Nat.add_zero] at h01 h04
  have HP := Lib.hid (And.intro h01 (And.intro h02 h04))
  rcases h2 : within (parts l) 1 4 with _ | _
  · have HW := Lib.hid (And.intro h1 h2)
    clear h02 hl0
    go_enter Tryd.func22, Tryd.ntmps22
    go_wp2_with (go_at_call 46; refine (gwithin_calls _ _ _ _).mono ?_; rintro e w1 ⟨rfl, rfl⟩)
    go_ret
    exact ⟨ri (checkE_no (okC_no2 h2)), (Below.refl _ _).alloc (Nat.le_refl _) _⟩
  have HW := Lib.hid (And.intro h1 h2)
  clear h02 hl0
  go_enter Tryd.func22, Tryd.ntmps22
  go_wp2_with (go_at_call 46; refine (gwithin_calls _ _ _ _).mono ?_; rintro e w1 ⟨rfl, rfl⟩)
  have HP1 := Lib.hid ((Below.refl _ _).alloc (Nat.le_refl _) _ : Below w.heap.size w (bs w (.slice (some ⟨b, off, none⟩) n c) 24))
  clear h01 h04
  go_loopg [24] n (fun g i wr => ∃ k : Nat, k ≤ n ∧ i = .int .i64 k ∧ g = n - k ∧ Gr (bs w (.slice (some ⟨b, off, none⟩) n c) 24) wr ∧ (l.take k).all (slotOk l) = true)
  case atStart => exact ⟨0, Nat.zero_le _, rfl, rfl, Gr.refl _, by simp⟩
  case round =>
    obtain ⟨k, hk, rfl, hg, hB, hno⟩ := hrel
    have HA := Lib.hid (And.intro hg hno)
    have HB1 := Lib.hid hB
    clear hB hg hno
    have hbox := bs_box HB1.out
    by_cases hlt : k < n
    · have hkl : k < l.length := by have := HN.out; omega
      obtain ⟨bs1, os1, Ak, ck, e1, hs1w, hs1c, hs1r⟩ := HR.out.at (sl_get hkl)
      cases e1
      have hs1 := ((bs_old HB1.out).cell (p := ⟨b, off + k, none⟩) (World.block_lt_of_cell? w _ hs1w)).trans hs1w
      have hsl := HS.out.2 k hkl
      have hp0 : wr.cell? ⟨b, off, none⟩ = some (.slice A0 (parts l) c0) := ((bs_old HB1.out).cell (p := ⟨b, off, none⟩) HP.out.2.2).trans HP.out.1
      have H1 := Lib.hid (And.intro hs1c (And.intro hs1r hkl))
      clear hs1c hs1r hkl hs1w
      rcases hq : (((sl l k).length : Int) != parts l) with _ | _
      all_goals
        have HQ := Lib.hid hq
        go_wp2_with (fail)
      · go_loopg [38] (sl l k).length (fun g i wr => ∃ j : Nat, j ≤ (sl l k).length ∧ i = .int .i64 j ∧ g = (sl l k).length - j ∧ Gr (bs w (.slice (some ⟨b, off, none⟩) n c) 24) wr ∧ ((sl l k).take j).all secOk = true)
        case atStart => exact ⟨0, Nat.zero_le _, rfl, rfl, HB1.out, by simp⟩
        case round =>
          obtain ⟨j, hj, rfl, hg, hB, hno⟩ := hrel
          have HG := Lib.hid (And.intro hg hno)
          have HB2 := Lib.hid hB
          have hbl := Nat.le_trans (Nat.le_refl _) HB2.out.size
          rw [bs_size] at hbl
          clear hB hg hno hbox hs1 hp0
          have hs2r := H1.out.2.1.below (bs_old HB2.out)
          have hw0 : 0 < wr.heap.size := by omega
          obtain ⟨hg0, hg1, hg2⟩ := HB0.out.below (bs_old HB2.out) HB0.out.lt
          by_cases hlt2 : j < (sl l k).length
          · obtain ⟨b3, o3, rfl, hb3, hc0, hc1, hc2⟩ := RowS.at hs2r hlt2
            clear hs2r
            rcases gb : (sl l k)[j].bad with _ | _
            · rcases g1 : within (sl l k)[j].seq 0 63 with _ | _
              · have G := Lib.hid (secOk_1 g1)
                go_wp2_with (first | (go_at_call 44; refine (gseq_calls _ _).mono ?_; rintro e w1 ⟨rfl, rfl⟩) | (go_at_call 47; refine (gdatum_calls _ _).mono ?_; rintro e w1 ⟨rfl, rfl⟩))
                go_ret
                exact ⟨ri (checkE_no (okC_no3 H1.out.2.2 (slotOk_no2 hlt2 G.out))), bs_old (HB2.out.alloc _)⟩
              rcases g2 : within (sl l k)[j].data 0 99 with _ | _
              · have G := Lib.hid (secOk_2 g2)
                go_wp2_with (first | (go_at_call 44; refine (gseq_calls _ _).mono ?_; rintro e w1 ⟨rfl, rfl⟩) | (go_at_call 47; refine (gdatum_calls _ _).mono ?_; rintro e w1 ⟨rfl, rfl⟩))
                go_ret
                exact ⟨ri (checkE_no (okC_no3 H1.out.2.2 (slotOk_no2 hlt2 G.out))), bs_old (HB2.out.alloc _)⟩
              have G := Lib.hid (secOk_5 g1 g2 gb)
              go_wp2_with (first | (go_at_call 44; refine (gseq_calls _ _).mono ?_; rintro e w1 ⟨rfl, rfl⟩) | (go_at_call 47; refine (gdatum_calls _ _).mono ?_; rintro e w1 ⟨rfl, rfl⟩))
              go_roundg ((sl l k).length - (j + 1))
              case measure => have := HG.out.1; omega
              case rel => exact ⟨j + 1, by omega, by go_num, rfl, HB2.out.alloc _, all_take_succ hlt2 HG.out.2 G.out⟩
            · rcases g3 : ((sl l k)[j].seq == 0) with _ | _
              · have G := Lib.hid (secOk_8 gb g3)
                go_wp2_with (first | (go_at_call 44; refine (gseq_calls _ _).mono ?_; rintro e w1 ⟨rfl, rfl⟩) | (go_at_call 47; refine (gdatum_calls _ _).mono ?_; rintro e w1 ⟨rfl, rfl⟩))
                go_ret
                exact ⟨ri (checkE_no (okC_no3 H1.out.2.2 (slotOk_no2 hlt2 G.out))), bs_old (HB2.out.alloc _)⟩
              rcases g4 : ((sl l k)[j].data == 0) with _ | _
              · have G := Lib.hid (secOk_9 gb g4)
                go_wp2_with (first | (go_at_call 44; refine (gseq_calls _ _).mono ?_; rintro e w1 ⟨rfl, rfl⟩) | (go_at_call 47; refine (gdatum_calls _ _).mono ?_; rintro e w1 ⟨rfl, rfl⟩))
                go_ret
                exact ⟨ri (checkE_no (okC_no3 H1.out.2.2 (slotOk_no2 hlt2 G.out))), bs_old (HB2.out.alloc _)⟩
              have G := Lib.hid (secOk_7 g3 g4)
              go_wp2_with (first | (go_at_call 44; refine (gseq_calls _ _).mono ?_; rintro e w1 ⟨rfl, rfl⟩) | (go_at_call 47; refine (gdatum_calls _ _).mono ?_; rintro e w1 ⟨rfl, rfl⟩))
              go_roundg ((sl l k).length - (j + 1))
              case measure => have := HG.out.1; omega
              case rel => exact ⟨j + 1, by omega, by go_num, rfl, HB2.out.alloc _, all_take_succ hlt2 HG.out.2 G.out⟩
          · have HE := Lib.hid (slotOk_yes HQ.out hlt2 HG.out.2)
            go_wp2_with (fail)
            go_roundg (n - (k + 1))
            case measure => have := HA.out.1; omega
            case rel => exact ⟨k + 1, by omega, by go_num, rfl, HB2.out, all_take_succ2 (sl_get H1.out.2.2) HA.out.2 HE.out⟩
      · go_ret
        exact ⟨ri (checkE_no (okC_no3 H1.out.2.2 (slotOk_no1 HQ.out))), bs_old HB1.out⟩
    · have e : okC l = true := okC_yes (by rw [← HN.out]; exact HW.out.1) HW.out.2 (by have := HA.out.2; rwa [show k = l.length by have := HN.out; omega] at this)
      have HE := Lib.hid e
      clear e
      go_wp2_with (fail)
      go_ret
      exact ⟨ri (checkE_yes HE.out), bs_old HB1.out⟩
end Go.Proofs.YtcpglghklmfbcaaDoor.T
