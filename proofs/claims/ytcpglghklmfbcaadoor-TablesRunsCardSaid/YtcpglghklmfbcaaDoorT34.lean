import Derived.Test.YtcpglghklmfbcaaDoorT33
namespace Go.Proofs.YtcpglghklmfbcaaDoor.T
open Go Go.RowKit Go.Proofs.YtcpglghklmfbcaaDoor.M Go.Proofs.YtcpglghklmfbcaaDoor.R Go.Proofs.YtcpglghklmfbcaaDoorW.PrintLast
set_option linter.unusedVariables false
set_option linter.unusedSimpArgs false

theorem margin_err {l : Cop} (h : checkM l ≠ 0) : margin l = (0, checkM l) := by simp [margin, h]
theorem margin_none' {l : Cop} (h : checkM l = 0) (h2 : newest l = none) : margin l = (0, 0) := by simp [margin, h, h2]
/-- The first slots among the first k whole ones. -/
def firstsUpto (l : Cop) (o k : Nat) : Nat := (((wN l).take k).filter (first l o)).length
theorem margin_some' {l : Cop} {s : Nat} (h : checkM l = 0) (h2 : newest l = some s) : margin l = ((firstsUpto l s (wN l).length : Int), 0) := by simp [margin, h, h2, firstsUpto]
theorem firstsUpto_yes {l : Cop} {o k s : Nat} (hs : (wN l)[k]? = some s) (h : first l o s = true) : firstsUpto l o (k + 1) = firstsUpto l o k + 1 := by
  obtain ⟨hk, e⟩ := List.getElem?_eq_some_iff.1 hs
  rw [firstsUpto, firstsUpto, List.take_succ_eq_append_getElem hk, e, List.filter_append]
  simp [h]
theorem firstsUpto_no {l : Cop} {o k s : Nat} (hs : (wN l)[k]? = some s) (h : first l o s = false) : firstsUpto l o (k + 1) = firstsUpto l o k := by
  obtain ⟨hk, e⟩ := List.getElem?_eq_some_iff.1 hs
  rw [firstsUpto, firstsUpto, List.take_succ_eq_append_getElem hk, e, List.filter_append]
  simp [h]
theorem firstsUpto_le (l : Cop) (o k : Nat) : firstsUpto l o k ≤ k := by
  unfold firstsUpto
  exact Nat.le_trans (List.length_filter_le ..) (by rw [List.length_take]; omega)
/-- Margin's 'first' behind j slots. -/
def firstUpto (l : Cop) (o s j : Nat) : Bool := tab (sl l s) == tab (sl l o) && ((wN l).take j).all fun k => tab (sl l k) == tab (sl l o) || newerB (sq l s) (sq l k)
theorem firstUpto_zero (l : Cop) (o s : Nat) : firstUpto l o s 0 = (tab (sl l s) == tab (sl l o)) := by simp [firstUpto]
theorem firstUpto_all {l : Cop} {o s j : Nat} (h : (wN l).length ≤ j) : firstUpto l o s j = first l o s := by rw [firstUpto, List.take_of_length_le h, first]
theorem firstUpto_succ {l : Cop} {o s j k : Nat} (hk : (wN l)[j]? = some k) : firstUpto l o s (j + 1) = (firstUpto l o s j && (tab (sl l k) == tab (sl l o) || newerB (sq l s) (sq l k))) := by
  obtain ⟨hj, e⟩ := List.getElem?_eq_some_iff.1 hk
  rw [firstUpto, firstUpto, List.take_succ_eq_append_getElem hj, e, List.all_append]
  simp [Bool.and_assoc]

set_option maxHeartbeats 2000000 in
set_option maxRecDepth 100000 in
theorem Margin_calls (A : Option Addr) (n c : Nat) (l : Cop) (w : World) (hn : n = l.length) (hR : Row2 encS 3 w A l) (hs : small l) :
    Calls Tryd.prog 26 #[.agg #[.slice A n c]] w fun e w' => e = .returned (.tuple #[.int .i64 (margin l).1, .int .i64 (margin l).2]) ∧ Below w.heap.size w w' := by
  have HR := Lib.hid hR
  have HN := Lib.hid hn
  have HS := Lib.hid hs
  clear hR hn hs
  by_cases h1 : checkM l = 0
  rotate_left
  · have HE := Lib.hid (margin_err h1)
    have hq := neq_of h1
    rw [HE.out]
    clear h1
    go_enter Tryd.func26, Tryd.ntmps26
    go_wp2_with (go_at_call 38; refine (CheckMixed_calls _ _ _ l _ HN.out (HR.out.below ((Below.refl _ _).alloc (Nat.le_refl _) _)) HS.out).mono ?_; rintro e w1 ⟨rfl, hb⟩; have HB := Lib.hid (show Gr (bs w (.slice A n c) 24) w1 from hb); clear hb)
    go_ret2
    exact ⟨rfl, bs_old HB.out⟩
  have HM := Lib.hid h1
  have HOK := Lib.hid (checkM_ok h1).1
  clear h1
  cases h2 : newest l with
  | none =>
    have HE := Lib.hid (margin_none' HM.out h2)
    have HI := Lib.hid (show (newest l).isSome = false by rw [h2]; rfl)
    have hw : ownI l = 0 := by rw [ownI, h2]
    have HW := Lib.hid hw
    rw [HE.out]
    clear h2 hw
    go_enter Tryd.func26, Tryd.ntmps26
    go_wp2_with (first
      | (go_at_call 38; refine (CheckMixed_calls _ _ _ l _ HN.out (HR.out.below ((Below.refl _ _).alloc (Nat.le_refl _) _)) HS.out).mono ?_; rintro e w1 ⟨rfl, hb⟩; rw [HM.out]; have HB := Lib.hid (show Gr (bs w (.slice A n c) 24) w1 from hb); have hbox := bs_box HB.out; clear hb)
      | (go_at_call 50; refine (newest_calls _ _ _ l _ HN.out (HR.out.below (bs_old HB.out)) HOK.out).mono ?_; rintro e w2 ⟨rfl, hb⟩; rw [HW.out, HI.out]; have HB2 := Lib.hid (HB.out.step hb); clear hb))
    go_ret2
    exact ⟨rfl, bs_old HB2.out⟩
  | some o =>
    have HE := Lib.hid (margin_some' HM.out h2)
    have HI := Lib.hid (show (newest l).isSome = true by rw [h2]; rfl)
    have hw : ownI l = o := by rw [ownI, h2]
    have HW := Lib.hid hw
    have HL := Lib.hid (newest_lt h2)
    have hon : o < n := by have := HN.out; have := HL.out.1; omega
    have hw4 : (wN l).length ≤ 4 := Nat.le_trans (wUpto_len l l.length) (okC_len HOK.out).2.1
    rw [HE.out]
    clear h2 hw
    go_enter Tryd.func26, Tryd.ntmps26
    go_wp2_with (first
      | (go_at_call 38; refine (CheckMixed_calls _ _ _ l _ HN.out (HR.out.below ((Below.refl _ _).alloc (Nat.le_refl _) _)) HS.out).mono ?_; rintro e w1 ⟨rfl, hb⟩; rw [HM.out]; have HB := Lib.hid (show Gr (bs w (.slice A n c) 24) w1 from hb); have hbox := bs_box HB.out; clear hb)
      | (go_at_call 50; refine (newest_calls _ _ _ l _ HN.out (HR.out.below (bs_old HB.out)) HOK.out).mono ?_; rintro e w2 ⟨rfl, hb⟩; rw [HW.out, HI.out]; have HB2 := Lib.hid (HB.out.step hb); have hbox2 := bs_box HB2.out; clear hb)
      | (go_at_call 51; go_must (refine (whole_calls _ _ _ _ _ HN.out (HR.out.below (bs_old HB2.out)) HOK.out).mono ?_); rintro e w3 ⟨⟨v, rfl, hO⟩, hb⟩; obtain ⟨A1, c1, rfl, hr, hc⟩ := hO.row encI_len; rw [ints_len]; have HO := Lib.hid hr; have HB3 := Lib.hid (HB2.out.step hb); clear hO hb hr hc))
    go_loopg [8, 9] (wN l).length (fun g q i wr => ∃ k : Nat, k ≤ (wN l).length ∧ i = .int .i64 k ∧ g = (wN l).length - k ∧ q = .int .i64 (firstsUpto l o k) ∧ Gr (bs w (.slice A n c) 24) wr ∧ Row encI 1 wr A1 (ints (wN l)))
    case atStart => exact ⟨0, Nat.zero_le _, rfl, rfl, by simp [firstsUpto], HB3.out, HO.out⟩
    case round =>
      obtain ⟨k, hk, rfl, hg, rfl, hB, hO⟩ := hrel
      have HA := Lib.hid hg
      have HB1 := Lib.hid (And.intro hB hO)
      clear hB hO hg HB HO HB2 HB3 hbox hbox2
      by_cases hlt : k < (wN l).length
      · obtain ⟨s, hs, hs2, hs3, hs4⟩ := ints_at hlt
        have HS1 := Lib.hid (And.intro hs (And.intro hs2 (And.intro hs3 hs4)))
        obtain ⟨b1, o1, rfl, hl1, hc1⟩ := RowI.at HB1.out.2 (show k < (ints (wN l)).length by rw [ints_len]; exact hlt)
        rw [hs2] at hc1
        obtain ⟨bs1, os1, Ak, ck, rfl, hs1, hs1c, hs1r⟩ := (HR.out.below (bs_old HB1.out.1)).at (sl_get hs3)
        obtain ⟨bs2, os2, Ao, co, e3, hs2', hs2c, hs2r⟩ := (HR.out.below (bs_old HB1.out.1)).at (sl_get HL.out.1)
        cases e3
        have hsn : s < n := by have := HN.out; omega
        have hbox := bs_box HB1.out.1
        have hbl : w.heap.size < wr.heap.size := by have := HB1.out.1.size; rw [bs_size] at this; omega
        have HK' := Lib.hid (show ∀ W', Below wr.heap.size wr W' → (Below wr.heap.size wr W' ∧ W'.cell? ⟨w.heap.size, 0, none⟩ = some (.slice (some ⟨bs1, os1, none⟩) n c) ∧ W'.cell? ⟨b1, o1 + k, none⟩ = some (.int .i64 s) ∧ W'.cell? ⟨bs1, os1 + s, none⟩ = some (.slice Ak (sl l s).length ck) ∧ W'.cell? ⟨bs1, os1 + o, none⟩ = some (.slice Ao (sl l o).length co)) from fun W' hb => ⟨hb, (hb.cell (p := ⟨w.heap.size, 0, none⟩) hbl).trans hbox, (hb.cell (p := ⟨_, _, none⟩) hl1).trans hc1, (hb.cell (p := ⟨_, _, none⟩) (World.block_lt_of_cell? wr _ hs1)).trans hs1, (hb.cell (p := ⟨_, _, none⟩) (World.block_lt_of_cell? wr _ hs2')).trans hs2'⟩)
        have HRO := Lib.hid hs2r
        clear hs hs2 hs3 hs4
        go_wp2_with (fail)
        go_region_held3 (fun W' => Below wr.heap.size wr W' ∧ W'.cell? ⟨w.heap.size, 0, none⟩ = some (.slice (some ⟨bs1, os1, none⟩) n c) ∧ W'.cell? ⟨b1, o1 + k, none⟩ = some (.int .i64 s) ∧ W'.cell? ⟨bs1, os1 + s, none⟩ = some (.slice Ak (sl l s).length ck) ∧ W'.cell? ⟨bs1, os1 + o, none⟩ = some (.slice Ao (sl l o).length co)) (exact HK'.out _ (by first | exact Below.drew (Below.refl _ _) | assumption)) (first
          | (go_at_call_of 18 Ak; have hB0 := And.left ‹Below wr.heap.size wr _ ∧ _›; refine (Table_calls _ _ _ _ (hs1r.below hB0) (by have := okC_slot HOK.out HS1.out.2.2.1; have := okC_len HOK.out; omega)).mono ?_; rintro e w4 ⟨⟨v4, rfl, hO⟩, hb⟩; have hb4 := bthen hB0 hB0.size hb; obtain ⟨A4, c4, rfl, hr4, hc4⟩ := hO.row encI_len; have HT4 := Lib.hid hr4; clear hB0 hb hO hr4 hc4)
          | (go_at_call 18; have hB0 := And.left ‹Below wr.heap.size wr _ ∧ _›; refine (Table_calls _ _ _ _ (hs2r.below hB0) (by have := okC_slot HOK.out HL.out.1; have := okC_len HOK.out; omega)).mono ?_; rintro e w5 ⟨⟨v5, rfl, hO⟩, hb⟩; have hb5 := bthen hB0 hB0.size hb; obtain ⟨A5, c5, rfl, hr5, hc5⟩ := hO.row encI_len; have HT5 := Lib.hid (And.intro hr5 (HT4.out.below hb)); clear hB0 hb hO hr5 hc5)
          | (go_at_call 52; have hB0 := And.left ‹Below wr.heap.size wr _ ∧ _›; refine (same_calls _ _ _ _ _ _ _ _ _ rfl rfl HT5.out.2 HT5.out.1).mono ?_; rintro e w6 ⟨rfl, hb⟩; have hb6 := bthen hB0 hB0.size hb; clear hB0 hb))
        have HB6 := Lib.hid (And.intro (HB1.out.1.step hb6) (HB1.out.2.below hb6))
        clear hb4 hb5 hb6
        obtain ⟨wb, rfl⟩ : ∃ wb, wb = wr := ⟨_, rfl⟩
        go_wp2_with (fail)
        go_loopg [10, 11] (wN l).length (fun g q i wr => ∃ j : Nat, j ≤ (wN l).length ∧ i = .int .i64 j ∧ g = (wN l).length - j ∧ q = .bool (firstUpto l o s j) ∧ Gr (bs w (.slice (some ⟨bs1, os1, none⟩) n c) 24) wr ∧ Row encI 1 wr (some ⟨b1, o1, none⟩) (ints (wN l)))
        case atStart => exact ⟨0, Nat.zero_le _, rfl, rfl, by rw [firstUpto_zero], HB6.out.1, HB6.out.2⟩
        case round =>
          obtain ⟨j, hj, rfl, hgj, rfl, hBj, hOj⟩ := hrel
          obtain ⟨wq, rfl⟩ : ∃ wq, wq = wr := ⟨_, rfl⟩
          have HGJ := Lib.hid hgj
          have HB2 := Lib.hid (And.intro hBj hOj)
          clear hgj hBj hOj hbox hc1 hs1 hs2' hs1c hs2c
          by_cases hlt2 : j < (wN l).length
          · obtain ⟨s2, hs, hs2, hs3, hs4⟩ := ints_at hlt2
            have HS2 := Lib.hid (And.intro hs (And.intro hs2 (And.intro hs3 hs4)))
            obtain ⟨_, _, e1, hlk, hck⟩ := RowI.at HB2.out.2 (show k < (ints (wN l)).length by rw [ints_len]; exact hlt)
            cases e1
            obtain ⟨_, _, e2, hlj, hcj⟩ := RowI.at HB2.out.2 (show j < (ints (wN l)).length by rw [ints_len]; exact hlt2)
            cases e2
            rw [HS1.out.2.1] at hck
            rw [hs2] at hcj
            obtain ⟨_, _, Aj, cj, e3, hsj, hsjc, hs2r⟩ := (HR.out.below (bs_old HB2.out.1)).at (sl_get hs3)
            cases e3
            obtain ⟨_, _, Aq, cq, e4, hsq, hsqc, hqr⟩ := (HR.out.below (bs_old HB2.out.1)).at (sl_get HL.out.1)
            cases e4
            have hsn2 : s2 < n := by have := HN.out; omega
            have hbox := bs_box HB2.out.1
            have hblq : w.heap.size < wq.heap.size := by have := HB2.out.1.size; rw [bs_size] at this; omega
            have HKQ := Lib.hid (show ∀ W', Below wq.heap.size wq W' → (Below wq.heap.size wq W' ∧ W'.cell? ⟨w.heap.size, 0, none⟩ = some (.slice (some ⟨bs1, os1, none⟩) n c) ∧ W'.cell? ⟨b1, o1 + k, none⟩ = some (.int .i64 s) ∧ W'.cell? ⟨b1, o1 + j, none⟩ = some (.int .i64 s2) ∧ W'.cell? ⟨bs1, os1 + s2, none⟩ = some (.slice Aj (sl l s2).length cj) ∧ W'.cell? ⟨bs1, os1 + o, none⟩ = some (.slice Aq (sl l o).length cq)) from fun W' hb => ⟨hb, (hb.cell (p := ⟨w.heap.size, 0, none⟩) hblq).trans hbox, (hb.cell (p := ⟨_, _, none⟩) hlk).trans hck, (hb.cell (p := ⟨_, _, none⟩) hlj).trans hcj, (hb.cell (p := ⟨_, _, none⟩) (World.block_lt_of_cell? wq _ hsj)).trans hsj, (hb.cell (p := ⟨_, _, none⟩) (World.block_lt_of_cell? wq _ hsq)).trans hsq⟩)
            clear hs hs2 hs3 hs4
            rcases htt : (tab (sl l s2) == tab (sl l o)) with _ | _
            · have HTT := Lib.hid htt
              clear htt
              rcases hnw : newerB (sq l s) (sq l s2) with _ | _
              · have HNW := Lib.hid hnw
                clear hnw
                go_wp2_with (fail)
                go_region_held3 (fun W' => Below wq.heap.size wq W' ∧ W'.cell? ⟨w.heap.size, 0, none⟩ = some (.slice (some ⟨bs1, os1, none⟩) n c) ∧ W'.cell? ⟨b1, o1 + k, none⟩ = some (.int .i64 s) ∧ W'.cell? ⟨b1, o1 + j, none⟩ = some (.int .i64 s2) ∧ W'.cell? ⟨bs1, os1 + s2, none⟩ = some (.slice Aj (sl l s2).length cj) ∧ W'.cell? ⟨bs1, os1 + o, none⟩ = some (.slice Aq (sl l o).length cq)) (exact HKQ.out _ (by first | exact Below.drew (Below.refl _ _) | assumption)) (first
                  | (go_at_call_of 18 Aj; have hB0 := And.left ‹Below wq.heap.size wq _ ∧ _›; refine (Table_calls _ _ _ _ (hs2r.below hB0) (by have := okC_slot HOK.out HS2.out.2.2.1; have := okC_len HOK.out; omega)).mono ?_; rintro e w4 ⟨⟨v4, rfl, hO⟩, hb⟩; have hb4 := bthen hB0 hB0.size hb; obtain ⟨A4, c4, rfl, hr4, hc4⟩ := hO.row encI_len; have HT4 := Lib.hid hr4; clear hB0 hb hO hr4 hc4)
                  | (go_at_call 18; have hB0 := And.left ‹Below wq.heap.size wq _ ∧ _›; refine (Table_calls _ _ _ _ (hqr.below hB0) (by have := okC_slot HOK.out HL.out.1; have := okC_len HOK.out; omega)).mono ?_; rintro e w5 ⟨⟨v5, rfl, hO⟩, hb⟩; have hb5 := bthen hB0 hB0.size hb; obtain ⟨A5, c5, rfl, hr5, hc5⟩ := hO.row encI_len; have HT5 := Lib.hid (And.intro hr5 (HT4.out.below hb)); clear hB0 hb hO hr5 hc5)
                  | (go_at_call 52; have hB0 := And.left ‹Below wq.heap.size wq _ ∧ _›; refine (same_calls _ _ _ _ _ _ _ _ _ rfl rfl HT5.out.2 HT5.out.1).mono ?_; rintro e w6 ⟨rfl, hb⟩; rw [HTT.out]; have hb6 := bthen hB0 hB0.size hb; clear hB0 hb)
                  | (go_at_call_of 53 s; have hB0 := And.left ‹Below wq.heap.size wq _ ∧ _›; refine (seq_calls _ _ _ s l _ HN.out (HR.out.below (bs_old (HB2.out.1.step hB0))) (by omega) (by have := HS1.out.2.2.1; omega) (by have := okC_slot HOK.out HS1.out.2.2.1; have := okC_len HOK.out; simp; omega)).mono ?_; rintro e w7 ⟨rfl, hb⟩; have hb7 := bthen hB0 hB0.size hb; clear hB0 hb)
                  | (go_at_call 53; have hB0 := And.left ‹Below wq.heap.size wq _ ∧ _›; refine (seq_calls _ _ _ s2 l _ HN.out (HR.out.below (bs_old (HB2.out.1.step hB0))) (by omega) (by have := HS2.out.2.2.1; omega) (by have := okC_slot HOK.out HS2.out.2.2.1; have := okC_len HOK.out; simp; omega)).mono ?_; rintro e w8 ⟨rfl, hb⟩; have hb8 := bthen hB0 hB0.size hb; clear hB0 hb)
                  | (go_at_call 49; have hB9 := And.left ‹Below wq.heap.size wq _ ∧ _›; have h1_ := okC_sq HOK.out HS1.out.2.2.1; have h2_ := okC_sq HOK.out HS2.out.2.2.1; refine (newer_calls _ _ _ (by omega) (by omega) (by omega) (by omega)).mono ?_; rintro e w9 ⟨rfl, rfl⟩; rw [HNW.out]))
                have HB9 := Lib.hid hB9
                clear hb4 hb5 hb6 hb7 hb8 hB9
                go_wp2_with (fail)
                go_roundg ((wN l).length - (j + 1))
                case measure => have := HGJ.out; omega
                case rel => exact ⟨j + 1, by omega, by go_num, rfl, by rw [firstUpto_succ HS2.out.1, HTT.out, HNW.out]; simp, HB2.out.1.step HB9.out, HB2.out.2.below HB9.out⟩
              · have HNW := Lib.hid hnw
                clear hnw
                go_wp2_with (fail)
                go_region_held3 (fun W' => Below wq.heap.size wq W' ∧ W'.cell? ⟨w.heap.size, 0, none⟩ = some (.slice (some ⟨bs1, os1, none⟩) n c) ∧ W'.cell? ⟨b1, o1 + k, none⟩ = some (.int .i64 s) ∧ W'.cell? ⟨b1, o1 + j, none⟩ = some (.int .i64 s2) ∧ W'.cell? ⟨bs1, os1 + s2, none⟩ = some (.slice Aj (sl l s2).length cj) ∧ W'.cell? ⟨bs1, os1 + o, none⟩ = some (.slice Aq (sl l o).length cq)) (exact HKQ.out _ (by first | exact Below.drew (Below.refl _ _) | assumption)) (first
                  | (go_at_call_of 18 Aj; have hB0 := And.left ‹Below wq.heap.size wq _ ∧ _›; refine (Table_calls _ _ _ _ (hs2r.below hB0) (by have := okC_slot HOK.out HS2.out.2.2.1; have := okC_len HOK.out; omega)).mono ?_; rintro e w4 ⟨⟨v4, rfl, hO⟩, hb⟩; have hb4 := bthen hB0 hB0.size hb; obtain ⟨A4, c4, rfl, hr4, hc4⟩ := hO.row encI_len; have HT4 := Lib.hid hr4; clear hB0 hb hO hr4 hc4)
                  | (go_at_call 18; have hB0 := And.left ‹Below wq.heap.size wq _ ∧ _›; refine (Table_calls _ _ _ _ (hqr.below hB0) (by have := okC_slot HOK.out HL.out.1; have := okC_len HOK.out; omega)).mono ?_; rintro e w5 ⟨⟨v5, rfl, hO⟩, hb⟩; have hb5 := bthen hB0 hB0.size hb; obtain ⟨A5, c5, rfl, hr5, hc5⟩ := hO.row encI_len; have HT5 := Lib.hid (And.intro hr5 (HT4.out.below hb)); clear hB0 hb hO hr5 hc5)
                  | (go_at_call 52; have hB0 := And.left ‹Below wq.heap.size wq _ ∧ _›; refine (same_calls _ _ _ _ _ _ _ _ _ rfl rfl HT5.out.2 HT5.out.1).mono ?_; rintro e w6 ⟨rfl, hb⟩; rw [HTT.out]; have hb6 := bthen hB0 hB0.size hb; clear hB0 hb)
                  | (go_at_call_of 53 s; have hB0 := And.left ‹Below wq.heap.size wq _ ∧ _›; refine (seq_calls _ _ _ s l _ HN.out (HR.out.below (bs_old (HB2.out.1.step hB0))) (by omega) (by have := HS1.out.2.2.1; omega) (by have := okC_slot HOK.out HS1.out.2.2.1; have := okC_len HOK.out; simp; omega)).mono ?_; rintro e w7 ⟨rfl, hb⟩; have hb7 := bthen hB0 hB0.size hb; clear hB0 hb)
                  | (go_at_call 53; have hB0 := And.left ‹Below wq.heap.size wq _ ∧ _›; refine (seq_calls _ _ _ s2 l _ HN.out (HR.out.below (bs_old (HB2.out.1.step hB0))) (by omega) (by have := HS2.out.2.2.1; omega) (by have := okC_slot HOK.out HS2.out.2.2.1; have := okC_len HOK.out; simp; omega)).mono ?_; rintro e w8 ⟨rfl, hb⟩; have hb8 := bthen hB0 hB0.size hb; clear hB0 hb)
                  | (go_at_call 49; have hB9 := And.left ‹Below wq.heap.size wq _ ∧ _›; have h1_ := okC_sq HOK.out HS1.out.2.2.1; have h2_ := okC_sq HOK.out HS2.out.2.2.1; refine (newer_calls _ _ _ (by omega) (by omega) (by omega) (by omega)).mono ?_; rintro e w9 ⟨rfl, rfl⟩; rw [HNW.out]))
                have HB9 := Lib.hid hB9
                clear hb4 hb5 hb6 hb7 hb8 hB9
                go_wp2_with (fail)
                go_roundg ((wN l).length - (j + 1))
                case measure => have := HGJ.out; omega
                case rel => exact ⟨j + 1, by omega, by go_num, rfl, by rw [firstUpto_succ HS2.out.1, HTT.out, HNW.out]; simp, HB2.out.1.step HB9.out, HB2.out.2.below HB9.out⟩
            · have HTT := Lib.hid htt
              clear htt
              go_wp2_with (fail)
              refine start_ (n := 33) (S := fun W' => Below wq.heap.size wq W' ∧ W'.cell? ⟨w.heap.size, 0, none⟩ = some (.slice (some ⟨bs1, os1, none⟩) n c) ∧ W'.cell? ⟨b1, o1 + k, none⟩ = some (.int .i64 s) ∧ W'.cell? ⟨b1, o1 + j, none⟩ = some (.int .i64 s2) ∧ W'.cell? ⟨bs1, os1 + s2, none⟩ = some (.slice Aj (sl l s2).length cj) ∧ W'.cell? ⟨bs1, os1 + o, none⟩ = some (.slice Aq (sl l o).length cq)) (ds := []) #[false, false, false, false, false, false, false, false, false, false, false, false, false, false, false, false, false, false, false, false, false, false, false, false, false, false, false, false, false, false, false, false, false] (by kernel_rfl) rfl rfl (HKQ.out _ (Below.drew (Below.refl _ _))) (fun hHeld => ?_)
              refine pure_ (i := 0) (N := some 54) (v := ?_) (a' := ?_) #[true, false, false, false, false, false, false, false, false, false, false, false, false, false, false, false, false, false, false, false, false, false, false, false, false, false, false, false, false, false, false, false, false] rfl rfl (by kernel_rfl) (fun _ _ _ h => h) (Or.inl ⟨by rfl, ?_⟩) ?_ ?_
              rotate_left
              · intro w_
                go_simp
                with_reducible rfl
              rotate_left
              · simp only [Act.put, List.setIfInBounds_toArray, List.set_cons_zero, List.set_cons_succ]
                rfl
              refine pure_ (i := 2) (N := some 56) (v := ?_) (a' := ?_) #[true, false, true, false, false, false, false, false, false, false, false, false, false, false, false, false, false, false, false, false, false, false, false, false, false, false, false, false, false, false, false, false, false] rfl rfl (by kernel_rfl) (fun _ _ _ h => h) (Or.inl ⟨by rfl, ?_⟩) ?_ ?_
              rotate_left
              · intro w_
                go_simp
                with_reducible rfl
              rotate_left
              · simp only [Act.put, List.setIfInBounds_toArray, List.set_cons_zero, List.set_cons_succ]
                rfl
              refine pure_ (i := 3) (N := some 57) (v := ?_) (a' := ?_) #[true, false, true, true, false, false, false, false, false, false, false, false, false, false, false, false, false, false, false, false, false, false, false, false, false, false, false, false, false, false, false, false, false] rfl rfl (by kernel_rfl) (fun _ _ _ h => h) (Or.inl ⟨by rfl, ?_⟩) ?_ ?_
              rotate_left
              · intro w_
                go_simp
                with_reducible rfl
              rotate_left
              · simp only [Act.put, List.setIfInBounds_toArray, List.set_cons_zero, List.set_cons_succ]
                rfl
              refine pure_ (i := 4) (N := some 58) (v := ?_) (a' := ?_) #[true, false, true, true, true, false, false, false, false, false, false, false, false, false, false, false, false, false, false, false, false, false, false, false, false, false, false, false, false, false, false, false, false] rfl rfl (by kernel_rfl) (fun _ _ _ h => h) (Or.inl ⟨by rfl, ?_⟩) ?_ ?_
              rotate_left
              · intro w_
                go_simp
                with_reducible rfl
              rotate_left
              · simp only [Act.put, List.setIfInBounds_toArray, List.set_cons_zero, List.set_cons_succ]
                rfl
              refine pure_ (i := 9) (N := some 63) (v := ?_) (a' := ?_) #[true, false, true, true, true, false, false, false, false, true, false, false, false, false, false, false, false, false, false, false, false, false, false, false, false, false, false, false, false, false, false, false, false] rfl rfl (by kernel_rfl) (fun _ _ _ h => h) (Or.inl ⟨by rfl, ?_⟩) ?_ ?_
              rotate_left
              · intro w_
                go_simp
                with_reducible rfl
              rotate_left
              · simp only [Act.put, List.setIfInBounds_toArray, List.set_cons_zero, List.set_cons_succ]
                rfl
              refine pure_ (i := 11) (N := some 65) (v := ?_) (a' := ?_) #[true, false, true, true, true, false, false, false, false, true, false, true, false, false, false, false, false, false, false, false, false, false, false, false, false, false, false, false, false, false, false, false, false] rfl rfl (by kernel_rfl) (fun _ _ _ h => h) (Or.inl ⟨by rfl, ?_⟩) ?_ ?_
              rotate_left
              · intro w_
                go_simp
                with_reducible rfl
              rotate_left
              · simp only [Act.put, List.setIfInBounds_toArray, List.set_cons_zero, List.set_cons_succ]
                rfl
              refine take_ (i := 1) (N := some 55) (v := ?_) (a' := ?_) #[true, true, true, true, true, false, false, false, false, true, false, true, false, false, false, false, false, false, false, false, false, false, false, false, false, false, false, false, false, false, false, false, false] rfl rfl (by kernel_rfl) (fun _ _ _ h => h) (Or.inl ⟨by rfl, ?_⟩) hHeld ?_ ?_
              rotate_left
              · rintro w_ ⟨s0, s1, s2, s3, s4, s5⟩
                go_simp
                with_reducible rfl
              rotate_left
              · simp only [Act.put, List.setIfInBounds_toArray, List.set_cons_zero, List.set_cons_succ]
                rfl
              refine take_ (i := 5) (N := some 59) (v := ?_) (a' := ?_) #[true, true, true, true, true, true, false, false, false, true, false, true, false, false, false, false, false, false, false, false, false, false, false, false, false, false, false, false, false, false, false, false, false] rfl rfl (by kernel_rfl) (fun _ _ _ h => h) (Or.inl ⟨by rfl, ?_⟩) hHeld ?_ ?_
              rotate_left
              · rintro w_ ⟨s0, s1, s2, s3, s4, s5⟩
                go_simp
                with_reducible rfl
              rotate_left
              · simp only [Act.put, List.setIfInBounds_toArray, List.set_cons_zero, List.set_cons_succ]
                rfl
              refine pure_ (i := 6) (N := some 60) (v := ?_) (a' := ?_) #[true, true, true, true, true, true, true, false, false, true, false, true, false, false, false, false, false, false, false, false, false, false, false, false, false, false, false, false, false, false, false, false, false] rfl rfl (by kernel_rfl) (fun _ _ _ h => h) (Or.inl ⟨by rfl, ?_⟩) ?_ ?_
              rotate_left
              · intro w_
                go_simp
                with_reducible rfl
              rotate_left
              · simp only [Act.put, List.setIfInBounds_toArray, List.set_cons_zero, List.set_cons_succ]
                rfl
              refine take_ (i := 7) (N := some 61) (v := ?_) (a' := ?_) #[true, true, true, true, true, true, true, true, false, true, false, true, false, false, false, false, false, false, false, false, false, false, false, false, false, false, false, false, false, false, false, false, false] rfl rfl (by kernel_rfl) (fun _ _ _ h => h) (Or.inl ⟨by rfl, ?_⟩) hHeld ?_ ?_
              rotate_left
              · rintro w_ ⟨s0, s1, s2, s3, s4, s5⟩
                go_simp
                with_reducible rfl
              rotate_left
              · simp only [Act.put, List.setIfInBounds_toArray, List.set_cons_zero, List.set_cons_succ]
                rfl
              refine take_ (i := 10) (N := some 64) (v := ?_) (a' := ?_) #[true, true, true, true, true, true, true, true, false, true, true, true, false, false, false, false, false, false, false, false, false, false, false, false, false, false, false, false, false, false, false, false, false] rfl rfl (by kernel_rfl) (fun _ _ _ h => h) (Or.inl ⟨by rfl, ?_⟩) hHeld ?_ ?_
              rotate_left
              · rintro w_ ⟨s0, s1, s2, s3, s4, s5⟩
                go_simp
                with_reducible rfl
              rotate_left
              · simp only [Act.put, List.setIfInBounds_toArray, List.set_cons_zero, List.set_cons_succ]
                rfl
              refine pure_ (i := 12) (N := some 66) (v := ?_) (a' := ?_) #[true, true, true, true, true, true, true, true, false, true, true, true, true, false, false, false, false, false, false, false, false, false, false, false, false, false, false, false, false, false, false, false, false] rfl rfl (by kernel_rfl) (fun _ _ _ h => h) (Or.inl ⟨by rfl, ?_⟩) ?_ ?_
              rotate_left
              · intro w_
                go_simp
                with_reducible rfl
              rotate_left
              · simp only [Act.put, List.setIfInBounds_toArray, List.set_cons_zero, List.set_cons_succ]
                rfl
              refine take_ (i := 13) (N := some 67) (v := ?_) (a' := ?_) #[true, true, true, true, true, true, true, true, false, true, true, true, true, true, false, false, false, false, false, false, false, false, false, false, false, false, false, false, false, false, false, false, false] rfl rfl (by kernel_rfl) (fun _ _ _ h => h) (Or.inl ⟨by rfl, ?_⟩) hHeld ?_ ?_
              rotate_left
              · rintro w_ ⟨s0, s1, s2, s3, s4, s5⟩
                go_simp
                with_reducible rfl
              rotate_left
              · simp only [Act.put, List.setIfInBounds_toArray, List.set_cons_zero, List.set_cons_succ]
                rfl
              refine one_ (i := 8) (N := some 62) #[true, true, true, true, true, true, true, true, true, true, true, true, true, true, false, false, false, false, false, false, false, false, false, false, false, false, false, false, false, false, false, false, false] rfl rfl (by kernel_rfl) (by decide) (fun K hK => ?_)
              refine goes_ Tryd.func18 (by kernel_rfl) rfl #[.slice Aj (sl l s2).length cj] (by rfl) rfl rfl (by simp [Act.eval]) ?_
              refine (Table_calls _ _ _ _ (hs2r.below hHeld.1) (by have := okC_slot HOK.out HS2.out.2.2.1; have := okC_len HOK.out; omega)).mono ?_
              rintro e w4 ⟨⟨v4, rfl, hO⟩, hb⟩
              have hb4 := bthen hHeld.1 hHeld.1.size hb
              obtain ⟨A4, c4, rfl, hr4, hc4⟩ := hO.row encI_len
              have HT4 := Lib.hid hr4
              refine ⟨_, rfl, hK.out _ _ (HKQ.out _ hb4) (fun hHeld => ?_)⟩
              clear hK K hb hO hr4 hc4
              simp only [Act.put, List.setIfInBounds_toArray, List.set_cons_zero, List.set_cons_succ]
              refine one_ (i := 14) (N := some 68) #[true, true, true, true, true, true, true, true, true, true, true, true, true, true, true, false, false, false, false, false, false, false, false, false, false, false, false, false, false, false, false, false, false] rfl rfl (by kernel_rfl) (by decide) (fun K hK => ?_)
              refine goes_ Tryd.func18 (by kernel_rfl) rfl #[.slice Aq (sl l o).length cq] (by rfl) rfl rfl (by simp [Act.eval]) ?_
              refine (Table_calls _ _ _ _ (hqr.below hHeld.1) (by have := okC_slot HOK.out HL.out.1; have := okC_len HOK.out; omega)).mono ?_
              rintro e w5 ⟨⟨v5, rfl, hO⟩, hb⟩
              have hb5 := bthen hHeld.1 hHeld.1.size hb
              obtain ⟨A5, c5, rfl, hr5, hc5⟩ := hO.row encI_len
              have HT5 := Lib.hid (And.intro hr5 (HT4.out.below hb))
              refine ⟨_, rfl, hK.out _ _ (HKQ.out _ hb5) (fun hHeld => ?_)⟩
              clear hK K hb hO hr5 hc5
              simp only [Act.put, List.setIfInBounds_toArray, List.set_cons_zero, List.set_cons_succ]
              refine one_ (i := 15) (N := some 69) #[true, true, true, true, true, true, true, true, true, true, true, true, true, true, true, true, false, false, false, false, false, false, false, false, false, false, false, false, false, false, false, false, false] rfl rfl (by kernel_rfl) (by decide) (fun K hK => ?_)
              refine goes_ Tryd.func52 (by kernel_rfl) rfl #[.slice A4 (tab (sl l s2)).length c4, .slice A5 (tab (sl l o)).length c5] (by rfl) rfl rfl (by simp [Act.eval]) ?_
              refine (same_calls _ _ _ _ _ _ _ _ _ rfl rfl HT5.out.2 HT5.out.1).mono ?_
              rintro e w6 ⟨rfl, hb⟩
              rw [HTT.out]
              have hb6 := bthen hHeld.1 hHeld.1.size hb
              refine ⟨_, rfl, hK.out _ _ (HKQ.out _ hb6) (fun hHeld => ?_)⟩
              clear hK K hb
              simp only [Act.put, List.setIfInBounds_toArray, List.set_cons_zero, List.set_cons_succ]
              refine pure_ (i := 16) (N := some 70) (v := ?_) (a' := ?_) #[true, true, true, true, true, true, true, true, true, true, true, true, true, true, true, true, true, false, false, false, false, false, false, false, false, false, false, false, false, false, false, false, false] rfl rfl (by kernel_rfl) (fun _ _ _ h => h) (Or.inl ⟨by rfl, ?_⟩) ?_ ?_
              rotate_left
              · intro w_
                go_simp
                with_reducible rfl
              rotate_left
              · simp only [Act.put, List.setIfInBounds_toArray, List.set_cons_zero, List.set_cons_succ]
                rfl
              refine pure_ (i := 17) (N := some 71) (v := ?_) (a' := ?_) #[true, true, true, true, true, true, true, true, true, true, true, true, true, true, true, true, true, true, false, false, false, false, false, false, false, false, false, false, false, false, false, false, false] rfl rfl (by kernel_rfl) (fun _ _ _ h => h) (Or.inl ⟨by rfl, ?_⟩) ?_ ?_
              rotate_left
              · intro w_
                go_simp
                with_reducible rfl
              rotate_left
              · simp only [Act.put, List.setIfInBounds_toArray, List.set_cons_zero, List.set_cons_succ]
                rfl
              refine pure_ (i := 19) (N := some 73) (v := undef) (a' := ?AA19) #[true, true, true, true, true, true, true, true, true, true, true, true, true, true, true, true, true, true, false, true, false, false, false, false, false, false, false, false, false, false, false, false, false] rfl rfl (by kernel_rfl) (fun _ _ _ h => h) (Or.inr ⟨by rfl, rfl⟩) ?HA19 ?HH19
              case HA19 =>
                simp only [Act.put, List.setIfInBounds_toArray, List.set_cons_zero, List.set_cons_succ]
                rfl
              refine pure_ (i := 20) (N := some 74) (v := undef) (a' := ?AA20) #[true, true, true, true, true, true, true, true, true, true, true, true, true, true, true, true, true, true, false, true, true, false, false, false, false, false, false, false, false, false, false, false, false] rfl rfl (by kernel_rfl) (fun _ _ _ h => h) (Or.inr ⟨by rfl, rfl⟩) ?HA20 ?HH20
              case HA20 =>
                simp only [Act.put, List.setIfInBounds_toArray, List.set_cons_zero, List.set_cons_succ]
                rfl
              refine pure_ (i := 21) (N := some 75) (v := undef) (a' := ?AA21) #[true, true, true, true, true, true, true, true, true, true, true, true, true, true, true, true, true, true, false, true, true, true, false, false, false, false, false, false, false, false, false, false, false] rfl rfl (by kernel_rfl) (fun _ _ _ h => h) (Or.inr ⟨by rfl, rfl⟩) ?HA21 ?HH21
              case HA21 =>
                simp only [Act.put, List.setIfInBounds_toArray, List.set_cons_zero, List.set_cons_succ]
                rfl
              refine pure_ (i := 25) (N := some 79) (v := undef) (a' := ?AA25) #[true, true, true, true, true, true, true, true, true, true, true, true, true, true, true, true, true, true, false, true, true, true, false, false, false, true, false, false, false, false, false, false, false] rfl rfl (by kernel_rfl) (fun _ _ _ h => h) (Or.inr ⟨by rfl, rfl⟩) ?HA25 ?HH25
              case HA25 =>
                simp only [Act.put, List.setIfInBounds_toArray, List.set_cons_zero, List.set_cons_succ]
                rfl
              refine pure_ (i := 26) (N := some 80) (v := undef) (a' := ?AA26) #[true, true, true, true, true, true, true, true, true, true, true, true, true, true, true, true, true, true, false, true, true, true, false, false, false, true, true, false, false, false, false, false, false] rfl rfl (by kernel_rfl) (fun _ _ _ h => h) (Or.inr ⟨by rfl, rfl⟩) ?HA26 ?HH26
              case HA26 =>
                simp only [Act.put, List.setIfInBounds_toArray, List.set_cons_zero, List.set_cons_succ]
                rfl
              refine pure_ (i := 27) (N := some 81) (v := undef) (a' := ?AA27) #[true, true, true, true, true, true, true, true, true, true, true, true, true, true, true, true, true, true, false, true, true, true, false, false, false, true, true, true, false, false, false, false, false] rfl rfl (by kernel_rfl) (fun _ _ _ h => h) (Or.inr ⟨by rfl, rfl⟩) ?HA27 ?HH27
              case HA27 =>
                simp only [Act.put, List.setIfInBounds_toArray, List.set_cons_zero, List.set_cons_succ]
                rfl
              refine pure_ (i := 18) (N := some 72) (v := undef) (a' := ?AA18) #[true, true, true, true, true, true, true, true, true, true, true, true, true, true, true, true, true, true, true, true, true, true, false, false, false, true, true, true, false, false, false, false, false] rfl rfl (by kernel_rfl) (fun _ _ _ h => h) (Or.inr ⟨by rfl, rfl⟩) ?HA18 ?HH18
              case HA18 =>
                simp only [Act.put, List.setIfInBounds_toArray, List.set_cons_zero, List.set_cons_succ]
                rfl
              refine pure_ (i := 22) (N := some 76) (v := undef) (a' := ?AA22) #[true, true, true, true, true, true, true, true, true, true, true, true, true, true, true, true, true, true, true, true, true, true, true, false, false, true, true, true, false, false, false, false, false] rfl rfl (by kernel_rfl) (fun _ _ _ h => h) (Or.inr ⟨by rfl, rfl⟩) ?HA22 ?HH22
              case HA22 =>
                simp only [Act.put, List.setIfInBounds_toArray, List.set_cons_zero, List.set_cons_succ]
                rfl
              refine pure_ (i := 24) (N := some 78) (v := undef) (a' := ?AA24) #[true, true, true, true, true, true, true, true, true, true, true, true, true, true, true, true, true, true, true, true, true, true, true, false, true, true, true, true, false, false, false, false, false] rfl rfl (by kernel_rfl) (fun _ _ _ h => h) (Or.inr ⟨by rfl, rfl⟩) ?HA24 ?HH24
              case HA24 =>
                simp only [Act.put, List.setIfInBounds_toArray, List.set_cons_zero, List.set_cons_succ]
                rfl
              refine pure_ (i := 28) (N := some 82) (v := undef) (a' := ?AA28) #[true, true, true, true, true, true, true, true, true, true, true, true, true, true, true, true, true, true, true, true, true, true, true, false, true, true, true, true, true, false, false, false, false] rfl rfl (by kernel_rfl) (fun _ _ _ h => h) (Or.inr ⟨by rfl, rfl⟩) ?HA28 ?HH28
              case HA28 =>
                simp only [Act.put, List.setIfInBounds_toArray, List.set_cons_zero, List.set_cons_succ]
                rfl
              refine one_ (i := 23) (N := some 77) #[true, true, true, true, true, true, true, true, true, true, true, true, true, true, true, true, true, true, true, true, true, true, true, true, true, true, true, true, true, false, false, false, false] rfl rfl (by kernel_rfl) (by decide) (fun K hK => ?_)
              refine off_ (by rfl) ?_
              refine hK.out _ _ (HKQ.out _ hHeld.1) (fun hHeld => ?_)
              clear hK K
              simp only [Act.put, List.setIfInBounds_toArray, List.set_cons_zero, List.set_cons_succ]
              refine one_ (i := 29) (N := some 83) #[true, true, true, true, true, true, true, true, true, true, true, true, true, true, true, true, true, true, true, true, true, true, true, true, true, true, true, true, true, true, false, false, false] rfl rfl (by kernel_rfl) (by decide) (fun K hK => ?_)
              refine off_ (by rfl) ?_
              refine hK.out _ _ (HKQ.out _ hHeld.1) (fun hHeld => ?_)
              clear hK K
              simp only [Act.put, List.setIfInBounds_toArray, List.set_cons_zero, List.set_cons_succ]
              refine one_ (i := 30) (N := some 84) #[true, true, true, true, true, true, true, true, true, true, true, true, true, true, true, true, true, true, true, true, true, true, true, true, true, true, true, true, true, true, true, false, false] rfl rfl (by kernel_rfl) (by decide) (fun K hK => ?_)
              refine off_ (by rfl) ?_
              refine hK.out _ _ (HKQ.out _ hHeld.1) (fun hHeld => ?_)
              clear hK K
              simp only [Act.put, List.setIfInBounds_toArray, List.set_cons_zero, List.set_cons_succ]
              refine pure_ (i := 31) (N := some 85) (v := undef) (a' := ?AA31) #[true, true, true, true, true, true, true, true, true, true, true, true, true, true, true, true, true, true, true, true, true, true, true, true, true, true, true, true, true, true, true, true, false] rfl rfl (by kernel_rfl) (fun _ _ _ h => h) (Or.inr ⟨by rfl, rfl⟩) ?HA31 ?HH31
              case HA31 =>
                simp only [Act.put, List.setIfInBounds_toArray, List.set_cons_zero, List.set_cons_succ]
                rfl
              refine pure_ (i := 32) (N := some 86) (v := ?_) (a' := ?_) #[true, true, true, true, true, true, true, true, true, true, true, true, true, true, true, true, true, true, true, true, true, true, true, true, true, true, true, true, true, true, true, true, true] rfl rfl (by kernel_rfl) (fun _ _ _ h => h) (Or.inl ⟨by rfl, ?_⟩) ?_ ?_
              rotate_left
              · intro w_
                go_simp
                with_reducible rfl
              rotate_left
              · simp only [Act.put, List.setIfInBounds_toArray, List.set_cons_zero, List.set_cons_succ]
                rfl
              refine done_ (by kernel_rfl) ?_
              have HB9 := Lib.hid hb6
              clear hb4 hb5 hb6
              go_wp2_with (fail)
              go_roundg ((wN l).length - (j + 1))
              case measure => have := HGJ.out; omega
              case rel => exact ⟨j + 1, by omega, by go_num, rfl, by rw [firstUpto_succ HS2.out.1, HTT.out]; simp, HB2.out.1.step HB9.out, HB2.out.2.below HB9.out⟩
          · have hff := firstUpto_all (l := l) (o := o) (s := s) (j := j) (by omega)
            rcases hf : firstUpto l o s j with _ | _
            · rw [hff] at hf
              have HF := Lib.hid (firstsUpto_no HS1.out.1 hf)
              clear hff hf
              go_wp2_with (fail)
              go_roundg ((wN l).length - (k + 1))
              case measure => have := HA.out; omega
              case rel => exact ⟨k + 1, by omega, by go_num, rfl, by rw [HF.out], HB2.out.1, HB2.out.2⟩
            · rw [hff] at hf
              have HF := Lib.hid (firstsUpto_yes HS1.out.1 hf)
              have hfl := firstsUpto_le l o k
              clear hff hf
              go_wp2_with (fail)
              go_roundg ((wN l).length - (k + 1))
              case measure => have := HA.out; omega
              case rel => exact ⟨k + 1, by omega, by go_num, rfl, by rw [HF.out]; go_num, HB2.out.1, HB2.out.2⟩
      · have ek : k = (wN l).length := by omega
        subst ek
        go_wp2_with (fail)
        go_ret2
        exact ⟨rfl, bs_old HB1.out.1⟩
end Go.Proofs.YtcpglghklmfbcaaDoor.T
