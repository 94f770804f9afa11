import Derived.Test.YtcpglghklmfbcaaDoorT10
namespace Go.Proofs.YtcpglghklmfbcaaDoor.T
open Go Go.RowKit Go.Proofs.YtcpglghklmfbcaaDoor.M Go.Proofs.YtcpglghklmfbcaaDoor.R
set_option linter.unusedVariables false
set_option linter.unusedSimpArgs false

theorem Gr.drew1 {a b : World} (h : Gr a b) : Gr a b.drew := Below.drew h
/-- The number that is looked at after m others. -/
def num (l : Cop) (m : Nat) : Int := (start l + m) % 64
def uSec (n : Int) (x : Sec) : Bool := x.bad || x.seq != n
/-- No sector of the first i slots, nor of the first p of the next one, has number n. -/
def uUpto (l : Cop) (S : List Nat) (n : Int) (i : Nat) : Bool := (S.take i).all fun s => (sl l s).all (uSec n)
theorem uUpto_succ {l : Cop} {S : List Nat} {n : Int} {i s : Nat} (hs : S[i]? = some s) : uUpto l S n (i + 1) = (uUpto l S n i && (sl l s).all (uSec n)) := by
  obtain ⟨hi, rfl⟩ := List.getElem?_eq_some_iff.1 hs
  rw [uUpto, uUpto, List.take_succ_eq_append_getElem hi, List.all_append]
  simp
theorem all_succ {α : Type} {l : List α} {f : α → Bool} {k : Nat} (hk : k < l.length) : (l.take (k + 1)).all f = ((l.take k).all f && f l[k]) := by
  rw [List.take_succ_eq_append_getElem hk, List.all_append]
  simp
theorem unused_eq (l : Cop) (S : List Nat) (n : Int) : unused l S n = uUpto l S n S.length := by
  rw [uUpto, List.take_length]; rfl
theorem start_range {l : Cop} (hok : okC l = true) : 0 ≤ start l ∧ start l ≤ 63 := by
  unfold start
  cases newest l <;> simp <;> omega
theorem start_none {l : Cop} (h : newest l = none) : start l = 0 := by rw [start, h]
theorem start_some {l : Cop} {s : Nat} (h : newest l = some s) : start l = (sq l s + 1) % 64 := by rw [start, h]
theorem num_range (l : Cop) (m : Nat) : 0 ≤ num l m ∧ num l m ≤ 63 := by unfold num; omega
theorem num_succ (l : Cop) (m : Nat) : num l (m + 1) = (num l m + 1) % 64 := by unfold num; omega
theorem num_zero {l : Cop} (hok : okC l = true) : num l 0 = start l := by have := start_range hok; unfold num; omega
/-- Whether the number was met: in the first i slots, or in the first p sectors of slot s. -/
def metB (l : Cop) (S : List Nat) (n : Int) (i s p : Nat) : Bool := !(uUpto l S n i && ((sl l s).take p).all (uSec n))
theorem metB_zero (l : Cop) (S : List Nat) (n : Int) (i s : Nat) : metB l S n i s 0 = !uUpto l S n i := by simp [metB]
theorem metB_all {l : Cop} {S : List Nat} {n : Int} {i s : Nat} (hs : S[i]? = some s) : metB l S n i s (sl l s).length = !uUpto l S n (i + 1) := by rw [metB, uUpto_succ hs, List.take_length]
theorem metB_succ {l : Cop} {S : List Nat} {n : Int} {i s p : Nat} (hp : p < (sl l s).length) : metB l S n i s (p + 1) = (metB l S n i s p || (!(sl l s)[p].bad && (sl l s)[p].seq == n)) := by
  rw [metB, metB, all_succ hp, uSec]
  generalize uUpto l S n i = a
  generalize ((sl l s).take p).all (uSec n) = b
  generalize (sl l s)[p].bad = c
  rw [show ((sl l s)[p].seq != n) = !((sl l s)[p].seq == n) from rfl]
  generalize ((sl l s)[p].seq == n) = d
  cases a <;> cases b <;> cases c <;> cases d <;> rfl
def lateUpto (l : Cop) (n but : Int) (k : Nat) : Bool := !((wN l).take k).all fun s => (s : Int) == but || newerB n (sq l s)
theorem late_succ {l : Cop} {n but : Int} {k s : Nat} (hs : (wN l)[k]? = some s) : lateUpto l n but (k + 1) = (lateUpto l n but k || ((s : Int) != but && !newerB n (sq l s))) := by
  obtain ⟨hk, rfl⟩ := List.getElem?_eq_some_iff.1 hs
  rw [lateUpto, lateUpto, List.take_succ_eq_append_getElem hk, List.all_append]
  simp [bne]
theorem late_all (l : Cop) (n but : Int) : lateUpto l n but (wN l).length = !ahead l n but := by
  rw [lateUpto, List.take_length]; rfl

set_option maxHeartbeats 1000000 in
set_option maxRecDepth 100000 in
theorem free_calls (A A2 : Option Addr) (n c n2 c2 : Nat) (but : Int) (l : Cop) (S : List Nat) (m : Nat) (w : World) (hn : n = l.length) (hn2 : n2 = S.length) (hR : Row2 encS 3 w A l) (hR2 : Row encI 1 w A2 (ints S)) (hok : okC l = true) (hS : ∀ s ∈ S, s < l.length) (hS4 : S.length ≤ 4) (hm : skip l S = some m) :
    Calls Tryd.prog 64 #[.agg #[.slice A n c], .slice A2 n2 c2, .int .i64 but] w fun e w' => e = .returned (.tuple #[.int .i64 (free l S), .bool (!ahead l (free l S) but)]) ∧ Below w.heap.size w w' := by
  have HR := Lib.hid hR
  have HR2 := Lib.hid hR2
  have HOK := Lib.hid hok
  have HN := Lib.hid (And.intro hn hn2)
  have HS := Lib.hid hS
  have hn4 : n2 ≤ 4 := by omega
  have hw4 : (wN l).length ≤ 4 := Nat.le_trans (wUpto_len l l.length) (okC_len hok).2.1
  have hm1 : m < 64 ∧ unused l S (num l m) = true ∧ (∀ j, j < m → unused l S (num l j) = false) ∧ free l S = num l m := by
    unfold skip at hm
    obtain ⟨h1, k, hk, h2, h3⟩ := List.find?_eq_some_iff_getElem.1 hm
    simp only [List.length_range, List.getElem_range] at hk h2
    subst h2
    refine ⟨hk, h1, fun j hj => ?_, by rw [free, skip, hm]; rfl⟩
    have := h3 j hj
    rw [List.getElem_range] at this
    simpa [num] using this
  have HM := Lib.hid hm1
  have hp4 : parts l ≤ 4 := (okC_len hok).2.2.2
  clear hR hn hR2 hn2 hm hm1 hS hS4
  have hst := start_range HOK.out
  have hst1 := hst.1
  have hst2 := hst.2
  clear hst
  rcases hnw : newest l with _ | s0
  have hw : ownI l = 0 := by rw [ownI, hnw]
  have HW := Lib.hid (And.intro hw (show (newest l).isSome = false by rw [hnw]; rfl))
  have HZ := Lib.hid (start_none hnw)
  clear hw hnw hst1 hst2
  go_enter Tryd.func64, Tryd.ntmps64
  go_wp2_with (go_at_call 50; go_must (refine (newest_calls _ _ _ l _ HN.out.1 (HR.out.below ((Below.refl _ _).alloc (Nat.le_refl _) _)) HOK.out).mono ?_); rintro e w1 ⟨rfl, hb⟩; rw [HW.out.1, HW.out.2]; have HB := Lib.hid (show Gr (bs w (.slice A n c) 24) w1 from hb); clear hb)
  rotate_left 1
  have hw : ownI l = s0 := by rw [ownI, hnw]
  have HW := Lib.hid (And.intro hw (show (newest l).isSome = true by rw [hnw]; rfl))
  have HZ := Lib.hid (start_some hnw)
  have HL := Lib.hid (newest_lt hnw)
  have HQ0 := Lib.hid (okC_sq hok (newest_lt hnw).1)
  clear hw hnw
  go_enter Tryd.func64, Tryd.ntmps64
  go_wp2_with (first
    | (go_at_call 50; go_must (refine (newest_calls _ _ _ l _ HN.out.1 (HR.out.below ((Below.refl _ _).alloc (Nat.le_refl _) _)) HOK.out).mono ?_); rintro e w1 ⟨rfl, hb⟩; rw [HW.out.1, HW.out.2]; have HB0 := Lib.hid (show Gr (bs w (.slice A n c) 24) w1 from hb); have hbox0 := bs_box HB0.out; clear hb)
    | (go_at_call 53; go_must (refine (seq_calls _ _ _ s0 l _ HN.out.1 (HR.out.below (bs_old HB0.out)) (by omega) (by have := HL.out.1; omega) (by have := okC_slot HOK.out HL.out.1; have := okC_len HOK.out; simp; omega)).mono ?_); rintro e w2 ⟨rfl, hb⟩; rw [Int.toNat_natCast]; have HB := Lib.hid (HB0.out.step hb); have hq1 := HQ0.out.1; have hq2 := HQ0.out.2; clear hb))
  all_goals
    go_loopg [6, 10] (m + 1 - 0) (fun g nu tk wr => ∃ (k : Nat) (b : Bool), k ≤ m ∧ nu = .int .i64 (num l k) ∧ Gr (bs w (.slice A n c) 24) wr ∧ tk = .bool b ∧ (b = true ∧ g = m + 1 - k ∨ b = false ∧ k = m ∧ g = 0))
    case atStart => exact ⟨0, true, Nat.zero_le _, by rw [num_zero HOK.out, HZ.out], HB.out, rfl, Or.inl ⟨rfl, rfl⟩⟩
    case round =>
      obtain ⟨k, b, hk, rfl, hB, rfl, hg⟩ := hrel
      have HB1 := Lib.hid hB
      have HG := Lib.hid hg
      have hk1 := (num_range l k).1
      have hk2 := (num_range l k).2
      have hbox := bs_box hB
      clear hB hg
      rcases b with _ | _
      · have hkm : k = m := by have := HG.out; simp at this; omega
        have HKM := Lib.hid hkm
        clear hkm
        go_wp2_with (go_at_call 51; go_must (refine (whole_calls _ _ _ l _ HN.out.1 (HR.out.below (bs_old HB1.out)) HOK.out).mono ?_); rintro e w5 ⟨⟨v, rfl, hO⟩, hb⟩; obtain ⟨A1, c1, rfl, hr, hc⟩ := hO.row encI_len; rw [ints_len]; have HO := Lib.hid hr; have HB5 := Lib.hid (HB1.out.step hb); clear hO hb hr hc)
        go_loopg [7, 15] (wN l).length (fun g lt i wr => ∃ j : Nat, j ≤ (wN l).length ∧ i = .int .i64 j ∧ g = (wN l).length - j ∧ Gr (bs w (.slice A n c) 24) wr ∧ Row encI 1 wr A1 (ints (wN l)) ∧ lt = .bool (lateUpto l (num l k) but j))
        case atStart => exact ⟨0, Nat.zero_le _, rfl, rfl, HB5.out, HO.out, rfl⟩
        case round =>
          obtain ⟨j, hj, rfl, hg, hB, hr, rfl⟩ := hrel
          have HB6 := Lib.hid (And.intro hB hr)
          have HG6 := Lib.hid hg
          have hbox6 := bs_box hB
          have hbl : w.heap.size < wr.heap.size := by have := hB.size; rw [bs_size] at this; omega
          clear hB hr hg hbox
          by_cases hlt : j < (wN l).length
          · obtain ⟨s2, hs, hs2, hs3, hs4⟩ := ints_at hlt
            obtain ⟨b1, o1, rfl, hl1, hc1⟩ := RowI.at HB6.out.2 (show j < (ints (wN l)).length by rw [ints_len]; exact hlt)
            rw [hs2] at hc1
            have hx0 : ∀ x : Gro wr, x.W.cell? ⟨w.heap.size, 0, none⟩ = some (.slice A n c) := fun x => (x.cell _ _ hbl).trans hbox6
            have hx1 : ∀ x : Gro wr, x.W.cell? ⟨b1, o1 + j, none⟩ = some (.int .i64 s2) := fun x => (x.cell _ _ hl1).trans hc1
            have HQ : Hid (∀ (x : Gro wr), Calls Tryd.prog 53 #[.agg #[.slice A n c], .int .i64 s2] x.W fun e w'' => e = .returned (.int .i64 (sq l s2)) ∧ ∃ y : Gro wr, w'' = y.W) := Lib.hid fun x => x.calls (seq_calls A n c s2 l x.W HN.out.1 ((HR.out.below (bs_old HB6.out.1)).below x.b) (by omega) (by omega) (by have := okC_slot HOK.out hs3; have := okC_len HOK.out; simp; omega))
            have HNE := Lib.hid (And.intro (num_range l k) (okC_sq HOK.out hs3))
            have HLS := Lib.hid (late_succ (n := num l k) (but := but) hs)
            clear hs hs2 hs4 hc1 hs3
            rcases hlb : lateUpto l (num l k) but j with _ | _
            · rcases hsb : ((s2 : Int) != but) with _ | _
              · have HLB := Lib.hid hlb
                have HSB := Lib.hid hsb
                go_wp2_with (fail)
                refine wp_region_gro (by kernel_rfl) (by kernel_rfl) ?_
                repeat (go_big_quiet_step (first | (go_at_call 53; exact HQ.out _) | (go_at_call 49; exact Gro.calls_same _ (newer_calls _ _ _ HNE.out.1.1 HNE.out.1.2 HNE.out.2.1 HNE.out.2.2))))
                refine wpQuiet_nil ?_
                intro _ hw'
                obtain ⟨x, hw''⟩ := hw'
                subst hw''
                go_wp2_with (fail)
                go_roundg ((wN l).length - (j + 1))
                case measure => have := HG6.out; omega
                case rel => exact ⟨j + 1, by omega, by go_num, rfl, HB6.out.1.step x.b, HB6.out.2.below x.b, by rw [HLS.out, HLB.out]; rw [HSB.out]; rfl⟩
              · rcases hnw : newerB (num l k) (sq l s2) with _ | _
                all_goals
                  have HLB := Lib.hid hlb
                  have HSB := Lib.hid (And.intro hsb hnw)
                  go_wp2_with (fail)
                  refine wp_region_gro (by kernel_rfl) (by kernel_rfl) ?_
                  repeat (go_big_quiet_step (first | (go_at_call 53; exact HQ.out _) | (go_at_call 49; exact Gro.calls_same _ (newer_calls _ _ _ HNE.out.1.1 HNE.out.1.2 HNE.out.2.1 HNE.out.2.2))))
                  refine wpQuiet_nil ?_
                  intro _ hw'
                  obtain ⟨x, hw''⟩ := hw'
                  subst hw''
                  go_wp2_with (fail)
                  go_roundg ((wN l).length - (j + 1))
                  case measure => have := HG6.out; omega
                  case rel => exact ⟨j + 1, by omega, by go_num, rfl, HB6.out.1.step x.b, HB6.out.2.below x.b, by rw [HLS.out, HLB.out]; rw [HSB.out.1, HSB.out.2]; rfl⟩
            · have HLB := Lib.hid hlb
              go_wp2_with (fail)
              refine wp_region_gro (by kernel_rfl) (by kernel_rfl) ?_
              repeat (go_big_quiet_step (first | (go_at_call 53; exact HQ.out _) | (go_at_call 49; exact Gro.calls_same _ (newer_calls _ _ _ HNE.out.1.1 HNE.out.1.2 HNE.out.2.1 HNE.out.2.2))))
              refine wpQuiet_nil ?_
              intro _ hw'
              obtain ⟨x, hw''⟩ := hw'
              subst hw''
              go_wp2_with (fail)
              go_roundg ((wN l).length - (j + 1))
              case measure => have := HG6.out; omega
              case rel => exact ⟨j + 1, by omega, by go_num, rfl, HB6.out.1.step x.b, HB6.out.2.below x.b, by rw [HLS.out, HLB.out]; rfl⟩
          · have hjn : j = (wN l).length := by omega
            have hlate := late_all l (num l k) but
            rw [← hjn] at hlate
            have HLA := Lib.hid hlate
            clear hlate hjn
            go_wp2_with (fail)
            go_ret2
            exact ⟨rib (by rw [HM.out.2.2.2, HKM.out]) (by rw [HLA.out, HM.out.2.2.2, HKM.out]), bs_old HB6.out.1⟩
      · go_wp2_with (fail)
        go_loopg [10, 11] n2 (fun g tk i wr => ∃ i' : Nat, i' ≤ n2 ∧ i = .int .i64 i' ∧ g = n2 - i' ∧ Gr (bs w (.slice A n c) 24) wr ∧ tk = .bool (!uUpto l S (num l k) i'))
        case atStart => exact ⟨0, Nat.zero_le _, rfl, rfl, HB1.out, by simp [uUpto]⟩
        case round =>
          obtain ⟨i, hi, rfl, hg, hB, rfl⟩ := hrel
          have HB2 := Lib.hid hB
          have HG2 := Lib.hid hg
          clear hB hg hbox
          by_cases hlt : i < n2
          · have hsi : S[i]? = some (S[i]'(by have := HN.out.2; omega)) := List.getElem?_eq_getElem _
            obtain ⟨s, hs⟩ : ∃ s, S[i]? = some s := ⟨_, hsi⟩
            have hsl := HS.out s (List.mem_of_getElem? hs)
            have HX := Lib.hid (And.intro hs hsl)
            clear hsi hs hsl
            go_wp2_with (fail)
            go_loopg [10, 12] (parts l) (fun g tk p wr => ∃ p' : Nat, p' ≤ parts l ∧ p = .int .i64 p' ∧ g = parts l - p' ∧ Gr (bs w (.slice A n c) 24) wr ∧ tk = .bool (metB l S (num l k) i s p'))
            case atStart => exact ⟨0, Nat.zero_le _, rfl, rfl, HB2.out, by rw [metB_zero]⟩
            case round =>
              obtain ⟨p, hp, rfl, hg, hB, rfl⟩ := hrel
              have HB3 := Lib.hid hB
              have HG3 := Lib.hid hg
              have hbox := bs_box hB
              clear hB hg
              by_cases hlt2 : p < parts l
              · go_wp2_with (go_at_call 30; refine (Parts_calls _ _ _ l _ HN.out.1 (HR.out.below (bs_old HB3.out)) (by have := okC_len HOK.out; omega)).mono ?_; rintro e w6 ⟨rfl, hb⟩; have HB4 := Lib.hid (HB3.out.step hb); clear hb hbox)
                have hps : p < (sl l s).length := by have := okC_slot HOK.out HX.out.2; omega
                have hsn : s < n := by have := HN.out.1; have := HX.out.2; omega
                obtain ⟨b1, o1, rfl, hl1, hc1⟩ := RowI.at (HR2.out.below (bs_old HB4.out)) (show i < (ints S).length by rw [ints_len, ← HN.out.2]; exact hlt)
                have hc1' : w6.cell? ⟨b1, o1 + i, none⟩ = some (.int .i64 s) := by
                  rw [hc1]
                  have : (ints S)[i]'(by rw [ints_len, ← HN.out.2]; exact hlt) = (s : Int) := by
                    have h1 := HX.out.1
                    obtain ⟨h2, h3⟩ := List.getElem?_eq_some_iff.1 h1
                    simp [ints, h3]
                  rw [this]
                obtain ⟨b2, o2, Ak, ck, rfl, hc2, hc3, hc4⟩ := (HR.out.below (bs_old HB4.out)).at (sl_get HX.out.2)
                obtain ⟨b3, o3, rfl, hl3, hd0, hd1, hd2⟩ := RowS.at hc4 hps
                have hbox4 := bs_box HB4.out
                have hl2 := World.block_lt_of_cell? w6 _ hc2
                have hl0 := World.block_lt_of_cell? w6 _ hbox4
                have HH := Lib.hid (metB_succ (S := S) (n := num l k) (i := i) hps)
                have HK : Hid (∀ W', Below w6.heap.size w6 W' → (Below w6.heap.size w6 W' ∧ W'.cell? ⟨w.heap.size, 0, none⟩ = some (.slice (some ⟨b2, o2, none⟩) n c) ∧ W'.cell? ⟨b1, o1 + i, none⟩ = some (.int .i64 s) ∧ W'.cell? ⟨b2, o2 + s, none⟩ = some (.slice (some ⟨b3, o3, none⟩) (sl l s).length ck) ∧ W'.cell? ⟨b3, o3 + p * 3, none⟩ = some (.int .i64 (sl l s)[p].seq) ∧ W'.cell? ⟨b3, o3 + p * 3 + 1, none⟩ = some (.int .i64 (sl l s)[p].data) ∧ W'.cell? ⟨b3, o3 + p * 3 + 2, none⟩ = some (.bool (sl l s)[p].bad))) := Lib.hid fun W' hb => ⟨hb, (hb.cell (p := ⟨_, _, none⟩) hl0).trans hbox4, (hb.cell (p := ⟨_, _, none⟩) hl1).trans hc1', (hb.cell (p := ⟨_, _, none⟩) hl2).trans hc2, (hb.cell (p := ⟨_, _, none⟩) hl3).trans hd0, (hb.cell (p := ⟨_, _, none⟩) hl3).trans hd1, (hb.cell (p := ⟨_, _, none⟩) hl3).trans hd2⟩
                clear hc1 hc4 hc3
                go_region_held3 (fun W' => Below w6.heap.size w6 W' ∧ W'.cell? ⟨w.heap.size, 0, none⟩ = some (.slice (some ⟨b2, o2, none⟩) n c) ∧ W'.cell? ⟨b1, o1 + i, none⟩ = some (.int .i64 s) ∧ W'.cell? ⟨b2, o2 + s, none⟩ = some (.slice (some ⟨b3, o3, none⟩) (sl l s).length ck) ∧ W'.cell? ⟨b3, o3 + p * 3, none⟩ = some (.int .i64 (sl l s)[p].seq) ∧ W'.cell? ⟨b3, o3 + p * 3 + 1, none⟩ = some (.int .i64 (sl l s)[p].data) ∧ W'.cell? ⟨b3, o3 + p * 3 + 2, none⟩ = some (.bool (sl l s)[p].bad)) (exact HK.out _ (by first | exact Below.drew (Below.refl _ _) | exact (Below.drew (Below.refl _ _)).alloc (Nat.le_refl _) _)) (fail)
                rcases hmb : metB l S (num l k) i s p with _ | _
                · rcases hbd : (sl l s)[p].bad with _ | _
                  · rcases hsq : ((sl l s)[p].seq == num l k) with _ | _
                    all_goals
                      have HMB := Lib.hid hmb
                      have HY := Lib.hid (And.intro hbd hsq)
                      go_wp2_with (fail)
                      go_roundg (parts l - (p + 1))
                      case measure => have := HG3.out; omega
                      case rel => exact ⟨p + 1, by omega, by go_num, rfl, by first | exact Gr.drew1 (HB4.out.alloc _) | exact (Gr.drew1 HB4.out).alloc _, by rw [HH.out, HMB.out]; rw [HY.out.1, HY.out.2]; rfl⟩
                  · have HMB := Lib.hid hmb
                    have HY := Lib.hid hbd
                    go_wp2_with (fail)
                    go_roundg (parts l - (p + 1))
                    case measure => have := HG3.out; omega
                    case rel => exact ⟨p + 1, by omega, by go_num, rfl, by first | exact Gr.drew1 (HB4.out.alloc _) | exact (Gr.drew1 HB4.out).alloc _, by rw [HH.out, HMB.out]; rw [HY.out]; rfl⟩
                · have HMB := Lib.hid hmb
                  go_wp2_with (fail)
                  go_roundg (parts l - (p + 1))
                  case measure => have := HG3.out; omega
                  case rel => exact ⟨p + 1, by omega, by go_num, rfl, by first | exact Gr.drew1 (HB4.out.alloc _) | exact (Gr.drew1 HB4.out).alloc _, by rw [HH.out, HMB.out]; rfl⟩
              · have hpp : p = (sl l s).length := by have := okC_slot HOK.out HX.out.2; omega
                have hu := metB_all (l := l) (n := num l k) HX.out.1
                rw [← hpp] at hu
                rw [hu]
                clear hu hpp
                go_wp2_with (go_at_call 30; refine (Parts_calls _ _ _ l _ HN.out.1 (HR.out.below (bs_old HB3.out)) (by have := okC_len HOK.out; omega)).mono ?_; rintro e w6 ⟨rfl, hb⟩; have HB4 := Lib.hid (HB3.out.step hb); clear hb hbox)
                go_roundg (n2 - (i + 1))
                case measure => have := HG2.out; omega
                case rel => exact ⟨i + 1, by omega, by go_num, rfl, HB4.out, rfl⟩
          · have hu : uUpto l S (num l k) i = unused l S (num l k) := by rw [unused_eq, show i = S.length by have := HN.out.2; omega]
            by_cases hkm : k < m
            · rw [hu, HM.out.2.2.1 k hkm]
              clear hu
              go_wp2_with (fail)
              go_roundg (m + 1 - (k + 1))
              case measure => have := HG.out; simp at this; omega
              case rel => exact ⟨k + 1, true, by omega, by rw [num_succ], HB2.out, rfl, Or.inl ⟨rfl, rfl⟩⟩
            · have hkm : k = m := by omega
              subst hkm
              rw [hu, HM.out.2.1]
              clear hu
              go_wp2_with (fail)
              go_roundg 0
              case measure => have := HG.out; simp at this; omega
              case rel => exact ⟨k, false, by omega, rfl, HB2.out, rfl, Or.inr ⟨rfl, rfl, rfl⟩⟩
end Go.Proofs.YtcpglghklmfbcaaDoor.T
