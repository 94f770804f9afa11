import Derived.Test.YtcpglghklmfbcaaDoorT20
import Derived.Test.YtcpglghklmfbcaaDoorT12
namespace Go.Proofs.YtcpglghklmfbcaaDoor.T
open Go Go.RowKit Go.Proofs.YtcpglghklmfbcaaDoor.M Go.Proofs.YtcpglghklmfbcaaDoor.R
set_option linter.unusedVariables false
set_option linter.unusedSimpArgs false

theorem newest_of_whole {l : Cop} (hm : checkM l = 0) (h : ∃ s, s < l.length ∧ whole (sl l s) = true) : ∃ o, newest l = some o := by
  obtain ⟨s, hs, hw⟩ := h
  have h1 := (checkM_ok hm).2
  cases e : newest l with
  | some o => exact ⟨o, rfl⟩
  | none =>
    have hmem : s ∈ wN l := wUpto_mem.2 ⟨hs, hw⟩
    have : (wN l).isEmpty = false := by cases e2 : wN l with | nil => rw [e2] at hmem; cases hmem | cons a b => rfl
    simp [mixed, e, this] at h1
theorem newest_tops {l : Cop} {o s : Nat} (h : newest l = some o) (hs : s < l.length) (hw : whole (sl l s) = true) : okB (sq l o) (sq l s) = true := by
  have h1 := List.find?_some h
  exact List.all_eq_true.1 h1 s (wUpto_mem.2 ⟨hs, hw⟩)
theorem okB_range {a b : Int} (ha : 0 ≤ a ∧ a ≤ 63) (hb : 0 ≤ b ∧ b ≤ 63) (h : okB a b = true) : 0 ≤ (a - b) % 64 ∧ (a - b) % 64 ≤ 31 := by
  simp [okB, newerB] at h
  omega
theorem newer_far {o a b : Int} (ha : 0 ≤ (o - a) % 64 ∧ (o - a) % 64 ≤ 31) (hb : 0 ≤ (o - b) % 64 ∧ (o - b) % 64 ≤ 31) : newerB a b = decide ((o - a) % 64 < (o - b) % 64) := by
  unfold newerB
  congr 1
  apply propext
  omega
/-- How far the best slot is behind the newest one. -/
def farUpto (l : Cop) (o k : Nat) : Int := if vUpto l k < 0 then -1 else (sq l o - sq l (vUpto l k).toNat) % 64
theorem far_step {l : Cop} {o k : Nat} (hok : okC l = true) (h : newest l = some o) (hw : ∀ j, j < l.length → whole (sl l j) = true) (hk : k < l.length) :
    vUpto l (k + 1) = (if (k : Int) ≠ o ∧ farUpto l o k < (sq l o - sq l k) % 64 then (k : Int) else vUpto l k) ∧ farUpto l o (k + 1) = (if (k : Int) ≠ o ∧ farUpto l o k < (sq l o - sq l k) % 64 then (sq l o - sq l k) % 64 else farUpto l o k) := by
  have ho : ownI l = o := by rw [ownI, h]
  have hol := (newest_lt h).1
  have hr := vUpto_range l k
  have hkk : 0 ≤ (sq l o - sq l k) % 64 := by omega
  have hvs := vUpto_succ l k
  rw [ho] at hvs
  have hcond : ((k : Int) ≠ o ∧ (vUpto l k < 0 ∨ newerB (sq l (vUpto l k).toNat) (sq l k) = true)) ↔ ((k : Int) ≠ o ∧ farUpto l o k < (sq l o - sq l k) % 64) := by
    unfold farUpto
    by_cases hn : vUpto l k < 0
    · rw [if_pos hn]
      constructor
      · rintro ⟨a, _⟩; exact ⟨a, by omega⟩
      · rintro ⟨a, _⟩; exact ⟨a, Or.inl hn⟩
    · rw [if_neg hn, newer_far (okB_range (okC_sq hok hol) (okC_sq hok (show (vUpto l k).toNat < l.length by omega)) (newest_tops h (by omega) (hw _ (by omega)))) (okB_range (okC_sq hok hol) (okC_sq hok hk) (newest_tops h hk (hw _ hk))), decide_eq_true_eq]
      constructor
      · rintro ⟨a, b⟩; exact ⟨a, by rcases b with b | b; exact absurd b hn; exact b⟩
      · rintro ⟨a, b⟩; exact ⟨a, Or.inr b⟩
  by_cases hc : (k : Int) ≠ o ∧ farUpto l o k < (sq l o - sq l k) % 64
  · rw [if_pos hc, if_pos hc]
    rw [if_pos (hcond.2 hc)] at hvs
    refine ⟨hvs, ?_⟩
    unfold farUpto
    rw [hvs, if_neg (by omega), Int.toNat_natCast]
  · rw [if_neg hc, if_neg hc]
    rw [if_neg (fun h => hc (hcond.1 h))] at hvs
    refine ⟨hvs, ?_⟩
    unfold farUpto
    rw [hvs]
theorem far_range (l : Cop) (o k : Nat) : -1 ≤ farUpto l o k ∧ farUpto l o k ≤ 63 := by
  unfold farUpto
  split <;> omega

set_option maxHeartbeats 1000000 in
set_option maxRecDepth 100000 in
theorem oldest_calls (g m : Nat) (A : Option Addr) (n c : Nat) (l : Cop) (w : World) (hop : Opened w g m A n c l) (hn : n = l.length) (hm : checkM l = 0) :
    Calls Tryd.prog 56 #[.pointer (some ⟨g, 0, none⟩)] w fun e w' => e = .returned (.int .i64 (victim l)) ∧ Below w.heap.size w w' := by
  have HOP := Lib.hid hop
  have HN := Lib.hid hn
  have HM := Lib.hid hm
  have HOK := Lib.hid (checkM_ok hm).1
  have hn4 : n ≤ 4 := by have := okC_len HOK.out; omega
  obtain ⟨hw0, hw1, hw2, hwf, hwg⟩ := cp_cells hop.1
  clear hop hn hm hwf
  go_enter Tryd.func56, Tryd.ntmps56
  go_wp2
  go_loopg [16] n (fun gk i wr => ∃ k : Nat, k ≤ n ∧ i = .int .i64 k ∧ gk = n - k ∧ Gr w wr ∧ ∀ j, j < k → whole (sl l j) = true)
  case atStart => exact ⟨0, Nat.zero_le _, rfl, rfl, Gr.refl _, fun j h => absurd h (by omega)⟩
  case round =>
    obtain ⟨k, hk, rfl, hg, hB, hO⟩ := hrel
    have HB := Lib.hid hB
    have HA := Lib.hid (And.intro hg hO)
    have HOW := Lib.hid (HOP.out.below hB)
    clear hw0 hw1 hw2 hwg
    obtain ⟨hw0, hw1, hw2, hwf, hwg⟩ := cp_cells (HOP.out.below hB).1
    clear hB hO hg hwf
    by_cases hlt : k < n
    · have hkl : k < l.length := by have := HN.out; omega
      have HK := Lib.hid hkl
      rcases hw : whole (sl l k) with _ | _
      · have HW := Lib.hid hw
        have hlk := look72_no HOW.out.2 (look_no (k := l.length) hw)
        clear hkl
        go_wp2_with (fail)
        go_ret
        exact ⟨ri (victim_no HA.out.2 HK.out HW.out).symm, HB.out⟩
      · have HW := Lib.hid hw
        have hlk := look72_ok HOW.out.2 (look_yes hkl hw)
        clear hkl
        go_wp2_with (fail)
        go_roundg (n - (k + 1))
        case measure => have := HA.out.1; omega
        case rel => exact ⟨k + 1, by omega, by go_num, rfl, HB.out, fun j hj => by
          by_cases e : j = k
          · rw [e]; exact HW.out
          · exact HA.out.2 j (by omega)⟩
    · have hall : ∀ j, j < l.length → whole (sl l j) = true := fun j hj => HA.out.2 j (by have := HN.out; omega)
      have HALL := Lib.hid hall
      have hl0 : 0 < l.length := by have := okC_len HOK.out; omega
      obtain ⟨o, ho⟩ := newest_of_whole HM.out ⟨0, hl0, hall 0 hl0⟩
      have HNE := Lib.hid ho
      have hn0 : newI l = o := newI_some ho
      have hol : o < l.length := (newest_lt ho).1
      have HOL := Lib.hid hol
      rw [hn0] at hw2
      clear hall hl0 ho hn0 hol
      go_wp2_with (fail)
      go_loopg [6, 7, 38] n (fun gk b f i wr => ∃ k : Nat, k ≤ n ∧ i = .int .i64 k ∧ gk = n - k ∧ Gr w wr ∧ b = .int .i64 (vUpto l k) ∧ f = .int .i64 (farUpto l o k))
      case atStart => exact ⟨0, Nat.zero_le _, rfl, rfl, HB.out, rfl, rfl⟩
      case round =>
        obtain ⟨j, hj, rfl, hg, hB, rfl, rfl⟩ := hrel
        have HB2 := Lib.hid hB
        have HG := Lib.hid hg
        clear hw0 hw1 hw2 hwg
        have hop2 := HOP.out.below hB
        obtain ⟨hw0, hw1, hw2, hwf, hwg⟩ := cp_cells hop2.1
        rw [newI_some HNE.out] at hw2
        have hr1 := (vUpto_range l j).1
        have hr2 := (vUpto_range l j).2
        have hf1 := (far_range l o j).1
        have hf2 := (far_range l o j).2
        by_cases hlt2 : j < n
        · have hjl : j < l.length := by have := HN.out; omega
          have hx1 : ∀ x : Gro wr, x.W.cell? ⟨g, 1, none⟩ = some (.map (some m)) := fun x => (x.cell _ _ hwg).trans hw1
          have hx2 : ∀ x : Gro wr, x.W.cell? ⟨g, 2, none⟩ = some (.int .i64 (o : Int)) := fun x => (x.cell _ _ hwg).trans hw2
          have hx3 : ∀ x : Gro wr, (Instr.lookup 72 (.map (some m)) (.int .i64 (j : Int)) false).run Tryd.prog x.W = .ok (.int .i64 (sq l j)) x.W := fun x => by
            rw [look72 (hop2.below x.b).2, look_yes hjl (HALL.out _ hjl)]; rfl
          have hx4 : ∀ x : Gro wr, (Instr.lookup 72 (.map (some m)) (.int .i64 (o : Int)) false).run Tryd.prog x.W = .ok (.int .i64 (sq l o)) x.W := fun x => by
            rw [look72 (hop2.below x.b).2, look_yes HOL.out (HALL.out _ HOL.out)]; rfl
          have hqj := okC_sq HOK.out hjl
          have hqo := okC_sq HOK.out HOL.out
          have HQ := Lib.hid (And.intro hqj hqo)
          have HS := Lib.hid (far_step HOK.out HNE.out HALL.out hjl)
          clear hB hg hwf hop2 hjl hqj hqo hw0 hw1
          rcases c1 : ((j : Int) != (o : Int)) with _ | _
          all_goals
            have c1' := c1
            simp only [bne_iff_ne, ne_eq, bne_eq_false_iff_eq] at c1'
            have C1 := Lib.hid c1'
            clear c1'
            by_cases c2 : farUpto l o j < (sq l o - sq l j) % 64
          all_goals
            have C2 := Lib.hid c2
            go_wp2_with (fail)
            refine wp_region_gro (by kernel_rfl) (by kernel_rfl) ?_
            repeat (go_big_quiet_step ((go_at_call 69; exact Gro.calls_same _ (behind_calls _ _ _ HQ.out.1.1 HQ.out.1.2 HQ.out.2.1 HQ.out.2.2))))
            refine wpQuiet_nil ?_
            intro _ hw'
            obtain ⟨x, hw''⟩ := hw'
            subst hw''
            have hx22 := hx2 x
            go_wp2_with (fail)
            go_roundg (n - (j + 1))
            case measure => have := HG.out; omega
          · exact ⟨j + 1, by omega, by go_num, rfl, HB2.out.step x.b, by rw [HS.out.1, if_neg (fun h => h.1 C1.out)], by rw [HS.out.2, if_neg (fun h => h.1 C1.out)]⟩
          · exact ⟨j + 1, by omega, by go_num, rfl, HB2.out.step x.b, by rw [HS.out.1, if_neg (fun h => h.1 C1.out)], by rw [HS.out.2, if_neg (fun h => h.1 C1.out)]⟩
          · exact ⟨j + 1, by omega, by go_num, rfl, HB2.out.step x.b, by rw [HS.out.1, if_pos ⟨C1.out, C2.out⟩], by rw [HS.out.2, if_pos ⟨C1.out, C2.out⟩]⟩
          · exact ⟨j + 1, by omega, by go_num, rfl, HB2.out.step x.b, by rw [HS.out.1, if_neg (fun h => Int.not_lt.2 C2.out h.2)], by rw [HS.out.2, if_neg (fun h => Int.not_lt.2 C2.out h.2)]⟩
        · have hv := victim_all HALL.out
          have HV := Lib.hid hv
          have hjn : j = l.length := by have := HN.out; omega
          clear hv hB hg hop2 hwf
          go_wp2_with (fail)
          go_ret
          exact ⟨ri (by rw [HV.out, hjn]), HB2.out⟩
end Go.Proofs.YtcpglghklmfbcaaDoor.T
