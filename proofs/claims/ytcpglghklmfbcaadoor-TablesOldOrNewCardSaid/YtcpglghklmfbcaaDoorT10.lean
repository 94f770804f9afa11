import Derived.Test.YtcpglghklmfbcaaDoorT9
namespace Go.Proofs.YtcpglghklmfbcaaDoor.T
open Go Go.RowKit Go.Proofs.YtcpglghklmfbcaaDoor.M Go.Proofs.YtcpglghklmfbcaaDoor.R
set_option linter.unusedVariables false
set_option linter.unusedSimpArgs false

/-- Victim's second loop, over the first k slots. -/
def vUpto (l : Cop) (k : Nat) : Int := victimFrom l (ownI l) (List.range k) (-1)
theorem victimFrom_append (l : Cop) (own : Int) : ∀ (a : List Nat) (s : Nat) (b : Int), victimFrom l own (a ++ [s]) b = (let best := victimFrom l own a b; if (s : Int) ≠ own ∧ (best < 0 ∨ newerB (sq l best.toNat) (sq l s) = true) then (s : Int) else best)
  | [], s, b => rfl
  | x :: a, s, b => victimFrom_append l own a s _
theorem vUpto_succ (l : Cop) (k : Nat) : vUpto l (k + 1) = if (k : Int) ≠ ownI l ∧ (vUpto l k < 0 ∨ newerB (sq l (vUpto l k).toNat) (sq l k) = true) then (k : Int) else vUpto l k := by
  unfold vUpto
  rw [List.range_succ, victimFrom_append]
theorem vUpto_range (l : Cop) : ∀ k, -1 ≤ vUpto l k ∧ vUpto l k < k
  | 0 => by simp [vUpto, victimFrom]
  | k + 1 => by
    have := vUpto_range l k
    rw [vUpto_succ]
    split <;> omega
theorem victim_no {l : Cop} {s : Nat} (h : ∀ j, j < s → whole (sl l j) = true) (hs : s < l.length) (hw : whole (sl l s) = false) : victim l = s := by
  have : (List.range l.length).find? (fun s => !whole (sl l s)) = some s := find_at (k := s) (fun j x hj hx => by
    have : x = j := by rw [List.getElem?_range (by omega)] at hx; exact (Option.some.inj hx).symm
    subst this; rw [h _ hj]; rfl) (List.getElem?_range hs) (by rw [hw]; rfl)
  rw [victim, this]
theorem victim_all {l : Cop} (h : ∀ j, j < l.length → whole (sl l j) = true) : victim l = vUpto l l.length := by
  have : (List.range l.length).find? (fun s => !whole (sl l s)) = none := by
    rw [List.find?_eq_none]
    intro x hx
    rw [h x (List.mem_range.1 hx)]
    simp
  rw [victim, this]
  rfl

set_option maxHeartbeats 1000000 in
set_option maxRecDepth 100000 in
theorem victim_calls (A : Option Addr) (n c : Nat) (l : Cop) (w : World) (hn : n = l.length) (hR : Row2 encS 3 w A l) (hok : okC l = true) :
    Calls Tryd.prog 63 #[.agg #[.slice A n c]] w fun e w' => e = .returned (.int .i64 (victim l)) ∧ Below w.heap.size w w' := by
  have HR := Lib.hid hR
  have HOK := Lib.hid hok
  have HN := Lib.hid hn
  have hn4 : n ≤ 4 := by have := okC_len hok; omega
  clear hR hok hn
  go_enter Tryd.func63, Tryd.ntmps63
  go_wp2
  go_loopg [3] n (fun g i wr => ∃ k : Nat, k ≤ n ∧ i = .int .i64 k ∧ g = n - k ∧ Gr (bs w (.slice A n c) 24) wr ∧ ∀ j, j < k → whole (sl l j) = true)
  case atStart => exact ⟨0, Nat.zero_le _, rfl, rfl, Gr.refl _, fun j h => absurd h (by omega)⟩
  case round =>
    obtain ⟨k, hk, rfl, hg, hB, hO⟩ := hrel
    have HB := Lib.hid hB
    have HA := Lib.hid (And.intro hg hO)
    have hbox := bs_box hB
    clear hB hO hg
    by_cases hlt : k < n
    · have hkl : k < l.length := by have := HN.out; omega
      obtain ⟨b, off, Ak, ck, rfl, h1, h2, h3⟩ := (HR.out.below (bs_old HB.out)).at (sl_get hkl)
      have H3 := Lib.hid (And.intro h3 hkl)
      clear h3 hkl
      rcases hw : whole (sl l k) with _ | _
      · have HW := Lib.hid hw
        go_wp2_with (go_at_call 17; refine (Whole_calls _ _ _ _ H3.out.1).mono ?_; rintro e w1 ⟨rfl, hb⟩; have HB1 := Lib.hid (HB.out.step hb); clear hb)
        go_ret
        exact ⟨ri (victim_no HA.out.2 H3.out.2 HW.out).symm, bs_old HB1.out⟩
      · have HW := Lib.hid hw
        go_wp2_with (go_at_call 17; refine (Whole_calls _ _ _ _ H3.out.1).mono ?_; rintro e w1 ⟨rfl, hb⟩; have HB1 := Lib.hid (HB.out.step hb); clear hb)
        go_roundg (n - (k + 1))
        case measure => have := HA.out.1; omega
        case rel => exact ⟨k + 1, by omega, by go_num, rfl, HB1.out, fun j hj => by
          by_cases e : j = k
          · rw [e]; exact HW.out
          · exact HA.out.2 j (by omega)⟩
    · have hv := victim_all (l := l) (fun j hj => HA.out.2 j (by have := HN.out; omega))
      have HV := Lib.hid hv
      clear hv
      go_wp2_with (go_at_call 50; go_must (refine (newest_calls _ _ _ l _ HN.out (HR.out.below (bs_old HB.out)) HOK.out).mono ?_); rintro e w1 ⟨rfl, hb⟩; have HB1 := Lib.hid (HB.out.step hb); clear hb)
      go_loopg [6, 7] n (fun g b i wr => ∃ k : Nat, k ≤ n ∧ i = .int .i64 k ∧ g = n - k ∧ Gr (bs w (.slice A n c) 24) wr ∧ b = .int .i64 (vUpto l k))
      case atStart => exact ⟨0, Nat.zero_le _, rfl, rfl, HB1.out, rfl⟩
      case round =>
        obtain ⟨j, hj, rfl, hg, hB, rfl⟩ := hrel
        have HB2 := Lib.hid hB
        have HG := Lib.hid hg
        have hbox2 := bs_box hB
        have hbl : w.heap.size < wr.heap.size := by have := hB.size; rw [bs_size] at this; omega
        have hr1 := (vUpto_range l j).1
        have hr2 := (vUpto_range l j).2
        clear hB hg
        by_cases hlt2 : j < n
        · have hjl : j < l.length := by have := HN.out; omega
          have hx0 : ∀ x : Gro wr, x.W.cell? ⟨w.heap.size, 0, none⟩ = some (.slice A n c) := fun x => (x.cell _ _ hbl).trans hbox2
          have hq : ∀ (x : Gro wr) (q : Int), 0 ≤ q → q < l.length → Calls Tryd.prog 53 #[.agg #[.slice A n c], .int .i64 q] x.W fun e w'' => e = .returned (.int .i64 (sq l q.toNat)) ∧ ∃ y : Gro wr, w'' = y.W := fun x q h0 hq => x.calls (seq_calls A n c q l x.W HN.out ((HR.out.below (bs_old HB2.out)).below x.b) h0 hq (by have := okC_slot HOK.out (show q.toNat < l.length by omega); have := okC_len HOK.out; omega))
          have HQ := Lib.hid hq
          have HJ := Lib.hid hjl
          clear hq hjl
          by_cases c1 : (j : Int) = ownI l
          · have HC : Hid (vUpto l (j + 1) = vUpto l j) := Lib.hid (by rw [vUpto_succ, if_neg (by omega)])
            have c2 : ((j : Int) != ownI l) = false := by simpa using c1
            clear c1
            go_wp2_with (fail)
            refine wp_region_gro (by kernel_rfl) (by kernel_rfl) ?_
            repeat (go_big_quiet_step (fail))
            refine wpQuiet_nil ?_
            intro _ hw'
            obtain ⟨x, hw''⟩ := hw'
            subst hw''
            go_wp2_with (fail)
            go_roundg (n - (j + 1))
            case measure => have := HG.out; omega
            case rel => exact ⟨j + 1, by omega, by go_num, rfl, HB2.out.step x.b, by rw [HC.out]⟩
          · have c2 : ((j : Int) != ownI l) = true := by simpa using c1
            by_cases c3 : vUpto l j < 0
            · have HC : Hid (vUpto l (j + 1) = j) := Lib.hid (by rw [vUpto_succ, if_pos ⟨c1, Or.inl c3⟩])
              clear c1
              go_wp2_with (fail)
              refine wp_region_gro (by kernel_rfl) (by kernel_rfl) ?_
              repeat (go_big_quiet_step (fail))
              refine wpQuiet_nil ?_
              intro _ hw'
              obtain ⟨x, hw''⟩ := hw'
              subst hw''
              go_wp2_with (fail)
              go_roundg (n - (j + 1))
              case measure => have := HG.out; omega
              case rel => exact ⟨j + 1, by omega, by go_num, rfl, HB2.out.step x.b, by rw [HC.out]⟩
            · have hd3 : decide (vUpto l j < 0) = false := decide_eq_false c3
              have hn1 := okC_sq HOK.out (show (vUpto l j).toNat < l.length by have := HJ.out; omega)
              have hn2 := okC_sq HOK.out HJ.out
              have HNE := Lib.hid (And.intro hn1 hn2)
              have hv0 : 0 ≤ vUpto l j := by omega
              have hvl : vUpto l j < l.length := by have := HJ.out; omega
              have HVL := Lib.hid (And.intro hv0 hvl)
              clear hn1 hn2 hvl
              rcases hnw : newerB (sq l (vUpto l j).toNat) (sq l j) with _ | _
              · have HC : Hid (vUpto l (j + 1) = vUpto l j) := Lib.hid (by rw [vUpto_succ, if_neg (by rw [hnw]; simp; omega)])
                have HW := Lib.hid hnw
                clear c1
                go_wp2_with (fail)
                refine wp_region_gro (by kernel_rfl) (by kernel_rfl) ?_
                repeat (go_big_quiet_step (first | (go_at_call_of 53 (vUpto l j); exact HQ.out _ _ HVL.out.1 HVL.out.2) | (go_at_call 53; exact HQ.out _ _ (Int.natCast_nonneg _) (Int.ofNat_lt.2 HJ.out)) | (go_at_call 49; exact Gro.calls_same _ (newer_calls _ _ _ HNE.out.1.1 HNE.out.1.2 HNE.out.2.1 HNE.out.2.2))))
                refine wpQuiet_nil ?_
                intro _ hw'
                obtain ⟨x, hw''⟩ := hw'
                subst hw''
                go_wp2_with (fail)
                go_roundg (n - (j + 1))
                case measure => have := HG.out; omega
                case rel => exact ⟨j + 1, by omega, by go_num, rfl, HB2.out.step x.b, by rw [HC.out]⟩
              · have HC : Hid (vUpto l (j + 1) = j) := Lib.hid (by rw [vUpto_succ, if_pos ⟨c1, Or.inr hnw⟩])
                have HW := Lib.hid hnw
                clear c1
                go_wp2_with (fail)
                refine wp_region_gro (by kernel_rfl) (by kernel_rfl) ?_
                repeat (go_big_quiet_step (first | (go_at_call_of 53 (vUpto l j); exact HQ.out _ _ HVL.out.1 HVL.out.2) | (go_at_call 53; exact HQ.out _ _ (Int.natCast_nonneg _) (Int.ofNat_lt.2 HJ.out)) | (go_at_call 49; exact Gro.calls_same _ (newer_calls _ _ _ HNE.out.1.1 HNE.out.1.2 HNE.out.2.1 HNE.out.2.2))))
                refine wpQuiet_nil ?_
                intro _ hw'
                obtain ⟨x, hw''⟩ := hw'
                subst hw''
                go_wp2_with (fail)
                go_roundg (n - (j + 1))
                case measure => have := HG.out; omega
                case rel => exact ⟨j + 1, by omega, by go_num, rfl, HB2.out.step x.b, by rw [HC.out]⟩
        · have hjn : j = n := by omega
          subst hjn
          go_wp2_with (fail)
          go_ret
          exact ⟨ri (by rw [HV.out, ← HN.out]), bs_old HB2.out⟩
end Go.Proofs.YtcpglghklmfbcaaDoor.T
