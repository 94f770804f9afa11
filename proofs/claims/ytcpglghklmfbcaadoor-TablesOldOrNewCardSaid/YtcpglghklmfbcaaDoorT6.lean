import Derived.Test.YtcpglghklmfbcaaDoorT5
namespace Go.Proofs.YtcpglghklmfbcaaDoor.T
open Go Go.RowKit Go.Proofs.YtcpglghklmfbcaaDoor.M Go.Proofs.YtcpglghklmfbcaaDoor.R
set_option linter.unusedVariables false
set_option linter.unusedSimpArgs false

theorem eq_of_takes {a b : List Int} (h : ∀ j (h1 : j < a.length) (h2 : j < b.length), a[j] = b[j]) : ((a.length : Int) == (b.length : Int)) = (a == b) := by
  by_cases e : a.length = b.length
  · obtain rfl : a = b := List.ext_getElem e h
    exact (beq_self_eq_true (a.length : Int)).trans (beq_self_eq_true a).symm
  · have h2 : ((a.length : Int) == (b.length : Int)) = false := beq_eq_false_iff_ne.2 (by omega)
    have h3 : (a == b) = false := beq_eq_false_iff_ne.2 (fun q => e (by rw [q]))
    rw [h2, h3]
theorem ne_at {a b : List Int} {j : Nat} (h1 : j < a.length) (h2 : j < b.length) (h : a[j] ≠ b[j]) : (a == b) = false := by
  rw [beq_eq_false_iff_ne]
  rintro rfl
  exact h rfl

theorem same_calls (A A' : Option Addr) (n n' c c' : Nat) (a b : List Int) (w : World) (hn : n = a.length) (hn' : n' = b.length) (hR : Row encI 1 w A a) (hR' : Row encI 1 w A' b) :
    Calls Tryd.prog 52 #[.slice A n c, .slice A' n' c'] w fun e w' => e = .returned (.bool (a == b)) ∧ Below w.heap.size w w' := by
  have HR := Lib.hid hR
  have HR' := Lib.hid hR'
  have h1 := hR.1
  have h2 := hR'.1
  subst hn hn'
  clear hR hR'
  go_enter Tryd.func52, Tryd.ntmps52
  go_wp2
  go_loopg [5] a.length (fun g i wr => ∃ k : Nat, k ≤ a.length ∧ k ≤ b.length ∧ i = .int .i64 k ∧ g = a.length - k ∧ Gr w wr ∧ ∀ j (h1 : j < a.length) (h2 : j < b.length), j < k → a[j] = b[j])
  case atStart => exact ⟨0, Nat.zero_le _, Nat.zero_le _, rfl, rfl, Gr.refl _, fun j _ _ h => absurd h (by omega)⟩
  case round =>
    obtain ⟨k, hk, hk', rfl, hg, hB, hall⟩ := hrel
    have HA := Lib.hid (And.intro hg hall)
    have HB := Lib.hid hB
    clear hB hg hall
    by_cases hlt : k < a.length ∧ k < b.length
    · obtain ⟨hlt, hlt'⟩ := hlt
      obtain ⟨b1, o1, rfl, hl1, hc1⟩ := RowI.at (HR.out.below HB.out) hlt
      obtain ⟨b2, o2, rfl, hl2, hc2⟩ := RowI.at (HR'.out.below HB.out) hlt'
      rcases hb : (a[k] != b[k]) with _ | _
      · go_wp2
        go_quiet (fail)
        go_wp2
        go_roundg (a.length - (k + 1))
        case measure => have := HA.out.1; omega
        case rel => exact ⟨k + 1, by omega, by omega, by go_num, rfl, HB.out.drew _, fun j h1 h2 hj => by
          by_cases e : j = k
          · subst e; simpa using hb
          · exact HA.out.2 j h1 h2 (by omega)⟩
      · go_wp2
        go_quiet (fail)
        go_wp2
        go_ret
        exact ⟨rb (ne_at hlt hlt' (by simpa using hb)).symm, HB.out.drew _⟩
    · have hall : ∀ j (h1 : j < a.length) (h2 : j < b.length), a[j] = b[j] := fun j h1 h2 => HA.out.2 j h1 h2 (by omega)
      have HE := Lib.hid (eq_of_takes hall)
      clear hall
      by_cases hlt1 : k < a.length
      · have hlt2 : ¬ k < b.length := fun h => hlt ⟨hlt1, h⟩
        clear hlt
        go_wp2
        go_ret
        exact ⟨rb HE.out, HB.out⟩
      · clear hlt
        go_wp2
        go_ret
        exact ⟨rb HE.out, HB.out⟩

theorem clashP_symm (l : Cop) (s t : Nat) : clashP l s t = clashP l t s := by
  unfold clashP
  rw [show (sq l s == sq l t) = (sq l t == sq l s) from BEq.comm, show (tab (sl l s) == tab (sl l t)) = (tab (sl l t) == tab (sl l s)) from BEq.comm]
theorem clash_yes {l : Cop} {p q s t : Nat} (hs : (wN l)[p]? = some s) (ht : (wN l)[q]? = some t) (h : clashP l s t = true) : clash l = true := by
  unfold clash
  rw [List.any_eq_true]
  refine ⟨s, List.mem_of_getElem? hs, ?_⟩
  rw [List.any_eq_true]
  exact ⟨t, List.mem_of_getElem? ht, h⟩
theorem mixed_eq {l : Cop} (h : clash l = false) : mixed l = (decide (0 < (wN l).length) && !(newest l).isSome) := by
  unfold mixed
  rw [h]
  cases wN l <;> cases newest l <;> simp
theorem clash_no {l : Cop} (h : ∀ p q s t, p < (wN l).length → q < p → (wN l)[p]? = some s → (wN l)[q]? = some t → clashP l s t = false) : clash l = false := by
  unfold clash
  rw [List.any_eq_false]
  intro s hs
  rw [Bool.not_eq_true, List.any_eq_false]
  intro t ht
  rw [Bool.not_eq_true]
  obtain ⟨p, hp, rfl⟩ := List.getElem_of_mem hs
  obtain ⟨q, hq, rfl⟩ := List.getElem_of_mem ht
  rcases Nat.lt_trichotomy p q with h1 | h1 | h1
  · rw [clashP_symm]
    exact h q p _ _ hq h1 (List.getElem?_eq_getElem hq) (List.getElem?_eq_getElem hp)
  · subst h1
    simp [clashP]
  · exact h p q _ _ hp h1 (List.getElem?_eq_getElem hp) (List.getElem?_eq_getElem hq)

set_option maxHeartbeats 1000000 in
set_option maxRecDepth 100000 in
theorem Mixed_calls (A : Option Addr) (n c : Nat) (l : Cop) (w : World) (hn : n = l.length) (hR : Row2 encS 3 w A l) (hok : okC l = true) :
    Calls Tryd.prog 66 #[.agg #[.slice A n c]] w fun e w' => e = .returned (.bool (mixed l)) ∧ Below w.heap.size w w' := by
  have HR := Lib.hid hR
  have HOK := Lib.hid hok
  have HN := Lib.hid hn
  have hw4 : (wN l).length ≤ 4 := Nat.le_trans (wUpto_len l l.length) (okC_len hok).2.1
  clear hR hok hn
  go_enter Tryd.func66, Tryd.ntmps66
  go_wp2_with (go_at_call 51; go_must (refine (whole_calls _ _ _ _ _ HN.out (HR.out.below ((Below.refl _ _).alloc (Nat.le_refl _) _)) HOK.out).mono ?_); rintro e w1 ⟨⟨v, rfl, hO⟩, hb⟩; obtain ⟨A1, c1, rfl, hr, hc⟩ := hO.row encI_len; rw [ints_len]; have HO := Lib.hid hr; have HB := Lib.hid (show Gr (bs w (.slice A n c) 24) w1 from hb); clear hO hb hr hc)
  go_loopg [4] (wN l).length (fun g i wr => ∃ k : Nat, k ≤ (wN l).length ∧ i = .int .i64 k ∧ g = (wN l).length - k ∧ Gr (bs w (.slice A n c) 24) wr ∧ Row encI 1 wr A1 (ints (wN l)) ∧ ∀ p q s t, p < k → q < p → (wN l)[p]? = some s → (wN l)[q]? = some t → clashP l s t = false)
  case atStart => exact ⟨0, Nat.zero_le _, rfl, rfl, HB.out, HO.out, fun p q s t h => absurd h (by omega)⟩
  case round =>
    obtain ⟨k, hk, rfl, hg, hB, hO, hno⟩ := hrel
    have HA := Lib.hid (And.intro hg hno)
    have HB1 := Lib.hid (And.intro hB hO)
    clear hB hO hg hno HB HO
    by_cases hlt : k < (wN l).length
    · obtain ⟨s, hs, hs2, hs3, hs4⟩ := ints_at hlt
      have HS := Lib.hid (And.intro hs (And.intro hs2 (And.intro hs3 hs4)))
      clear hs hs2 hs3 hs4
      go_wp2_with (fail)
      go_loopg [5] k (fun g i wr => ∃ j : Nat, j ≤ k ∧ i = .int .i64 j ∧ g = k - j ∧ Gr (bs w (.slice A n c) 24) wr ∧ Row encI 1 wr A1 (ints (wN l)) ∧ ∀ q t, q < j → (wN l)[q]? = some t → clashP l s t = false)
      case atStart => exact ⟨0, Nat.zero_le _, rfl, rfl, HB1.out.1, HB1.out.2, fun q t h => absurd h (by omega)⟩
      case round =>
        obtain ⟨j, hj, rfl, hg, hB, hO, hno⟩ := hrel
        have HG := Lib.hid (And.intro hg hno)
        have HB2 := Lib.hid (And.intro hB hO)
        clear hB hg hO hno
        by_cases hlt2 : j < k
        · obtain ⟨s2, hs, hs2, hs3, hs4⟩ := ints_at (show j < (wN l).length by omega)
          have HS2 := Lib.hid (And.intro hs (And.intro hs2 (And.intro hs3 hs4)))
          obtain ⟨b1, o1, rfl, hl1, hc1⟩ := RowI.at HB2.out.2 (show k < (ints (wN l)).length by rw [ints_len]; exact hlt)
          obtain ⟨b2, o2, e2, hl2, hc2⟩ := RowI.at HB2.out.2 (show j < (ints (wN l)).length by rw [ints_len]; omega)
          cases e2
          rw [HS.out.2.1] at hc1
          rw [hs2] at hc2
          have hq : ∀ (x : Gro wr) (q : Nat), q < l.length → Calls Tryd.prog 53 #[.agg #[.slice A n c], .int .i64 q] x.W fun e w'' => e = .returned (.int .i64 (sq l q)) ∧ ∃ y : Gro wr, w'' = y.W := fun x q hq => x.calls (seq_calls A n c q l x.W HN.out ((HR.out.below (bs_old HB2.out.1)).below x.b) (by omega) (by omega) (by have := okC_slot HOK.out hq; have := okC_len HOK.out; simp; omega))
          have HQ := Lib.hid hq
          clear hs hs2 hs4 hq
          have hbox := bs_box HB2.out.1
          have hjl : j < (wN l).length := by omega
          have hsn : s < n := by have := HS.out.2.2.1; have := HN.out; omega
          have hs2n : s2 < n := by have := HS2.out.2.2.1; have := HN.out; omega
          have hbl : w.heap.size < wr.heap.size := by have := HB2.out.1.size; rw [bs_size] at this; omega
          rcases hb1 : (sq l s == sq l s2) with _ | _
          · have hx0 : ∀ x : Gro wr, x.W.cell? ⟨w.heap.size, 0, none⟩ = some (.slice A n c) := fun x => (x.cell _ _ hbl).trans hbox
            have hx1 : ∀ x : Gro wr, x.W.cell? ⟨b1, o1 + k, none⟩ = some (.int .i64 s) := fun x => (x.cell _ _ hl1).trans hc1
            have hx2 : ∀ x : Gro wr, x.W.cell? ⟨b1, o1 + j, none⟩ = some (.int .i64 s2) := fun x => (x.cell _ _ hl1).trans hc2
            go_wp2_with (fail)
            refine wp_region_gro (by kernel_rfl) (by kernel_rfl) ?_
            repeat (go_big_quiet_step (first | (go_at_call_of 53 s; exact HQ.out _ s HS.out.2.2.1) | (go_at_call 53; exact HQ.out _ s2 HS2.out.2.2.1)))
            refine wpQuiet_nil ?_
            intro _ hw'
            obtain ⟨x, hw''⟩ := hw'
            subst hw''
            go_wp2_with (fail)
            go_roundg (k - (j + 1))
            case measure => have := HG.out.1; omega
            case rel => exact ⟨j + 1, by omega, by go_num, rfl, HB2.out.1.step x.b, HB2.out.2.below x.b, none_succ HG.out.2 HS2.out.1 (by simp [clashP, hb1])⟩
          · obtain ⟨bs1, os1, Ak, ck, rfl, hs1, hs1c, hs1r⟩ := (HR.out.below (bs_old HB2.out.1)).at (sl_get HS.out.2.2.1)
            obtain ⟨bs2, os2, Aj, cj, e3, hs2, hs2c, hs2r⟩ := (HR.out.below (bs_old HB2.out.1)).at (sl_get HS2.out.2.2.1)
            cases e3
            have HK : ∀ W', Below wr.heap.size wr W' → (Below wr.heap.size wr W' ∧ W'.cell? ⟨w.heap.size, 0, none⟩ = some (.slice (some ⟨bs1, os1, none⟩) n c) ∧ W'.cell? ⟨b1, o1 + k, none⟩ = some (.int .i64 s) ∧ W'.cell? ⟨b1, o1 + j, none⟩ = some (.int .i64 s2) ∧ W'.cell? ⟨bs1, os1 + s, none⟩ = some (.slice Ak (sl l s).length ck) ∧ W'.cell? ⟨bs1, os1 + s2, none⟩ = some (.slice Aj (sl l s2).length cj)) := fun W' hb => ⟨hb, (hb.cell (p := ⟨_, _, none⟩) hbl).trans hbox, (hb.cell (p := ⟨_, _, none⟩) hl1).trans hc1, (hb.cell (p := ⟨_, _, none⟩) hl1).trans hc2, (hb.cell (p := ⟨_, _, none⟩) (World.block_lt_of_cell? wr _ hs1)).trans hs1, (hb.cell (p := ⟨_, _, none⟩) (World.block_lt_of_cell? wr _ hs2)).trans hs2⟩
            have HK' := Lib.hid HK
            clear HK
            go_wp2_with (fail)
            go_region_held3 (fun W' => Below wr.heap.size wr W' ∧ W'.cell? ⟨w.heap.size, 0, none⟩ = some (.slice (some ⟨bs1, os1, none⟩) n c) ∧ W'.cell? ⟨b1, o1 + k, none⟩ = some (.int .i64 s) ∧ W'.cell? ⟨b1, o1 + j, none⟩ = some (.int .i64 s2) ∧ W'.cell? ⟨bs1, os1 + s, none⟩ = some (.slice Ak (sl l s).length ck) ∧ W'.cell? ⟨bs1, os1 + s2, none⟩ = some (.slice Aj (sl l s2).length cj)) (exact HK'.out _ (by first | exact Below.drew (Below.refl _ _) | assumption)) (first
              | (go_at_call_of 53 s; have hB0 := And.left ‹Below wr.heap.size wr _ ∧ _›; refine (seq_calls _ _ _ s l _ HN.out (HR.out.below (bs_old (HB2.out.1.step hB0))) (by omega) (by have := HS.out.2.2.1; omega) (by have := okC_slot HOK.out HS.out.2.2.1; have := okC_len HOK.out; simp; omega)).mono ?_; rintro e w2 ⟨rfl, hb⟩; have hb2 := bthen hB0 hB0.size hb; clear hB0 hb)
              | (go_at_call 53; have hB0 := And.left ‹Below wr.heap.size wr _ ∧ _›; refine (seq_calls _ _ _ s2 l _ HN.out (HR.out.below (bs_old (HB2.out.1.step hB0))) (by omega) (by have := HS2.out.2.2.1; omega) (by have := okC_slot HOK.out HS2.out.2.2.1; have := okC_len HOK.out; simp; omega)).mono ?_; rintro e w3 ⟨rfl, hb⟩; have hb3 := bthen hB0 hB0.size hb; clear hB0 hb)
              | (go_at_call_of 18 Ak; have hB0 := And.left ‹Below wr.heap.size wr _ ∧ _›; refine (Table_calls _ _ _ _ (hs1r.below hB0) (by have := okC_slot HOK.out HS.out.2.2.1; have := okC_len HOK.out; omega)).mono ?_; rintro e w4 ⟨⟨v4, rfl, hO⟩, hb⟩; have hb4 := bthen hB0 hB0.size hb; obtain ⟨A4, c4, rfl, hr4, hc4⟩ := hO.row encI_len; have HT4 := Lib.hid hr4; clear hB0 hb hO hr4 hc4)
              | (go_at_call 18; have hB0 := And.left ‹Below wr.heap.size wr _ ∧ _›; refine (Table_calls _ _ _ _ (hs2r.below hB0) (by have := okC_slot HOK.out HS2.out.2.2.1; have := okC_len HOK.out; omega)).mono ?_; rintro e w5 ⟨⟨v5, rfl, hO⟩, hb⟩; have hb5 := bthen hB0 hB0.size hb; obtain ⟨A5, c5, rfl, hr5, hc5⟩ := hO.row encI_len; have HT5 := Lib.hid (And.intro hr5 (HT4.out.below hb)); clear hB0 hb hO hr5 hc5)
              | (go_at_call 52; have hB0 := And.left ‹Below wr.heap.size wr _ ∧ _›; refine (same_calls _ _ _ _ _ _ _ _ _ rfl rfl HT5.out.2 HT5.out.1).mono ?_; rintro e w6 ⟨rfl, hb⟩; have hb6 := bthen hB0 hB0.size hb; clear hB0 hb))
            have HB6 := Lib.hid hb6
            have HH := Lib.hid hb1
            clear hb6 hb5 hb4 hb3 hb2 hb1
            rcases htt : (tab (sl l s) == tab (sl l s2)) with _ | _
            · have HTT := Lib.hid htt
              go_wp2_with (fail)
              go_ret
              exact ⟨rb (by rw [mixed, clash_yes HS.out.1 HS2.out.1 (by simp [clashP, HH.out, htt])]; rfl), bs_old (HB2.out.1.step HB6.out)⟩
            · have HTT := Lib.hid htt
              go_wp2_with (fail)
              go_roundg (k - (j + 1))
              case measure => have := HG.out.1; omega
              case rel => exact ⟨j + 1, by omega, by go_num, rfl, HB2.out.1.step HB6.out, HB2.out.2.below HB6.out, none_succ HG.out.2 HS2.out.1 (by simp [clashP, HH.out, htt])⟩
        · go_wp2_with (fail)
          go_roundg ((wN l).length - (k + 1))
          case measure => have := HA.out.1; omega
          case rel => exact ⟨k + 1, by omega, by go_num, rfl, HB2.out.1, HB2.out.2, fun p q s' t hp hq hs' ht => by
            by_cases e : p = k
            · subst e; rw [HS.out.1] at hs'; cases hs'; exact HG.out.2 q t (by omega) ht
            · exact HA.out.2 p q s' t (by omega) hq hs' ht⟩
    · have hc := clash_no (fun p q s t hp => HA.out.2 p q s t (by omega))
      have HC := Lib.hid hc
      have hbox := bs_box HB1.out.1
      clear hc
      rcases hnw : (newest l).isSome with _ | _
      all_goals
        by_cases h0 : 0 < (wN l).length
        all_goals
          have HW := Lib.hid (And.intro hnw h0)
          go_wp2_with (go_at_call 50; go_must (refine (newest_calls _ _ _ _ _ HN.out (HR.out.below (bs_old HB1.out.1)) HOK.out).mono ?_); rintro e w2 ⟨rfl, hb⟩; have HB2 := Lib.hid (HB1.out.1.step hb); clear hb)
          go_ret
          exact ⟨rb (by first | (rw [mixed_eq HC.out, HW.out.1, decide_eq_true HW.out.2]; rfl) | (rw [mixed_eq HC.out, HW.out.1, decide_eq_false HW.out.2]; rfl)), bs_old HB2.out⟩
end Go.Proofs.YtcpglghklmfbcaaDoor.T
