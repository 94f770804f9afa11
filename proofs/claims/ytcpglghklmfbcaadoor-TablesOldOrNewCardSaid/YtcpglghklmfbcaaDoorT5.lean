import Derived.Test.YtcpglghklmfbcaaDoorT4
namespace Go.Proofs.YtcpglghklmfbcaaDoor.T
open Go Go.RowKit Go.Proofs.YtcpglghklmfbcaaDoor.M Go.Proofs.YtcpglghklmfbcaaDoor.R
set_option linter.unusedVariables false
set_option linter.unusedSimpArgs false

theorem RowI.at {w : World} {A : Option Addr} {l : List Int} (h : Row encI 1 w A l) {k : Nat} (hk : k < l.length) : ∃ b off, A = some ⟨b, off, none⟩ ∧ b < w.heap.size ∧ w.cell? ⟨b, off + k, none⟩ = some (.int .i64 l[k]) := by
  obtain ⟨b, off, e, hc⟩ := h.at (List.getElem?_eq_getElem hk)
  have h0 := hc 0 _ rfl
  simp only [Nat.mul_one, Nat.add_zero] at h0
  exact ⟨b, off, e, World.block_lt_of_cell? w _ h0, h0⟩
/-- The numbers of whole slots, as the row holds them. -/
theorem ints_at {l : Cop} {k : Nat} (hk : k < (wN l).length) : ∃ s : Nat, (wN l)[k]? = some s ∧ (ints (wN l))[k]'(by simpa [ints] using hk) = (s : Int) ∧ s < l.length ∧ whole (sl l s) = true := by
  refine ⟨(wN l)[k], List.getElem?_eq_getElem hk, by simp [ints], wN_lt (List.getElem_mem hk)⟩
theorem ints_len (l : List Nat) : (ints l).length = l.length := by simp [ints]
def okUpto (l : Cop) (s j : Nat) : Bool := ((wN l).take j).all fun k => okB (sq l s) (sq l k)
theorem okUpto_succ {l : Cop} {s j k : Nat} (hk : (wN l)[j]? = some k) : okUpto l s (j + 1) = (okUpto l s j && okB (sq l s) (sq l k)) := by
  obtain ⟨hj, e⟩ := List.getElem?_eq_some_iff.1 hk
  simp [okUpto, List.take_succ_eq_append_getElem hj, e]

theorem none_succ {α : Type} {L : List α} {p : α → Bool} {k : Nat} {s : α} (h : ∀ j s, j < k → L[j]? = some s → p s = false) (hs : L[k]? = some s) (hp : p s = false) : ∀ j s, j < k + 1 → L[j]? = some s → p s = false := by
  intro j x hj hx
  by_cases e : j = k
  · subst e; rw [hs] at hx; cases hx; exact hp
  · exact h j x (by omega) hx
theorem find_none {α : Type} {L : List α} {p : α → Bool} {k : Nat} (hk : k = L.length) (h : ∀ j s, j < k → L[j]? = some s → p s = false) : L.find? p = none := by
  rw [List.find?_eq_none]
  intro x hx
  obtain ⟨j, hj, rfl⟩ := List.getElem_of_mem hx
  rw [h j _ (by omega) (List.getElem?_eq_getElem hj)]
  simp
theorem find_at {α : Type} {L : List α} {p : α → Bool} {k : Nat} {s : α} (h : ∀ j s, j < k → L[j]? = some s → p s = false) (hs : L[k]? = some s) (hp : p s = true) : L.find? p = some s := by
  obtain ⟨hk, rfl⟩ := List.getElem?_eq_some_iff.1 hs
  rw [List.find?_eq_some_iff_getElem]
  exact ⟨hp, k, hk, rfl, fun j hj => by rw [h j _ hj (List.getElem?_eq_getElem (by omega))]; rfl⟩

set_option maxHeartbeats 1000000 in
set_option maxRecDepth 100000 in
theorem newest_calls (A : Option Addr) (n c : Nat) (l : Cop) (w : World) (hn : n = l.length) (hR : Row2 encS 3 w A l) (hok : okC l = true) :
    Calls Tryd.prog 50 #[.agg #[.slice A n c]] w fun e w' => e = .returned (.tuple #[.int .i64 (ownI l), .bool (newest l).isSome]) ∧ Below w.heap.size w w' := by
  have HR := Lib.hid hR
  have HOK := Lib.hid hok
  have HN := Lib.hid hn
  have hw4 : (wN l).length ≤ 4 := Nat.le_trans (wUpto_len l l.length) (okC_len hok).2.1
  clear hR hok hn
  go_enter Tryd.func50, Tryd.ntmps50
  go_wp2_with (go_at_call 51; go_must (refine (whole_calls _ _ _ _ _ HN.out (HR.out.below ((Below.refl _ _).alloc (Nat.le_refl _) _)) HOK.out).mono ?_); rintro e w1 ⟨⟨v, rfl, hO⟩, hb⟩; obtain ⟨A1, c1, rfl, hr, hc⟩ := hO.row encI_len; rw [ints_len]; have HO := Lib.hid hr; have HB := Lib.hid (show Gr (bs w (.slice A n c) 24) w1 from hb); clear hO hb hr hc)
  go_loopg [5] (wN l).length (fun g i wr => ∃ k : Nat, k ≤ (wN l).length ∧ i = .int .i64 k ∧ g = (wN l).length - k ∧ Gr (bs w (.slice A n c) 24) wr ∧ Row encI 1 wr A1 (ints (wN l)) ∧ ∀ j s, j < k → (wN l)[j]? = some s → tops l s = false)
  case atStart => exact ⟨0, Nat.zero_le _, rfl, rfl, HB.out, HO.out, fun j s h => absurd h (by omega)⟩
  case round =>
    obtain ⟨k, hk, rfl, hg, hB, hO, hno⟩ := hrel
    have HA := Lib.hid (And.intro hg hno)
    have HB1 := Lib.hid (And.intro hB hO)
    clear hB hO hg hno HB HO
    by_cases hlt : k < (wN l).length
    · obtain ⟨s, hs, hs2, hs3, hs4⟩ := ints_at hlt
      have HS := Lib.hid (And.intro hs (And.intro hs2 (And.intro hs3 hs4)))
      clear hs hs2 hs3 hs4
      go_wp2_with (fail)
      go_loopg [6, 7] (wN l).length (fun g b i wr => ∃ j : Nat, j ≤ (wN l).length ∧ i = .int .i64 j ∧ g = (wN l).length - j ∧ b = .bool (okUpto l s j) ∧ Gr (bs w (.slice A n c) 24) wr ∧ Row encI 1 wr A1 (ints (wN l)))
      case atStart => exact ⟨0, Nat.zero_le _, rfl, rfl, rfl, HB1.out⟩
      case round =>
        obtain ⟨j, hj, rfl, hg, rfl, hB⟩ := hrel
        have HG := Lib.hid hg
        have HB2 := Lib.hid hB
        clear hB hg
        by_cases hlt2 : j < (wN l).length
        · obtain ⟨s2, hs, hs2, hs3, hs4⟩ := ints_at hlt2
          have HS2 := Lib.hid (And.intro hs (And.intro hs2 (And.intro hs3 hs4)))
          obtain ⟨b1, o1, rfl, hl1, hc1⟩ := RowI.at HB2.out.2 (show k < (ints (wN l)).length by rw [ints_len]; exact hlt)
          obtain ⟨b2, o2, e2, hl2, hc2⟩ := RowI.at HB2.out.2 (show j < (ints (wN l)).length by rw [ints_len]; exact hlt2)
          cases e2
          rw [HS.out.2.1] at hc1
          rw [hs2] at hc2
          have hx0 : ∀ x : Gro wr, x.W.cell? ⟨w.heap.size, 0, none⟩ = some (.slice A n c) := fun x => (x.cell _ _ (by have := HB2.out.1.size; rw [bs_size] at this; omega)).trans (bs_box HB2.out.1)
          have hx1 : ∀ x : Gro wr, x.W.cell? ⟨b1, o1 + k, none⟩ = some (.int .i64 s) := fun x => (x.cell _ _ hl1).trans hc1
          have hx2 : ∀ x : Gro wr, x.W.cell? ⟨b1, o1 + j, none⟩ = some (.int .i64 s2) := fun x => (x.cell _ _ hl1).trans hc2
          have hq : ∀ (x : Gro wr) (q : Nat), q < l.length → Calls Tryd.prog 53 #[.agg #[.slice A n c], .int .i64 q] x.W fun e w'' => e = .returned (.int .i64 (sq l q)) ∧ ∃ y : Gro wr, w'' = y.W := fun x q hq => x.calls (seq_calls A n c q l x.W HN.out ((HR.out.below (bs_old HB2.out.1)).below x.b) (by omega) (by omega) (by have := okC_slot HOK.out hq; have := okC_len HOK.out; simp; omega))
          have hn1 := okC_sq HOK.out HS.out.2.2.1
          have hn2 := okC_sq HOK.out hs3
          have HQ := Lib.hid hq
          have HNE := Lib.hid (And.intro hn1 hn2)
          clear hc1 hc2 hs hs2 hs4 hq hn1 hn2
          rcases hb0 : okUpto l s j with _ | _
          · have HB0 := Lib.hid hb0
            go_wp2_with (fail)
            refine wp_region_gro (by kernel_rfl) (by kernel_rfl) ?_
            repeat (first | go_big_quiet_step (fail) | quiet_step (fail))
            refine wpQuiet_nil ?_
            intro _ hw'
            obtain ⟨x, hw''⟩ := hw'
            subst hw''
            go_wp2_with (fail)
            go_roundg ((wN l).length - (j + 1))
            case measure => have := HG.out; omega
            case rel => exact ⟨j + 1, by omega, by go_num, rfl, by rw [okUpto_succ HS2.out.1, hb0]; rfl, HB2.out.1.step x.b, HB2.out.2.below x.b⟩
          · have HB0 := Lib.hid hb0
            rcases hb1 : (sq l s == sq l s2) with _ | _
            all_goals
              go_wp2_with (fail)
              refine wp_region_gro (by kernel_rfl) (by kernel_rfl) ?_
              repeat (go_big_quiet_step (first | (go_at_call_of 53 s; exact HQ.out _ s HS.out.2.2.1) | (go_at_call 53; exact HQ.out _ s2 HS2.out.2.2.1) | (go_at_call 49; exact Gro.calls_same _ (newer_calls _ _ _ HNE.out.1.1 HNE.out.1.2 HNE.out.2.1 HNE.out.2.2))))
              refine wpQuiet_nil ?_
              intro _ hw'
              obtain ⟨x, hw''⟩ := hw'
              subst hw''
              go_wp2_with (fail)
              go_roundg ((wN l).length - (j + 1))
              case measure => have := HG.out; omega
              case rel => exact ⟨j + 1, by omega, by go_num, rfl, by rw [okUpto_succ HS2.out.1, hb0]; simp [okB, hb1, BEq.comm], HB2.out.1.step x.b, HB2.out.2.below x.b⟩
        · have hjl : j = (wN l).length := by omega
          have ht : okUpto l s j = tops l s := by rw [hjl, okUpto, List.take_length]; rfl
          obtain ⟨b1, o1, rfl, hl1, hc1⟩ := RowI.at HB2.out.2 (show k < (ints (wN l)).length by rw [ints_len]; exact hlt)
          rw [HS.out.2.1] at hc1
          rw [ht]
          clear ht hjl
          rcases htop : tops l s with _ | _
          · have HT := Lib.hid htop
            go_wp2_with (fail)
            go_roundg ((wN l).length - (k + 1))
            case measure => have := HA.out.1; omega
            case rel => exact ⟨k + 1, by omega, by go_num, rfl, HB2.out.1, HB2.out.2, none_succ HA.out.2 HS.out.1 htop⟩
          · have HT := Lib.hid htop
            go_wp2_with (fail)
            go_ret2
            have e := find_at HA.out.2 HS.out.1 htop
            exact ⟨rib (by rw [ownI, newest, e]) (by rw [newest, e]; rfl), bs_old HB2.out.1⟩
    · go_wp2_with (fail)
      go_ret2
      have e := find_none (show k = (wN l).length by omega) HA.out.2
      exact ⟨rib (by rw [ownI, newest, e]) (by rw [newest, e]; rfl), bs_old HB1.out.1⟩
end Go.Proofs.YtcpglghklmfbcaaDoor.T
