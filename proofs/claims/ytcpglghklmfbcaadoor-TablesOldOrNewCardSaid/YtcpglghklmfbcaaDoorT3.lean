import Derived.Test.YtcpglghklmfbcaaDoorT2
namespace Go.Proofs.YtcpglghklmfbcaaDoor.T
open Go Go.RowKit Go.Proofs.YtcpglghklmfbcaaDoor.M Go.Proofs.YtcpglghklmfbcaaDoor.R
set_option linter.unusedVariables false
set_option linter.unusedSimpArgs false

theorem within_calls (n lo hi : Int) (w : World) : Calls Tryd.prog 48 #[.int .i64 n, .int .i64 lo, .int .i64 hi] w fun e w' => e = .returned (.bool (within n lo hi)) ∧ w = w' := by
  go_enter Tryd.func48, Tryd.ntmps48
  go_wp2
  all_goals
    go_ret
    exact ⟨rb (by simp [within]; try omega), rfl⟩
theorem newer_calls (a b : Int) (w : World) (ha : 0 ≤ a) (ha' : a ≤ 63) (hb : 0 ≤ b) (hb' : b ≤ 63) :
    Calls Tryd.prog 49 #[.int .i64 a, .int .i64 b] w fun e w' => e = .returned (.bool (newerB a b)) ∧ w = w' := by
  go_enter Tryd.func49, Tryd.ntmps49
  go_wp2_with (go_at_call 48; refine (within_calls _ _ _ _).mono ?_; rintro e w1 ⟨rfl, rfl⟩)
  go_ret
  exact ⟨rb (by simp [newerB, within]), rfl⟩
theorem Parts_calls (A : Option Addr) (n c : Nat) (l : Cop) (w : World) (hn : n = l.length) (hR : Row2 encS 3 w A l) (hl : 0 < l.length) :
    Calls Tryd.prog 30 #[.agg #[.slice A n c]] w fun e w' => e = .returned (.int .i64 (parts l)) ∧ Below w.heap.size w w' := by
  obtain ⟨b, off, Ak, ck, rfl, h1, h2, h3⟩ := hR.at (List.getElem?_eq_getElem hl)
  have h4 := World.block_lt_of_cell? w _ h1
  have e : parts l = l[0].length := by cases l with | nil => simp at hl | cons x l => rfl
  have hn' : 0 < n := by omega
  rw [e]
  clear hR h3 e
  simp only [Nat.add_zero] at h1 h4
  go_enter Tryd.func30, Tryd.ntmps30
  go_wp2
  go_ret
  exact ⟨rfl, (Below.refl _ _).alloc (Nat.le_refl _) _⟩
theorem seq_calls (A : Option Addr) (n c : Nat) (s : Int) (l : Cop) (w : World) (hn : n = l.length) (hR : Row2 encS 3 w A l) (hs : 0 ≤ s) (hl : s < l.length) (hl2 : 0 < (sl l s.toNat).length) :
    Calls Tryd.prog 53 #[.agg #[.slice A n c], .int .i64 s] w fun e w' => e = .returned (.int .i64 (sq l s.toNat)) ∧ Below w.heap.size w w' := by
  obtain ⟨k, rfl⟩ := Int.eq_ofNat_of_zero_le hs
  rw [Int.toNat_natCast] at *
  have hk : k < l.length := by omega
  have e1 : sl l k = l[k] := by simp [sl, List.getD_eq_getElem?_getD, List.getElem?_eq_getElem hk]
  rw [e1] at hl2
  obtain ⟨b, off, Ak, ck, rfl, h1, h2, h3⟩ := hR.at (List.getElem?_eq_getElem hk)
  obtain ⟨b2, off2, rfl, h5, h6, _, _⟩ := RowS.at h3 hl2
  have h4 := World.block_lt_of_cell? w _ h1
  rw [hd_eq hl2] at h6
  have e : sq l k = hd l[k] := by rw [sq, e1]
  rw [e]
  clear hR h3 e e1 hs hl
  simp only [Nat.zero_mul, Nat.add_zero] at h6
  simp only at h4
  have hkn : k < n := by omega
  clear hn
  go_enter Tryd.func53, Tryd.ntmps53
  go_wp2
  go_ret
  exact ⟨rfl, (Below.refl _ _).alloc (Nat.le_refl _) _⟩
end Go.Proofs.YtcpglghklmfbcaaDoor.T
