import Derived.Test.YtcpglghklmfbcaaDoorT28
namespace Go.Proofs.YtcpglghklmfbcaaDoor.T
open Go Go.RowKit Go.Proofs.YtcpglghklmfbcaaDoor.M Go.Proofs.YtcpglghklmfbcaaDoor.R
set_option linter.unusedVariables false
set_option linter.unusedSimpArgs false

def bigS (l : List Sec) : Bool := decide (20 < l.length)
theorem any_take_succ {α : Type} {l : List α} {f : α → Bool} {k : Nat} {x : α} (hk : l[k]? = some x) (h : (l.take k).any f = false) (h2 : f x = false) : (l.take (k + 1)).any f = false := by
  obtain ⟨hk2, rfl⟩ := List.getElem?_eq_some_iff.1 hk
  rw [List.take_succ_eq_append_getElem hk2, List.any_append, h]
  simp [h2]
theorem far_yes {l : Cop} {k : Nat} (hk : k < l.length) (h : bigS (sl l k) = true) : far l = true := by
  have : l.any (fun l => decide (20 < l.length)) = true := List.any_eq_true.2 ⟨_, sl_mem hk, h⟩
  rw [far, this, Bool.true_or]
theorem far_no {l : Cop} (h : (l.take l.length).any bigS = false) : far l = decide (20 < l.length) := by
  rw [List.take_length] at h
  have h2 : l.any (fun l => decide (20 < l.length)) = false := h
  rw [far, h2, Bool.false_or]
theorem far_small {l : Cop} (h : far l = false) : small l := by
  simp only [far, Bool.or_eq_false_iff, decide_eq_false_iff_not] at h
  refine ⟨by omega, fun s hs => ?_⟩
  have := List.any_eq_false.1 h.1 _ (sl_mem hs)
  simp at this
  omega
theorem small_far {l : Cop} (h : small l) : far l = false := by
  have h1 : l.any (fun l => decide (20 < l.length)) = false := by
    rw [List.any_eq_false]
    intro x hx
    obtain ⟨j, hj, rfl⟩ := List.getElem_of_mem hx
    have e : sl l j = l[j] := by
      have := sl_get hj
      rw [List.getElem?_eq_getElem hj] at this
      exact (Option.some.inj this).symm
    have := h.2 j hj
    rw [e] at this
    simp; omega
  have h2 := h.1
  rw [far, h1, Bool.false_or]
  simp; omega

theorem Far_calls (A : Option Addr) (n c : Nat) (l : Cop) (w : World) (hn : n = l.length) (hR : Row2 encS 3 w A l) :
    Calls Tryd.prog 20 #[.agg #[.slice A n c]] w fun e w' => e = .returned (.bool (far l)) ∧ Below w.heap.size w w' := by
  have HR := Lib.hid hR
  have HN := Lib.hid hn
  have hbig : n ≤ 9223372036854775807 := by have := hR.1; omega
  clear hR hn
  go_enter Tryd.func20, Tryd.ntmps20
  go_wp2
  go_loopg [3] n (fun g i wr => ∃ k : Nat, k ≤ n ∧ i = .int .i64 k ∧ g = n - k ∧ Gr (bs w (.slice A n c) 24) wr ∧ (l.take k).any bigS = false)
  case atStart => exact ⟨0, Nat.zero_le _, rfl, rfl, Gr.refl _, by simp⟩
  case round =>
    obtain ⟨k, hk, rfl, hg, hB, hO⟩ := hrel
    have HB := Lib.hid hB
    have HA := Lib.hid (And.intro hg hO)
    have hbox := bs_box hB
    clear hB hO hg
    by_cases hlt : k < n
    · have hkl : k < l.length := by have := HN.out; omega
      obtain ⟨b, off, Ak, ck, rfl, h1, h2, h3⟩ := (HR.out.below (bs_old HB.out)).at (sl_get hkl)
      have HK := Lib.hid hkl
      clear h2 h3 hkl
      by_cases hb : 20 < (sl l k).length
      · have HBG := Lib.hid hb
        go_wp2
        go_ret
        exact ⟨rb (far_yes HK.out (by simpa [bigS] using HBG.out)).symm, bs_old HB.out⟩
      · have HBG := Lib.hid hb
        go_wp2
        go_roundg (n - (k + 1))
        case measure => have := HA.out.1; omega
        case rel => exact ⟨k + 1, by omega, by go_num, rfl, HB.out, any_take_succ (sl_get HK.out) HA.out.2 (by have := HBG.out; simp [bigS]; omega)⟩
    · have he : far l = decide (20 < n) := by
        have h := HA.out.2
        rw [show k = l.length by have := HN.out; omega] at h
        rw [far_no h, HN.out]
      have HE := Lib.hid he
      clear he
      by_cases hb : 20 < n
      all_goals
        go_wp2
        go_ret
        exact ⟨rb (by rw [HE.out]; simp; omega), bs_old HB.out⟩

/-- What statements look at. -/
def validC (l : Cop) : Bool := !far l && checkM l == 0
theorem valid_calls (A : Option Addr) (n c : Nat) (l : Cop) (w : World) (hn : n = l.length) (hR : Row2 encS 3 w A l) :
    Calls Tryd.prog 10 #[.agg #[.slice A n c]] w fun e w' => e = .returned (.bool (validC l)) ∧ Below w.heap.size w w' := by
  have HR := Lib.hid hR
  have HN := Lib.hid hn
  clear hR hn
  rcases hf : far l with _ | _
  rotate_left
  · have HF := Lib.hid hf
    go_enter Tryd.func10, Tryd.ntmps10
    go_wp2_with (go_at_call 20; refine (Far_calls _ _ _ l _ HN.out (HR.out.below ((Below.refl _ _).alloc (Nat.le_refl _) _))).mono ?_; rintro e w1 ⟨rfl, hb⟩; rw [HF.out]; have HB := Lib.hid (show Gr (bs w (.slice A n c) 24) w1 from hb); clear hb)
    go_ret
    exact ⟨rb (by rw [validC, HF.out]; rfl), bs_old HB.out⟩
  have HF := Lib.hid hf
  have HS := Lib.hid (far_small hf)
  clear hf
  by_cases h0 : checkM l = 0
  · have HM := Lib.hid h0
    clear h0
    go_enter Tryd.func10, Tryd.ntmps10
    go_wp2_with (first
      | (go_at_call 20; refine (Far_calls _ _ _ l _ HN.out (HR.out.below ((Below.refl _ _).alloc (Nat.le_refl _) _))).mono ?_; rintro e w1 ⟨rfl, hb⟩; rw [HF.out]; have HB := Lib.hid (show Gr (bs w (.slice A n c) 24) w1 from hb); have hbox := bs_box hb; clear hb)
      | (go_at_call 38; refine (CheckMixed_calls _ _ _ l _ HN.out (HR.out.below (bs_old HB.out)) HS.out).mono ?_; rintro e w2 ⟨rfl, hb⟩; rw [HM.out]; have HB2 := Lib.hid (HB.out.step hb); clear hb))
    go_ret
    exact ⟨rb (by rw [validC, HF.out, HM.out]; rfl), bs_old HB2.out⟩
  · have HM := Lib.hid h0
    have hq : (checkM l == 0) = false := by simpa using h0
    have HQ := Lib.hid hq
    clear h0
    go_enter Tryd.func10, Tryd.ntmps10
    go_wp2_with (first
      | (go_at_call 20; refine (Far_calls _ _ _ l _ HN.out (HR.out.below ((Below.refl _ _).alloc (Nat.le_refl _) _))).mono ?_; rintro e w1 ⟨rfl, hb⟩; rw [HF.out]; have HB := Lib.hid (show Gr (bs w (.slice A n c) 24) w1 from hb); have hbox := bs_box hb; clear hb)
      | (go_at_call 38; refine (CheckMixed_calls _ _ _ l _ HN.out (HR.out.below (bs_old HB.out)) HS.out).mono ?_; rintro e w2 ⟨rfl, hb⟩; have HB2 := Lib.hid (HB.out.step hb); clear hb))
    go_ret
    exact ⟨rb (by rw [validC, HF.out, HQ.out]; rfl), bs_old HB2.out⟩
end Go.Proofs.YtcpglghklmfbcaaDoor.T
