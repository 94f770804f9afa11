import Derived.Test.YtcpglghklmfbcaaDoorT8
namespace Go.Proofs.YtcpglghklmfbcaaDoor.T
open Go Go.RowKit Go.Proofs.YtcpglghklmfbcaaDoor.M Go.Proofs.YtcpglghklmfbcaaDoor.R
set_option linter.unusedVariables false
set_option linter.unusedSimpArgs false

theorem checkM_ok {l : Cop} (h : checkM l = 0) : okC l = true ∧ mixed l = false := by
  unfold checkM at h
  cases h1 : okC l <;> cases h2 : mixed l <;> simp_all
theorem newest_lt {l : Cop} {s : Nat} (h : newest l = some s) : s < l.length ∧ whole (sl l s) = true := wN_lt (List.mem_of_find?_eq_some h)
/-- What Recover's like hands back: a row, an int, an error. -/
def Ret3 (w : World) (t : List Int) (a b : Int) (e : Ending) (w' : World) : Prop := (∃ v, e = .returned (.tuple #[v, .int .i64 a, .int .i64 b]) ∧ Own encI 1 3 w' w.heap.size v t) ∧ Below w.heap.size w w'
theorem recover_err {l : Cop} (h : checkM l ≠ 0) : recover l = ([], 0, checkM l) := by simp [recover, h]
theorem recover_none {l : Cop} (h : checkM l = 0) (h2 : newest l = none) : recover l = ([], 0, 3) := by simp [recover, h, h2]
theorem recover_some {l : Cop} {s : Nat} (h : checkM l = 0) (h2 : newest l = some s) : recover l = (tab (sl l s), (s : Int), 0) := by simp [recover, h, h2]
theorem tab_small {l : Cop} (h : okC l = true) {s : Nat} (hs : s < l.length) : (sl l s).length ≤ 17592186044416 := by
  have := okC_slot h hs
  have := okC_len h
  omega
theorem neq_of {a : Int} (h : a ≠ 0) : (a != 0) = true := by simpa using h
theorem r3 {v : Value} {a a' b b' : Int} (h : a = a') (k : b = b') : Ending.returned (.tuple #[v, .int .i64 a, .int .i64 b]) = .returned (.tuple #[v, .int .i64 a', .int .i64 b']) := by rw [h, k]

theorem Recover_calls (A : Option Addr) (n c : Nat) (l : Cop) (w : World) (hn : n = l.length) (hR : Row2 encS 3 w A l) (hs : small l) :
    Calls Tryd.prog 25 #[.agg #[.slice A n c]] w (Ret3 w (recover l).1 (recover l).2.1 (recover l).2.2) := by
  have HR := Lib.hid hR
  have HN := Lib.hid hn
  have HS := Lib.hid hs
  clear hR hn hs
  by_cases h1 : checkM l = 0
  · have HM := Lib.hid h1
    have HOK := Lib.hid (checkM_ok h1).1
    clear h1
    cases h2 : newest l with
    | none =>
      have HE := Lib.hid (recover_none HM.out h2)
      have HI := Lib.hid (show (newest l).isSome = false by rw [h2]; rfl)
      have hw : ownI l = 0 := by rw [ownI, h2]
      have HW := Lib.hid hw
      rw [HE.out]
      clear h2 hw
      go_enter Tryd.func25, Tryd.ntmps25
      go_wp2_with (first
        | (go_at_call 38; refine (CheckMixed_calls _ _ _ l _ HN.out (HR.out.below ((Below.refl _ _).alloc (Nat.le_refl _) _)) HS.out).mono ?_; rintro e w1 ⟨rfl, hb⟩; rw [HM.out]; have HB := Lib.hid (show Gr (bs w (.slice A n c) 24) w1 from hb); have hbox := bs_box HB.out; clear hb)
        | (go_at_call 50; refine (newest_calls _ _ _ l _ HN.out (HR.out.below (bs_old HB.out)) HOK.out).mono ?_; rintro e w2 ⟨rfl, hb⟩; rw [HW.out, HI.out]; have HB2 := Lib.hid (HB.out.step hb); clear hb))
      go_ret3
      exact ⟨⟨_, rfl, Own.nil⟩, bs_old HB2.out⟩
    | some s =>
      have HE := Lib.hid (recover_some HM.out h2)
      have HI := Lib.hid (show (newest l).isSome = true by rw [h2]; rfl)
      have hw : ownI l = s := by rw [ownI, h2]
      have HW := Lib.hid hw
      have HL := Lib.hid (newest_lt h2)
      have hsn : s < n := by have := HN.out; have := HL.out.1; omega
      rw [HE.out]
      clear h2 hw
      go_enter Tryd.func25, Tryd.ntmps25
      go_wp2_with (first
        | (go_at_call 38; refine (CheckMixed_calls _ _ _ l _ HN.out (HR.out.below ((Below.refl _ _).alloc (Nat.le_refl _) _)) HS.out).mono ?_; rintro e w1 ⟨rfl, hb⟩; rw [HM.out]; have HB := Lib.hid (show Gr (bs w (.slice A n c) 24) w1 from hb); have hbox := bs_box HB.out; clear hb)
        | (go_at_call 50; refine (newest_calls _ _ _ l _ HN.out (HR.out.below (bs_old HB.out)) HOK.out).mono ?_; rintro e w2 ⟨rfl, hb⟩; rw [HW.out, HI.out]; have HB2 := Lib.hid (HB.out.step hb); have hbox2 := bs_box HB2.out; obtain ⟨b1, o1, Ak, ck, rfl, hc1, hc2, hc3⟩ := (HR.out.below (bs_old HB2.out)).at (sl_get HL.out.1); have HC := Lib.hid hc3; clear hb hc3)
        | (go_at_call 18; refine (Table_calls _ _ _ _ HC.out (tab_small HOK.out HL.out.1)).mono ?_; rintro e w3 ⟨⟨v, rfl, hO⟩, hb⟩; have HO := Lib.hid (And.intro hO hb); clear hb hO))
      go_ret3
      exact ⟨⟨_, rfl, HO.out.1.mono (Nat.le_trans (bs_old HB2.out).size (Nat.le_refl _))⟩, (bs_old HB2.out).step HO.out.2⟩
  · have HE := Lib.hid (recover_err h1)
    have hq := neq_of h1
    rw [HE.out]
    clear h1
    go_enter Tryd.func25, Tryd.ntmps25
    go_wp2_with (go_at_call 38; refine (CheckMixed_calls _ _ _ l _ HN.out (HR.out.below ((Below.refl _ _).alloc (Nat.le_refl _) _)) HS.out).mono ?_; rintro e w1 ⟨rfl, hb⟩; have HB := Lib.hid (show Gr (bs w (.slice A n c) 24) w1 from hb); clear hb)
    go_ret3
    exact ⟨⟨_, rfl, Own.nil⟩, bs_old HB.out⟩

theorem IsTable_calls (A A' : Option Addr) (n n' c c' : Nat) (l : Cop) (t : List Int) (w : World) (hn : n = l.length) (hn' : n' = t.length) (hR : Row2 encS 3 w A l) (hR' : Row encI 1 w A' t) (hl : 0 < l.length) :
    Calls Tryd.prog 28 #[.agg #[.slice A n c], .slice A' n' c'] w fun e w' => e = .returned (.bool (isTable l t)) ∧ Below w.heap.size w w' := by
  have HR := Lib.hid hR
  have HR' := Lib.hid hR'
  have ht := hR'.1
  have HN := Lib.hid (And.intro hn hl)
  subst hn'
  clear hR hn hR' hl
  go_enter Tryd.func28, Tryd.ntmps28
  go_wp2
  go_loopg [5] t.length (fun g i wr => ∃ k : Nat, k ≤ t.length ∧ i = .int .i64 k ∧ g = t.length - k ∧ Gr (bs w (.slice A n c) 24) wr ∧ (t.take k).all (fun x => within x 0 99) = true)
  case atStart => exact ⟨0, Nat.zero_le _, rfl, rfl, Gr.refl _, by simp⟩
  case round =>
    obtain ⟨k, hk, rfl, hg, hB, hO⟩ := hrel
    have HB := Lib.hid hB
    have HA := Lib.hid (And.intro hg hO)
    have hbox := bs_box hB
    clear hB hO hg
    by_cases hlt : k < t.length
    · obtain ⟨b, off, rfl, hbl, h0⟩ := RowI.at (HR'.out.below (bs_old HB.out)) hlt
      rcases hw : within t[k] 0 99 with _ | _
      · have HW := Lib.hid hw
        go_wp2_with (go_at_call 48; refine (within_calls _ _ _ _).mono ?_; rintro e w1 ⟨rfl, rfl⟩)
        go_ret
        refine ⟨rb ?_, bs_old HB.out⟩
        have : t.all (fun x => within x 0 99) = false := by
          rw [List.all_eq_false]
          exact ⟨_, List.getElem_mem hlt, by rw [HW.out]; simp⟩
        rw [isTable, this]; rfl
      · have HW := Lib.hid hw
        go_wp2_with (go_at_call 48; refine (within_calls _ _ _ _).mono ?_; rintro e w1 ⟨rfl, rfl⟩)
        go_roundg (t.length - (k + 1))
        case measure => have := HA.out.1; omega
        case rel => exact ⟨k + 1, by omega, by go_num, rfl, HB.out, all_take_succ hlt HA.out.2 HW.out⟩
    · have he : isTable l t = ((t.length : Int) == parts l) := by
        have h2 := HA.out.2
        rw [List.take_of_length_le (by omega)] at h2
        rw [isTable, h2, Bool.true_and]
        by_cases e : t.length = parts l
        · rw [e, beq_self_eq_true]; exact (beq_self_eq_true _).symm
        · rw [beq_eq_false_iff_ne.2 e]; exact (beq_eq_false_iff_ne.2 (by omega)).symm
      have HE := Lib.hid he
      clear he
      go_wp2_with (go_at_call 30; refine (Parts_calls _ _ _ l _ HN.out.1 (HR.out.below (bs_old HB.out)) HN.out.2).mono ?_; rintro e w1 ⟨rfl, hb⟩; have HB2 := Lib.hid (HB.out.step hb); clear hb)
      go_ret
      exact ⟨rb HE.out.symm, bs_old HB2.out⟩
end Go.Proofs.YtcpglghklmfbcaaDoor.T
