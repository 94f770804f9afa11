import Derived.Test.YtcpglghklmfbcaaDoorT3
namespace Go.Proofs.YtcpglghklmfbcaaDoor.T
open Go Go.RowKit Go.Proofs.YtcpglghklmfbcaaDoor.M Go.Proofs.YtcpglghklmfbcaaDoor.R
set_option linter.unusedVariables false
set_option linter.unusedSimpArgs false

theorem okC_len {c : Cop} (h : okC c = true) : 2 ≤ c.length ∧ c.length ≤ 4 ∧ 1 ≤ parts c ∧ parts c ≤ 4 := by
  simp [okC, within] at h; omega
theorem sl_get {c : Cop} {s : Nat} (h : s < c.length) : c[s]? = some (sl c s) := by simp [sl, List.getD_eq_getElem?_getD, List.getElem?_eq_getElem h]
theorem sl_mem {c : Cop} {s : Nat} (h : s < c.length) : sl c s ∈ c := List.mem_of_getElem? (sl_get h)
theorem okC_slot {c : Cop} (h : okC c = true) {s : Nat} (hs : s < c.length) : (sl c s).length = parts c ∧ ∀ x ∈ sl c s, secOk x = true := by
  simp only [okC, Bool.and_eq_true, List.all_eq_true] at h
  have := h.2 _ (sl_mem hs)
  simpa using this
theorem secOk_range {x : Sec} (h : secOk x = true) : 0 ≤ x.seq ∧ x.seq ≤ 63 ∧ 0 ≤ x.data ∧ x.data ≤ 99 := by
  simp [secOk, within] at h; omega
theorem okC_sq {c : Cop} (h : okC c = true) {s : Nat} (hs : s < c.length) : 0 ≤ sq c s ∧ sq c s ≤ 63 := by
  have h1 := okC_slot h hs
  have h2 := okC_len h
  unfold sq hd
  cases e : sl c s with
  | nil => rw [e] at h1; simp at h1; omega
  | cons x l =>
    have := secOk_range (h1.2 x (by rw [e]; simp))
    simp only [List.headD_cons]
    omega
theorem wUpto_succ_yes {c : Cop} {k : Nat} (h : whole (sl c k) = true) : wUpto c (k + 1) = wUpto c k ++ [k] := by simp [wUpto, List.range_succ, List.filter_append, h]
theorem wUpto_succ_no {c : Cop} {k : Nat} (h : whole (sl c k) = false) : wUpto c (k + 1) = wUpto c k := by simp [wUpto, List.range_succ, List.filter_append, h]
theorem wUpto_len (c : Cop) (k : Nat) : (wUpto c k).length ≤ k := by unfold wUpto; exact Nat.le_trans (List.length_filter_le ..) (by simp)
theorem wN_lt {c : Cop} {s : Nat} (h : s ∈ wN c) : s < c.length ∧ whole (sl c s) = true := by simpa [wN, wUpto] using h
def ints (l : List Nat) : List Int := l.map Int.ofNat

theorem whole_calls (A : Option Addr) (n c : Nat) (l : Cop) (w : World) (hn : n = l.length) (hR : Row2 encS 3 w A l) (hok : okC l = true) :
    Calls Tryd.prog 51 #[.agg #[.slice A n c]] w fun e w' => (∃ v, e = .returned v ∧ Own encI 1 3 w' w.heap.size v (ints (wN l))) ∧ Below w.heap.size w w' := by
  have HR := Lib.hid hR
  have HOK := Lib.hid hok
  have hlen := okC_len hok
  obtain ⟨hl2, hl4, _, _⟩ := hlen
  have HN := Lib.hid hn
  have hn1 : l.length ≤ n := by omega
  have hn2 : n ≤ l.length := by omega
  clear hR hok hn
  go_enter Tryd.func51, Tryd.ntmps51
  go_wp2
  go_loopg [3, 4] n (fun g v i wr => ∃ k : Nat, k ≤ n ∧ i = .int .i64 k ∧ g = n - k ∧ Gr (bs w (.slice A n c) 24) wr ∧ Own encI 1 3 wr (bs w (.slice A n c) 24).heap.size v (ints (wUpto l k)))
  case atStart => exact ⟨0, Nat.zero_le _, rfl, rfl, Gr.refl _, Own.nil⟩
  case round =>
    obtain ⟨k, hk, rfl, hg, hB, hO⟩ := hrel
    have HB := Lib.hid hB
    have HA := Lib.hid (And.intro hg hO)
    have hbox : wr.cell? ⟨w.heap.size, 0, none⟩ = some (.slice A n c) := bs_box hB
    clear hB hO hg
    by_cases hlt : k < n
    · obtain ⟨b, off, Ak, ck, rfl, h1, h2, h3⟩ := (HR.out.below (bs_old HB.out)).at (sl_get (show k < l.length by omega))
      have H3 := Lib.hid h3
      clear h3
      rcases hw : whole (sl l k) with _ | _
      · have HW := Lib.hid hw
        go_wp2_with (go_at_call 17; refine (Whole_calls _ _ _ _ H3.out).mono ?_; rintro e w1 ⟨rfl, hb⟩; have HB1 := Lib.hid (HB.out.step hb); have HO1 := Lib.hid (HA.out.2.below hb); clear hb)
        go_roundg (n - (k + 1))
        case measure => have := HA.out.1; omega
        case rel => exact ⟨k + 1, by omega, by go_num, rfl, HB1.out, by rw [wUpto_succ_no HW.out]; exact HO1.out⟩
      · have HW := Lib.hid hw
        go_wp2_with (first
          | (go_at_call 17; refine (Whole_calls _ _ _ _ H3.out).mono ?_; rintro e w1 ⟨rfl, hb⟩; have HB1 := Lib.hid (HB.out.step hb); have HO1 := Lib.hid (HA.out.2.below hb); clear hb)
          | (at_builtin; go_must (refine wp_append1 encI_len encI_one rfl _ _ 25 rfl Tryd.underlying25 _ 8 info3 rfl (by decide) (k : Int) rfl rfl HO1.out HB1.out HB1.out.size (by have := wUpto_len l k; simp [ints]; omega) (fun v1 w2 H => ?_))))
        go_roundg (n - (k + 1))
        case measure => have := HA.out.1; omega
        case rel => exact ⟨k + 1, by omega, by go_num, rfl, H.out.2.1, by rw [wUpto_succ_yes HW.out, ints, List.map_append]; exact H.out.1⟩
    · go_wp2
      go_ret
      exact ⟨⟨_, rfl, by have h := HA.out.2; rw [show k = l.length by omega] at h; exact h.bs⟩, bs_old HB.out⟩
end Go.Proofs.YtcpglghklmfbcaaDoor.T
