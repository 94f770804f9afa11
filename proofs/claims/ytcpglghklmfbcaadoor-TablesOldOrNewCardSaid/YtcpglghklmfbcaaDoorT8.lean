import Derived.Test.YtcpglghklmfbcaaDoorT7
namespace Go.Proofs.YtcpglghklmfbcaaDoor.T
open Go Go.RowKit Go.Proofs.YtcpglghklmfbcaaDoor.M Go.Proofs.YtcpglghklmfbcaaDoor.R
set_option linter.unusedVariables false
set_option linter.unusedSimpArgs false

theorem Newer_calls (a b : Int) (w : World) :
    Calls Tryd.prog 24 #[.int .i64 a, .int .i64 b] w fun e w' => e = .returned (.tuple #[.bool (within a 0 63 && within b 0 63 && newerB a b), .int .i64 (if within a 0 63 && within b 0 63 then 0 else 1)]) ∧ w = w' := by
  rcases h1 : within a 0 63 with _ | _
  · go_enter Tryd.func24, Tryd.ntmps24
    go_wp2_with (go_at_call 48; refine (within_calls _ _ _ _).mono ?_; rintro e w1 ⟨rfl, rfl⟩)
    go_ret2
    exact ⟨rbi rfl rfl, rfl⟩
  · rcases h2 : within b 0 63 with _ | _
    · go_enter Tryd.func24, Tryd.ntmps24
      go_wp2_with (go_at_call 48; refine (within_calls _ _ _ _).mono ?_; rintro e w1 ⟨rfl, rfl⟩)
      go_ret2
      exact ⟨rbi rfl rfl, rfl⟩
    · have g1 := of_decide_eq_true h1
      have g2 := of_decide_eq_true h2
      have G := Lib.hid (And.intro g1 g2)
      clear g1 g2
      go_enter Tryd.func24, Tryd.ntmps24
      go_wp2_with (first
        | (go_at_call 48; refine (within_calls _ _ _ _).mono ?_; rintro e w1 ⟨rfl, rfl⟩)
        | (go_at_call 49; refine (newer_calls _ _ _ G.out.1.1 G.out.1.2 G.out.2.1 G.out.2.2).mono ?_; rintro e w1 ⟨rfl, rfl⟩))
      go_ret2
      exact ⟨rbi rfl rfl, rfl⟩

theorem CheckMixed_calls (A : Option Addr) (n c : Nat) (l : Cop) (w : World) (hn : n = l.length) (hR : Row2 encS 3 w A l) (hs : small l) :
    Calls Tryd.prog 38 #[.agg #[.slice A n c]] w fun e w' => e = .returned (.int .i64 (checkM l)) ∧ Below w.heap.size w w' := by
  have HR := Lib.hid hR
  have HN := Lib.hid hn
  have HS := Lib.hid hs
  clear hR hn hs
  rcases h1 : okC l with _ | _
  · have e : checkE l = 100 := by simp [checkE, h1]
    have e2 : (100 : Int) = checkM l := by simp [checkM, h1]
    have HE := Lib.hid (And.intro e e2)
    clear e e2 h1
    go_enter Tryd.func38, Tryd.ntmps38
    go_wp2_with (go_at_call 23; refine (Check_calls _ _ _ l _ HN.out (HR.out.below ((Below.refl _ _).alloc (Nat.le_refl _) _)) HS.out).mono ?_; rintro e w1 ⟨rfl, hb⟩; rw [HE.out.1]; have HB := Lib.hid (show Gr (bs w (.slice A n c) 24) w1 from hb); clear hb)
    go_ret
    exact ⟨ri HE.out.2, bs_old HB.out⟩
  · have e : checkE l = 0 := by simp [checkE, h1]
    have HO := Lib.hid h1
    clear h1
    have HE := Lib.hid e
    clear e
    rcases h2 : mixed l with _ | _
    all_goals
      have e2 : checkM l = if mixed l then 101 else 0 := by simp [checkM, HO.out]
      rw [h2] at e2
      have HE2 := Lib.hid e2
      clear e2
      have HM := Lib.hid h2
      go_enter Tryd.func38, Tryd.ntmps38
      go_wp2_with (first
        | (go_at_call 23; refine (Check_calls _ _ _ l _ HN.out (HR.out.below ((Below.refl _ _).alloc (Nat.le_refl _) _)) HS.out).mono ?_; rintro e w1 ⟨rfl, hb⟩; rw [HE.out]; have HB := Lib.hid (show Gr (bs w (.slice A n c) 24) w1 from hb); have hbox := bs_box HB.out; clear hb)
        | (go_at_call 66; refine (Mixed_calls _ _ _ l _ HN.out (HR.out.below (bs_old HB.out)) HO.out).mono ?_; rintro e w2 ⟨rfl, hb⟩; have HB2 := Lib.hid (HB.out.step hb); clear hb))
      go_ret
      exact ⟨ri HE2.out.symm, bs_old HB2.out⟩

def encP (x : Pat) : List Value := [.int .i64 x.slot, .int .i64 x.part, .int .i64 x.seq, .int .i64 x.data]
theorem encP_len (x : Pat) : (encP x).length = 4 := rfl
theorem encP_one (x : Pat) : ∀ u ∈ encP x, u.oneCell' = true := by intro u hu; simp [encP] at hu; rcases hu with rfl | rfl | rfl | rfl <;> rfl
theorem info68 : (Tryd.prog.info? 68).map (fun i => (i.zero, i.size, i.bytes)) = some (some (.agg #[(.int .i64 0), (.int .i64 0), (.int .i64 0), (.int .i64 0)]), 4, 32) := by kernel_rfl
theorem patches_len (s n : Int) (t : List Int) (k : Nat) (hk : k ≤ t.length) : (patches s n (t.take k)).length = k := by simp [patches]; omega
theorem patches_succ {s n : Int} {t : List Int} {k : Nat} (hk : k < t.length) : patches s n (t.take (k + 1)) = patches s n (t.take k) ++ [⟨s, k, n, t[k]⟩] := by
  unfold patches
  rw [List.take_succ_eq_append_getElem hk, List.zipIdx_append, List.map_append, List.length_take, Nat.min_eq_left (by omega)]
  simp
theorem patches_calls (s nu : Int) (A : Option Addr) (n c : Nat) (t : List Int) (w : World) (hn : n = t.length) (hR : Row encI 1 w A t) (hl : t.length ≤ 4398046511104) :
    Calls Tryd.prog 65 #[.int .i64 s, .int .i64 nu, .slice A n c] w fun e w' => (∃ v, e = .returned v ∧ Own encP 4 68 w' w.heap.size v (patches s nu t)) ∧ Below w.heap.size w w' := by
  have HR := Lib.hid hR
  subst hn
  clear hR
  go_enter Tryd.func65, Tryd.ntmps65
  go_wp2
  go_loopg [7, 8] t.length (fun g v i wr => ∃ k : Nat, k ≤ t.length ∧ i = .int .i64 k ∧ g = t.length - k ∧ Below w.heap.size w wr ∧ Own encP 4 68 wr w.heap.size v (patches s nu (t.take k)))
  case atStart => exact ⟨0, Nat.zero_le _, rfl, rfl, Below.refl _ _, Own.nil⟩
  case round =>
    obtain ⟨k, hk, rfl, hg, hB, hO⟩ := hrel
    have HB := Lib.hid hB
    have HA := Lib.hid (And.intro hg hO)
    clear hB hO hg
    by_cases hlt : k < t.length
    · obtain ⟨b, off, rfl, hbl, h0⟩ := RowI.at (HR.out.below HB.out) hlt
      go_wp2_with (at_builtin; go_must (refine wp_append1 encP_len encP_one rfl _ _ 51 rfl Tryd.underlying51 _ 32 info68 rfl (by decide) (⟨s, (k : Int), nu, t[k]⟩ : Pat) rfl rfl HA.out.2 HB.out HB.out.size (by rw [patches_len _ _ _ _ hk]; omega) (fun v1 w1 H => ?_)))
      go_roundg (t.length - (k + 1))
      case measure => have := HA.out.1; omega
      case rel => exact ⟨k + 1, by omega, by go_num, rfl, H.out.2.1, by rw [patches_succ hlt]; exact H.out.1⟩
    · go_wp2
      go_ret
      exact ⟨⟨_, rfl, by have h := HA.out.2; rwa [List.take_of_length_le (by omega)] at h⟩, HB.out⟩
end Go.Proofs.YtcpglghklmfbcaaDoor.T
