/- The document's ArePatches, step by step. -/
import Derived.Test.YtcpglghklmfbcaaDoorT36
namespace Go.Proofs.YtcpglghklmfbcaaDoor.T
open Go Go.RowKit Go.Proofs.YtcpglghklmfbcaaDoor.M Go.Proofs.YtcpglghklmfbcaaDoor.R
set_option linter.unusedVariables false
set_option linter.unusedSimpArgs false

theorem are_not {l : Cop} {ps : List Pat} {k : Nat} (hk : k < ps.length) (h : patOk l ps[k] = false) : arePatches l ps = false := by
  have : ps.all (patOk l) = false := List.all_eq_false.2 ⟨_, List.getElem_mem hk, by rw [h]; simp⟩
  rw [arePatches, this, Bool.false_and]
theorem are_end {l : Cop} {ps : List Pat} (h : ((ps.take ps.length).all (patOk l)) = true) : arePatches l ps = decide (ps.length ≤ 64) := by
  rw [List.take_length] at h
  rw [arePatches, h, Bool.true_and]

set_option maxHeartbeats 2000000 in
set_option maxRecDepth 100000 in
theorem ArePatches_calls (A Ap : Option Addr) (n c cp : Nat) (l : Cop) (ps : List Pat) (w : World) (hn : n = l.length) (hR : Row2 encS 3 w A l) (hRp : Row encP 4 w Ap ps) (hok : okC l = true) :
    Calls Tryd.prog 31 #[.agg #[.slice A n c], .slice Ap ps.length cp] w fun e w' => e = .returned (.bool (arePatches l ps)) ∧ Below w.heap.size w w' := by
  have HN := Lib.hid hn
  have HR := Lib.hid hR
  have HRP := Lib.hid hRp
  have hln := okC_len hok
  have hl0 : 0 < l.length := by omega
  have HL0 := Lib.hid hl0
  have hn4 : 2 ≤ n ∧ n ≤ 4 := by omega
  have hp4 : 1 ≤ parts l ∧ parts l ≤ 4 := by omega
  have hbig := hRp.1
  obtain ⟨m, hm⟩ : ∃ m, m = parts l := ⟨_, rfl⟩
  have HM := Lib.hid hm
  rw [← hm] at hp4
  clear hn hR hRp hok hl0 hln hm
  go_enter Tryd.func31, Tryd.ntmps31
  go_wp2
  go_loopg [5] ps.length (fun g i wr => ∃ k : Nat, k ≤ ps.length ∧ i = .int .i64 k ∧ g = ps.length - k ∧ Gr (bs w (.slice A n c) 24) wr ∧ ((ps.take k).all (patOk l)) = true)
  case atStart => exact ⟨0, Nat.zero_le _, rfl, rfl, Gr.refl _, rfl⟩
  case round =>
    obtain ⟨k, hk, rfl, hg, hB, hall⟩ := hrel
    have HG := Lib.hid (And.intro hg (And.intro hB hall))
    have hbox := bs_box hB
    clear hg hB hall
    by_cases hlt : k < ps.length
    · obtain ⟨b3, off3, rfl, hbl, h4, h5, h6, h7⟩ := RowP.at (HRP.out.below (bs_old HG.out.2.1)) hlt
      have HP := Lib.hid (show patOk l ps[k] = (within ps[k].slot 0 (n - 1) && within ps[k].part 0 (m - 1) && within ps[k].seq 0 63 && within ps[k].data 0 99) by rw [patOk, HN.out, HM.out])
      have HAS := Lib.hid (all_succ (f := patOk l) hlt)
      have HAN := Lib.hid (fun h => are_not (l := l) hlt h)
      generalize ps[k] = p at *
      obtain ⟨a, q, d, e⟩ := p
      simp only at h4 h5 h6 h7
      have H1 := Lib.hid (fun w => within_calls a 0 ((n : Int) - 1) w)
      have H2 := Lib.hid (fun w => within_calls q 0 ((m : Int) - 1) w)
      have H3 := Lib.hid (fun w => within_calls d 0 63 w)
      have H4 := Lib.hid (fun w => within_calls e 0 99 w)
      have HPC := Lib.hid (show ∀ x : Gro wr, Calls Tryd.prog 30 #[.agg #[.slice A n c]] x.W fun e w'' => e = .returned (.int .i64 m) ∧ ∃ y : Gro wr, w'' = y.W from fun x => by
        have := Gro.calls x (Parts_calls A n c l x.W HN.out ((HR.out.below (bs_old HG.out.2.1)).below x.b) HL0.out)
        rwa [← HM.out] at this)
      have hbl0 : w.heap.size < wr.heap.size := by have := HG.out.2.1.size; rw [bs_size] at this; omega
      have hx0 : ∀ x : Gro wr, x.W.cell? ⟨w.heap.size, 0, none⟩ = some (.slice A n c) := fun x => (x.cell _ _ hbl0).trans hbox
      have hx1 : ∀ x : Gro wr, x.W.cell? ⟨b3, off3 + k * 4, none⟩ = some (.int .i64 a) := fun x => (x.cell _ _ hbl).trans h4
      have hx2 : ∀ x : Gro wr, x.W.cell? ⟨b3, off3 + k * 4 + 1, none⟩ = some (.int .i64 q) := fun x => (x.cell _ _ hbl).trans h5
      have hx3 : ∀ x : Gro wr, x.W.cell? ⟨b3, off3 + k * 4 + 2, none⟩ = some (.int .i64 d) := fun x => (x.cell _ _ hbl).trans h6
      have hx4 : ∀ x : Gro wr, x.W.cell? ⟨b3, off3 + k * 4 + 3, none⟩ = some (.int .i64 e) := fun x => (x.cell _ _ hbl).trans h7
      simp only at HP
      clear h4 h5 h6 h7
      generalize within a 0 ((n : Int) - 1) = e1 at *
      generalize within q 0 ((m : Int) - 1) = e2 at *
      generalize within d 0 63 = e3 at *
      generalize within e 0 99 = e4 at *
      rcases e1 with _ | _
      rotate_left
      rcases e2 with _ | _
      rotate_left
      rcases e3 with _ | _
      rotate_left
      rcases e4 with _ | _
      rotate_left
      · go_wp2
        refine wp_region_gro (by kernel_rfl) (by kernel_rfl) ?_
        repeat (go_big_quiet_step (first
          | (go_at_call_of 48 a; exact Gro.calls_same _ (H1.out _))
          | (go_at_call_of 48 q; exact Gro.calls_same _ (H2.out _))
          | (go_at_call_of 48 d; exact Gro.calls_same _ (H3.out _))
          | (go_at_call 48; exact Gro.calls_same _ (H4.out _))
          | (go_at_call 30; exact HPC.out _)))
        refine wpQuiet_nil ?_
        intro _ hw'
        obtain ⟨x, hw''⟩ := hw'
        subst hw''
        go_wp2
        go_roundg (ps.length - (k + 1))
        case measure => have := HG.out.1; omega
        case rel => exact ⟨k + 1, by omega, by go_num, rfl, HG.out.2.1.step x.b, by rw [HAS.out, HG.out.2.2, HP.out]; rfl⟩
      all_goals
        go_wp2
        refine wp_region_gro (by kernel_rfl) (by kernel_rfl) ?_
        repeat (go_big_quiet_step (first
          | (go_at_call_of 48 a; exact Gro.calls_same _ (H1.out _))
          | (go_at_call_of 48 q; exact Gro.calls_same _ (H2.out _))
          | (go_at_call_of 48 d; exact Gro.calls_same _ (H3.out _))
          | (go_at_call 48; exact Gro.calls_same _ (H4.out _))
          | (go_at_call 30; exact HPC.out _)))
        refine wpQuiet_nil ?_
        intro _ hw'
        obtain ⟨x, hw''⟩ := hw'
        subst hw''
        go_wp2
        go_ret
        exact ⟨rb (HAN.out (by rw [HP.out]; rfl)).symm, (bs_old HG.out.2.1).step x.b⟩
    · have hkl : k = ps.length := by omega
      subst hkl
      have HE := Lib.hid (are_end HG.out.2.2)
      go_wp2
      go_ret
      exact ⟨rb (by rw [HE.out]; first | rfl | exact decide_eq_decide.2 (by omega)), bs_old HG.out.2.1⟩
end Go.Proofs.YtcpglghklmfbcaaDoor.T
