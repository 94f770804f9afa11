/- The program's Apply, step by step. -/
import Derived.Test.YtcpglghklmfbcaaDoorT32
namespace Go.Proofs.YtcpglghklmfbcaaDoor.T
open Go Go.RowKit Go.Proofs.YtcpglghklmfbcaaDoor.M Go.Proofs.YtcpglghklmfbcaaDoor.R Go.Proofs.YtcpglghklmfbcaaDoorW.PrintLast
set_option linter.unusedVariables false
set_option linter.unusedSimpArgs false

def aggP (x : Pat) : Value := .agg #[.int .i64 x.slot, .int .i64 x.part, .int .i64 x.seq, .int .i64 x.data]
theorem IndexFuncP_calls (A : Option Addr) (c : Nat) (xs : List Pat) (p : Pat → Bool) (g : Nat) (lb : Array Value) (w : World) (eg : ∀ args w, (callFunc g args).run Tryd.prog w = .ok (.enter g args) w)
    (hp : PredOk g lb aggP p xs w) (hR : Row encP 4 w A xs) (hl : xs.length ≤ 1000) :
    Calls Tryd.prog 71 #[.slice A xs.length c, .func (.func g) #[] lb] w fun e w' => e = .returned (.int .i64 (idx p xs)) ∧ Below w.heap.size w w' := by
  have HR := Lib.hid hR
  have HP := Lib.hid hp
  clear hR hp
  go_enter Tryd.func71, Tryd.ntmps71
  go_wp2
  go_loopg [8] xs.length (fun gg i wr => ∃ k : Nat, k ≤ xs.length ∧ i = .int .i64 k ∧ gg = xs.length - k ∧ Below w.heap.size w wr ∧ ∀ j x, j < k → xs[j]? = some x → p x = false)
  case atStart => exact ⟨0, Nat.zero_le _, rfl, rfl, Below.refl _ _, fun j x h => absurd h (by omega)⟩
  case round =>
    obtain ⟨k, hk, rfl, hg2, hB, hO⟩ := hrel
    have HB := Lib.hid hB
    have HA := Lib.hid (And.intro hg2 hO)
    clear hB hO hg2
    by_cases hlt : k < xs.length
    · obtain ⟨b3, off3, rfl, hbl, h4, h5, h6, h7⟩ := RowP.at (HR.out.below HB.out) hlt
      rcases hq : p xs[k] with _ | _
      · have HQ := Lib.hid hq
        go_wp2_with (go_at_fn g; refine (HP.out wr xs[k] (List.getElem_mem hlt) HB.out).mono ?_; rintro e w1 ⟨rfl, hb⟩; rw [HQ.out]; have HB1 := Lib.hid hb; clear hb)
        go_roundg (xs.length - (k + 1))
        case measure => have := HA.out.1; omega
        case rel => exact ⟨k + 1, by omega, by go_num, rfl, HB1.out, none_succ HA.out.2 (List.getElem?_eq_getElem hlt) HQ.out⟩
      · have HQ := Lib.hid hq
        go_wp2_with (go_at_fn g; refine (HP.out wr xs[k] (List.getElem_mem hlt) HB.out).mono ?_; rintro e w1 ⟨rfl, hb⟩; rw [HQ.out]; have HB1 := Lib.hid hb; clear hb)
        go_ret
        exact ⟨ri (idx_hit hlt HA.out.2 HQ.out).symm, HB1.out⟩
    · go_wp2
      go_ret
      exact ⟨ri (idx_miss (fun j x hj hx => HA.out.2 j x (by omega) hx)).symm, HB.out⟩
theorem ContainsFuncP_calls (A : Option Addr) (c : Nat) (xs : List Pat) (p : Pat → Bool) (g : Nat) (lb : Array Value) (w : World) (eg : ∀ args w, (callFunc g args).run Tryd.prog w = .ok (.enter g args) w)
    (hp : PredOk g lb aggP p xs w) (hR : Row encP 4 w A xs) (hl : xs.length ≤ 1000) :
    Calls Tryd.prog 61 #[.slice A xs.length c, .func (.func g) #[] lb] w fun e w' => e = .returned (.bool (xs.any p)) ∧ Below w.heap.size w w' := by
  rw [← idx_any]
  have hc := IndexFuncP_calls A c xs p g lb w eg hp hR hl
  clear hp hR
  generalize idx p xs = r at hc ⊢
  go_enter Tryd.func61, Tryd.ntmps61
  go_wp2_with (go_at_call 71; refine hc.mono ?_; rintro e w1 ⟨rfl, hb⟩)
  go_ret
  exact ⟨rfl, hb⟩
theorem patOk_1 {c : Cop} {a b d e : Int} (h : within a 0 (c.length - 1) = false) : patOk c ⟨a, b, d, e⟩ = false := by simp [patOk, h]
theorem patOk_2 {c : Cop} {a b d e : Int} (h : within a 0 (c.length - 1) = true) (h2 : within b 0 (parts c - 1) = false) : patOk c ⟨a, b, d, e⟩ = false := by simp [patOk, h, h2]
theorem patOk_3 {c : Cop} {a b d e : Int} (h : within a 0 (c.length - 1) = true) (h2 : within b 0 (parts c - 1) = true) (h3 : within d 0 63 = false) : patOk c ⟨a, b, d, e⟩ = false := by simp [patOk, h, h2, h3]
theorem patOk_4 {c : Cop} {a b d e : Int} {r : Bool} (h : within a 0 (c.length - 1) = true) (h2 : within b 0 (parts c - 1) = true) (h3 : within d 0 63 = true) (h4 : within e 0 99 = r) : patOk c ⟨a, b, d, e⟩ = r := by simp [patOk, h, h2, h3, h4]

set_option maxHeartbeats 1000000 in
set_option maxRecDepth 100000 in
/-- 'patch'. -/
theorem patch_calls (b o n c c0 B : Nat) (A0 : Option Addr) (l : Cop) (a q d e : Int) (w : World) (hn : n = l.length) (hn4 : 2 ≤ n ∧ n ≤ 4) (hp4 : 1 ≤ parts l ∧ parts l ≤ 4) (h0 : w.cell? ⟨B, 0, none⟩ = some (.slice (some ⟨b, o, none⟩) n c)) (h1 : w.cell? ⟨b, o, none⟩ = some (.slice A0 (parts l) c0)) :
    Calls Tryd.prog 60 #[.agg #[.int .i64 a, .int .i64 q, .int .i64 d, .int .i64 e], .pointer (some ⟨B, 0, none⟩)] w fun en w' => en = .returned (.bool (patOk l ⟨a, q, d, e⟩)) ∧ Below w.heap.size w w' := by
  have hB := World.block_lt_of_cell? w _ h0
  have hb := World.block_lt_of_cell? w _ h1
  simp only at hB hb
  have hx0 : ∀ x : Gro (w.alloc (.cells #[.int .i64 a, .int .i64 q, .int .i64 d, .int .i64 e] 68)), x.W.cell? ⟨w.heap.size, 0, none⟩ = some (.int .i64 a) := fun x => (x.cell _ _ (by simp)).trans (by simp)
  have hx1 : ∀ x : Gro (w.alloc (.cells #[.int .i64 a, .int .i64 q, .int .i64 d, .int .i64 e] 68)), x.W.cell? ⟨w.heap.size, 1, none⟩ = some (.int .i64 q) := fun x => (x.cell _ _ (by simp)).trans (by simp)
  have hx2 : ∀ x : Gro (w.alloc (.cells #[.int .i64 a, .int .i64 q, .int .i64 d, .int .i64 e] 68)), x.W.cell? ⟨w.heap.size, 2, none⟩ = some (.int .i64 d) := fun x => (x.cell _ _ (by simp)).trans (by simp)
  have hx3 : ∀ x : Gro (w.alloc (.cells #[.int .i64 a, .int .i64 q, .int .i64 d, .int .i64 e] 68)), x.W.cell? ⟨w.heap.size, 3, none⟩ = some (.int .i64 e) := fun x => (x.cell _ _ (by simp)).trans (by simp)
  have hx4 : ∀ x : Gro (w.alloc (.cells #[.int .i64 a, .int .i64 q, .int .i64 d, .int .i64 e] 68)), x.W.cell? ⟨B, 0, none⟩ = some (.slice (some ⟨b, o, none⟩) n c) := fun x => (x.cell _ _ (by simp; omega)).trans ((World.cell?_alloc_lt _ _ ⟨B, 0, none⟩ hB).trans h0)
  have hx5 : ∀ x : Gro (w.alloc (.cells #[.int .i64 a, .int .i64 q, .int .i64 d, .int .i64 e] 68)), x.W.cell? ⟨b, o, none⟩ = some (.slice A0 (parts l) c0) := fun x => (x.cell _ _ (by simp; omega)).trans ((World.cell?_alloc_lt _ _ ⟨b, o, none⟩ hb).trans h1)
  obtain ⟨m, hm⟩ : ∃ m, m = parts l := ⟨_, rfl⟩
  have HQ : Hid (patOk l ⟨a, q, d, e⟩ = (within a 0 (n - 1) && within q 0 (m - 1) && within d 0 63 && within e 0 99)) := Lib.hid (by rw [patOk, hn, hm])
  rw [← hm] at hp4 hx5
  rw [HQ.out]
  clear hn hm h1 h0 hb hB
  have H1 := Lib.hid (fun w => gwithin_calls a 0 ((n : Int) - 1) w)
  have H2 := Lib.hid (fun w => gwithin_calls q 0 ((m : Int) - 1) w)
  have H3 := Lib.hid (fun w => gseq_calls d w)
  have H4 := Lib.hid (fun w => gdatum_calls e w)
  generalize within a 0 ((n : Int) - 1) = e1 at *
  generalize within q 0 ((m : Int) - 1) = e2 at *
  generalize within d 0 63 = e3 at *
  generalize within e 0 99 = e4 at *
  clear HQ
  rcases e1 with _ | _
  rotate_left
  rcases e2 with _ | _
  rotate_left
  rcases e3 with _ | _
  rotate_left
  rcases e4 with _ | _
  all_goals
    go_enter Tryd.func60, Tryd.ntmps60
    go_wp2
    refine wp_region_gro (by kernel_rfl) (by kernel_rfl) ?_
    repeat (go_big_quiet_step (first
      | (go_at_call_of 46 a; exact Gro.calls_same _ (H1.out _))
      | (go_at_call 46; exact Gro.calls_same _ (H2.out _))
      | (go_at_call 44; exact Gro.calls_same _ (H3.out _))
      | (go_at_call 47; exact Gro.calls_same _ (H4.out _))))
    refine wpQuiet_nil ?_
    intro _ hw'
    obtain ⟨x, hw''⟩ := hw'
    subst hw''
    go_wp2
    go_ret
    exact ⟨rfl, ((Gr.refl w).alloc _).step x.b⟩
/-- What 'Apply' hands to ContainsFunc. -/
theorem notPatchP (b o n c c0 B D : Nat) (A0 : Option Addr) (l : Cop) (ps : List Pat) (w : World) (hn : n = l.length) (hn4 : 2 ≤ n ∧ n ≤ 4) (hp4 : 1 ≤ parts l ∧ parts l ≤ 4) (h0 : w.cell? ⟨B, 0, none⟩ = some (.slice (some ⟨b, o, none⟩) n c)) (h1 : w.cell? ⟨b, o, none⟩ = some (.slice A0 (parts l) c0))
    (h2 : w.cell? ⟨D, 0, none⟩ = some (.func (.func 60) #[] #[.pointer (some ⟨B, 0, none⟩)])) :
    PredOk 62 #[.pointer (some ⟨D, 0, none⟩)] aggP (fun x => !patOk l x) ps w := fun W x _ hb => by
  have g0 := (hb.cell (World.block_lt_of_cell? w _ h0)).trans h0
  have g1 := (hb.cell (World.block_lt_of_cell? w _ h1)).trans h1
  have g2 := (hb.cell (World.block_lt_of_cell? w _ h2)).trans h2
  have HB := Lib.hid hb
  obtain ⟨a, q, d, e⟩ := x
  have HN := Lib.hid (And.intro hn (And.intro hn4 hp4))
  have HG := Lib.hid (show ∀ W', Gr W W' → W'.cell? ⟨B, 0, none⟩ = some (.slice (some ⟨b, o, none⟩) n c) ∧ W'.cell? ⟨b, o, none⟩ = some (.slice A0 (parts l) c0) from fun W' h => ⟨(h.cell (World.block_lt_of_cell? W _ g0)).trans g0, (h.cell (World.block_lt_of_cell? W _ g1)).trans g1⟩)
  clear h0 h1 h2 g0 g1 hb hn hn4 hp4
  show Calls Tryd.prog 62 #[.agg #[.int .i64 a, .int .i64 q, .int .i64 d, .int .i64 e], .pointer (some ⟨D, 0, none⟩)] W _
  have hDW := World.block_lt_of_cell? W _ g2
  simp only at hDW
  have g3 : (W.alloc (.cells #[.int .i64 a, .int .i64 q, .int .i64 d, .int .i64 e] 68)).cell? ⟨D, 0, none⟩ = some (.func (.func 60) #[] #[.pointer (some ⟨B, 0, none⟩)]) := (World.cell?_alloc_lt _ _ ⟨D, 0, none⟩ hDW).trans g2
  have eg := enters_of Tryd.func60 (by kernel_rfl) rfl
  go_enter Tryd.func62, Tryd.ntmps62
  go_wp2_with (go_at_call 60; refine (patch_calls b o n c c0 B A0 l a q d e _ HN.out.1 HN.out.2.1 HN.out.2.2 (HG.out _ ((Gr.refl W).alloc _)).1 (HG.out _ ((Gr.refl W).alloc _)).2).mono ?_; rintro en w1 ⟨rfl, hb⟩; have HB1 := Lib.hid (((Gr.refl W).alloc _).step hb); clear hb)
  go_ret
  exact ⟨rfl, HB.out.trans (Below.mono HB1.out HB.out.size)⟩
end Go.Proofs.YtcpglghklmfbcaaDoor.T
