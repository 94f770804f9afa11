import Derived.Test.YtcpglghklmfbcaaDoorT28
namespace Go.Proofs.YtcpglghklmfbcaaDoor.T
open Go Go.RowKit Go.Proofs.YtcpglghklmfbcaaDoor.M Go.Proofs.YtcpglghklmfbcaaDoor.R
set_option linter.unusedVariables false
set_option linter.unusedSimpArgs false

theorem newer19 (a b : Int) (w : World) (h1 : 0 ≤ a) (h2 : a ≤ 63) (h3 : 0 ≤ b) (h4 : b ≤ 63) : Calls Tryd.prog 19 #[.int .i64 a, .int .i64 b] w fun e w' => e = .returned (.tuple #[.bool (newerB a b), .int .i64 0]) ∧ w = w' := by
  have h := gNewer_calls a b w
  rwa [show within a 0 63 = true by simp [within]; omega, show within b 0 63 = true by simp [within]; omega] at h
theorem newer_self (a : Int) : newerB a a = false := by simp [newerB]
theorem newer_anti (a b : Int) (h : newerB a b = true) : newerB b a = false := by
  simp only [newerB, decide_eq_true_eq, decide_eq_false_iff_not] at h ⊢
  omega
theorem newer_shift (a b c : Int) : newerB ((a + c) % 64) ((b + c) % 64) = newerB a b := by
  unfold newerB
  congr 1
  apply propext
  omega
theorem newer_trans (a b c : Int) (h1 : newerB a b = true) (h2 : newerB b c = true) (h : (a - b + 64) % 64 + (b - c + 64) % 64 < 32) : newerB a c = true := by
  simp only [newerB, decide_eq_true_eq] at h1 h2 ⊢
  omega

set_option maxHeartbeats 4000000 in
set_option maxRecDepth 100000 in
theorem TablesOrder_calls (a b c : Int) (w : World) (hbad : IsBad w) : Calls Tryd.prog 4 #[.int .i64 a, .int .i64 b, .int .i64 c] w fun e w' => e = .returned (.bool true) ∧ Below w.heap.size w w' := by
  have HB := Lib.hid hbad
  clear hbad
  by_cases a1 : a < 0
  · go_enter Tryd.func4, Tryd.ntmps4
    go_wp2_with (go_at_call 11; refine (works_calls _ HB.out).mono ?_; rintro e w1 ⟨rfl, hb⟩)
    go_ret
    exact ⟨rfl, hb⟩
  by_cases a2 : 64 ≤ a
  · go_enter Tryd.func4, Tryd.ntmps4
    go_wp2_with (go_at_call 11; refine (works_calls _ HB.out).mono ?_; rintro e w1 ⟨rfl, hb⟩)
    go_ret
    exact ⟨rfl, hb⟩
  by_cases b1 : b < 0
  · go_enter Tryd.func4, Tryd.ntmps4
    go_wp2_with (go_at_call 11; refine (works_calls _ HB.out).mono ?_; rintro e w1 ⟨rfl, hb⟩)
    go_ret
    exact ⟨rfl, hb⟩
  by_cases b2 : 64 ≤ b
  · go_enter Tryd.func4, Tryd.ntmps4
    go_wp2_with (go_at_call 11; refine (works_calls _ HB.out).mono ?_; rintro e w1 ⟨rfl, hb⟩)
    go_ret
    exact ⟨rfl, hb⟩
  by_cases c1 : c < 0
  · go_enter Tryd.func4, Tryd.ntmps4
    go_wp2_with (go_at_call 11; refine (works_calls _ HB.out).mono ?_; rintro e w1 ⟨rfl, hb⟩)
    go_ret
    exact ⟨rfl, hb⟩
  by_cases c2 : 64 ≤ c
  · go_enter Tryd.func4, Tryd.ntmps4
    go_wp2_with (go_at_call 11; refine (works_calls _ HB.out).mono ?_; rintro e w1 ⟨rfl, hb⟩)
    go_ret
    exact ⟨rfl, hb⟩
  have hs := newer_self a
  have ha := newer_anti a b
  have hv := newer_shift a b c
  have ht := newer_trans a b c
  rcases x : newerB a b with _ | _
  all_goals rcases y : newerB b a with _ | _
  all_goals rcases z : newerB b c with _ | _
  all_goals rcases q : newerB a c with _ | _
  all_goals by_cases hn : (a - b + 64) % 64 + (b - c + 64) % 64 < 32
  all_goals rw [x] at hv
  all_goals first
    | (exfalso; have := ha x; rw [y] at this; cases this; done)
    | (exfalso; have := ht x z hn; rw [q] at this; cases this; done)
    | (have HX := Lib.hid (And.intro hs hv)
       clear hs hv ha ht
       go_enter Tryd.func4, Tryd.ntmps4
       go_wp2_with (first
         | (go_at_call 19; refine (newer19 _ _ _ (by omega) (by omega) (by omega) (by omega)).mono ?_; rintro e w1 ⟨rfl, rfl⟩; first | rw [HX.out.1] | rw [HX.out.2] | rw [x] | rw [y] | rw [z] | rw [q])
         | (go_at_call 11; refine (works_calls _ HB.out).mono ?_; rintro e w1 ⟨rfl, hb⟩))
       go_ret
       exact ⟨rfl, hb⟩)
end Go.Proofs.YtcpglghklmfbcaaDoor.T
