import Derived.Test.YtcpglghklmfbcaaDoorT1
namespace Go.Proofs.YtcpglghklmfbcaaDoor.T
open Go Go.RowKit Go.Proofs.YtcpglghklmfbcaaDoor.M Go.Proofs.YtcpglghklmfbcaaDoor.R
set_option linter.unusedVariables false
set_option linter.unusedSimpArgs false
theorem info3 : (Tryd.prog.info? 3).map (fun i => (i.zero, i.size, i.bytes)) = some (some (.int .i64 0), 1, 8) := by kernel_rfl

theorem tab_len (l : List Sec) (k : Nat) (hk : k ≤ l.length) : (tab (l.take k)).length = k := by simp [tab]; omega
theorem tab_succ {l : List Sec} {k : Nat} (hk : k < l.length) : tab (l.take (k + 1)) = tab (l.take k) ++ [l[k].data] := by unfold tab; rw [List.take_succ_eq_append_getElem hk, List.map_append]; rfl
theorem Table_calls (A : Option Addr) (c : Nat) (l : List Sec) (w : World) (hR : Row encS 3 w A l) (hl : l.length ≤ 17592186044416) :
    Calls Tryd.prog 18 #[.slice A l.length c] w fun e w' => (∃ v, e = .returned v ∧ Own encI 1 3 w' w.heap.size v (tab l)) ∧ Below w.heap.size w w' := by
  have HR := Lib.hid hR
  clear hR
  go_enter Tryd.func18, Tryd.ntmps18
  go_wp2
  go_loopg [3, 4] l.length (fun n v i wr => ∃ k : Nat, k ≤ l.length ∧ i = .int .i64 k ∧ n = l.length - k ∧ Below w.heap.size w wr ∧ Own encI 1 3 wr w.heap.size v (tab (l.take k)))
  case atStart => exact ⟨0, Nat.zero_le _, rfl, rfl, Below.refl _ _, Own.nil⟩
  case round =>
    obtain ⟨k, hk, rfl, hn, hB, hO⟩ := hrel
    have HB := Lib.hid hB
    have HA := Lib.hid (And.intro hn hO)
    clear hB hO hn
    by_cases hlt : k < l.length
    · obtain ⟨b, off, rfl, hbl, h0, h1, h2⟩ := RowS.at (HR.out.below HB.out) hlt
      go_wp2_with (at_builtin; go_must (refine wp_append1 encI_len encI_one rfl _ _ 25 rfl Tryd.underlying25 _ 8 info3 rfl (by decide) l[k].data rfl rfl HA.out.2 HB.out HB.out.size (by rw [tab_len _ _ hk]; omega) (fun v1 w1 H => ?_)))
      go_roundg (l.length - (k + 1))
      case measure => have := HA.out.1; omega
      case rel => exact ⟨k + 1, by omega, by go_num, rfl, H.out.2.1, by rw [tab_succ hlt]; exact H.out.1⟩
    · go_wp2
      go_ret
      exact ⟨⟨_, rfl, by have h := HA.out.2; rwa [List.take_of_length_le (by omega)] at h⟩, HB.out⟩
end Go.Proofs.YtcpglghklmfbcaaDoor.T
