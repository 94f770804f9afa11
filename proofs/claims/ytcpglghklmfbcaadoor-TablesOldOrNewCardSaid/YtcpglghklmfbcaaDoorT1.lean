/- Contracts of the leaf functions of layer 10's reference and program. -/
import Derived.Test.YtcpglghklmfbcaaDoorP
import Derived.Test.YtcpglghklmfbcaaDoorM
import Derived.Test.YtcpglghklmfbcaaDoorR
import Derived.Test.YtcpglghklmfbcaaDoorProg
import Derived.Deep.LoopGhost
import Derived.Deep.QuietTactic
import Derived.Deep.RegionHeld3
import Derived.BigQuiet
import Derived.WalkLawsBesides
import Derived.WalkSpells
import Derived.Outline
namespace Go.Proofs.YtcpglghklmfbcaaDoor.T
open Go Go.RowKit Go.Proofs.YtcpglghklmfbcaaDoor.M Go.Proofs.YtcpglghklmfbcaaDoor.R
set_option linter.unusedVariables false
set_option linter.unusedSimpArgs false

def encS (x : Sec) : List Value := [.int .i64 x.seq, .int .i64 x.data, .bool x.bad]
def encI (x : Int) : List Value := [.int .i64 x]
theorem encS_len (x : Sec) : (encS x).length = 3 := rfl
theorem encI_len (x : Int) : (encI x).length = 1 := rfl
theorem encS_one (x : Sec) : ∀ u ∈ encS x, u.oneCell' = true := by intro u hu; simp [encS] at hu; rcases hu with rfl | rfl | rfl <;> rfl
theorem encI_one (x : Int) : ∀ u ∈ encI x, u.oneCell' = true := by intro u hu; simp [encI] at hu; subst hu; rfl
theorem whole_no {l : List Sec} {k : Nat} (hk : k < l.length) (h : (!l[k].bad && l[k].seq == hd l) = false) : whole l = false := by
  unfold whole
  rw [List.all_eq_false]
  exact ⟨l[k], List.getElem_mem hk, by simpa using h⟩
theorem all_take_succ {α : Type} {l : List α} {f : α → Bool} {k : Nat} (hk : k < l.length) (h : (l.take k).all f = true) (h2 : f l[k] = true) : (l.take (k + 1)).all f = true := by
  rw [List.take_succ_eq_append_getElem hk, List.all_append, h]
  simp [h2]
theorem hd_eq {l : List Sec} (h : 0 < l.length) : l[0].seq = hd l := by
  cases l with
  | nil => simp at h
  | cons x l => rfl
theorem RowS.at {w : World} {A : Option Addr} {l : List Sec} (h : Row encS 3 w A l) {k : Nat} (hk : k < l.length) : ∃ b off, A = some ⟨b, off, none⟩ ∧ b < w.heap.size ∧ w.cell? ⟨b, off + k * 3, none⟩ = some (.int .i64 l[k].seq) ∧ w.cell? ⟨b, off + k * 3 + 1, none⟩ = some (.int .i64 l[k].data) ∧ w.cell? ⟨b, off + k * 3 + 2, none⟩ = some (.bool l[k].bad) := by
  obtain ⟨b, off, e, hc⟩ := h.at (List.getElem?_eq_getElem hk)
  have h0 := hc 0 _ rfl
  exact ⟨b, off, e, World.block_lt_of_cell? w _ h0, h0, hc 1 _ rfl, hc 2 _ rfl⟩

theorem Whole_calls (A : Option Addr) (c : Nat) (l : List Sec) (w : World) (hR : Row encS 3 w A l) :
    Calls Tryd.prog 17 #[.slice A l.length c] w fun e w' => e = .returned (.bool (whole l)) ∧ Below w.heap.size w w' := by
  have HR := Lib.hid hR
  have hlen := hR.1
  clear hR
  go_enter Tryd.func17, Tryd.ntmps17
  go_wp2
  go_loopg [3] l.length (fun n i wr => ∃ k : Nat, k ≤ l.length ∧ i = .int .i64 k ∧ n = l.length - k ∧ Below w.heap.size w wr ∧ (l.take k).all (fun x => !x.bad && x.seq == hd l) = true)
  case atStart => exact ⟨0, Nat.zero_le _, rfl, rfl, Below.refl _ _, by simp⟩
  case round =>
    obtain ⟨k, hk, rfl, hn, hB, hall⟩ := hrel
    have HB := Lib.hid hB
    have HA := Lib.hid (And.intro hn hall)
    clear hB hall hn
    by_cases hlt : k < l.length
    · obtain ⟨b, off, rfl, hbl, h0, h1, h2⟩ := RowS.at (HR.out.below HB.out) hlt
      obtain ⟨b', off', e', _, h3, _, _⟩ := RowS.at (HR.out.below HB.out) (show 0 < l.length by omega)
      cases e'
      rw [hd_eq] at h3
      simp only [Nat.zero_mul, Nat.add_zero] at h3
      rcases hb : l[k].bad with _ | _
      · rw [hb] at h2
        rcases hs : (l[k].seq != hd l) with _ | _
        · go_wp2
          go_quiet (fail)
          go_wp2
          go_roundg (l.length - (k + 1))
          case measure => have := HA.out.1; omega
          case rel => exact ⟨k + 1, by omega, by go_num, rfl, below_drewN HB.out _, all_take_succ hlt HA.out.2 (by simp at hs; simp [hb, hs])⟩
        · go_wp2
          go_quiet (fail)
          go_wp2
          go_ret
          exact ⟨rb (whole_no hlt (by simp at hs; simp [hb, hs])).symm, below_drewN HB.out _⟩
      · rw [hb] at h2
        go_wp2
        go_quiet (fail)
        go_wp2
        go_ret
        exact ⟨rb (whole_no hlt (by simp [hb])).symm, below_drewN HB.out _⟩
    · go_wp2
      go_ret
      exact ⟨rb (by rw [List.take_of_length_le (by omega)] at HA; exact HA.out.2.symm), HB.out⟩
end Go.Proofs.YtcpglghklmfbcaaDoor.T
