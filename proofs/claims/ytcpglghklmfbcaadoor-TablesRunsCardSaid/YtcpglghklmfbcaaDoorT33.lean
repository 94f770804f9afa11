import Derived.Test.YtcpglghklmfbcaaDoorT32
namespace Go.Proofs.YtcpglghklmfbcaaDoor.T
open Go Go.RowKit Go.Proofs.YtcpglghklmfbcaaDoor.M Go.Proofs.YtcpglghklmfbcaaDoor.R
set_option linter.unusedVariables false
set_option linter.unusedSimpArgs false

set_option maxHeartbeats 1000000 in
set_option maxRecDepth 100000 in
/-- 'Same' of equal copies. -/
theorem Same_calls (A A' : Option Addr) (n n' c c' : Nat) (l : Cop) (w : World) (hn : n = l.length) (hn' : n' = l.length) (hR : Row2 encS 3 w A l) (hR' : Row2 encS 3 w A' l) :
    Calls Tryd.prog 27 #[.agg #[.slice A n c], .agg #[.slice A' n' c']] w fun e w' => e = .returned (.bool true) ∧ Below w.heap.size w w' := by
  have HR := Lib.hid hR
  have HR' := Lib.hid hR'
  have HN := Lib.hid hn
  have hbig := hR.1
  have hnn : n' = n := by omega
  have hbn : n ≤ 9223372036854775807 := by omega
  subst hnn
  clear hR hR' hn hn' hbig
  go_enter Tryd.func27, Tryd.ntmps27
  go_wp2
  go_loopg [5] n' (fun g i wr => ∃ k : Nat, k ≤ n' ∧ i = .int .i64 k ∧ g = n' - k ∧ Gr (bs2 w (.slice A n' c) 24 (.slice A' n' c') 24) wr)
  case atStart => exact ⟨0, Nat.zero_le _, rfl, rfl, Gr.refl _⟩
  case round =>
    obtain ⟨k, hk, rfl, hg, hB⟩ := hrel
    have HG := Lib.hid hg
    have HB := Lib.hid hB
    have hbox := bs2_box hB
    have hbox2 := bs2_box2 hB
    clear hg hB
    by_cases hlt : k < n'
    · have hkl : k < l.length := by have := HN.out; omega
      obtain ⟨b1, o1, A1, c1, rfl, h1, h1c, h1r⟩ := (HR.out.below (bs2_old HB.out)).at (sl_get hkl)
      obtain ⟨b2, o2, A2, c2, rfl, h2, h2c, h2r⟩ := (HR'.out.below (bs2_old HB.out)).at (sl_get hkl)
      have HK := Lib.hid (And.intro h1r h2r)
      have hsb := h1r.1
      clear h1c h2c h1r h2r hkl
      generalize sl l k = S at *
      go_wp2_with (fail)
      go_quiet (fail)
      go_wp2_with (fail)
      obtain ⟨wb, rfl⟩ : ∃ wb, wb = wr := ⟨_, rfl⟩
      have hlt1 := World.block_lt_of_cell? wb _ h1
      have hlt2 := World.block_lt_of_cell? wb _ h2
      have hw0 : w.heap.size < wb.heap.size := World.block_lt_of_cell? wb _ hbox
      have hw1 : w.heap.size + 1 < wb.heap.size := World.block_lt_of_cell? wb _ hbox2
      go_loopg [6] S.length (fun g i wq => ∃ j : Nat, j ≤ S.length ∧ i = .int .i64 j ∧ g = S.length - j ∧ Gr wb wq)
      case atStart => exact ⟨0, Nat.zero_le _, rfl, rfl, (Gr.refl wb).drew _⟩
      case round =>
        obtain ⟨j, hj, rfl, hgj, hBj⟩ := hrel
        have HGJ := Lib.hid hgj
        have HBJ := Lib.hid hBj
        have e0 := (hBj.cell (p := ⟨w.heap.size, 0, none⟩) hw0).trans hbox
        have e1 := (hBj.cell (p := ⟨w.heap.size + 1, 0, none⟩) hw1).trans hbox2
        have e2 := (hBj.cell (p := ⟨_, _, none⟩) hlt1).trans h1
        have e3 := (hBj.cell (p := ⟨_, _, none⟩) hlt2).trans h2
        clear hgj hBj
        by_cases hlj : j < S.length
        · obtain ⟨b3, o3, rfl, hb3, x0, x1, x2⟩ := RowS.at (HK.out.1.below HBJ.out) hlj
          obtain ⟨b4, o4, rfl, hb4, y0, y1, y2⟩ := RowS.at (HK.out.2.below HBJ.out) hlj
          generalize S[j] = X at *
          go_wp2_with (fail)
          go_quiet (fail)
          go_wp2_with (fail)
          go_roundg (S.length - (j + 1))
          case measure => have := HGJ.out; omega
          case rel => exact ⟨j + 1, by omega, by go_num, rfl, HBJ.out.drew _⟩
        · go_wp2_with (fail)
          go_roundg (n' - (k + 1))
          case measure => have := HG.out; omega
          case rel => exact ⟨k + 1, by omega, by go_num, rfl, HB.out.step HBJ.out⟩
    · go_wp2
      go_ret
      exact ⟨rfl, bs2_old HB.out⟩
end Go.Proofs.YtcpglghklmfbcaaDoor.T
