import Derived.Test.YtcpglghklmfbcaaDoorT29
namespace Go.Proofs.YtcpglghklmfbcaaDoor.T
open Go Go.RowKit Go.Proofs.YtcpglghklmfbcaaDoor.M Go.Proofs.YtcpglghklmfbcaaDoor.R
set_option linter.unusedVariables false
set_option linter.unusedSimpArgs false

/-- 'recovered' where there is a table. -/
theorem recovered_calls (A : Option Addr) (n c : Nat) (l : Cop) (t : List Int) (s : Nat) (w : World) (hn : n = l.length) (hR : Row2 encS 3 w A l) (hs : small l) (hbad : IsBad w) (hr : recover l = (t, (s : Int), 0)) (ht : t.length = parts l) (hsl : s < l.length) :
    Calls Tryd.prog 15 #[.agg #[.slice A n c]] w fun e w' => (∃ v, e = .returned (.tuple #[v, .bool true]) ∧ Own encI 1 3 w' w.heap.size v t) ∧ Below w.heap.size w w' := by
  have HR := Lib.hid hR
  have HN := Lib.hid hn
  have hrec := gRecover_calls A n c l (bs w (.slice A n c) 24) hn (hR.below (bs_old (Gr.refl _))) hs (hbad.below (bs_old (Gr.refl (bs w (.slice A n c) 24))) hbad.lt)
  rw [hr] at hrec
  have HREC := Lib.hid hrec
  have HT := Lib.hid ht
  have hsn : s < n := by omega
  have hl0 : 0 < l.length := by omega
  have HL0 := Lib.hid hl0
  have hp20 : parts l ≤ 20 := by
    have h1 := hs.2 0 hl0
    have e : parts l = (sl l 0).length := by cases l with | nil => simp at hl0 | cons a b => rfl
    omega
  have hn20 : n ≤ 20 := by have := hs.1; omega
  clear hR hn hs hbad hr ht hsl hrec hl0
  go_enter Tryd.func15, Tryd.ntmps15
  go_wp2_with (go_at_call 12; refine HREC.out.mono ?_; rintro e w2 ⟨⟨v, rfl, hO⟩, hb⟩; obtain ⟨A1, c1, rfl, hr1, hc1⟩ := hO.row encI_len; rw [HT.out]; have HO := Lib.hid hO; have HB := Lib.hid (show Gr (bs w (.slice A n c) 24) w2 from hb); have hbox := bs_box hb; clear hO hb hr1 hc1)
  have hbl : w.heap.size < w2.heap.size := by have := HB.out.size; rw [bs_size] at this; omega
  have hx0 : ∀ x : Gro w2, x.W.cell? ⟨w.heap.size, 0, none⟩ = some (.slice A n c) := fun x => (x.cell _ _ hbl).trans hbox
  refine wp_region_gro (by kernel_rfl) (by kernel_rfl) ?_
  repeat (go_big_quiet_step ((go_at_call 30; exact Gro.calls _ (Parts_calls _ _ _ l _ HN.out ((HR.out.below (bs_old HB.out)).below (Gro.b _)) HL0.out))))
  refine wpQuiet_nil ?_
  intro _ hw'
  obtain ⟨x, hw''⟩ := hw'
  subst hw''
  go_wp2
  go_ret2
  have hO2 := HO.out.below x.b
  rw [HT.out] at hO2
  exact ⟨⟨_, rfl, hO2.bs⟩, (bs_old HB.out).step x.b⟩
end Go.Proofs.YtcpglghklmfbcaaDoor.T
