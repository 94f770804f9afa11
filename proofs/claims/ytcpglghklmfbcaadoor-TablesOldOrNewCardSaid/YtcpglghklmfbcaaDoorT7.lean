import Derived.Test.YtcpglghklmfbcaaDoorT6
namespace Go.Proofs.YtcpglghklmfbcaaDoor.T
open Go Go.RowKit Go.Proofs.YtcpglghklmfbcaaDoor.M Go.Proofs.YtcpglghklmfbcaaDoor.R
set_option linter.unusedVariables false
set_option linter.unusedSimpArgs false

/-- Sizes of copies that a statement looks at. -/
def small (c : Cop) : Prop := c.length ≤ 20 ∧ ∀ s, s < c.length → (sl c s).length ≤ 20
theorem okC_small {c : Cop} (h : okC c = true) : small c := ⟨by have := okC_len h; omega, fun s hs => by have := okC_slot h hs; have := okC_len h; omega⟩
def slotOk (c : Cop) (l : List Sec) : Bool := l.length == parts c && l.all secOk
theorem okC_no1 {c : Cop} (h : within c.length 2 4 = false) : okC c = false := by simp [okC, h]
theorem okC_no2 {c : Cop} (h : within (parts c) 1 4 = false) : okC c = false := by simp [okC, h]
theorem okC_no3 {c : Cop} {s : Nat} (hs : s < c.length) (h : slotOk c (sl c s) = false) : okC c = false := by
  have : c.all (slotOk c) = false := by
    rw [List.all_eq_false]
    exact ⟨_, sl_mem hs, by simp [h]⟩
  have h2 : (c.all fun l => l.length == parts c && l.all secOk) = false := this
  simp [okC, h2]
theorem okC_yes {c : Cop} (h1 : within c.length 2 4 = true) (h2 : within (parts c) 1 4 = true) (h : (c.take c.length).all (slotOk c) = true) : okC c = true := by
  rw [List.take_length] at h
  have h3 : (c.all fun l => l.length == parts c && l.all secOk) = true := h
  simp [okC, h1, h2, h3]
theorem slotOk_no1 {c : Cop} {l : List Sec} (h : ((l.length : Int) != parts c) = true) : slotOk c l = false := by
  simp at h
  simp [slotOk]
  intro h2
  omega
theorem slotOk_no2 {c : Cop} {l : List Sec} {j : Nat} (hj : j < l.length) (h : secOk l[j] = false) : slotOk c l = false := by
  have : l.all secOk = false := by
    rw [List.all_eq_false]
    exact ⟨_, List.getElem_mem hj, by simp [h]⟩
  simp [slotOk, this]
theorem slotOk_yes {c : Cop} {l : List Sec} {j : Nat} (h : ((l.length : Int) != parts c) = false) (hj : ¬ j < l.length) (hj2 : (l.take j).all secOk = true) : slotOk c l = true := by
  simp at h
  rw [List.take_of_length_le (by omega)] at hj2
  simp [slotOk, hj2]
  omega
theorem all_take_succ2 {α : Type} {l : List α} {f : α → Bool} {k : Nat} {x : α} (hk : l[k]? = some x) (h : (l.take k).all f = true) (h2 : f x = true) : (l.take (k + 1)).all f = true := by
  obtain ⟨hk2, rfl⟩ := List.getElem?_eq_some_iff.1 hk
  exact all_take_succ hk2 h h2
theorem secOk_1 {x : Sec} (h : within x.seq 0 63 = false) : secOk x = false := by simp [secOk, h]
theorem secOk_2 {x : Sec} (h : within x.data 0 99 = false) : secOk x = false := by simp [secOk, h]
theorem secOk_3 {x : Sec} (hb : x.bad = true) (h : (x.seq != 0) = true) : secOk x = false := by simp at h; simp [secOk, hb, h]
theorem secOk_4 {x : Sec} (hb : x.bad = true) (h : (x.data != 0) = true) : secOk x = false := by simp at h; simp [secOk, hb, h]
theorem secOk_5 {x : Sec} (h1 : within x.seq 0 63 = true) (h2 : within x.data 0 99 = true) (hb : x.bad = false) : secOk x = true := by simp [secOk, h1, h2, hb]
theorem secOk_6 {x : Sec} (h1 : within x.seq 0 63 = true) (h2 : within x.data 0 99 = true) (h3 : (x.seq != 0) = false) (h4 : (x.data != 0) = false) : secOk x = true := by simp at h3 h4; simp [secOk, h1, h2]; exact Or.inr ⟨h3, h4⟩
theorem checkE_no {c : Cop} (h : okC c = false) : (100 : Int) = checkE c := by simp [checkE, h]
theorem checkE_yes {c : Cop} (h : okC c = true) : (0 : Int) = checkE c := by simp [checkE, h]

set_option maxHeartbeats 1000000 in
set_option maxRecDepth 100000 in
theorem Check_calls (A : Option Addr) (n c : Nat) (l : Cop) (w : World) (hn : n = l.length) (hR : Row2 encS 3 w A l) (hs : small l) :
    Calls Tryd.prog 23 #[.agg #[.slice A n c]] w fun e w' => e = .returned (.int .i64 (checkE l)) ∧ Below w.heap.size w w' := by
  have HR := Lib.hid hR
  have HS := Lib.hid hs
  have hl20 : n ≤ 20 := by have := hs.1; omega
  have HN := Lib.hid hn
  clear hR hs
  rcases h1 : within n 2 4 with _ | _
  · clear hn
    have HW := Lib.hid h1
    go_enter Tryd.func23, Tryd.ntmps23
    go_wp2_with (go_at_call 48; refine (within_calls _ _ _ _).mono ?_; rintro e w1 ⟨rfl, rfl⟩)
    go_ret
    exact ⟨ri (checkE_no (okC_no1 (by rw [← HN.out]; exact HW.out))), (Below.refl _ _).alloc (Nat.le_refl _) _⟩
  have hn0 : 0 < n := by simp [within] at h1; omega
  clear hn
  rcases h2 : within (parts l) 1 4 with _ | _
  · have HW := Lib.hid (And.intro h1 h2)
    go_enter Tryd.func23, Tryd.ntmps23
    go_wp2_with (first
      | (go_at_call 48; refine (within_calls _ _ _ _).mono ?_; rintro e w1 ⟨rfl, rfl⟩)
      | (go_at_call 30; refine (Parts_calls _ _ _ l _ HN.out (HR.out.below ((Below.refl _ _).alloc (Nat.le_refl _) _)) (by rw [← HN.out]; exact hn0)).mono ?_; rintro e w1 ⟨rfl, hb⟩; have HB := Lib.hid (show Gr (bs w (.slice A n c) 24) w1 from hb); clear hb))
    go_ret
    exact ⟨ri (checkE_no (okC_no2 h2)), bs_old HB.out⟩
  have HW := Lib.hid (And.intro h1 h2)
  go_enter Tryd.func23, Tryd.ntmps23
  go_wp2_with (first
      | (go_at_call 48; refine (within_calls _ _ _ _).mono ?_; rintro e w1 ⟨rfl, rfl⟩)
      | (go_at_call 30; refine (Parts_calls _ _ _ l _ HN.out (HR.out.below ((Below.refl _ _).alloc (Nat.le_refl _) _)) (by rw [← HN.out]; exact hn0)).mono ?_; rintro e w1 ⟨rfl, hb⟩; have HB := Lib.hid (show Gr (bs w (.slice A n c) 24) w1 from hb); clear hb))
  go_loopg [3] n (fun g i wr => ∃ k : Nat, k ≤ n ∧ i = .int .i64 k ∧ g = n - k ∧ Gr (bs w (.slice A n c) 24) wr ∧ (l.take k).all (slotOk l) = true)
  case atStart => exact ⟨0, Nat.zero_le _, rfl, rfl, HB.out, by simp⟩
  case round =>
    obtain ⟨k, hk, rfl, hg, hB, hno⟩ := hrel
    have HA := Lib.hid (And.intro hg hno)
    have HB1 := Lib.hid hB
    clear hB hg hno HB
    have hbox := bs_box HB1.out
    have hbl : w.heap.size < wr.heap.size := by have := HB1.out.size; rw [bs_size] at this; omega
    by_cases hlt : k < n
    · have hkl : k < l.length := by have := HN.out; omega
      obtain ⟨bs1, os1, Ak, ck, rfl, hs1, hs1c, hs1r⟩ := (HR.out.below (bs_old HB1.out)).at (sl_get hkl)
      have hsl := HS.out.2 k hkl
      have hbs := World.block_lt_of_cell? wr _ hs1
      have H1 := Lib.hid (And.intro hs1c (And.intro hs1r hkl))
      have hx0 : ∀ x : Gro wr, x.W.cell? ⟨w.heap.size, 0, none⟩ = some (.slice (some ⟨bs1, os1, none⟩) n c) := fun x => (x.cell _ _ hbl).trans hbox
      have hx1 : ∀ x : Gro wr, x.W.cell? ⟨bs1, os1 + k, none⟩ = some (.slice Ak (sl l k).length ck) := fun x => (x.cell _ _ hbs).trans hs1
      clear hs1c hs1r hkl hbs
      rcases hq : (((sl l k).length : Int) != parts l) with _ | _
      all_goals
        have HQ := Lib.hid hq
        go_wp2_with (fail)
        refine wp_region_gro (by kernel_rfl) (by kernel_rfl) ?_
        repeat (go_big_quiet_step ((go_at_call 30; exact Gro.calls _ (Parts_calls _ _ _ l _ HN.out ((HR.out.below (bs_old HB1.out)).below (Gro.b _)) (by rw [← HN.out]; exact hn0)))))
        refine wpQuiet_nil ?_
        intro _ hw'
        obtain ⟨x, hw''⟩ := hw'
        subst hw''
      · go_wp2_with (fail)
        go_loopg [4] (sl l k).length (fun g i wr => ∃ j : Nat, j ≤ (sl l k).length ∧ i = .int .i64 j ∧ g = (sl l k).length - j ∧ Gr (bs w (.slice (some ⟨bs1, os1, none⟩) n c) 24) wr ∧ ((sl l k).take j).all secOk = true)
        case atStart => exact ⟨0, Nat.zero_le _, rfl, rfl, HB1.out.step x.b, by simp⟩
        case round =>
          obtain ⟨j, hj, rfl, hg, hB, hno⟩ := hrel
          have HG := Lib.hid (And.intro hg hno)
          have HB2 := Lib.hid hB
          clear hB hg hno hbl hbox hs1 hx0 hx1
          have hbox := bs_box HB2.out
          obtain ⟨bs2, os2, Ak2, ck2, e2, hs2, hs2c, hs2r⟩ := (HR.out.below (bs_old HB2.out)).at (sl_get H1.out.2.2)
          cases e2
          by_cases hlt2 : j < (sl l k).length
          · obtain ⟨b3, o3, rfl, hb3, hc0, hc1, hc2⟩ := RowS.at hs2r hlt2
            have H2 := Lib.hid (And.intro hs2c hs2r)
            clear hs2c hs2r
            rcases g1 : within (sl l k)[j].seq 0 63 with _ | _
            · have G := Lib.hid (secOk_1 g1)
              go_wp2_with (go_at_call 48; refine (within_calls _ _ _ _).mono ?_; rintro e w1 ⟨rfl, rfl⟩)
              go_ret
              exact ⟨ri (checkE_no (okC_no3 H1.out.2.2 (slotOk_no2 hlt2 G.out))), bs_old (HB2.out.alloc _)⟩
            rcases g2 : within (sl l k)[j].data 0 99 with _ | _
            · have G := Lib.hid (secOk_2 g2)
              go_wp2_with (go_at_call 48; refine (within_calls _ _ _ _).mono ?_; rintro e w1 ⟨rfl, rfl⟩)
              go_ret
              exact ⟨ri (checkE_no (okC_no3 H1.out.2.2 (slotOk_no2 hlt2 G.out))), bs_old (HB2.out.alloc _)⟩
            rcases gb : (sl l k)[j].bad with _ | _
            · have G := Lib.hid (secOk_5 g1 g2 gb)
              go_wp2_with (go_at_call 48; refine (within_calls _ _ _ _).mono ?_; rintro e w1 ⟨rfl, rfl⟩)
              go_roundg ((sl l k).length - (j + 1))
              case measure => have := HG.out.1; omega
              case rel => exact ⟨j + 1, by omega, by go_num, rfl, HB2.out.alloc _, all_take_succ hlt2 HG.out.2 G.out⟩
            rcases g3 : ((sl l k)[j].seq != 0) with _ | _
            rotate_left
            · have G := Lib.hid (secOk_3 gb g3)
              go_wp2_with (go_at_call 48; refine (within_calls _ _ _ _).mono ?_; rintro e w1 ⟨rfl, rfl⟩)
              go_ret
              exact ⟨ri (checkE_no (okC_no3 H1.out.2.2 (slotOk_no2 hlt2 G.out))), bs_old (HB2.out.alloc _)⟩
            rcases g4 : ((sl l k)[j].data != 0) with _ | _
            rotate_left
            · have G := Lib.hid (secOk_4 gb g4)
              go_wp2_with (go_at_call 48; refine (within_calls _ _ _ _).mono ?_; rintro e w1 ⟨rfl, rfl⟩)
              go_ret
              exact ⟨ri (checkE_no (okC_no3 H1.out.2.2 (slotOk_no2 hlt2 G.out))), bs_old (HB2.out.alloc _)⟩
            have G := Lib.hid (secOk_6 g1 g2 g3 g4)
            go_wp2_with (go_at_call 48; refine (within_calls _ _ _ _).mono ?_; rintro e w1 ⟨rfl, rfl⟩)
            go_roundg ((sl l k).length - (j + 1))
            case measure => have := HG.out.1; omega
            case rel => exact ⟨j + 1, by omega, by go_num, rfl, HB2.out.alloc _, all_take_succ hlt2 HG.out.2 G.out⟩
          · have HE := Lib.hid (slotOk_yes HQ.out hlt2 HG.out.2)
            go_wp2_with (fail)
            go_roundg (n - (k + 1))
            case measure => have := HA.out.1; omega
            case rel => exact ⟨k + 1, by omega, by go_num, rfl, HB2.out, all_take_succ2 (sl_get H1.out.2.2) HA.out.2 HE.out⟩
      · go_wp2_with (fail)
        go_ret
        exact ⟨ri (checkE_no (okC_no3 H1.out.2.2 (slotOk_no1 HQ.out))), bs_old (HB1.out.step x.b)⟩
    · have e : okC l = true := okC_yes (by rw [← HN.out]; exact HW.out.1) HW.out.2 (by have := HA.out.2; rwa [show k = l.length by have := HN.out; omega] at this)
      have HE := Lib.hid e
      clear e
      go_wp2_with (fail)
      go_ret
      exact ⟨ri (checkE_yes HE.out), bs_old HB1.out⟩
end Go.Proofs.YtcpglghklmfbcaaDoor.T
