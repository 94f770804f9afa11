/- The program's Apply, step by step. -/
import Derived.Test.YtcpglghklmfbcaaDoorT35
import Derived.Test.YtcpglghklmfbcaaDoorV5
import Derived.Laws.EntriesVeiled
namespace Go.Proofs.YtcpglghklmfbcaaDoor.T
open Go Go.RowKit Go.Proofs.YtcpglghklmfbcaaDoor.M Go.Proofs.YtcpglghklmfbcaaDoor.R Go.Proofs.YtcpglghklmfbcaaDoorW.PrintLast
set_option linter.unusedVariables false
set_option linter.unusedSimpArgs false

/-- What Apply hands back. -/
def RetA (w : World) (r : Cop × Int) (e : Ending) (w' : World) : Prop := (∃ v vs, e = .returned (.tuple #[.agg #[v], .int .i64 r.2]) ∧ Own2 encS 3 78 41 w' w.heap.size v r.1 vs) ∧ Below w.heap.size w w'
theorem retA_err {w W : World} {v : Value} (h : Gr (bs2 w v 24 (.slice none 0 0) 24) W) (e : Int) : RetA w ([], e) (.returned (.tuple #[.agg #[.slice none 0 0], .int .i64 e])) (W.setCell ⟨w.heap.size + 1, 0, none⟩ (.slice none 0 0)) :=
  ⟨⟨_, [], rfl, Own2.nil⟩, Below.setCell (bs2_old h) (by simp) _⟩
theorem retA_err2 {w W : World} {v : Value} (h : Gr (bs2 w v 24 (.slice none 0 0) 24) W) (e : Int) (o : Obj) : RetA w ([], e) (.returned (.tuple #[.agg #[.slice none 0 0], .int .i64 e])) ((W.setCell ⟨w.heap.size + 1, 0, none⟩ (.slice none 0 0)).alloc o) :=
  ⟨⟨_, [], rfl, Own2.nil⟩, (Below.setCell (bs2_old h) (by simp) _).alloc (by simpa using (bs2_old h).size) o⟩
theorem cell_err2 {w W : World} {v : Value} (h : Gr (bs2 w v 24 (.slice none 0 0) 24) W) (o : Obj) : ((W.setCell ⟨w.heap.size + 1, 0, none⟩ (.slice none 0 0)).alloc o).cell? ⟨w.heap.size + 1, 0, none⟩ = some (.slice none 0 0) :=
  (World.cell?_alloc_lt _ _ ⟨w.heap.size + 1, 0, none⟩ (by simpa using (bs2_cell2 h).lt)).trans ((bs2_cell2 h).set (u := .slice none 0 0)).cell
theorem are_no64 {l : Cop} {ps : List Pat} (h : 64 < ps.length) : arePatches l ps = false := by
  have : decide (ps.length ≤ 64) = false := by simp; omega
  rw [arePatches, this, Bool.and_false]
theorem are_all {l : Cop} {ps : List Pat} (h : arePatches l ps = true) : (ps.all (patOk l)) = true := by
  simp only [arePatches, Bool.and_eq_true] at h
  exact h.1
theorem are_any {l : Cop} {ps : List Pat} (h : ps.length ≤ 64) : (ps.any fun x => !patOk l x) = !arePatches l ps := by
  rw [arePatches, decide_eq_true h, Bool.and_true, List.not_all_eq_any_not]

set_option maxHeartbeats 2000000 in
set_option maxRecDepth 100000 in
theorem gApply_calls (A Ap : Option Addr) (n c cp : Nat) (l : Cop) (ps : List Pat) (d : Int) (torn : Bool) (w : World) (hn : n = l.length) (hR : Row2 encS 3 w A l) (hRp : Row encP 4 w Ap ps) (hs : small l) (hl : ps.length ≤ 1000) (hcp : ps.length ≤ cp) (hbad : IsBad w) :
    Calls Tryd.prog 32 #[.agg #[.slice A n c], .slice Ap ps.length cp, .int .i64 d, .bool torn] w (RetA w (apply l ps d torn)) := by
  have HN := Lib.hid hn
  have HS := Lib.hid hs
  have HBA := Lib.hid (show ∀ W, Gr w W → IsBad W from fun W h => hbad.below h hbad.lt)
  have HRW := Lib.hid (show ∀ W, Gr w W → Row2 encS 3 W A l from fun W h => hR.below h)
  have HRP := Lib.hid (show ∀ W, Gr w W → Row encP 4 W Ap ps from fun W h => hRp.below h)
  have HLL := Lib.hid hl
  clear hn hR hRp hs hbad
  cases hok : okC l with
  | false =>
    have HE := Lib.hid (apply_100 (l := l) ps d torn hok)
    have HC := Lib.hid (show checkE l = 100 by rw [checkE, hok]; rfl)
    rw [HE.out]
    go_enter Tryd.func32, Tryd.ntmps32
    go_wp2_with (go_at_call 22; refine (gCheck_calls A n c l _ HN.out (HRW.out _ (bs2_old (Gr.refl _))) HS.out (HBA.out _ (bs2_old (Gr.refl _)))).mono ?_; rintro e w1 ⟨rfl, hb⟩; rw [HC.out]; have HB1 := Lib.hid (show Gr (bs2 w (.slice A n c) 24 (.slice none 0 0) 24) w1 from hb); have hbox2 := bs2_box2 hb; have hfr2 := bs2_free hb; have hlo2 := (bs2_cell2 hb).lt; have hres := ((bs2_cell2 hb).set (u := .slice none 0 0)).cell; clear hb)
    exact bodyPost_ret (v := .tuple #[.agg #[.slice none 0 0], .int .i64 100]) (by simp [results, Tryd.results32, go_sem, hres]) rfl (retA_err HB1.out 100)
  | true =>
    have HOK := Lib.hid hok
    have HC := Lib.hid (show checkE l = 0 by rw [checkE, hok]; rfl)
    have hln := okC_len hok
    have hl0 : 0 < l.length := by omega
    have hn4 : 2 ≤ n ∧ n ≤ 4 := by have := HN.out; omega
    have hp4 : 1 ≤ parts l ∧ parts l ≤ 4 := by omega
    obtain ⟨b, o, A0, c0, rfl, h01, h02, h03⟩ := (HRW.out w (Gr.refl w)).at (List.getElem?_eq_getElem hl0)
    have e0 : l[0].length = parts l := by cases l with | nil => simp at hl0 | cons x l => rfl
    rw [e0] at h01
    simp only [Nat.add_zero] at h01
    have h04 := World.block_lt_of_cell? w _ h01
    have HCE := Lib.hid (show ∀ W, Gr (bs2 w (.slice (some ⟨b, o, none⟩) n c) 24 (.slice none 0 0) 24) W → W.cell? ⟨w.heap.size, 0, none⟩ = some (.slice (some ⟨b, o, none⟩) n c) ∧ W.cell? ⟨b, o, none⟩ = some (.slice A0 (parts l) c0) from fun W h => ⟨bs2_box h, ((bs2_old h).cell (p := ⟨b, o, none⟩) h04).trans h01⟩)
    clear h01 h02 h03 h04 e0 hl0 hok
    by_cases h64 : 64 < ps.length
    · have HE := Lib.hid (apply_103 d torn HOK.out (are_no64 (l := l) h64))
      rw [HE.out]
      go_enter Tryd.func32, Tryd.ntmps32
      go_wp2_with (go_at_call 22; refine (gCheck_calls (some ⟨b, o, none⟩) n c l _ HN.out (HRW.out _ (bs2_old (Gr.refl _))) HS.out (HBA.out _ (bs2_old (Gr.refl _)))).mono ?_; rintro e w1 ⟨rfl, hb⟩; rw [HC.out]; have gb2 := bs2_box2 hb; have gf2 := bs2_free hb; have gl2 := (bs2_cell2 hb).lt; have HB1 := Lib.hid (show Gr (bs2 w (.slice (some ⟨b, o, none⟩) n c) 24 (.slice none 0 0) 24) w1 from hb); have hres := cell_err2 hb (.cells #[.func (.func 60) #[] #[.pointer (some ⟨w.heap.size, 0, none⟩)]] 88); clear hb)
      exact bodyPost_ret (v := .tuple #[.agg #[.slice none 0 0], .int .i64 103]) (by simp [results, Tryd.results32, go_sem, hres]) rfl (retA_err2 HB1.out 103 _)
    have hare := are_any (l := l) (ps := ps) (by omega)
    have HCON := Lib.hid (show ∀ (D : Nat) (W : World), Gr (bs2 w (.slice (some ⟨b, o, none⟩) n c) 24 (.slice none 0 0) 24) W → W.cell? ⟨D, 0, none⟩ = some (.func (.func 60) #[] #[.pointer (some ⟨w.heap.size, 0, none⟩)]) → Calls Tryd.prog 61 #[.slice Ap ps.length cp, .func (.func 62) #[] #[.pointer (some ⟨D, 0, none⟩)]] W fun e w' => e = .returned (.bool (!arePatches l ps)) ∧ Below W.heap.size W w' from fun D W h hD => by
      have hh := ContainsFuncP_calls Ap cp ps (fun x => !patOk l x) 62 #[.pointer (some ⟨D, 0, none⟩)] W (enters_of Tryd.func62 (by kernel_rfl) rfl) (notPatchP b o n c c0 w.heap.size D A0 l ps W HN.out hn4 hp4 (HCE.out _ h).1 (HCE.out _ h).2 hD) (HRP.out _ (bs2_old h)) HLL.out
      rwa [hare] at hh)
    cases hap : arePatches l ps with
    | false =>
      have HE := Lib.hid (apply_103 d torn HOK.out hap)
      rw [HE.out]
      rw [hap] at HCON
      go_enter Tryd.func32, Tryd.ntmps32
      go_wp2_with (first
        | (go_at_call 22; refine (gCheck_calls (some ⟨b, o, none⟩) n c l _ HN.out (HRW.out _ (bs2_old (Gr.refl _))) HS.out (HBA.out _ (bs2_old (Gr.refl _)))).mono ?_; rintro e w1 ⟨rfl, hb⟩; rw [HC.out]; have gb2 := bs2_box2 hb; have gf2 := bs2_free hb; have gl2 := (bs2_cell2 hb).lt; have HB1 := Lib.hid (show Gr (bs2 w (.slice (some ⟨b, o, none⟩) n c) 24 (.slice none 0 0) 24) w1 from hb); have hres := cell_err2 hb (.cells #[.func (.func 60) #[] #[.pointer (some ⟨w.heap.size, 0, none⟩)]] 88); clear hb)
        | (go_at_call 61; refine (HCON.out w1.heap.size _ (HB1.out.alloc _) (by simp)).mono ?_; rintro e w2 ⟨rfl, hb⟩; have HB2 := Lib.hid ((HB1.out.alloc (.cells #[.func (.func 60) #[] #[.pointer (some ⟨w.heap.size, 0, none⟩)]] 88)).step hb); have gb3 := bs2_box2 HB2.out; have gf3 := bs2_free HB2.out; have gl3 := (bs2_cell2 HB2.out).lt; have hres3 := ((bs2_cell2 HB2.out).set (u := .slice none 0 0)).cell; clear hb))
      exact bodyPost_ret (v := .tuple #[.agg #[.slice none 0 0], .int .i64 103]) (by simp [results, Tryd.results32, go_sem, hres3]) rfl (retA_err HB2.out 103)
    | true =>
      have HAP := Lib.hid hap
      rw [hap] at HCON
      clear hap hare
      cases hw : within d 0 ps.length with
      | false =>
        have HE := Lib.hid (apply_1 (torn := torn) HOK.out HAP.out (Or.inl hw))
        have HWI := Lib.hid (fun W => gwithin_calls d 0 ps.length W)
        rw [HE.out]
        rw [hw] at HWI
        clear hw
        go_enter Tryd.func32, Tryd.ntmps32
        go_wp2_with (first
          | (go_at_call 22; refine (gCheck_calls (some ⟨b, o, none⟩) n c l _ HN.out (HRW.out _ (bs2_old (Gr.refl _))) HS.out (HBA.out _ (bs2_old (Gr.refl _)))).mono ?_; rintro e w1 ⟨rfl, hb⟩; rw [HC.out]; have gb2 := bs2_box2 hb; have gf2 := bs2_free hb; have gl2 := (bs2_cell2 hb).lt; have HB1 := Lib.hid (show Gr (bs2 w (.slice (some ⟨b, o, none⟩) n c) 24 (.slice none 0 0) 24) w1 from hb); clear hb)
          | (go_at_call 61; refine (HCON.out w1.heap.size _ (HB1.out.alloc _) (by simp)).mono ?_; rintro e w2 ⟨rfl, hb⟩; have HB2 := Lib.hid ((HB1.out.alloc (.cells #[.func (.func 60) #[] #[.pointer (some ⟨w.heap.size, 0, none⟩)]] 88)).step hb); have gb3 := bs2_box2 HB2.out; have gf3 := bs2_free HB2.out; have gl3 := (bs2_cell2 HB2.out).lt; have hres3 := ((bs2_cell2 HB2.out).set (u := .slice none 0 0)).cell; have hbx := bs2_box HB2.out; clear hb)
          | (go_at_call 46; refine (HWI.out _).mono ?_; rintro e w' ⟨rfl, rfl⟩))
        exact bodyPost_ret (v := .tuple #[.agg #[.slice none 0 0], .int .i64 1]) (by simp [results, Tryd.results32, go_sem, hres3]) rfl (retA_err HB2.out 1)
      | true =>
        have HWI := Lib.hid (fun W => gwithin_calls d 0 ps.length W)
        rw [hw] at HWI
        simp only [within, decide_eq_true_eq] at hw
        obtain ⟨m, rfl⟩ := Int.eq_ofNat_of_zero_le hw.1
        have hK : m ≤ ps.length := by omega
        clear hw
        by_cases hte : torn = true ∧ m = ps.length
        · obtain ⟨rfl, rfl⟩ := hte
          have HE := Lib.hid (apply_1 (torn := true) (d := (ps.length : Nat)) HOK.out HAP.out (Or.inr ⟨rfl, rfl⟩))
          rw [HE.out]
          go_enter Tryd.func32, Tryd.ntmps32
          go_wp2_with (first
            | (go_at_call 22; refine (gCheck_calls (some ⟨b, o, none⟩) n c l _ HN.out (HRW.out _ (bs2_old (Gr.refl _))) HS.out (HBA.out _ (bs2_old (Gr.refl _)))).mono ?_; rintro e w1 ⟨rfl, hb⟩; rw [HC.out]; have gb2 := bs2_box2 hb; have gf2 := bs2_free hb; have gl2 := (bs2_cell2 hb).lt; have HB1 := Lib.hid (show Gr (bs2 w (.slice (some ⟨b, o, none⟩) n c) 24 (.slice none 0 0) 24) w1 from hb); clear hb)
            | (go_at_call 61; refine (HCON.out w1.heap.size _ (HB1.out.alloc _) (by simp)).mono ?_; rintro e w2 ⟨rfl, hb⟩; have HB2 := Lib.hid ((HB1.out.alloc (.cells #[.func (.func 60) #[] #[.pointer (some ⟨w.heap.size, 0, none⟩)]] 88)).step hb); have gb3 := bs2_box2 HB2.out; have gf3 := bs2_free HB2.out; have gl3 := (bs2_cell2 HB2.out).lt; have hres3 := ((bs2_cell2 HB2.out).set (u := .slice none 0 0)).cell; have hbx := bs2_box HB2.out; clear hb)
            | (go_at_call 46; refine (HWI.out _).mono ?_; rintro e w' ⟨rfl, rfl⟩))
          exact bodyPost_ret (v := .tuple #[.agg #[.slice none 0 0], .int .i64 1]) (by simp [results, Tryd.results32, go_sem, hres3]) rfl (retA_err HB2.out 1)
        · have HE := Lib.hid (apply_ok (torn := torn) HOK.out HAP.out hK (fun e => by
            have : m ≠ ps.length := fun e2 => hte ⟨e, e2⟩
            omega))
          rw [HE.out]
          have HCP := Lib.hid (show ∀ W, Gr (bs2 w (.slice (some ⟨b, o, none⟩) n c) 24 (.slice none 0 0) 24) W → Calls Tryd.prog 42 #[.agg #[.slice (some ⟨b, o, none⟩) n c]] W (RetC W l) from fun W h => copied_calls (some ⟨b, o, none⟩) n c l W HN.out (HRW.out _ (bs2_old h)) (by omega) (fun s hs => by have := okC_slot HOK.out hs; omega))
          have HTE := Lib.hid hte
          rcases torn with _ | _
          · clear hte
            go_enter Tryd.func32, Tryd.ntmps32
            go_wp2_with (first
              | (go_at_call 22; refine (gCheck_calls (some ⟨b, o, none⟩) n c l _ HN.out (HRW.out _ (bs2_old (Gr.refl _))) HS.out (HBA.out _ (bs2_old (Gr.refl _)))).mono ?_; rintro e w1 ⟨rfl, hb⟩; rw [HC.out]; have gb2 := bs2_box2 hb; have gf2 := bs2_free hb; have gl2 := (bs2_cell2 hb).lt; have HB1 := Lib.hid (show Gr (bs2 w (.slice (some ⟨b, o, none⟩) n c) 24 (.slice none 0 0) 24) w1 from hb); clear hb)
              | (go_at_call 61; refine (HCON.out w1.heap.size _ (HB1.out.alloc _) (by simp)).mono ?_; rintro e w2 ⟨rfl, hb⟩; have HB2 := Lib.hid ((HB1.out.alloc (.cells #[.func (.func 60) #[] #[.pointer (some ⟨w.heap.size, 0, none⟩)]] 88)).step hb); have hbx := bs2_box HB2.out; clear hb)
              | (go_at_call 46; refine (HWI.out _).mono ?_; rintro e w' ⟨rfl, rfl⟩)
              | (go_at_call 42; refine (HCP.out _ HB2.out).mono ?_; rintro e w3 ⟨⟨v, vs, rfl, hO⟩, hb⟩; obtain ⟨A3, c3, rfl, hrow3, hc3⟩ := hO.row2 encS_len; have H3 := Lib.hid (And.intro hO (HB2.out.step hb)); clear hO hb hrow3 hc3))
            have HVB := Lib.hid (show ∀ (j : Nat) (u : Value), vs[j]? = some u → ∀ q, u.ownBlock = some q → q < w3.heap.size from fun j u hu q hq => by
              obtain ⟨x, hx⟩ : ∃ x, l[j]? = some x := ⟨_, List.getElem?_eq_getElem (by rw [← H3.out.1.1]; exact (List.getElem?_eq_some_iff.1 hu).1)⟩
              exact ((H3.out.1.2.2.1 j x u hx hu).1.lt q hq).2)
            have HI := Lib.hid (And.intro ((H3.out.2.alloc (.cells #[.slice A3 l.length c3] 24))) (And.intro (Cell1.new w3 (.slice A3 l.length c3) 24) ((H3.out.1.mono HB2.out.size).below ((Below.refl w3.heap.size w3).alloc (Nat.le_refl _) (.cells #[.slice A3 l.length c3] 24)))))
            clear H3 HB2 hbx
            go_loopg [53] m (fun g i wr => ∃ k : Nat, k ≤ m ∧ i = .int .i64 k ∧ g = m - k ∧ Gr (bs2 w (.slice (some ⟨b, o, none⟩) n c) 24 (.slice none 0 0) 24) wr ∧ Cell1 wr w3.heap.size (.slice A3 l.length c3) 24 ∧ Own2 encS 3 78 41 wr (bs2 w (.slice (some ⟨b, o, none⟩) n c) 24 (.slice none 0 0) 24).heap.size (.slice A3 l.length c3) (patched l (ps.take k)) vs)
            case atStart => exact ⟨0, Nat.zero_le _, rfl, rfl, HI.out.1, HI.out.2.1, HI.out.2.2⟩
            case round =>
              obtain ⟨k, hk, rfl, hg, hB, hC, hO⟩ := hrel
              have HG := Lib.hid (And.intro hg (And.intro hB (And.intro hC hO)))
              clear hg hB hC hO HI
              by_cases hlt : k < m
              · have hkl : k < ps.length := by omega
                have hpo := patched_ok HOK.out (are_all HAP.out) k (by omega)
                obtain ⟨S, P, e1, e2, hS, hP, hx⟩ := patOk_spec (List.all_eq_true.1 (are_all HAP.out) _ (List.getElem_mem hkl))
                have HST := Lib.hid (patched_step (l := l) hkl)
                obtain ⟨b3, off3, rfl, hbl, h4, h5, h6, h7⟩ := RowP.at (HRP.out wr (bs2_old HG.out.2.1)) hkl
                generalize ps[k] = p at *
                obtain ⟨pS, pP, q, x⟩ := p
                simp only at e1 e2 h4 h5 h6 h7
                subst e1 e2
                go_wp2_with (fail)
                have hGa : Gr wr (wr.alloc (.cells #[.int .i64 S, .int .i64 P, .int .i64 q, .int .i64 x] 68)) := (Gr.refl wr).alloc _
                have y0 : (wr.alloc (.cells #[.int .i64 S, .int .i64 P, .int .i64 q, .int .i64 x] 68)).cell? ⟨wr.heap.size, 0, none⟩ = some (.int .i64 S) := by simp
                have y1 : (wr.alloc (.cells #[.int .i64 S, .int .i64 P, .int .i64 q, .int .i64 x] 68)).cell? ⟨wr.heap.size, 1, none⟩ = some (.int .i64 P) := by simp
                have y2 : (wr.alloc (.cells #[.int .i64 S, .int .i64 P, .int .i64 q, .int .i64 x] 68)).cell? ⟨wr.heap.size, 2, none⟩ = some (.int .i64 q) := by simp
                have y3 : (wr.alloc (.cells #[.int .i64 S, .int .i64 P, .int .i64 q, .int .i64 x] 68)).cell? ⟨wr.heap.size, 3, none⟩ = some (.int .i64 x) := by simp
                clear h4 h5 h6 h7
                generalize wr.alloc (.cells #[.int .i64 S, .int .i64 P, .int .i64 q, .int .i64 x] 68) = wa at *
                have hOa := HG.out.2.2.2.below hGa
                have hCa := HG.out.2.2.1.keep (hGa.block _ HG.out.2.2.1.lt)
                have hsl := (okC_slot hpo.1 (show S < (patched l (ps.take k)).length by rw [hpo.2.1]; exact hS)).1
                rw [hpo.2.2] at hsl
                obtain ⟨b4, o4, gj, cj, e4, hr4, hv4, ho4, hg4, hgs4, hf4, hz0, hz1, hz2⟩ := Own2.sec hOa (S := S) (P := P) (by rw [hpo.2.1]; exact hS) (by rw [hsl]; exact hP)
                cases e4
                have HV := Lib.hid (And.intro hv4 (And.intro ho4 (And.intro hg4 (And.intro hGa (And.intro hOa hCa)))))
                have HSL := Lib.hid hsl
                have hy := hCa.cell
                rw [hsl] at hr4
                have hf0 := hf4 (P * 3)
                have hf1 := hf4 (P * 3 + 1)
                have hf2 := hf4 (P * 3 + 2)
                clear hv4 ho4 hg4 hGa hOa hCa hsl hf4
                refine start_ (n := 15) (S := fun W' => W'.cell? ⟨w3.heap.size, 0, none⟩ = some (.slice (some ⟨b4, o4, none⟩) l.length c3) ∧ W'.cell? ⟨wr.heap.size, 0, none⟩ = some (.int .i64 (S : Int)) ∧ W'.cell? ⟨wr.heap.size, 1, none⟩ = some (.int .i64 (P : Int)) ∧ W'.cell? ⟨wr.heap.size, 2, none⟩ = some (.int .i64 q) ∧ W'.cell? ⟨wr.heap.size, 3, none⟩ = some (.int .i64 x) ∧ W'.cell? ⟨b4, o4 + S, none⟩ = some (.slice (some ⟨gj, 0, none⟩) (parts l) cj)) (ds := [14]) #[false, false, false, false, false, false, false, false, false, false, false, false, false, false, false] (by kernel_rfl) rfl rfl ⟨hy, y0, y1, y2, y3, hr4⟩ (fun hHeld => ?_)
                refine pure_ (i := 0) (N := some 57) (v := ?_) (a' := ?_) #[true, false, false, false, false, false, false, false, false, false, false, false, false, false, false] rfl rfl (by kernel_rfl) (fun _ _ _ h => h) (Or.inl ⟨by rfl, ?_⟩) ?_ ?_
                rotate_left
                · intro w_
                  go_simp
                  with_reducible rfl
                rotate_left
                · simp only [Act.put, List.setIfInBounds_toArray, List.set_cons_zero, List.set_cons_succ]
                  rfl
                refine pure_ (i := 2) (N := some 59) (v := ?_) (a' := ?_) #[true, false, true, false, false, false, false, false, false, false, false, false, false, false, false] rfl rfl (by kernel_rfl) (fun _ _ _ h => h) (Or.inl ⟨by rfl, ?_⟩) ?_ ?_
                rotate_left
                · intro w_
                  go_simp
                  with_reducible rfl
                rotate_left
                · simp only [Act.put, List.setIfInBounds_toArray, List.set_cons_zero, List.set_cons_succ]
                  rfl
                refine pure_ (i := 6) (N := some 63) (v := ?_) (a' := ?_) #[true, false, true, false, false, false, true, false, false, false, false, false, false, false, false] rfl rfl (by kernel_rfl) (fun _ _ _ h => h) (Or.inl ⟨by rfl, ?_⟩) ?_ ?_
                rotate_left
                · intro w_
                  go_simp
                  with_reducible rfl
                rotate_left
                · simp only [Act.put, List.setIfInBounds_toArray, List.set_cons_zero, List.set_cons_succ]
                  rfl
                refine pure_ (i := 8) (N := some 65) (v := ?_) (a' := ?_) #[true, false, true, false, false, false, true, false, true, false, false, false, false, false, false] rfl rfl (by kernel_rfl) (fun _ _ _ h => h) (Or.inl ⟨by rfl, ?_⟩) ?_ ?_
                rotate_left
                · intro w_
                  go_simp
                  with_reducible rfl
                rotate_left
                · simp only [Act.put, List.setIfInBounds_toArray, List.set_cons_zero, List.set_cons_succ]
                  rfl
                refine pure_ (i := 10) (N := some 67) (v := ?_) (a' := ?_) #[true, false, true, false, false, false, true, false, true, false, true, false, false, false, false] rfl rfl (by kernel_rfl) (fun _ _ _ h => h) (Or.inl ⟨by rfl, ?_⟩) ?_ ?_
                rotate_left
                · intro w_
                  go_simp
                  with_reducible rfl
                rotate_left
                · simp only [Act.put, List.setIfInBounds_toArray, List.set_cons_zero, List.set_cons_succ]
                  rfl
                refine take_ (i := 1) (N := some 58) (v := ?_) (a' := ?_) #[true, true, true, false, false, false, true, false, true, false, true, false, false, false, false] rfl rfl (by kernel_rfl) (fun _ _ _ h => h) (Or.inl ⟨by rfl, ?_⟩) hHeld ?_ ?_
                rotate_left
                · rintro w_ ⟨s0, s1, s2, s3, s4, s5⟩
                  go_simp
                  with_reducible rfl
                rotate_left
                · simp only [Act.put, List.setIfInBounds_toArray, List.set_cons_zero, List.set_cons_succ]
                  rfl
                refine take_ (i := 3) (N := some 60) (v := ?_) (a' := ?_) #[true, true, true, true, false, false, true, false, true, false, true, false, false, false, false] rfl rfl (by kernel_rfl) (fun _ _ _ h => h) (Or.inl ⟨by rfl, ?_⟩) hHeld ?_ ?_
                rotate_left
                · rintro w_ ⟨s0, s1, s2, s3, s4, s5⟩
                  go_simp
                  with_reducible rfl
                rotate_left
                · simp only [Act.put, List.setIfInBounds_toArray, List.set_cons_zero, List.set_cons_succ]
                  rfl
                refine pure_ (i := 4) (N := some 61) (v := ?_) (a' := ?_) #[true, true, true, true, true, false, true, false, true, false, true, false, false, false, false] rfl rfl (by kernel_rfl) (fun _ _ _ h => h) (Or.inl ⟨by rfl, ?_⟩) ?_ ?_
                rotate_left
                · intro w_
                  go_simp
                  with_reducible rfl
                rotate_left
                · simp only [Act.put, List.setIfInBounds_toArray, List.set_cons_zero, List.set_cons_succ]
                  rfl
                refine take_ (i := 5) (N := some 62) (v := ?_) (a' := ?_) #[true, true, true, true, true, true, true, false, true, false, true, false, false, false, false] rfl rfl (by kernel_rfl) (fun _ _ _ h => h) (Or.inl ⟨by rfl, ?_⟩) hHeld ?_ ?_
                rotate_left
                · rintro w_ ⟨s0, s1, s2, s3, s4, s5⟩
                  go_simp
                  with_reducible rfl
                rotate_left
                · simp only [Act.put, List.setIfInBounds_toArray, List.set_cons_zero, List.set_cons_succ]
                  rfl
                refine take_ (i := 7) (N := some 64) (v := ?_) (a' := ?_) #[true, true, true, true, true, true, true, true, true, false, true, false, false, false, false] rfl rfl (by kernel_rfl) (fun _ _ _ h => h) (Or.inl ⟨by rfl, ?_⟩) hHeld ?_ ?_
                rotate_left
                · rintro w_ ⟨s0, s1, s2, s3, s4, s5⟩
                  go_simp
                  with_reducible rfl
                rotate_left
                · simp only [Act.put, List.setIfInBounds_toArray, List.set_cons_zero, List.set_cons_succ]
                  rfl
                refine take_ (i := 9) (N := some 66) (v := ?_) (a' := ?_) #[true, true, true, true, true, true, true, true, true, true, true, false, false, false, false] rfl rfl (by kernel_rfl) (fun _ _ _ h => h) (Or.inl ⟨by rfl, ?_⟩) hHeld ?_ ?_
                rotate_left
                · rintro w_ ⟨s0, s1, s2, s3, s4, s5⟩
                  go_simp
                  with_reducible rfl
                rotate_left
                · simp only [Act.put, List.setIfInBounds_toArray, List.set_cons_zero, List.set_cons_succ]
                  rfl
                refine take_ (i := 11) (N := some 68) (v := ?_) (a' := ?_) #[true, true, true, true, true, true, true, true, true, true, true, true, false, false, false] rfl rfl (by kernel_rfl) (fun _ _ _ h => h) (Or.inl ⟨by rfl, ?_⟩) hHeld ?_ ?_
                rotate_left
                · rintro w_ ⟨s0, s1, s2, s3, s4, s5⟩
                  go_simp
                  with_reducible rfl
                rotate_left
                · simp only [Act.put, List.setIfInBounds_toArray, List.set_cons_zero, List.set_cons_succ]
                  rfl
                refine pure_ (i := 12) (N := some 69) (v := ?_) (a' := ?_) #[true, true, true, true, true, true, true, true, true, true, true, true, true, false, false] rfl rfl (by kernel_rfl) (fun _ _ _ h => h) (Or.inl ⟨by rfl, ?_⟩) ?_ ?_
                rotate_left
                · intro w_
                  go_simp
                  with_reducible rfl
                rotate_left
                · simp only [Act.put, List.setIfInBounds_toArray, List.set_cons_zero, List.set_cons_succ]
                  rfl
                refine pure_ (i := 13) (N := some 70) (v := ?_) (a' := ?_) #[true, true, true, true, true, true, true, true, true, true, true, true, true, true, false] rfl rfl (by kernel_rfl) (fun _ _ _ h => h) (Or.inl ⟨by rfl, ?_⟩) ?_ ?_
                rotate_left
                · intro w_
                  go_simp
                  with_reducible rfl
                rotate_left
                · simp only [Act.put, List.setIfInBounds_toArray, List.set_cons_zero, List.set_cons_succ]
                  rfl
                refine last_ (i := 14) (N := none) #[true, true, true, true, true, true, true, true, true, true, true, true, true, true, true] rfl rfl (by kernel_rfl) (by decide) (fun Kx hK => ?_)
                refine skip_ (w1 := put3 wa.drew gj (P * 3) ⟨q, x, false⟩) (by rfl) rfl ?_ ?_
                · first | (go_simp; done) | (go_simp; rfl)
                refine hK.out _ _ ?_
                clear hK Kx
                refine done_ (by kernel_rfl) ?_
                go_wp2_with (fail)
                go_roundg (m - (k + 1))
                case measure => have := HG.out.1; omega
                case rel =>
                  have hgr := put3_grown wa.drew gj (P * 3) ⟨q, x, false⟩
                  have hwa := HG.out.2.1.step HV.out.2.2.2.1
                  refine ⟨k + 1, by omega, by go_num, rfl, (hwa.drew 1).grown hgr hwa.size (fun k' hk' => by cases hk'; exact HV.out.2.2.1), HV.out.2.2.2.2.2.keep (hgr.block w3.heap.size HV.out.2.2.2.2.2.lt (fun e => ?_)), ?_⟩
                  · have e2 : gj = w3.heap.size := (Option.some.inj e).symm
                    have h4 := HVB.out S _ HV.out.1 gj rfl
                    omega
                  rw [HST.out]
                  unfold patch
                  simp only [Int.toNat_natCast]
                  rw [setSec_eq P _ (by rw [hpo.2.1]; exact hS)]
                  exact Own2.update (w := wa.drew) HV.out.2.2.2.2.1 (sl_get (by rw [hpo.2.1]; exact hS)) HV.out.1 (by simp [Value.ownBlock]) hgr (Own.put3 (w := wa.drew) HV.out.2.1 rfl (by rw [HSL.out]; exact hP) ⟨q, x, false⟩)
              · have hkm : k = m := by omega
                subst hkm
                have gb3 := bs2_box2 HG.out.2.1
                have gf3 := bs2_free HG.out.2.1
                have gl3 := (bs2_cell2 HG.out.2.1).lt
                have hyy := HG.out.2.2.1.cell
                have hres3 := ((bs2_cell2 HG.out.2.1).set (u := .slice A3 l.length c3)).cell
                go_wp2_with (fail)
                exact bodyPost_ret (v := .tuple #[.agg #[.slice A3 l.length c3], .int .i64 0]) (by simp [results, Tryd.results32, go_sem, hres3]) rfl ⟨⟨_, _, rfl, (HG.out.2.2.2.kept (setCell_grown wr ⟨w.heap.size + 1, 0, none⟩ _) (by rw [bs2_size]; exact Nat.lt_succ_self _)).mono (by rw [bs2_size]; omega)⟩, Below.setCell (bs2_old HG.out.2.1) (by simp) _⟩
          · have hmk : m < ps.length := by
              have : m ≠ ps.length := fun e => hte ⟨rfl, e⟩
              omega
            clear hte
            go_enter Tryd.func32, Tryd.ntmps32
            go_wp2_with (first
              | (go_at_call 22; refine (gCheck_calls (some ⟨b, o, none⟩) n c l _ HN.out (HRW.out _ (bs2_old (Gr.refl _))) HS.out (HBA.out _ (bs2_old (Gr.refl _)))).mono ?_; rintro e w1 ⟨rfl, hb⟩; rw [HC.out]; have gb2 := bs2_box2 hb; have gf2 := bs2_free hb; have gl2 := (bs2_cell2 hb).lt; have HB1 := Lib.hid (show Gr (bs2 w (.slice (some ⟨b, o, none⟩) n c) 24 (.slice none 0 0) 24) w1 from hb); clear hb)
              | (go_at_call 61; refine (HCON.out w1.heap.size _ (HB1.out.alloc _) (by simp)).mono ?_; rintro e w2 ⟨rfl, hb⟩; have HB2 := Lib.hid ((HB1.out.alloc (.cells #[.func (.func 60) #[] #[.pointer (some ⟨w.heap.size, 0, none⟩)]] 88)).step hb); have hbx := bs2_box HB2.out; clear hb)
              | (go_at_call 46; refine (HWI.out _).mono ?_; rintro e w' ⟨rfl, rfl⟩)
              | (go_at_call 42; refine (HCP.out _ HB2.out).mono ?_; rintro e w3 ⟨⟨v, vs, rfl, hO⟩, hb⟩; obtain ⟨A3, c3, rfl, hrow3, hc3⟩ := hO.row2 encS_len; have H3 := Lib.hid (And.intro hO (HB2.out.step hb)); clear hO hb hrow3 hc3))
            have HVB := Lib.hid (show ∀ (j : Nat) (u : Value), vs[j]? = some u → ∀ q, u.ownBlock = some q → q < w3.heap.size from fun j u hu q hq => by
              obtain ⟨x, hx⟩ : ∃ x, l[j]? = some x := ⟨_, List.getElem?_eq_getElem (by rw [← H3.out.1.1]; exact (List.getElem?_eq_some_iff.1 hu).1)⟩
              exact ((H3.out.1.2.2.1 j x u hx hu).1.lt q hq).2)
            have HI := Lib.hid (And.intro ((H3.out.2.alloc (.cells #[.slice A3 l.length c3] 24))) (And.intro (Cell1.new w3 (.slice A3 l.length c3) 24) ((H3.out.1.mono HB2.out.size).below ((Below.refl w3.heap.size w3).alloc (Nat.le_refl _) (.cells #[.slice A3 l.length c3] 24)))))
            clear H3 HB2 hbx
            go_loopg [53] m (fun g i wr => ∃ k : Nat, k ≤ m ∧ i = .int .i64 k ∧ g = m - k ∧ Gr (bs2 w (.slice (some ⟨b, o, none⟩) n c) 24 (.slice none 0 0) 24) wr ∧ Cell1 wr w3.heap.size (.slice A3 l.length c3) 24 ∧ Own2 encS 3 78 41 wr (bs2 w (.slice (some ⟨b, o, none⟩) n c) 24 (.slice none 0 0) 24).heap.size (.slice A3 l.length c3) (patched l (ps.take k)) vs)
            case atStart => exact ⟨0, Nat.zero_le _, rfl, rfl, HI.out.1, HI.out.2.1, HI.out.2.2⟩
            case round =>
              obtain ⟨k, hk, rfl, hg, hB, hC, hO⟩ := hrel
              have HG := Lib.hid (And.intro hg (And.intro hB (And.intro hC hO)))
              clear hg hB hC hO HI
              by_cases hlt : k < m
              · have hkl : k < ps.length := by omega
                have hpo := patched_ok HOK.out (are_all HAP.out) k (by omega)
                obtain ⟨S, P, e1, e2, hS, hP, hx⟩ := patOk_spec (List.all_eq_true.1 (are_all HAP.out) _ (List.getElem_mem hkl))
                have HST := Lib.hid (patched_step (l := l) hkl)
                obtain ⟨b3, off3, rfl, hbl, h4, h5, h6, h7⟩ := RowP.at (HRP.out wr (bs2_old HG.out.2.1)) hkl
                generalize ps[k] = p at *
                obtain ⟨pS, pP, q, x⟩ := p
                simp only at e1 e2 h4 h5 h6 h7
                subst e1 e2
                go_wp2_with (fail)
                have hGa : Gr wr (wr.alloc (.cells #[.int .i64 S, .int .i64 P, .int .i64 q, .int .i64 x] 68)) := (Gr.refl wr).alloc _
                have y0 : (wr.alloc (.cells #[.int .i64 S, .int .i64 P, .int .i64 q, .int .i64 x] 68)).cell? ⟨wr.heap.size, 0, none⟩ = some (.int .i64 S) := by simp
                have y1 : (wr.alloc (.cells #[.int .i64 S, .int .i64 P, .int .i64 q, .int .i64 x] 68)).cell? ⟨wr.heap.size, 1, none⟩ = some (.int .i64 P) := by simp
                have y2 : (wr.alloc (.cells #[.int .i64 S, .int .i64 P, .int .i64 q, .int .i64 x] 68)).cell? ⟨wr.heap.size, 2, none⟩ = some (.int .i64 q) := by simp
                have y3 : (wr.alloc (.cells #[.int .i64 S, .int .i64 P, .int .i64 q, .int .i64 x] 68)).cell? ⟨wr.heap.size, 3, none⟩ = some (.int .i64 x) := by simp
                clear h4 h5 h6 h7
                generalize wr.alloc (.cells #[.int .i64 S, .int .i64 P, .int .i64 q, .int .i64 x] 68) = wa at *
                have hOa := HG.out.2.2.2.below hGa
                have hCa := HG.out.2.2.1.keep (hGa.block _ HG.out.2.2.1.lt)
                have hsl := (okC_slot hpo.1 (show S < (patched l (ps.take k)).length by rw [hpo.2.1]; exact hS)).1
                rw [hpo.2.2] at hsl
                obtain ⟨b4, o4, gj, cj, e4, hr4, hv4, ho4, hg4, hgs4, hf4, hz0, hz1, hz2⟩ := Own2.sec hOa (S := S) (P := P) (by rw [hpo.2.1]; exact hS) (by rw [hsl]; exact hP)
                cases e4
                have HV := Lib.hid (And.intro hv4 (And.intro ho4 (And.intro hg4 (And.intro hGa (And.intro hOa hCa)))))
                have HSL := Lib.hid hsl
                have hy := hCa.cell
                rw [hsl] at hr4
                have hf0 := hf4 (P * 3)
                have hf1 := hf4 (P * 3 + 1)
                have hf2 := hf4 (P * 3 + 2)
                clear hv4 ho4 hg4 hGa hOa hCa hsl hf4
                refine start_ (n := 15) (S := fun W' => W'.cell? ⟨w3.heap.size, 0, none⟩ = some (.slice (some ⟨b4, o4, none⟩) l.length c3) ∧ W'.cell? ⟨wr.heap.size, 0, none⟩ = some (.int .i64 (S : Int)) ∧ W'.cell? ⟨wr.heap.size, 1, none⟩ = some (.int .i64 (P : Int)) ∧ W'.cell? ⟨wr.heap.size, 2, none⟩ = some (.int .i64 q) ∧ W'.cell? ⟨wr.heap.size, 3, none⟩ = some (.int .i64 x) ∧ W'.cell? ⟨b4, o4 + S, none⟩ = some (.slice (some ⟨gj, 0, none⟩) (parts l) cj)) (ds := [14]) #[false, false, false, false, false, false, false, false, false, false, false, false, false, false, false] (by kernel_rfl) rfl rfl ⟨hy, y0, y1, y2, y3, hr4⟩ (fun hHeld => ?_)
                refine pure_ (i := 0) (N := some 57) (v := ?_) (a' := ?_) #[true, false, false, false, false, false, false, false, false, false, false, false, false, false, false] rfl rfl (by kernel_rfl) (fun _ _ _ h => h) (Or.inl ⟨by rfl, ?_⟩) ?_ ?_
                rotate_left
                · intro w_
                  go_simp
                  with_reducible rfl
                rotate_left
                · simp only [Act.put, List.setIfInBounds_toArray, List.set_cons_zero, List.set_cons_succ]
                  rfl
                refine pure_ (i := 2) (N := some 59) (v := ?_) (a' := ?_) #[true, false, true, false, false, false, false, false, false, false, false, false, false, false, false] rfl rfl (by kernel_rfl) (fun _ _ _ h => h) (Or.inl ⟨by rfl, ?_⟩) ?_ ?_
                rotate_left
                · intro w_
                  go_simp
                  with_reducible rfl
                rotate_left
                · simp only [Act.put, List.setIfInBounds_toArray, List.set_cons_zero, List.set_cons_succ]
                  rfl
                refine pure_ (i := 6) (N := some 63) (v := ?_) (a' := ?_) #[true, false, true, false, false, false, true, false, false, false, false, false, false, false, false] rfl rfl (by kernel_rfl) (fun _ _ _ h => h) (Or.inl ⟨by rfl, ?_⟩) ?_ ?_
                rotate_left
                · intro w_
                  go_simp
                  with_reducible rfl
                rotate_left
                · simp only [Act.put, List.setIfInBounds_toArray, List.set_cons_zero, List.set_cons_succ]
                  rfl
                refine pure_ (i := 8) (N := some 65) (v := ?_) (a' := ?_) #[true, false, true, false, false, false, true, false, true, false, false, false, false, false, false] rfl rfl (by kernel_rfl) (fun _ _ _ h => h) (Or.inl ⟨by rfl, ?_⟩) ?_ ?_
                rotate_left
                · intro w_
                  go_simp
                  with_reducible rfl
                rotate_left
                · simp only [Act.put, List.setIfInBounds_toArray, List.set_cons_zero, List.set_cons_succ]
                  rfl
                refine pure_ (i := 10) (N := some 67) (v := ?_) (a' := ?_) #[true, false, true, false, false, false, true, false, true, false, true, false, false, false, false] rfl rfl (by kernel_rfl) (fun _ _ _ h => h) (Or.inl ⟨by rfl, ?_⟩) ?_ ?_
                rotate_left
                · intro w_
                  go_simp
                  with_reducible rfl
                rotate_left
                · simp only [Act.put, List.setIfInBounds_toArray, List.set_cons_zero, List.set_cons_succ]
                  rfl
                refine take_ (i := 1) (N := some 58) (v := ?_) (a' := ?_) #[true, true, true, false, false, false, true, false, true, false, true, false, false, false, false] rfl rfl (by kernel_rfl) (fun _ _ _ h => h) (Or.inl ⟨by rfl, ?_⟩) hHeld ?_ ?_
                rotate_left
                · rintro w_ ⟨s0, s1, s2, s3, s4, s5⟩
                  go_simp
                  with_reducible rfl
                rotate_left
                · simp only [Act.put, List.setIfInBounds_toArray, List.set_cons_zero, List.set_cons_succ]
                  rfl
                refine take_ (i := 3) (N := some 60) (v := ?_) (a' := ?_) #[true, true, true, true, false, false, true, false, true, false, true, false, false, false, false] rfl rfl (by kernel_rfl) (fun _ _ _ h => h) (Or.inl ⟨by rfl, ?_⟩) hHeld ?_ ?_
                rotate_left
                · rintro w_ ⟨s0, s1, s2, s3, s4, s5⟩
                  go_simp
                  with_reducible rfl
                rotate_left
                · simp only [Act.put, List.setIfInBounds_toArray, List.set_cons_zero, List.set_cons_succ]
                  rfl
                refine pure_ (i := 4) (N := some 61) (v := ?_) (a' := ?_) #[true, true, true, true, true, false, true, false, true, false, true, false, false, false, false] rfl rfl (by kernel_rfl) (fun _ _ _ h => h) (Or.inl ⟨by rfl, ?_⟩) ?_ ?_
                rotate_left
                · intro w_
                  go_simp
                  with_reducible rfl
                rotate_left
                · simp only [Act.put, List.setIfInBounds_toArray, List.set_cons_zero, List.set_cons_succ]
                  rfl
                refine take_ (i := 5) (N := some 62) (v := ?_) (a' := ?_) #[true, true, true, true, true, true, true, false, true, false, true, false, false, false, false] rfl rfl (by kernel_rfl) (fun _ _ _ h => h) (Or.inl ⟨by rfl, ?_⟩) hHeld ?_ ?_
                rotate_left
                · rintro w_ ⟨s0, s1, s2, s3, s4, s5⟩
                  go_simp
                  with_reducible rfl
                rotate_left
                · simp only [Act.put, List.setIfInBounds_toArray, List.set_cons_zero, List.set_cons_succ]
                  rfl
                refine take_ (i := 7) (N := some 64) (v := ?_) (a' := ?_) #[true, true, true, true, true, true, true, true, true, false, true, false, false, false, false] rfl rfl (by kernel_rfl) (fun _ _ _ h => h) (Or.inl ⟨by rfl, ?_⟩) hHeld ?_ ?_
                rotate_left
                · rintro w_ ⟨s0, s1, s2, s3, s4, s5⟩
                  go_simp
                  with_reducible rfl
                rotate_left
                · simp only [Act.put, List.setIfInBounds_toArray, List.set_cons_zero, List.set_cons_succ]
                  rfl
                refine take_ (i := 9) (N := some 66) (v := ?_) (a' := ?_) #[true, true, true, true, true, true, true, true, true, true, true, false, false, false, false] rfl rfl (by kernel_rfl) (fun _ _ _ h => h) (Or.inl ⟨by rfl, ?_⟩) hHeld ?_ ?_
                rotate_left
                · rintro w_ ⟨s0, s1, s2, s3, s4, s5⟩
                  go_simp
                  with_reducible rfl
                rotate_left
                · simp only [Act.put, List.setIfInBounds_toArray, List.set_cons_zero, List.set_cons_succ]
                  rfl
                refine take_ (i := 11) (N := some 68) (v := ?_) (a' := ?_) #[true, true, true, true, true, true, true, true, true, true, true, true, false, false, false] rfl rfl (by kernel_rfl) (fun _ _ _ h => h) (Or.inl ⟨by rfl, ?_⟩) hHeld ?_ ?_
                rotate_left
                · rintro w_ ⟨s0, s1, s2, s3, s4, s5⟩
                  go_simp
                  with_reducible rfl
                rotate_left
                · simp only [Act.put, List.setIfInBounds_toArray, List.set_cons_zero, List.set_cons_succ]
                  rfl
                refine pure_ (i := 12) (N := some 69) (v := ?_) (a' := ?_) #[true, true, true, true, true, true, true, true, true, true, true, true, true, false, false] rfl rfl (by kernel_rfl) (fun _ _ _ h => h) (Or.inl ⟨by rfl, ?_⟩) ?_ ?_
                rotate_left
                · intro w_
                  go_simp
                  with_reducible rfl
                rotate_left
                · simp only [Act.put, List.setIfInBounds_toArray, List.set_cons_zero, List.set_cons_succ]
                  rfl
                refine pure_ (i := 13) (N := some 70) (v := ?_) (a' := ?_) #[true, true, true, true, true, true, true, true, true, true, true, true, true, true, false] rfl rfl (by kernel_rfl) (fun _ _ _ h => h) (Or.inl ⟨by rfl, ?_⟩) ?_ ?_
                rotate_left
                · intro w_
                  go_simp
                  with_reducible rfl
                rotate_left
                · simp only [Act.put, List.setIfInBounds_toArray, List.set_cons_zero, List.set_cons_succ]
                  rfl
                refine last_ (i := 14) (N := none) #[true, true, true, true, true, true, true, true, true, true, true, true, true, true, true] rfl rfl (by kernel_rfl) (by decide) (fun Kx hK => ?_)
                refine skip_ (w1 := put3 wa.drew gj (P * 3) ⟨q, x, false⟩) (by rfl) rfl ?_ ?_
                · first | (go_simp; done) | (go_simp; rfl)
                refine hK.out _ _ ?_
                clear hK Kx
                refine done_ (by kernel_rfl) ?_
                go_wp2_with (fail)
                go_roundg (m - (k + 1))
                case measure => have := HG.out.1; omega
                case rel =>
                  have hgr := put3_grown wa.drew gj (P * 3) ⟨q, x, false⟩
                  have hwa := HG.out.2.1.step HV.out.2.2.2.1
                  refine ⟨k + 1, by omega, by go_num, rfl, (hwa.drew 1).grown hgr hwa.size (fun k' hk' => by cases hk'; exact HV.out.2.2.1), HV.out.2.2.2.2.2.keep (hgr.block w3.heap.size HV.out.2.2.2.2.2.lt (fun e => ?_)), ?_⟩
                  · have e2 : gj = w3.heap.size := (Option.some.inj e).symm
                    have h4 := HVB.out S _ HV.out.1 gj rfl
                    omega
                  rw [HST.out]
                  unfold patch
                  simp only [Int.toNat_natCast]
                  rw [setSec_eq P _ (by rw [hpo.2.1]; exact hS)]
                  exact Own2.update (w := wa.drew) HV.out.2.2.2.2.1 (sl_get (by rw [hpo.2.1]; exact hS)) HV.out.1 (by simp [Value.ownBlock]) hgr (Own.put3 (w := wa.drew) HV.out.2.1 rfl (by rw [HSL.out]; exact hP) ⟨q, x, false⟩)
              · have hkm : k = m := by omega
                subst hkm
                have hpo := patched_ok HOK.out (are_all HAP.out) k (by omega)
                obtain ⟨S, P, e1, e2, hS, hP, hx⟩ := patOk_spec (List.all_eq_true.1 (are_all HAP.out) _ (List.getElem_mem hmk))
                obtain ⟨b3, off3, rfl, hbl, h4, h5, h6, h7⟩ := RowP.at (HRP.out wr (bs2_old HG.out.2.1)) hmk
                have HAT := Lib.hid (show applied l ps k true = tear (patched l (ps.take k)) ps[k] by unfold applied; rw [if_pos rfl, List.getElem?_eq_getElem hmk])
                have hbd := HBA.out _ (bs2_old HG.out.2.1)
                generalize ps[k] = p at *
                obtain ⟨pS, pP, q, x⟩ := p
                simp only at e1 e2 h4 h5 h6 h7
                subst e1 e2
                go_wp2_with (fail)
                have hGa : Gr wr (wr.alloc (.cells #[.int .i64 S, .int .i64 P, .int .i64 q, .int .i64 x] 68)) := (Gr.refl wr).alloc _
                have y0 : (wr.alloc (.cells #[.int .i64 S, .int .i64 P, .int .i64 q, .int .i64 x] 68)).cell? ⟨wr.heap.size, 0, none⟩ = some (.int .i64 S) := by simp
                have y1 : (wr.alloc (.cells #[.int .i64 S, .int .i64 P, .int .i64 q, .int .i64 x] 68)).cell? ⟨wr.heap.size, 1, none⟩ = some (.int .i64 P) := by simp
                clear h4 h5 h6 h7
                generalize wr.alloc (.cells #[.int .i64 S, .int .i64 P, .int .i64 q, .int .i64 x] 68) = wa at *
                have hbda := hbd.below hGa hbd.lt
                have hOa := HG.out.2.2.2.below hGa
                have hCa := HG.out.2.2.1.keep (hGa.block _ HG.out.2.2.1.lt)
                have hsl := (okC_slot hpo.1 (show S < (patched l (ps.take k)).length by rw [hpo.2.1]; exact hS)).1
                rw [hpo.2.2] at hsl
                obtain ⟨b4, o4, gj, cj, e4, hr4, hv4, ho4, hg4, hgs4, hf4, hz0, hz1, hz2⟩ := Own2.sec hOa (S := S) (P := P) (by rw [hpo.2.1]; exact hS) (by rw [hsl]; exact hP)
                cases e4
                have HV := Lib.hid (And.intro hv4 (And.intro ho4 (And.intro hg4 (And.intro hGa (And.intro hOa hCa)))))
                have HSL := Lib.hid hsl
                have hy := hCa.cell
                rw [hsl] at hr4
                have hf0 := hf4 (P * 3)
                have hf1 := hf4 (P * 3 + 1)
                have hf2 := hf4 (P * 3 + 2)
                obtain ⟨bd0, bd1, bd2⟩ := hbda
                clear hv4 ho4 hg4 hGa hOa hCa hsl hf4 hbd
                refine start_ (n := 11) (S := fun W' => W'.cell? ⟨w3.heap.size, 0, none⟩ = some (.slice (some ⟨b4, o4, none⟩) l.length c3) ∧ W'.cell? ⟨wr.heap.size, 0, none⟩ = some (.int .i64 (S : Int)) ∧ W'.cell? ⟨wr.heap.size, 1, none⟩ = some (.int .i64 (P : Int)) ∧ W'.cell? ⟨0, 0, none⟩ = some (.int .i64 0) ∧ W'.cell? ⟨0, 1, none⟩ = some (.int .i64 0) ∧ W'.cell? ⟨0, 2, none⟩ = some (.bool true) ∧ W'.cell? ⟨b4, o4 + S, none⟩ = some (.slice (some ⟨gj, 0, none⟩) (parts l) cj)) (ds := [10]) #[false, false, false, false, false, false, false, false, false, false, false] (by kernel_rfl) rfl rfl ⟨hy, y0, y1, bd0, bd1, bd2, hr4⟩ (fun hHeld => ?_)
                refine pure_ (i := 0) (N := some 77) (v := ?_) (a' := ?_) #[true, false, false, false, false, false, false, false, false, false, false] rfl rfl (by kernel_rfl) (fun _ _ _ h => h) (Or.inl ⟨by rfl, ?_⟩) ?_ ?_
                rotate_left
                · intro w_
                  go_simp
                  with_reducible rfl
                rotate_left
                · simp only [Act.put, List.setIfInBounds_toArray, List.set_cons_zero, List.set_cons_succ]
                  rfl
                refine pure_ (i := 2) (N := some 79) (v := ?_) (a' := ?_) #[true, false, true, false, false, false, false, false, false, false, false] rfl rfl (by kernel_rfl) (fun _ _ _ h => h) (Or.inl ⟨by rfl, ?_⟩) ?_ ?_
                rotate_left
                · intro w_
                  go_simp
                  with_reducible rfl
                rotate_left
                · simp only [Act.put, List.setIfInBounds_toArray, List.set_cons_zero, List.set_cons_succ]
                  rfl
                refine pure_ (i := 6) (N := some 83) (v := ?_) (a' := ?_) #[true, false, true, false, false, false, true, false, false, false, false] rfl rfl (by kernel_rfl) (fun _ _ _ h => h) (Or.inl ⟨by rfl, ?_⟩) ?_ ?_
                rotate_left
                · intro w_
                  go_simp
                  with_reducible rfl
                rotate_left
                · simp only [Act.put, List.setIfInBounds_toArray, List.set_cons_zero, List.set_cons_succ]
                  rfl
                refine take_ (i := 1) (N := some 78) (v := ?_) (a' := ?_) #[true, true, true, false, false, false, true, false, false, false, false] rfl rfl (by kernel_rfl) (fun _ _ _ h => h) (Or.inl ⟨by rfl, ?_⟩) hHeld ?_ ?_
                rotate_left
                · rintro w_ ⟨s0, s1, s2, s3, s4, s5, s6⟩
                  go_simp
                  with_reducible rfl
                rotate_left
                · simp only [Act.put, List.setIfInBounds_toArray, List.set_cons_zero, List.set_cons_succ]
                  rfl
                refine take_ (i := 3) (N := some 80) (v := ?_) (a' := ?_) #[true, true, true, true, false, false, true, false, false, false, false] rfl rfl (by kernel_rfl) (fun _ _ _ h => h) (Or.inl ⟨by rfl, ?_⟩) hHeld ?_ ?_
                rotate_left
                · rintro w_ ⟨s0, s1, s2, s3, s4, s5, s6⟩
                  go_simp
                  with_reducible rfl
                rotate_left
                · simp only [Act.put, List.setIfInBounds_toArray, List.set_cons_zero, List.set_cons_succ]
                  rfl
                refine pure_ (i := 4) (N := some 81) (v := ?_) (a' := ?_) #[true, true, true, true, true, false, true, false, false, false, false] rfl rfl (by kernel_rfl) (fun _ _ _ h => h) (Or.inl ⟨by rfl, ?_⟩) ?_ ?_
                rotate_left
                · intro w_
                  go_simp
                  with_reducible rfl
                rotate_left
                · simp only [Act.put, List.setIfInBounds_toArray, List.set_cons_zero, List.set_cons_succ]
                  rfl
                refine take_ (i := 5) (N := some 82) (v := ?_) (a' := ?_) #[true, true, true, true, true, true, true, false, false, false, false] rfl rfl (by kernel_rfl) (fun _ _ _ h => h) (Or.inl ⟨by rfl, ?_⟩) hHeld ?_ ?_
                rotate_left
                · rintro w_ ⟨s0, s1, s2, s3, s4, s5, s6⟩
                  go_simp
                  with_reducible rfl
                rotate_left
                · simp only [Act.put, List.setIfInBounds_toArray, List.set_cons_zero, List.set_cons_succ]
                  rfl
                refine take_ (i := 7) (N := some 84) (v := ?_) (a' := ?_) #[true, true, true, true, true, true, true, true, false, false, false] rfl rfl (by kernel_rfl) (fun _ _ _ h => h) (Or.inl ⟨by rfl, ?_⟩) hHeld ?_ ?_
                rotate_left
                · rintro w_ ⟨s0, s1, s2, s3, s4, s5, s6⟩
                  go_simp
                  with_reducible rfl
                rotate_left
                · simp only [Act.put, List.setIfInBounds_toArray, List.set_cons_zero, List.set_cons_succ]
                  rfl
                refine take_ (i := 8) (N := some 85) (v := ?_) (a' := ?_) #[true, true, true, true, true, true, true, true, true, false, false] rfl rfl (by kernel_rfl) (fun _ _ _ h => h) (Or.inl ⟨by rfl, ?_⟩) hHeld ?_ ?_
                rotate_left
                · rintro w_ ⟨s0, s1, s2, s3, s4, s5, s6⟩
                  go_simp
                  with_reducible rfl
                rotate_left
                · simp only [Act.put, List.setIfInBounds_toArray, List.set_cons_zero, List.set_cons_succ]
                  rfl
                refine pure_ (i := 9) (N := some 86) (v := ?_) (a' := ?_) #[true, true, true, true, true, true, true, true, true, true, false] rfl rfl (by kernel_rfl) (fun _ _ _ h => h) (Or.inl ⟨by rfl, ?_⟩) ?_ ?_
                rotate_left
                · intro w_
                  go_simp
                  with_reducible rfl
                rotate_left
                · simp only [Act.put, List.setIfInBounds_toArray, List.set_cons_zero, List.set_cons_succ]
                  rfl
                refine last_ (i := 10) (N := none) #[true, true, true, true, true, true, true, true, true, true, true] rfl rfl (by kernel_rfl) (by decide) (fun Kx hK => ?_)
                refine skip_ (w1 := put3 wa.drew gj (P * 3) Sec.b) (by rfl) rfl ?_ ?_
                · first | (go_simp; done) | (go_simp; rfl)
                refine hK.out _ _ ?_
                clear hK Kx
                refine done_ (by kernel_rfl) ?_
                have hgr := put3_grown wa.drew gj (P * 3) Sec.b
                have hwa := HG.out.2.1.step HV.out.2.2.2.1
                have HGF := Lib.hid (And.intro (show Gr (bs2 w (.slice (some ⟨b, o, none⟩) n c) 24 (.slice none 0 0) 24) (put3 wa.drew gj (P * 3) Sec.b) from (hwa.drew 1).grown hgr hwa.size (fun k' hk' => by cases hk'; exact HV.out.2.2.1)) (And.intro (HV.out.2.2.2.2.2.keep (hgr.block w3.heap.size HV.out.2.2.2.2.2.lt (fun e => by
                  have e2 : gj = w3.heap.size := (Option.some.inj e).symm
                  have h4 := HVB.out S _ HV.out.1 gj rfl
                  omega))) (show Own2 encS 3 78 41 (put3 wa.drew gj (P * 3) Sec.b) (bs2 w (.slice (some ⟨b, o, none⟩) n c) 24 (.slice none 0 0) 24).heap.size (.slice (some ⟨b4, o4, none⟩) l.length c3) (applied l ps k true) vs by
                  rw [HAT.out]
                  unfold tear
                  simp only [Int.toNat_natCast]
                  rw [setSec_eq P _ (by rw [hpo.2.1]; exact hS)]
                  exact Own2.update (w := wa.drew) HV.out.2.2.2.2.1 (sl_get (by rw [hpo.2.1]; exact hS)) HV.out.1 (by simp [Value.ownBlock]) hgr (Own.put3 (w := wa.drew) HV.out.2.1 rfl (by rw [HSL.out]; exact hP) Sec.b))))
                clear hf0 hf1 hf2 hz0 hz1 hz2 hgr hwa
                change Exit.then _ _ _ _ (put3 wa.drew gj (P * 3) Sec.b)
                generalize put3 wa.drew gj (P * 3) Sec.b = wz at *
                have gb3 := bs2_box2 HGF.out.1
                have gf3 := bs2_free HGF.out.1
                have gl3 := (bs2_cell2 HGF.out.1).lt
                have hyy := HGF.out.2.1.cell
                have hres3 := ((bs2_cell2 HGF.out.1).set (u := .slice (some ⟨b4, o4, none⟩) l.length c3)).cell
                go_wp2_with (fail)
                exact bodyPost_ret (v := .tuple #[.agg #[.slice (some ⟨b4, o4, none⟩) l.length c3], .int .i64 0]) (by simp [results, Tryd.results32, go_sem, hres3]) rfl ⟨⟨_, _, rfl, (HGF.out.2.2.kept (setCell_grown wz ⟨w.heap.size + 1, 0, none⟩ _) (by rw [bs2_size]; exact Nat.lt_succ_self _)).mono (by rw [bs2_size]; omega)⟩, Below.setCell (bs2_old HGF.out.1) (by simp) _⟩
end Go.Proofs.YtcpglghklmfbcaaDoor.T
