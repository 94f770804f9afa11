import Derived.Test.YtcpglghklmfbcaaDoorT30
import Derived.Test.YtcpglghklmfbcaaDoorV4
namespace Go.Proofs.YtcpglghklmfbcaaDoor.T
open Go Go.RowKit Go.Proofs.YtcpglghklmfbcaaDoor.M Go.Proofs.YtcpglghklmfbcaaDoor.R
set_option linter.unusedVariables false
set_option linter.unusedSimpArgs false

theorem RowS.at3 {w : World} {A : Option Addr} {xs : List Sec} (h : Row encS 3 w A xs) {p : Nat} (hp : p < xs.length) : ∃ b o, A = some ⟨b, o, none⟩ ∧ w.cell? ⟨b, o + p * 3, none⟩ = some (.int .i64 (xs.getD p Sec.z).seq) ∧ w.cell? ⟨b, o + p * 3 + 1, none⟩ = some (.int .i64 (xs.getD p Sec.z).data) ∧ w.cell? ⟨b, o + p * 3 + 2, none⟩ = some (.bool (xs.getD p Sec.z).bad) := by
  obtain ⟨b, o, e, hc⟩ := h.at (List.getElem?_eq_getElem hp)
  have hg : xs.getD p Sec.z = xs[p] := by simp [List.getD_eq_getElem?_getD, hp]
  rw [hg]
  exact ⟨b, o, e, by simpa using hc 0 _ rfl, hc 1 _ rfl, hc 2 _ rfl⟩
/-- A sector of copies of the call's own. -/
theorem Own2.sec {w : World} {base : Nat} {A : Option Addr} {n c : Nat} {y : Cop} {vs : List Value} (h : Own2 encS 3 78 41 w base (.slice A n c) y vs) {S P : Nat} (hS : S < y.length) (hP : P < (sl y S).length) :
    ∃ b o gj cj, A = some ⟨b, o, none⟩ ∧ w.cell? ⟨b, o + S, none⟩ = some (.slice (some ⟨gj, 0, none⟩) (sl y S).length cj) ∧ vs[S]? = some (.slice (some ⟨gj, 0, none⟩) (sl y S).length cj) ∧ Own encS 3 78 w base (.slice (some ⟨gj, 0, none⟩) (sl y S).length cj) (sl y S) ∧ base ≤ gj ∧ gj < w.heap.size ∧ (∀ o, w.frozen? ⟨gj, o, none⟩ = false) ∧
      w.cell? ⟨gj, P * 3, none⟩ = some (.int .i64 (secAt y S P).seq) ∧ w.cell? ⟨gj, P * 3 + 1, none⟩ = some (.int .i64 (secAt y S P).data) ∧ w.cell? ⟨gj, P * 3 + 2, none⟩ = some (.bool (secAt y S P).bad) := by
  obtain ⟨b, o, gj, cj, h1, h2, h3, h4, h5, h6, h7, h8⟩ := Own2.at3 h (sl_get hS) (by omega)
  obtain ⟨A5, c5, e5, hrow5, _⟩ := h5.row encS_len
  cases e5
  obtain ⟨_, _, e6, hz⟩ := RowS.at3 hrow5 hP
  cases e6
  simp only [Nat.zero_add] at hz
  exact ⟨b, o, gj, cj, h1, h3, h4, h5, h6, h7, h8, hz⟩
/-- The world behind three boxes. -/
def bs3 (w : World) (v : Value) (t : TypeId) (v1 v2 : Value) (t' : TypeId) (v3 : Value) (t3 : TypeId) : World := ((w.alloc (.cells #[v] t)).alloc (.cells #[v1, v2] t')).alloc (.cells #[v3] t3)
section
variable {w b : World} {v v1 v2 v3 : Value} {t t' t3 : TypeId}
theorem bs3_size (w : World) (v : Value) (t : TypeId) (v1 v2 : Value) (t' : TypeId) (v3 : Value) (t3 : TypeId) : (bs3 w v t v1 v2 t' v3 t3).heap.size = w.heap.size + 1 + 1 + 1 := by simp [bs3]
theorem bs3_old (h : Gr (bs3 w v t v1 v2 t' v3 t3) b) : Gr w b := Gr.old (Gr.old (Gr.old h))
theorem bs3_box (h : Gr (bs3 w v t v1 v2 t' v3 t3) b) : b.cell? ⟨w.heap.size, 0, none⟩ = some v ∧ b.cell? ⟨w.heap.size + 1, 0, none⟩ = some v1 ∧ b.cell? ⟨w.heap.size + 1, 1, none⟩ = some v2 := by
  have h2 := Gr.old h
  have e : (w.alloc (.cells #[v] t)).heap.size = w.heap.size + 1 := by simp
  have h3 := Gr.box h2 0
  have h4 := Gr.box h2 1
  rw [e] at h3 h4
  exact ⟨Gr.box (Gr.old h2) 0, h3, h4⟩
theorem bs3_cell (h : Gr (bs3 w v t v1 v2 t' v3 t3) b) : Cell1 b (w.heap.size + 1 + 1) v3 t3 := by
  have := Cell1.new ((w.alloc (.cells #[v] t)).alloc (.cells #[v1, v2] t')) v3 t3
  rw [show ((w.alloc (.cells #[v] t)).alloc (.cells #[v1, v2] t')).heap.size = w.heap.size + 1 + 1 by simp] at this
  exact this.keep (h.block _ (by rw [bs3_size]; omega))
end
theorem spoils_a {y : Cop} {s p : Int} (h : s < 0) : spoils y s p = false := by simp [spoils]; intro h1; omega
theorem spoils_b {y : Cop} {s p : Int} (h : (y.length : Int) ≤ s) : spoils y s p = false := by simp [spoils]; intro _ h1; omega
theorem spoils_c {y : Cop} {s p : Int} (h : p < 0) : spoils y s p = false := by simp [spoils]; intro _ _ h1; omega
theorem spoils_d {y : Cop} {s p : Int} (h : (parts y : Int) ≤ p) : spoils y s p = false := by simp [spoils]; intro _ _ _ h1; omega
theorem spoils_e {y : Cop} {s p : Nat} (h : (secAt y s p).bad = true) : spoils y s p = false := by simp [spoils, h]
theorem spoils_f {y : Cop} {s p : Nat} (hs : s < y.length) (hp : p < parts y) (h : (secAt y s p).bad = false) : spoils y s p = true := by simp [spoils, h, hs, hp]
/-- What spoilt hands back. -/
def RetSp (w : World) (c : Cop) (n : Nat) (e : Ending) (w' : World) : Prop := (∃ v vs, e = .returned (.tuple #[.agg #[v], .int .i64 n]) ∧ Own2 encS 3 78 41 w' w.heap.size v c vs) ∧ Below w.heap.size w w'

set_option maxHeartbeats 1000000 in
set_option maxRecDepth 100000 in
theorem spoilt_calls (A A1 A2 : Option Addr) (n c n1 c1 n2 c2 : Nat) (l : Cop) (xs ps : List Int) (w : World) (hn : n = l.length) (hn1 : n1 = xs.length) (hn2 : n2 = ps.length) (hR : Row2 encS 3 w A l) (hR1 : Row encI 1 w A1 xs) (hR2 : Row encI 1 w A2 ps) (hok : okC l = true) (N : Nat) (hN : N = min n1 n2) (hN2 : N ≤ 1000) :
    Calls Tryd.prog 14 #[.agg #[.slice A n c], .agg #[.slice A1 n1 c1, .slice A2 n2 c2]] w (RetSp w (spoilU l xs ps N).1 (spoilU l xs ps N).2) := by
  have HR := Lib.hid hR
  have HN := Lib.hid hn
  have HR1 := Lib.hid hR1
  have HR2 := Lib.hid hR2
  have HOK := Lib.hid hok
  have hln := okC_len hok
  have HCP := Lib.hid (show ∀ W, Gr (bs3 w (.slice A n c) 24 (.slice A1 n1 c1) (.slice A2 n2 c2) 27 (.slice none 0 0) 24) W → Calls Tryd.prog 21 #[.agg #[.slice A n c]] W (RetC W l) from fun W hW => Copy_calls A n c l W hn (hR.below (bs3_old hW)) (by omega) (fun s hs => by have := okC_slot hok hs; omega))
  have hn4 : n ≤ 4 := by omega
  have hle1 : N ≤ n1 := by omega
  have hle2 : N ≤ n2 := by omega
  have HLN := Lib.hid (And.intro hn1 hn2)
  have hsN : ∀ k, ¬ k < N → k < n1 → ¬ k < n2 := by omega
  clear hR hR1 hR2 hn hok hn1 hn2 hln hN
  go_enter Tryd.func14, Tryd.ntmps14
  go_wp2_with (go_at_call 21; refine (HCP.out _ (Gr.refl _)).mono ?_; rintro e w3 ⟨⟨v, vs, rfl, hO⟩, hb⟩; obtain ⟨A3, c3, rfl, hrow3, hc3⟩ := hO.row2 encS_len; have H3 := Lib.hid (And.intro hO (show Gr (bs3 w (.slice A n c) 24 (.slice A1 n1 c1) (.slice A2 n2 c2) 27 (.slice none 0 0) 24) w3 from hb)); clear hO hb hrow3 hc3)
  have HI := Lib.hid (And.intro ((H3.out.2.alloc (.cells #[.slice A3 l.length c3] 24))) (And.intro (Cell1.new w3 (.slice A3 l.length c3) 24) (H3.out.1.below ((Below.refl w3.heap.size w3).alloc (Nat.le_refl _) (.cells #[.slice A3 l.length c3] 24)))))
  have hY : w.heap.size + 1 + 1 + 1 ≤ w3.heap.size := by have := H3.out.2.size; rw [bs3_size] at this; exact this
  have HVB := Lib.hid (show ∀ (j : Nat) (u : Value), vs[j]? = some u → ∀ q, u.ownBlock = some q → q < w3.heap.size from fun j u hu q hq => by
    obtain ⟨x, hx⟩ : ∃ x, l[j]? = some x := ⟨_, List.getElem?_eq_getElem (by rw [← H3.out.1.1]; exact (List.getElem?_eq_some_iff.1 hu).1)⟩
    exact ((H3.out.1.2.2.1 j x u hx hu).1.lt q hq).2)
  clear H3
  generalize w3.heap.size = Y at *
  go_loopg [7, 8] N (fun g q i wr => ∃ k : Nat, k ≤ N ∧ i = .int .i64 k ∧ g = N - k ∧ q = .int .i64 (spoilU l xs ps k).2 ∧ Gr (bs3 w (.slice A n c) 24 (.slice A1 n1 c1) (.slice A2 n2 c2) 27 (.slice none 0 0) 24) wr ∧ Cell1 wr Y (.slice A3 l.length c3) 24 ∧ Own2 encS 3 78 41 wr (bs3 w (.slice A n c) 24 (.slice A1 n1 c1) (.slice A2 n2 c2) 27 (.slice none 0 0) 24).heap.size (.slice A3 l.length c3) (spoilU l xs ps k).1 vs)
  case atStart => exact ⟨0, Nat.zero_le _, rfl, rfl, rfl, HI.out.1, HI.out.2.1, HI.out.2.2⟩
  case round =>
    obtain ⟨k, hk, rfl, hg, rfl, hB, hC, hO⟩ := hrel
    clear HI
    have HG := Lib.hid hg
    have HB := Lib.hid hB
    have HC := Lib.hid hC
    have HO := Lib.hid hO
    obtain ⟨hbox, hx1, hx2⟩ := bs3_box hB
    have hy0 := hC.cell
    have hq20 := spoilU_le l xs ps k
    have HSUB := Lib.hid (spoilU_sub xs ps HOK.out k)
    clear hg hB hC hO
    by_cases hlt : k < N
    · have hk1 : k < n1 := by omega
      have hk2 : k < n2 := by omega
      have hkx : k < xs.length := by have := HLN.out; omega
      have hkp : k < ps.length := by have := HLN.out; omega
      obtain ⟨s, hs⟩ : ∃ s, xs[k]? = some s := ⟨_, List.getElem?_eq_getElem hkx⟩
      obtain ⟨p, hp⟩ : ∃ p, ps[k]? = some p := ⟨_, List.getElem?_eq_getElem hkp⟩
      obtain ⟨b1, o1, rfl, hc1⟩ := (HR1.out.below (bs3_old HB.out)).at hs
      obtain ⟨b2, o2, rfl, hc2⟩ := (HR2.out.below (bs3_old HB.out)).at hp
      have hs1 := hc1 0 _ rfl
      have hp1 := hc2 0 _ rfl
      simp only [Nat.mul_one, Nat.add_zero] at hs1 hp1
      have HS := Lib.hid (And.intro hs hp)
      clear hc1 hc2 hs hp hkx hkp
      by_cases a1 : s < 0
      · have HE : Hid (spoilU l xs ps (k + 1) = spoilU l xs ps k) := Lib.hid (spoilU_no HS.out.1 HS.out.2 (spoils_a a1))
        go_wp2_with (fail)
        go_quiet (fail)
        go_wp2_with (fail)
        go_roundg (N - (k + 1))
        case measure => have := HG.out; omega
        case rel => exact ⟨k + 1, by omega, by go_num, rfl, by rw [HE.out], HB.out.drew _, HC.out, by rw [HE.out]; exact HO.out.below (Gr.drew (Gr.refl _) _)⟩
      by_cases a2 : (l.length : Int) ≤ s
      · have HE : Hid (spoilU l xs ps (k + 1) = spoilU l xs ps k) := Lib.hid (spoilU_no HS.out.1 HS.out.2 (spoils_b (by rw [HSUB.out.len]; exact a2)))
        go_wp2_with (fail)
        go_quiet (fail)
        go_wp2_with (fail)
        go_roundg (N - (k + 1))
        case measure => have := HG.out; omega
        case rel => exact ⟨k + 1, by omega, by go_num, rfl, by rw [HE.out], HB.out.drew _, HC.out, by rw [HE.out]; exact HO.out.below (Gr.drew (Gr.refl _) _)⟩
      by_cases a3 : p < 0
      · have HE : Hid (spoilU l xs ps (k + 1) = spoilU l xs ps k) := Lib.hid (spoilU_no HS.out.1 HS.out.2 (spoils_c a3))
        go_wp2_with (fail)
        go_quiet (fail)
        go_wp2_with (fail)
        go_roundg (N - (k + 1))
        case measure => have := HG.out; omega
        case rel => exact ⟨k + 1, by omega, by go_num, rfl, by rw [HE.out], HB.out.drew _, HC.out, by rw [HE.out]; exact HO.out.below (Gr.drew (Gr.refl _) _)⟩
      have hpl : parts (spoilU l xs ps k).1 = parts l := HSUB.out.prt
      have hrow : Row2 encS 3 wr A3 (spoilU l xs ps k).1 := by
        obtain ⟨A', c', e', hr', _⟩ := HO.out.row2 encS_len
        injection e' with e1 e2 e3
        rw [e1]
        exact hr'
      have HROW := Lib.hid hrow
      have HLL := Lib.hid HSUB.out.len
      have hll : 2 ≤ l.length ∧ l.length ≤ 4 := by have := okC_len HOK.out; omega
      have hp4 : parts l ≤ 4 := by have := okC_len HOK.out; omega
      have hse : (spoilU l xs ps k).1.length = l.length := HSUB.out.len
      clear hrow
      by_cases a4 : (parts l : Int) ≤ p
      · have HE : Hid (spoilU l xs ps (k + 1) = spoilU l xs ps k) := Lib.hid (spoilU_no HS.out.1 HS.out.2 (spoils_d (by rw [HSUB.out.prt]; exact a4)))
        go_wp2_with (fail)
        go_quiet (fail)
        go_wp2_with (go_at_call 30; refine (Parts_calls _ _ _ (spoilU l xs ps k).1 _ HSUB.out.len.symm (HROW.out.below (Gr.drew (Gr.refl _) _)) (by have := HSUB.out.len; omega)).mono ?_; rintro e w5 ⟨rfl, hb⟩; have H5 := Lib.hid (And.intro ((HB.out.drew _).step hb) (And.intro (HC.out.keep (hb.block _ HC.out.lt)) ((HO.out.below (Gr.drew (Gr.refl _) _)).below hb))); have hy5 := H5.out.2.1.cell; clear hb; rw [hpl])
        go_roundg (N - (k + 1))
        case measure => have := HG.out; omega
        case rel => exact ⟨k + 1, by omega, by go_num, rfl, by rw [HE.out], H5.out.1, H5.out.2.1, by rw [HE.out]; exact H5.out.2.2⟩
      obtain ⟨S, rfl⟩ := Int.eq_ofNat_of_zero_le (show 0 ≤ s by omega)
      obtain ⟨P, rfl⟩ := Int.eq_ofNat_of_zero_le (show 0 ≤ p by omega)
      have hSl : S < l.length := by omega
      have hPl : P < parts l := by omega
      have hsl : (sl (spoilU l xs ps k).1 S).length = parts l := by rw [(okC_slot HSUB.out.ok (by rw [hse]; exact hSl)).1, hpl]
      rcases hbad : (secAt (spoilU l xs ps k).1 S P).bad with _ | _
      rotate_left
      · have HE : Hid (spoilU l xs ps (k + 1) = spoilU l xs ps k) := Lib.hid (spoilU_no HS.out.1 HS.out.2 (spoils_e hbad))
        go_wp2_with (fail)
        go_quiet (fail)
        go_wp2_with (go_at_call 30; refine (Parts_calls _ _ _ (spoilU l xs ps k).1 _ HSUB.out.len.symm (HROW.out.below (Gr.drew (Gr.refl _) _)) (by have := HSUB.out.len; omega)).mono ?_; rintro e w5 ⟨rfl, hb⟩; have H5 := Lib.hid (And.intro ((HB.out.drew _).step hb) (And.intro (HC.out.keep (hb.block _ HC.out.lt)) ((HO.out.below (Gr.drew (Gr.refl _) _)).below hb))); have hy5 := H5.out.2.1.cell; obtain ⟨b3, o3, gj, cj, e3, hr3, hv3, ho3, hg3, hgs3, hf3, hz0, hz1, hz2⟩ := Own2.sec H5.out.2.2 (S := S) (P := P) (by have := HSUB.out.len; omega) (by rw [(okC_slot HSUB.out.ok (by have := HSUB.out.len; omega)).1]; omega); (first | cases e3 | skip); have hf0 := hf3 (P * 3); have hf1 := hf3 (P * 3 + 1); have hf2 := hf3 (P * 3 + 2); have H6 := Lib.hid (And.intro hv3 (And.intro ho3 (And.intro hg3 hgs3))); clear hv3 ho3 hg3 hf3 hb; rw [hpl]; rw [hbad] at hz2; rw [hsl] at hr3)
        go_roundg (N - (k + 1))
        case measure => have := HG.out; omega
        case rel => exact ⟨k + 1, by omega, by go_num, rfl, by rw [HE.out], H5.out.1, H5.out.2.1, by rw [HE.out]; exact H5.out.2.2⟩
      · have HE : Hid (spoilU l xs ps (k + 1) = (setSec (spoilU l xs ps k).1 S P Sec.b, (spoilU l xs ps k).2 + 1)) := Lib.hid (spoilU_yes HS.out.1 HS.out.2 (spoils_f (by rw [hse]; exact hSl) (by rw [hpl]; exact hPl) hbad))
        have HSL := Lib.hid hsl
        go_wp2_with (fail)
        go_quiet (fail)
        go_wp2_with (go_at_call 30; refine (Parts_calls _ _ _ (spoilU l xs ps k).1 _ HSUB.out.len.symm (HROW.out.below (Gr.drew (Gr.refl _) _)) (by have := HSUB.out.len; omega)).mono ?_; rintro e w5 ⟨rfl, hb⟩; have H5 := Lib.hid (And.intro ((HB.out.drew _).step hb) (And.intro (HC.out.keep (hb.block _ HC.out.lt)) ((HO.out.below (Gr.drew (Gr.refl _) _)).below hb))); have hy5 := H5.out.2.1.cell; obtain ⟨b3, o3, gj, cj, e3, hr3, hv3, ho3, hg3, hgs3, hf3, hz0, hz1, hz2⟩ := Own2.sec H5.out.2.2 (S := S) (P := P) (by have := HSUB.out.len; omega) (by rw [(okC_slot HSUB.out.ok (by have := HSUB.out.len; omega)).1]; omega); (first | cases e3 | skip); have hf0 := hf3 (P * 3); have hf1 := hf3 (P * 3 + 1); have hf2 := hf3 (P * 3 + 2); have H6 := Lib.hid (And.intro hv3 (And.intro ho3 (And.intro hg3 hgs3))); clear hv3 ho3 hg3 hf3 hb; rw [hpl]; rw [hbad] at hz2; rw [hsl] at hr3)
        go_roundg (N - (k + 1))
        case measure => have := HG.out; omega
        case rel =>
          have hgr := put3_grown w5 gj (P * 3) Sec.b
          have hsz := H5.out.1.size
          have hgj := H6.out.2.2.1
          refine ⟨k + 1, by omega, by go_num, rfl, by rw [HE.out]; go_num, H5.out.1.grown hgr hsz (fun k' hk' => by cases hk'; exact hgj), H5.out.2.1.keep (hgr.block Y H5.out.2.1.lt (fun e => ?_)), ?_⟩
          · have e2 : gj = Y := (Option.some.inj e).symm
            have h4 := HVB.out S _ H6.out.1 gj rfl
            omega
          rw [HE.out, setSec_eq P Sec.b (by rw [hse]; exact hSl)]
          exact Own2.update (w := w5) H5.out.2.2 (sl_get (by rw [hse]; exact hSl)) H6.out.1 (by simp [Value.ownBlock]) hgr (Own.put3 (w := w5) H6.out.2.1 rfl (by rw [HSL.out]; exact hPl) Sec.b)
    · have ek : k = N := by omega
      subst ek
      have hres := (bs3_cell HB.out).set (u := .slice A3 l.length c3) |>.cell
      have hb3 := (bs3_cell HB.out).cell
      have hlo : w.heap.size + 1 + 1 < wr.heap.size := by have := (bs3_cell HB.out).lt; exact this
      have hfr : wr.frozen? ⟨w.heap.size + 1 + 1, 0, none⟩ = false := (bs3_cell HB.out).free 0
      by_cases a1 : k < n1
      · have a2 := hsN k hlt a1
        go_wp2_with (fail)
        exact bodyPost_ret (v := .tuple #[.agg #[.slice A3 l.length c3], .int .i64 (spoilU l xs ps k).2]) (by simp [results, Tryd.results14, go_sem, hres]) rfl ⟨⟨_, _, rfl, (HO.out.kept (setCell_grown wr ⟨w.heap.size + 1 + 1, 0, none⟩ _) (by rw [bs3_size]; exact Nat.lt_succ_self _)).mono (by rw [bs3_size]; omega)⟩, Below.setCell (bs3_old HB.out) (by simp; omega) _⟩
      · go_wp2_with (fail)
        exact bodyPost_ret (v := .tuple #[.agg #[.slice A3 l.length c3], .int .i64 (spoilU l xs ps k).2]) (by simp [results, Tryd.results14, go_sem, hres]) rfl ⟨⟨_, _, rfl, (HO.out.kept (setCell_grown wr ⟨w.heap.size + 1 + 1, 0, none⟩ _) (by rw [bs3_size]; exact Nat.lt_succ_self _)).mono (by rw [bs3_size]; omega)⟩, Below.setCell (bs3_old HB.out) (by simp; omega) _⟩
end Go.Proofs.YtcpglghklmfbcaaDoor.T
