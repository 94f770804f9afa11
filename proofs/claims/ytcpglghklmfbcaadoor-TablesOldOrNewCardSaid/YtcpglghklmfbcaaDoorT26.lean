import Derived.Test.YtcpglghklmfbcaaDoorT25
import Derived.WalkMore
namespace Go.Proofs.YtcpglghklmfbcaaDoor.T
open Go Go.RowKit Go.Proofs.YtcpglghklmfbcaaDoor.M Go.Proofs.YtcpglghklmfbcaaDoor.R Go.Proofs.YtcpglghklmfbcaaDoorW.PrintLast
set_option linter.unusedVariables false
set_option linter.unusedSimpArgs false

theorem okC_of {l y : Cop} (h : okC l = true) (hl : y.length = l.length) (hs : ∀ i, i < l.length → (sl y i).length = (sl l i).length ∧ ∀ x ∈ sl y i, secOk x = true) : okC y = true := by
  have h1 := okC_len h
  have hp : ∀ c : Cop, 0 < c.length → parts c = (sl c 0).length := fun c hc => by cases c with | nil => simp at hc | cons a b => rfl
  have hpy : parts y = parts l := by rw [hp y (by omega), hp l (by omega)]; exact (hs 0 (by omega)).1
  refine okC_yes (by simp [within]; omega) (by simp [within]; omega) ?_
  rw [List.take_length]
  refine List.all_eq_true.2 fun xs hx => ?_
  obtain ⟨i, hi, rfl⟩ := List.getElem_of_mem hx
  have e : sl y i = y[i] := by
    have := sl_get hi
    rw [List.getElem?_eq_getElem hi] at this
    exact (Option.some.inj this).symm
  rw [← e]
  have h2 := hs i (by omega)
  have h3 := okC_slot h (show i < l.length by omega)
  simp only [slotOk, Bool.and_eq_true, beq_iff_eq, List.all_eq_true]
  exact ⟨by rw [hpy, h2.1]; exact h3.1, h2.2⟩
theorem yU_ok {l : Cop} (h : okC l = true) (s k : Nat) (hk : k ≤ l.length) : okC (yU l s k) = true := by
  refine okC_of h (yU_len l s k) fun i hi => ?_
  rw [yU_sl l s k hk i]
  have h3 := okC_slot h hi
  split
  · refine ⟨by simp, fun x hx => ?_⟩
    rcases List.mem_or_eq_of_mem_set hx with h4 | rfl
    · exact h3.2 x h4
    · rfl
  · exact ⟨rfl, h3.2⟩
theorem least_no1 {l : Cop} {t : List Int} {k : Nat} (h : ¬ (many k l.length : Int) < leastUpto l t k) : leastUpto l t (k + 1) = leastUpto l t k := by
  rw [leastUpto, if_neg (fun h2 => h h2.2.1)]
theorem least_no2 {l : Cop} {t : List Int} {k : Nat} (h : changes (yU l k l.length) t = false) : leastUpto l t (k + 1) = leastUpto l t k := by
  rw [leastUpto, h, if_neg (by simp)]
theorem least_yes {l : Cop} {t : List Int} {k : Nat} (h1 : okSet l k l.length = true) (h2 : (many k l.length : Int) < leastUpto l t k) (h : changes (yU l k l.length) t = true) : leastUpto l t (k + 1) = many k l.length := by
  rw [leastUpto, if_pos ⟨h1, h2, h⟩]
/-- One of the rows, as a walk reads it. -/
theorem Own2.at3 {w : World} {base : Nat} {A : Option Addr} {n c : Nat} {xss : Cop} {vs : List Value} (h : Own2 encS 3 78 41 w base (.slice A n c) xss vs) {j : Nat} {xs : List Sec} (hx : xss[j]? = some xs) (h0 : 0 < xs.length) :
    ∃ b o gj cj, A = some ⟨b, o, none⟩ ∧ b < w.heap.size ∧ w.cell? ⟨b, o + j, none⟩ = some (.slice (some ⟨gj, 0, none⟩) xs.length cj) ∧ vs[j]? = some (.slice (some ⟨gj, 0, none⟩) xs.length cj) ∧ Own encS 3 78 w base (.slice (some ⟨gj, 0, none⟩) xs.length cj) xs ∧ base ≤ gj ∧ gj < w.heap.size ∧ ∀ o, w.frozen? ⟨gj, o, none⟩ = false := by
  obtain ⟨h1, h2, h3, _⟩ := h
  have hjl : j < vs.length := by rw [h1]; exact (List.getElem?_eq_some_iff.1 hx).1
  obtain ⟨h4, _⟩ := h3 j xs _ hx (List.getElem?_eq_getElem hjl)
  obtain ⟨gj, cj, e, h5, h6, h7⟩ := Own.form h4 h0
  obtain ⟨A', c', e2, hrow, _⟩ := h2.row encV_len
  cases e2
  obtain ⟨b, o, e3, hc⟩ := hrow.at (List.getElem?_eq_getElem hjl)
  have hc0 := hc 0 _ rfl
  simp only [Nat.mul_one, Nat.add_zero] at hc0
  rw [e] at hc0 h4
  exact ⟨b, o, gj, cj, e3, World.block_lt_of_cell? w _ hc0, hc0, by rw [List.getElem?_eq_getElem hjl, e], h4, h5, h6, h7⟩
theorem rib2 {a a' b : Int} (h : a = a') : Ending.returned (.tuple #[.int .i64 a, .int .i64 b]) = .returned (.tuple #[.int .i64 a', .int .i64 b]) := by rw [h]
theorem bit_bits (k j : Nat) (hk : k < 16) : (bits BinOp.and IntKind.i64 ((k : Int) / 2 ^ j) 1 == 0) = !bitN k j := by
  have e : (k : Int) / 2 ^ j = ((k / 2 ^ j : Nat) : Int) := by simp
  rw [e]
  unfold bitN
  have hq : k / 2 ^ j < 16 := Nat.lt_of_le_of_lt (Nat.div_le_self _ _) hk
  generalize k / 2 ^ j = q at *
  have : q = 0 ∨ q = 1 ∨ q = 2 ∨ q = 3 ∨ q = 4 ∨ q = 5 ∨ q = 6 ∨ q = 7 ∨ q = 8 ∨ q = 9 ∨ q = 10 ∨ q = 11 ∨ q = 12 ∨ q = 13 ∨ q = 14 ∨ q = 15 := by omega
  rcases this with rfl | rfl | rfl | rfl | rfl | rfl | rfl | rfl | rfl | rfl | rfl | rfl | rfl | rfl | rfl | rfl <;> rfl
/-- What the program's Margin computes. -/
def gmargin (l : Cop) : Int × Int :=
  if checkM l = 0 then (match newest l with | some s => (leastUpto l (tab (sl l s)) (2 ^ l.length), 0) | none => (0, 0)) else (0, checkM l)
theorem gmargin_err {l : Cop} (h : checkM l ≠ 0) : gmargin l = (0, checkM l) := by simp [gmargin, h]
theorem gmargin_none {l : Cop} (h : checkM l = 0) (h2 : newest l = none) : gmargin l = (0, 0) := by simp [gmargin, h, h2]
theorem gmargin_some {l : Cop} {s : Nat} (h : checkM l = 0) (h2 : newest l = some s) : gmargin l = (leastUpto l (tab (sl l s)) (2 ^ l.length), 0) := by simp [gmargin, h, h2]
theorem least_range (l : Cop) (t : List Int) : ∀ s, 0 ≤ leastUpto l t s ∧ leastUpto l t s ≤ l.length
  | 0 => by simp [leastUpto]
  | s + 1 => by
    have ih := least_range l t s
    have := many_le s l.length
    unfold leastUpto
    split <;> omega

set_option maxHeartbeats 1000000 in
set_option maxRecDepth 100000 in
theorem gMargin_calls (A : Option Addr) (n c : Nat) (l : Cop) (w : World) (hn : n = l.length) (hR : Row2 encS 3 w A l) (hs : small l) (hbad : IsBad w) :
    Calls Tryd.prog 13 #[.agg #[.slice A n c]] w fun e w' => e = .returned (.tuple #[.int .i64 (gmargin l).1, .int .i64 (gmargin l).2]) ∧ Below w.heap.size w w' := by
  have HR := Lib.hid hR
  have HN := Lib.hid hn
  have HBA := Lib.hid hbad
  have HO := Lib.hid (open_calls A n c l (bs w (.slice A n c) 24) hn (hR.below (bs_old (Gr.refl _))) hs (hbad.below (bs_old (Gr.refl (bs w (.slice A n c) 24))) hbad.lt))
  clear hR hn hs hbad
  by_cases h1 : checkM l = 0
  · have HM := Lib.hid h1
    have HOK := Lib.hid (checkM_ok h1).1
    clear h1
    cases h2 : newest l with
    | none =>
      have HE := Lib.hid (gmargin_none HM.out h2)
      have HW := Lib.hid (newI_none h2)
      rw [HE.out]
      clear h2
      go_enter Tryd.func13, Tryd.ntmps13
      go_wp2
      go_step3
      go_wp2_with (go_at_call 40; refine HO.out.mono ?_; rintro e w2 ⟨hb, h3, _⟩; obtain ⟨g, m, hg, hm, rfl, hop⟩ := h3 HM.out; have HB2 := Lib.hid (show Gr (bs w (.slice A n c) 24) w2 from hb); have hc2 := (cp_cells hop.1).2.2.1; rw [HW.out] at hc2; clear hb h3 hop)
      try rw [Exit.noGoto_ret]
      go_ret2
      exact ⟨rfl, bs_old HB2.out⟩
    | some o =>
      have HE := Lib.hid (gmargin_some HM.out h2)
      have HNE := Lib.hid h2
      have HW := Lib.hid (newI_some h2)
      have HL := Lib.hid (newest_lt h2)
      have hln := okC_len HOK.out
      have hn4 : n ≤ 4 := by have := HN.out; omega
      have hn2 : 2 ≤ n := by have := HN.out; omega
      have hon : o < n := by have := HN.out; have := HL.out.1; omega
      have hshl : wrap64 (2 ^ n) = ((2 ^ n : Nat) : Int) := by
        have : n = 2 ∨ n = 3 ∨ n = 4 := by omega
        rcases this with rfl | rfl | rfl <;> (unfold wrap64; omega)
      rw [HE.out]
      clear h2 hln
      have hpow : 2 ^ n ≤ 16 := by
        have : n = 2 ∨ n = 3 ∨ n = 4 := by omega
        rcases this with rfl | rfl | rfl <;> decide
      have HPW := Lib.hid (show 2 ^ n = 2 ^ l.length by rw [HN.out])
      obtain ⟨N, hN⟩ : ∃ N : Nat, N = 2 ^ n := ⟨_, rfl⟩
      rw [← hN] at hshl hpow HPW
      clear hN
      go_enter Tryd.func13, Tryd.ntmps13
      go_wp2
      go_step3
      go_wp2_with (go_at_call 40; refine HO.out.mono ?_; rintro e w2 ⟨hb, h3, _⟩; obtain ⟨g, m, hg, hm, rfl, hop⟩ := h3 HM.out; have HB2 := Lib.hid (show Gr (bs w (.slice A n c) 24) w2 from hb); have hbox := bs_box hb; have hc2 := (cp_cells hop.1).2.2.1; have HOP := Lib.hid hop; rw [HW.out] at hc2; clear hb h3 hop)
      go_step3
      go_wp2_with (fail)
      rw [hshl]
      clear hshl
      go_loopg [6, 36] N (fun gk b i wr => ∃ k : Nat, k ≤ N ∧ i = .int .i64 k ∧ gk = N - k ∧ Gr w2 wr ∧ b = .int .i64 (leastUpto l (tab (sl l o)) k))
      case atStart => exact ⟨0, Nat.zero_le _, rfl, rfl, Gr.refl _, by rw [HN.out]; rfl⟩
      case round =>
        obtain ⟨k, hk, rfl, hgk, hB, rfl⟩ := hrel
        have HB := Lib.hid hB
        have HG := Lib.hid hgk
        have HB2' := Lib.hid (HB2.out.step hB)
        have hwb := bs_box HB2'.out
        have hlr := least_range l (tab (sl l o)) k
        have hln : (l.length : Int) ≤ 4 := by have := HN.out; omega
        clear hB hgk hbox hc2
        by_cases hlt : k < N
        · have hcp : ∀ W, Gr w2 W → Calls Tryd.prog 42 #[.agg #[.slice A n c]] W (RetC W l) := fun W hW => copied_calls A n c l W HN.out (HR.out.below (bs_old (HB2.out.step hW))) (by omega) (fun s hs => by have := okC_slot HOK.out hs; have := okC_len HOK.out; omega)
          have HCP := Lib.hid (hcp wr HB.out)
          clear hcp
          go_wp2_with (go_at_call 42; refine HCP.out.mono ?_; rintro e w3 ⟨⟨v, vs, rfl, hO⟩, hb⟩; obtain ⟨A3, c3, rfl, hrow3, hc3⟩ := hO.row2 encS_len; have HC3 := Lib.hid (And.intro hO (show Gr wr w3 from hb)); have hwb3 := bs_box (HB2'.out.step (show Gr wr w3 from hb)); have hbs3 := Nat.lt_of_lt_of_le (show w.heap.size < wr.heap.size by have := HB2'.out.size; rw [bs_size] at this; omega) hb.size; clear hO hb hrow3 hc3)
          obtain ⟨wb, rfl⟩ : ∃ wb, wb = wr := ⟨_, rfl⟩
          have hvb : ∀ (j : Nat) (u : Value), vs[j]? = some u → ∀ q, u.ownBlock = some q → wb.heap.size ≤ q ∧ q < w3.heap.size := fun j u hu q hq => by
            obtain ⟨x, hx⟩ : ∃ x, l[j]? = some x := ⟨_, List.getElem?_eq_getElem (by rw [← HC3.out.1.1]; exact (List.getElem?_eq_some_iff.1 hu).1)⟩
            exact (HC3.out.1.2.2.1 j x u hx hu).1.lt q hq
          have HI := Lib.hid (And.intro ((HC3.out.2.alloc (.cells #[.slice A3 l.length c3] 24))) (And.intro (Cell1.new w3 (.slice A3 l.length c3) 24) (And.intro (HC3.out.1.below ((Below.refl w3.heap.size w3).alloc (Nat.le_refl _) (.cells #[.slice A3 l.length c3] 24))) hvb)))
          have hY : wb.heap.size ≤ w3.heap.size := HC3.out.2.size
          clear hvb hwb3 hbs3 hwb HC3
          generalize w3.heap.size = Y at *
          go_loopg [9, 44] n (fun gk mv iv wq => ∃ j : Nat, j ≤ n ∧ iv = .int .i64 j ∧ gk = n - j ∧ Gr wb wq ∧ Cell1 wq Y (.slice A3 l.length c3) 24 ∧ Own2 encS 3 78 41 wq wb.heap.size (.slice A3 l.length c3) (yU l k j) vs ∧ mv = .int .i64 (many k j) ∧ okSet l k j = true)
          case atStart => exact ⟨0, Nat.zero_le _, rfl, rfl, HI.out.1, HI.out.2.1, HI.out.2.2.1, rfl, rfl⟩
          case round =>
            obtain ⟨j, hj, rfl, hgj, hBj, hCj, hOj, rfl, hokj⟩ := hrel
            have HJ := Lib.hid (And.intro hgj (And.intro hBj (And.intro hCj (And.intro hOj hokj))))
            have HIV := Lib.hid HI.out.2.2.2
            have hmj := many_le k j
            clear hgj hBj hCj hOj hokj HI
            by_cases hlt2 : j < n
            · have hk16 : k < 16 := by omega
              have hbt := bit_bits k j hk16
              have hjl : j < l.length := by have := HN.out; omega
              have hop := HOP.out.below (HB.out.step HJ.out.2.1)
              have HOJ := Lib.hid hop
              obtain ⟨hw0, hw1, hw2, hwf, hwg⟩ := cp_cells hop.1
              clear hop hwf
              rcases hbit : bitN k j with _ | _
              · have HBIT := Lib.hid hbit
                rw [hbit] at hbt
                change (bits BinOp.and IntKind.i64 ((k : Int) / 2 ^ j) 1 == 0) = true at hbt
                go_wp2_with (fail)
                go_roundg (n - (j + 1))
                case measure => have := HJ.out.1; omega
                case rel => exact ⟨j + 1, by omega, by go_num, rfl, HJ.out.2.1, HJ.out.2.2.1, by rw [yU, HBIT.out]; exact HJ.out.2.2.2.1, by rw [many_no HBIT.out], by rw [okSet_succ, HJ.out.2.2.2.2, HBIT.out]; rfl⟩
              · have HBIT := Lib.hid hbit
                rw [hbit] at hbt
                change (bits BinOp.and IntKind.i64 ((k : Int) / 2 ^ j) 1 == 0) = false at hbt
                rcases hwh : whole (sl l j) with _ | _
                · have HW2 := Lib.hid hwh
                  have hlk := look72_no HOJ.out.2 (look_no (k := l.length) hwh)
                  have HLE : Hid (leastUpto l (tab (sl l o)) (k + 1) = leastUpto l (tab (sl l o)) k) := Lib.hid (by
                    rw [leastUpto, okSet_no hjl HBIT.out hwh]
                    simp)
                  go_wp2_with (fail)
                  go_roundg (N - (k + 1))
                  case measure => have := HG.out; omega
                  case rel => exact ⟨k + 1, by omega, by go_num, rfl, HB.out.step HJ.out.2.1, by rw [HLE.out]⟩
                · have HW2 := Lib.hid hwh
                  have hlk := look72_ok HOJ.out.2 (look_yes hjl hwh)
                  have hyj : sl (yU l k j) j = sl l j := by rw [yU_sl l k j (by omega) j, if_neg (by omega)]
                  have hlj : 0 < (sl l j).length := by have := okC_slot HOK.out hjl; have := okC_len HOK.out; omega
                  obtain ⟨b3, o3, gj, cj, rfl, hb3, hrj, hvj, hoj, hgj, hgjs, hfj⟩ := Own2.at3 HJ.out.2.2.2.1 (show (yU l k j)[j]? = some (sl l j) by rw [← hyj]; exact sl_get (by rw [yU_len]; exact hjl)) hlj
                  have hgY := (HIV.out j _ hvj gj rfl).2
                  have hy0 := HJ.out.2.2.1.cell
                  have hbd := HBA.out.below ((bs_old HB2.out).trans ((HB.out.trans (HJ.out.2.1.mono HB.out.size)).mono (bs_old HB2.out).size)) HBA.out.lt
                  obtain ⟨A5, c5, e5, hrow5, _⟩ := hoj.row encS_len
                  cases e5
                  obtain ⟨_, _, e6, _, hz0, hz1, hz2⟩ := RowS.at hrow5 hlj
                  cases e6
                  have hf0 := hfj 0
                  have hf1 := hfj 1
                  have hf2 := hfj 2
                  simp only [Nat.zero_mul, Nat.zero_add] at hz0 hz1 hz2
                  have HV := Lib.hid (And.intro hvj (And.intro hoj (And.intro hgj (And.intro hgjs hyj))))
                  clear hvj hoj hgj hrow5 hfj hyj
                  go_wp2_with (fail)
                  refine start_ (n := 8) (S := fun W' => W'.cell? ⟨Y, 0, none⟩ = some (.slice (some ⟨b3, o3, none⟩) l.length c3) ∧ W'.cell? ⟨b3, o3 + j, none⟩ = some (.slice (some ⟨gj, 0, none⟩) (sl l j).length cj) ∧ W'.cell? ⟨0, 0, none⟩ = some (.int .i64 0) ∧ W'.cell? ⟨0, 1, none⟩ = some (.int .i64 0) ∧ W'.cell? ⟨0, 2, none⟩ = some (.bool true)) (ds := [7]) #[false, false, false, false, false, false, false, false] (by kernel_rfl) rfl rfl ⟨hy0, hrj, hbd.1, hbd.2.1, hbd.2.2⟩ (fun hHeld => ?_)
                  refine pure_ (i := 0) (N := some 63) (v := ?_) (a' := ?_) #[true, false, false, false, false, false, false, false] rfl rfl (by kernel_rfl) (fun _ _ _ h => h) (Or.inl ⟨by rfl, ?_⟩) ?_ ?_
                  rotate_left
                  · intro w_
                    go_simp
                    with_reducible rfl
                  rotate_left
                  · simp only [Act.put, List.setIfInBounds_toArray, List.set_cons_zero, List.set_cons_succ]
                    rfl
                  refine pure_ (i := 2) (N := some 65) (v := ?_) (a' := ?_) #[true, false, true, false, false, false, false, false] rfl rfl (by kernel_rfl) (fun _ _ _ h => h) (Or.inl ⟨by rfl, ?_⟩) ?_ ?_
                  rotate_left
                  · intro w_
                    go_simp
                    with_reducible rfl
                  rotate_left
                  · simp only [Act.put, List.setIfInBounds_toArray, List.set_cons_zero, List.set_cons_succ]
                    rfl
                  refine take_ (i := 1) (N := some 64) (v := ?_) (a' := ?_) #[true, true, true, false, false, false, false, false] rfl rfl (by kernel_rfl) (fun _ _ _ h => h) (Or.inl ⟨by rfl, ?_⟩) hHeld ?_ ?_
                  rotate_left
                  · rintro w_ ⟨s0, s1, s2, s3, s4⟩
                    go_simp
                    with_reducible rfl
                  rotate_left
                  · simp only [Act.put, List.setIfInBounds_toArray, List.set_cons_zero, List.set_cons_succ]
                    rfl
                  refine pure_ (i := 3) (N := some 66) (v := ?_) (a' := ?_) #[true, true, true, true, false, false, false, false] rfl rfl (by kernel_rfl) (fun _ _ _ h => h) (Or.inl ⟨by rfl, ?_⟩) ?_ ?_
                  rotate_left
                  · intro w_
                    go_simp
                    with_reducible rfl
                  rotate_left
                  · simp only [Act.put, List.setIfInBounds_toArray, List.set_cons_zero, List.set_cons_succ]
                    rfl
                  refine take_ (i := 4) (N := some 67) (v := ?_) (a' := ?_) #[true, true, true, true, true, false, false, false] rfl rfl (by kernel_rfl) (fun _ _ _ h => h) (Or.inl ⟨by rfl, ?_⟩) hHeld ?_ ?_
                  rotate_left
                  · rintro w_ ⟨s0, s1, s2, s3, s4⟩
                    go_simp
                    with_reducible rfl
                  rotate_left
                  · simp only [Act.put, List.setIfInBounds_toArray, List.set_cons_zero, List.set_cons_succ]
                    rfl
                  refine take_ (i := 5) (N := some 68) (v := ?_) (a' := ?_) #[true, true, true, true, true, true, false, false] rfl rfl (by kernel_rfl) (fun _ _ _ h => h) (Or.inl ⟨by rfl, ?_⟩) hHeld ?_ ?_
                  rotate_left
                  · rintro w_ ⟨s0, s1, s2, s3, s4⟩
                    go_simp
                    with_reducible rfl
                  rotate_left
                  · simp only [Act.put, List.setIfInBounds_toArray, List.set_cons_zero, List.set_cons_succ]
                    rfl
                  refine pure_ (i := 6) (N := some 69) (v := ?_) (a' := ?_) #[true, true, true, true, true, true, true, false] rfl rfl (by kernel_rfl) (fun _ _ _ h => h) (Or.inl ⟨by rfl, ?_⟩) ?_ ?_
                  rotate_left
                  · intro w_
                    go_simp
                    with_reducible rfl
                  rotate_left
                  · simp only [Act.put, List.setIfInBounds_toArray, List.set_cons_zero, List.set_cons_succ]
                    rfl
                  refine last_ (i := 7) (N := none) #[true, true, true, true, true, true, true, true] rfl rfl (by kernel_rfl) (by decide) (fun K hK => ?_)
                  refine skip_ (w1 := put3 wr.drew gj 0 Sec.b) (by rfl) rfl ?_ ?_
                  · first | (go_simp; done) | (go_simp; rfl)
                  refine hK.out _ _ ?_
                  clear hK K
                  refine done_ (by kernel_rfl) ?_
                  go_wp2_with (fail)
                  go_roundg (n - (j + 1))
                  case measure => have := HJ.out.1; omega
                  case rel =>
                    have hgr := put3_grown wr.drew gj 0 Sec.b
                    refine ⟨j + 1, by omega, by go_num, rfl, (HJ.out.2.1.drew _).grown hgr HJ.out.2.1.size (fun k' hk' => by cases hk'; exact HV.out.2.2.1), HJ.out.2.2.1.keep (hgr.block Y HJ.out.2.2.1.lt (by simp; omega)), ?_, by rw [many_yes HBIT.out]; rfl, by rw [okSet_succ, HJ.out.2.2.2.2, HBIT.out, HW2.out]; rfl⟩
                    rw [yU, if_pos HBIT.out, setSec_eq 0 _ (by rw [yU_len]; exact hjl), HV.out.2.2.2.2]
                    exact Own2.update (w := wr.drew) HJ.out.2.2.2.1 (show (yU l k j)[j]? = some (sl l j) by rw [← HV.out.2.2.2.2]; exact sl_get (by rw [yU_len]; exact hjl)) HV.out.1 (by simp [Value.ownBlock]) hgr (Own.put3 (w := wr.drew) HV.out.2.1 rfl hlj Sec.b)
            · have hjn : j = l.length := by have := HN.out; omega
              subst hjn
              have hyl := yU_len l k l.length
              have hrec : Calls Tryd.prog 12 #[.agg #[.slice A3 l.length c3]] wr (Ret3 wr (recover (yU l k l.length)).1 (recover (yU l k l.length)).2.1 (recover (yU l k l.length)).2.2) := by
                obtain ⟨A', c', e', hrow, _⟩ := HJ.out.2.2.2.1.row2 encS_len
                injection e' with e1 e2 e3
                subst e1
                exact gRecover_calls A3 l.length c3 (yU l k l.length) wr hyl.symm hrow (okC_small (yU_ok HOK.out k _ (Nat.le_refl _))) (HBA.out.below ((bs_old HB2.out).trans ((HB.out.trans (HJ.out.2.1.mono HB.out.size)).mono (bs_old HB2.out).size)) HBA.out.lt)
              have HREC := Lib.hid hrec
              have hop := HOP.out.below (HB.out.step HJ.out.2.1)
              have HOJ := Lib.hid hop
              have hy0 := HJ.out.2.2.1.cell
              have hmj2 : many k l.length ≤ 4 := by omega
              clear hop hyl hrec
              by_cases c1 : (many k l.length : Int) < leastUpto l (tab (sl l o)) k
              rotate_left
              · have C1 := Lib.hid c1
                rcases c2 : ((recover (yU l k l.length)).2.2 != 0) with _ | _
                all_goals
                  go_wp2_with (go_at_call 12; refine HREC.out.mono ?_; rintro e w5 ⟨⟨v5, rfl, hO5⟩, hb⟩; obtain ⟨A5, c5, rfl, hrow5, hc5⟩ := hO5.row encI_len; have H5 := Lib.hid (And.intro hrow5 (show Gr wr w5 from hb)); have hg5 := (cp_cells (HOJ.out.below hb).1).2.2.1; rw [HW.out] at hg5; clear hO5 hb hrow5 hc5)
                  go_roundg (N - (k + 1))
                  case measure => have := HG.out; omega
                  case rel => exact ⟨k + 1, by omega, by go_num, rfl, HB.out.step (HJ.out.2.1.step H5.out.2), by rw [least_no1 (by have := C1.out; omega)]⟩
              have C1 := Lib.hid c1
              rcases c2 : ((recover (yU l k l.length)).2.2 != 0) with _ | _
              rotate_left
              · have C2 := Lib.hid c2
                go_wp2_with (go_at_call 12; refine HREC.out.mono ?_; rintro e w5 ⟨⟨v5, rfl, hO5⟩, hb⟩; obtain ⟨A5, c5, rfl, hrow5, hc5⟩ := hO5.row encI_len; have H5 := Lib.hid (And.intro hrow5 (show Gr wr w5 from hb)); have hg5 := (cp_cells (HOJ.out.below hb).1).2.2.1; rw [HW.out] at hg5; clear hO5 hb hrow5 hc5)
                go_roundg (N - (k + 1))
                case measure => have := HG.out; omega
                case rel => exact ⟨k + 1, by omega, by go_num, rfl, HB.out.step (HJ.out.2.1.step H5.out.2), by rw [least_yes HJ.out.2.2.2.2 C1.out (by rw [changes, C2.out]; rfl)]⟩
              rcases c3 : ((recover (yU l k l.length)).1 == tab (sl l o)) with _ | _
              · have C2 := Lib.hid c2
                have C3 := Lib.hid c3
                go_wp2_with (first
                  | (go_at_call 12; refine HREC.out.mono ?_; rintro e w5 ⟨⟨v5, rfl, hO5⟩, hb⟩; obtain ⟨A5, c5, rfl, hrow5, hc5⟩ := hO5.row encI_len; have H5 := Lib.hid (And.intro hrow5 (show Gr wr w5 from hb)); have hg5 := (cp_cells (HOJ.out.below hb).1).2.2.1; rw [HW.out] at hg5; clear hO5 hb hrow5 hc5)
                  | (go_at_call 41; refine (gtable_calls g A n c o l w5 (cp_cells (HOJ.out.below H5.out.2).1).1 HN.out (HR.out.below (bs_old ((HB2.out.step ((HB.out.step HJ.out.2.1).step H5.out.2))))) HL.out.1 (by have := okC_slot HOK.out HL.out.1; have := okC_len HOK.out; omega)).mono ?_; rintro e w6 ⟨⟨v6, rfl, hO6⟩, hb⟩; obtain ⟨A6, c6, rfl, hrow6, hc6⟩ := hO6.row encI_len; have H6 := Lib.hid (And.intro hrow6 (And.intro (H5.out.1.below hb) (H5.out.2.step hb))); clear hO6 hb hrow6 hc6)
                  | (go_at_call 43; refine (Equal_calls _ _ _ _ _ _ w6 H6.out.2.1 H6.out.1).mono ?_; rintro e w7 ⟨rfl, hb⟩; rw [C3.out]; have H7 := Lib.hid (H6.out.2.2.step hb); clear hb))
                go_roundg (N - (k + 1))
                case measure => have := HG.out; omega
                case rel => exact ⟨k + 1, by omega, by go_num, rfl, HB.out.step (HJ.out.2.1.step H7.out), by rw [least_yes HJ.out.2.2.2.2 C1.out (by rw [changes, C3.out]; simp)]⟩
              · have C2 := Lib.hid c2
                have C3 := Lib.hid c3
                go_wp2_with (first
                  | (go_at_call 12; refine HREC.out.mono ?_; rintro e w5 ⟨⟨v5, rfl, hO5⟩, hb⟩; obtain ⟨A5, c5, rfl, hrow5, hc5⟩ := hO5.row encI_len; have H5 := Lib.hid (And.intro hrow5 (show Gr wr w5 from hb)); have hg5 := (cp_cells (HOJ.out.below hb).1).2.2.1; rw [HW.out] at hg5; clear hO5 hb hrow5 hc5)
                  | (go_at_call 41; refine (gtable_calls g A n c o l w5 (cp_cells (HOJ.out.below H5.out.2).1).1 HN.out (HR.out.below (bs_old ((HB2.out.step ((HB.out.step HJ.out.2.1).step H5.out.2))))) HL.out.1 (by have := okC_slot HOK.out HL.out.1; have := okC_len HOK.out; omega)).mono ?_; rintro e w6 ⟨⟨v6, rfl, hO6⟩, hb⟩; obtain ⟨A6, c6, rfl, hrow6, hc6⟩ := hO6.row encI_len; have H6 := Lib.hid (And.intro hrow6 (And.intro (H5.out.1.below hb) (H5.out.2.step hb))); clear hO6 hb hrow6 hc6)
                  | (go_at_call 43; refine (Equal_calls _ _ _ _ _ _ w6 H6.out.2.1 H6.out.1).mono ?_; rintro e w7 ⟨rfl, hb⟩; rw [C3.out]; have H7 := Lib.hid (H6.out.2.2.step hb); clear hb))
                go_roundg (N - (k + 1))
                case measure => have := HG.out; omega
                case rel => exact ⟨k + 1, by omega, by go_num, rfl, HB.out.step (HJ.out.2.1.step H7.out), by rw [least_no2 (by rw [changes, C2.out, C3.out]; rfl)]⟩
        · have hkN : k = N := by omega
          go_wp2_with (fail)
          try rw [Exit.noGoto_ret]
          go_ret2
          exact ⟨rib2 (by rw [hkN, HPW.out]), bs_old HB2'.out⟩
  · have HE := Lib.hid (gmargin_err h1)
    have hq := neq_of h1
    have HQ := Lib.hid h1
    rw [HE.out]
    clear h1
    go_enter Tryd.func13, Tryd.ntmps13
    go_wp2
    go_step3
    go_wp2_with (go_at_call 40; go_must (refine HO.out.mono ?_; rintro e w2 ⟨hb, _, h3⟩); obtain rfl := h3 HQ.out; have HB2 := Lib.hid (show Gr (bs w (.slice A n c) 24) w2 from hb); clear hb h3)
    try rw [Exit.noGoto_ret]
    go_ret2
    exact ⟨rfl, bs_old HB2.out⟩
end Go.Proofs.YtcpglghklmfbcaaDoor.T
