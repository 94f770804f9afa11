import Derived.Test.YtcpglghklmfbcaaDoorT22
namespace Go.Proofs.YtcpglghklmfbcaaDoor.T
open Go Go.RowKit Go.Proofs.YtcpglghklmfbcaaDoor.M Go.Proofs.YtcpglghklmfbcaaDoor.R
set_option linter.unusedVariables false
set_option linter.unusedSimpArgs false

theorem IndexFuncI_calls (A : Option Addr) (c : Nat) (xs : List Int) (p : Int → Bool) (g : Nat) (lb : Array Value) (w : World) (eg : ∀ args w, (callFunc g args).run Tryd.prog w = .ok (.enter g args) w)
    (hp : PredOk g lb (Value.int .i64) p xs w) (hR : Row encI 1 w A xs) (hl : xs.length ≤ 1000) :
    Calls Tryd.prog 70 #[.slice A xs.length c, .func (.func g) #[] lb] w fun e w' => e = .returned (.int .i64 (idx p xs)) ∧ Below w.heap.size w w' := by
  have HR := Lib.hid hR
  have HP := Lib.hid hp
  clear hR hp
  go_enter Tryd.func70, Tryd.ntmps70
  go_wp2
  go_loopg [8] xs.length (fun gg i wr => ∃ k : Nat, k ≤ xs.length ∧ i = .int .i64 k ∧ gg = xs.length - k ∧ Below w.heap.size w wr ∧ ∀ j x, j < k → xs[j]? = some x → p x = false)
  case atStart => exact ⟨0, Nat.zero_le _, rfl, rfl, Below.refl _ _, fun j x h => absurd h (by omega)⟩
  case round =>
    obtain ⟨k, hk, rfl, hg2, hB, hO⟩ := hrel
    have HB := Lib.hid hB
    have HA := Lib.hid (And.intro hg2 hO)
    clear hB hO hg2
    by_cases hlt : k < xs.length
    · obtain ⟨b3, off3, rfl, hbl, h4⟩ := RowI.at (HR.out.below HB.out) hlt
      rcases hq : p xs[k] with _ | _
      · have HQ := Lib.hid hq
        go_wp2_with (go_at_fn g; refine (HP.out wr xs[k] (List.getElem_mem hlt) HB.out).mono ?_; rintro e w1 ⟨rfl, hb⟩; rw [HQ.out]; have HB1 := Lib.hid hb; clear hb)
        go_roundg (xs.length - (k + 1))
        case measure => have := HA.out.1; omega
        case rel => exact ⟨k + 1, by omega, by go_num, rfl, HB1.out, none_succ HA.out.2 (List.getElem?_eq_getElem hlt) HQ.out⟩
      · have HQ := Lib.hid hq
        go_wp2_with (go_at_fn g; refine (HP.out wr xs[k] (List.getElem_mem hlt) HB.out).mono ?_; rintro e w1 ⟨rfl, hb⟩; rw [HQ.out]; have HB1 := Lib.hid hb; clear hb)
        go_ret
        exact ⟨ri (idx_hit hlt HA.out.2 HQ.out).symm, HB1.out⟩
    · go_wp2
      go_ret
      exact ⟨ri (idx_miss (fun j x hj hx => HA.out.2 j x (by omega) hx)).symm, HB.out⟩
theorem ContainsFuncI_calls (A : Option Addr) (c : Nat) (xs : List Int) (p : Int → Bool) (g : Nat) (lb : Array Value) (w : World) (eg : ∀ args w, (callFunc g args).run Tryd.prog w = .ok (.enter g args) w)
    (hp : PredOk g lb (Value.int .i64) p xs w) (hR : Row encI 1 w A xs) (hl : xs.length ≤ 1000) :
    Calls Tryd.prog 54 #[.slice A xs.length c, .func (.func g) #[] lb] w fun e w' => e = .returned (.bool (xs.any p)) ∧ Below w.heap.size w w' := by
  rw [← idx_any]
  have hc := IndexFuncI_calls A c xs p g lb w eg hp hR hl
  clear hp hR
  generalize idx p xs = r at hc ⊢
  go_enter Tryd.func54, Tryd.ntmps54
  go_wp2_with (go_at_call 70; refine hc.mono ?_; rintro e w1 ⟨rfl, hb⟩)
  go_ret
  exact ⟨rfl, hb⟩

theorem datumP (t : List Int) (w : World) : PredOk 55 #[] (Value.int .i64) (fun x => !within x 0 99) t w := fun W x hx hb => by
  have HB := Lib.hid hb
  clear hb hx
  show Calls Tryd.prog 55 #[.int .i64 x] W _
  go_enter Tryd.func55, Tryd.ntmps55
  go_wp2_with (go_at_call 47; refine (gdatum_calls _ _).mono ?_; rintro e w1 ⟨rfl, rfl⟩)
  go_ret
  exact ⟨rfl, HB.out⟩
theorem gTable_calls (A : Option Addr) (c : Nat) (t : List Int) (w : World) (hR : Row encI 1 w A t) (hl : t.length ≤ 1000) :
    Calls Tryd.prog 54 #[.slice A t.length c, .func (.func 55) #[] #[]] w fun e w' => e = .returned (.bool (!t.all fun x => within x 0 99)) ∧ Below w.heap.size w w' := by
  have h := ContainsFuncI_calls A c t _ 55 #[] w (enters_of Tryd.func55 (by kernel_rfl) rfl) (datumP t w) hR hl
  rw [List.not_all_eq_any_not]
  exact h
theorem isTable_len {l : Cop} {t : List Int} (h : ((t.length : Int) != parts l) = true) : isTable l t = false := by
  simp only [bne_iff_ne, ne_eq] at h
  have : (t.length == parts l) = false := by simp only [beq_eq_false_iff_ne, ne_eq]; omega
  rw [isTable, this, Bool.and_false]
theorem isTable_all {l : Cop} {t : List Int} (h : ((t.length : Int) != parts l) = false) : isTable l t = t.all fun x => within x 0 99 := by
  simp only [bne_eq_false_iff_eq] at h
  have : (t.length == parts l) = true := by simp only [beq_iff_eq]; omega
  rw [isTable, this, Bool.and_true]

theorem free_range (l : Cop) (S : List Nat) : 0 ≤ free l S ∧ free l S ≤ 63 := by
  unfold free
  cases skip l S with
  | none => simp
  | some m => exact num_range l m

set_option maxHeartbeats 1000000 in
theorem gUpdate_calls (A A' : Option Addr) (n c c' : Nat) (l : Cop) (t : List Int) (w : World) (hn : n = l.length) (hR : Row2 encS 3 w A l) (hR' : Row encI 1 w A' t) (hs : small l) (ht : t.length ≤ 1000) (hbad : IsBad w) :
    Calls Tryd.prog 29 #[.agg #[.slice A n c], .slice A' t.length c'] w (RetR encP 4 68 w (update l t).1 (update l t).2) := by
  have HR := Lib.hid hR
  have HR' := Lib.hid hR'
  have HN := Lib.hid hn
  have HO := Lib.hid (open_calls A n c l (bs w (.slice A n c) 24) hn (hR.below (bs_old (Gr.refl _))) hs (hbad.below (bs_old (Gr.refl (bs w (.slice A n c) 24))) hbad.lt))
  clear hR hR' hs hbad
  by_cases h1 : checkM l = 0
  · have HM := Lib.hid h1
    have HOK := Lib.hid (checkM_ok h1).1
    have hl0 : 0 < l.length := by have := okC_len (checkM_ok h1).1; omega
    have HVI := Lib.hid (victim_range (checkM_ok h1).1 (checkM_ok h1).2)
    obtain ⟨b, off, A0, c0, rfl, h01, h02, h03⟩ := HR.out.at (List.getElem?_eq_getElem hl0)
    have h04 := World.block_lt_of_cell? w _ h01
    have e0 : l[0].length = parts l := by cases l with | nil => simp at hl0 | cons x l => rfl
    rw [e0] at h01
    simp only [Nat.add_zero] at h01 h04
    have HP := Lib.hid (And.intro h01 h04)
    have hn0 : 0 < n := by omega
    clear h1 e0 hl0 h01 h02 h03 h04 hn
    rcases h2 : ((t.length : Int) != parts l) with _ | _
    · rcases h3 : (t.all fun x => within x 0 99) with _ | _
      · have HT := Lib.hid h3
        have HE := Lib.hid (update_table HM.out (by rw [isTable_all h2, h3]))
        rw [HE.out]
        go_enter Tryd.func29, Tryd.ntmps29
        go_wp2_with (first
          | (go_at_call 40; refine HO.out.mono ?_; rintro e w2 ⟨hb, h3, _⟩; obtain ⟨g, m, hg, hm, rfl, hop⟩ := h3 HM.out; have HB2 := Lib.hid (show Gr (bs w (.slice (some ⟨b, off, none⟩) n c) 24) w2 from hb); have hbox := bs_box hb; have hp0 := ((bs_old (show Gr (bs w (.slice (some ⟨b, off, none⟩) n c) 24) w2 from hb)).cell (p := ⟨b, off, none⟩) HP.out.2).trans HP.out.1; have HOP := Lib.hid hop; clear hb h3 hop)
          | (go_at_call 54; refine (gTable_calls _ _ _ _ (HR'.out.below (bs_old HB2.out)) ht).mono ?_; rintro e w3 ⟨rfl, hb⟩; rw [HT.out]; have HB3 := Lib.hid (HB2.out.step hb); clear hb))
        go_ret2
        exact ⟨⟨_, rfl, Own.nil⟩, bs_old HB3.out⟩
      · have HT := Lib.hid h3
        have hist : isTable l t = true := by rw [isTable_all h2, h3]
        obtain ⟨m0, hm0⟩ := skip_some (S := [(victim l).toNat]) HOK.out (fun s hs => by simp at hs; have := HVI.out; omega) (by simp)
        have HSK := Lib.hid hm0
        rcases h4 : ahead l (free l [(victim l).toNat]) (victim l) with _ | _
        · have HA := Lib.hid h4
          have HE := Lib.hid (update_many HM.out hist h4)
          rw [HE.out]
          clear h4 hm0 hist
          go_enter Tryd.func29, Tryd.ntmps29
          go_wp2_with (first
            | (go_at_call 40; refine HO.out.mono ?_; rintro e w2 ⟨hb, h3, _⟩; obtain ⟨g, m, hg, hm, rfl, hop⟩ := h3 HM.out; have HB2 := Lib.hid (show Gr (bs w (.slice (some ⟨b, off, none⟩) n c) 24) w2 from hb); have hbox := bs_box hb; have hp0 := ((bs_old (show Gr (bs w (.slice (some ⟨b, off, none⟩) n c) 24) w2 from hb)).cell (p := ⟨b, off, none⟩) HP.out.2).trans HP.out.1; have HOP := Lib.hid hop; clear hb h3 hop)
            | (go_at_call 54; refine (gTable_calls _ _ _ _ (HR'.out.below (bs_old HB2.out)) ht).mono ?_; rintro e w3 ⟨rfl, hb⟩; rw [HT.out]; have HB3 := Lib.hid (HB2.out.step hb); have HOP3 := Lib.hid (HOP.out.below hb); clear hb)
            | (go_at_call 56; refine (oldest_calls _ _ _ _ _ _ _ HOP3.out HN.out HM.out).mono ?_; rintro e w4 ⟨rfl, hb⟩; have HB4 := Lib.hid (HB3.out.step hb); have HOP4 := Lib.hid (HOP3.out.below hb); clear hb)
            | (go_at_call 57; go_must (refine (gfree_calls _ _ _ _ _ _ _ _ _ [(victim l).toNat] _ _ (HOP4.out.below ((Below.refl _ _).alloc (Nat.le_refl _) _)) HN.out rfl (HR.out.below (bs_old (HB4.out.alloc _))) (row_lit _ HVI.out.1) HM.out (fun s hs => by simp at hs; have := HVI.out; omega) (by simp) HSK.out).mono ?_); rintro e w5 ⟨rfl, hb⟩; have HB5 := Lib.hid ((HB4.out.alloc _).step hb); have HOP5 := Lib.hid ((HOP4.out.below ((Below.refl _ _).alloc (Nat.le_refl _) _)).below hb); clear hb)
            | (go_at_call 58; go_must (refine (ahead_calls _ _ _ _ _ _ (cp_cells HOP5.out.1).2.1 HOP5.out.2 (free_range l _).1 (free_range l _).2 (wL_range HOK.out (Nat.le_refl _))).mono ?_); rintro e w6 ⟨rfl, hb⟩; rw [aheadB_eq, HA.out]; have HB6 := Lib.hid (HB5.out.step hb); clear hb))
          go_ret2
          exact ⟨⟨_, rfl, Own.nil⟩, bs_old HB6.out⟩
        · have HA := Lib.hid h4
          have HE := Lib.hid (update_ok HM.out hist h4)
          rw [HE.out]
          clear h4 hm0 hist
          go_enter Tryd.func29, Tryd.ntmps29
          go_wp2_with (first
            | (go_at_call 40; refine HO.out.mono ?_; rintro e w2 ⟨hb, h3, _⟩; obtain ⟨g, m, hg, hm, rfl, hop⟩ := h3 HM.out; have HB2 := Lib.hid (show Gr (bs w (.slice (some ⟨b, off, none⟩) n c) 24) w2 from hb); have hbox := bs_box hb; have hp0 := ((bs_old (show Gr (bs w (.slice (some ⟨b, off, none⟩) n c) 24) w2 from hb)).cell (p := ⟨b, off, none⟩) HP.out.2).trans HP.out.1; have HOP := Lib.hid hop; clear hb h3 hop)
            | (go_at_call 54; refine (gTable_calls _ _ _ _ (HR'.out.below (bs_old HB2.out)) ht).mono ?_; rintro e w3 ⟨rfl, hb⟩; rw [HT.out]; have HB3 := Lib.hid (HB2.out.step hb); have HOP3 := Lib.hid (HOP.out.below hb); clear hb)
            | (go_at_call 56; refine (oldest_calls _ _ _ _ _ _ _ HOP3.out HN.out HM.out).mono ?_; rintro e w4 ⟨rfl, hb⟩; have HB4 := Lib.hid (HB3.out.step hb); have HOP4 := Lib.hid (HOP3.out.below hb); clear hb)
            | (go_at_call 57; go_must (refine (gfree_calls _ _ _ _ _ _ _ _ _ [(victim l).toNat] _ _ (HOP4.out.below ((Below.refl _ _).alloc (Nat.le_refl _) _)) HN.out rfl (HR.out.below (bs_old (HB4.out.alloc _))) (row_lit _ HVI.out.1) HM.out (fun s hs => by simp at hs; have := HVI.out; omega) (by simp) HSK.out).mono ?_); rintro e w5 ⟨rfl, hb⟩; have HB5 := Lib.hid ((HB4.out.alloc _).step hb); have HOP5 := Lib.hid ((HOP4.out.below ((Below.refl _ _).alloc (Nat.le_refl _) _)).below hb); clear hb)
            | (go_at_call 58; go_must (refine (ahead_calls _ _ _ _ _ _ (cp_cells HOP5.out.1).2.1 HOP5.out.2 (free_range l _).1 (free_range l _).2 (wL_range HOK.out (Nat.le_refl _))).mono ?_); rintro e w6 ⟨rfl, hb⟩; rw [aheadB_eq, HA.out]; have HB6 := Lib.hid (HB5.out.step hb); clear hb)
            | (go_at_call 59; go_must (refine (write_calls _ _ _ _ _ t _ rfl (HR'.out.below (bs_old HB6.out)) (by omega)).mono ?_); rintro e w7 ⟨⟨v, rfl, hO⟩, hb⟩; have HO7 := Lib.hid (And.intro hO hb); clear hb hO))
          go_ret2
          exact ⟨⟨_, rfl, HO7.out.1.mono (bs_old HB6.out).size⟩, (bs_old HB6.out).step HO7.out.2⟩
    · have HE := Lib.hid (update_table HM.out (isTable_len h2))
      rw [HE.out]
      go_enter Tryd.func29, Tryd.ntmps29
      go_wp2_with (go_at_call 40; refine HO.out.mono ?_; rintro e w2 ⟨hb, h3, _⟩; obtain ⟨g, m, hg, hm, rfl, hop⟩ := h3 HM.out; have HB2 := Lib.hid (show Gr (bs w (.slice (some ⟨b, off, none⟩) n c) 24) w2 from hb); have hbox := bs_box hb; have hp0 := ((bs_old (show Gr (bs w (.slice (some ⟨b, off, none⟩) n c) 24) w2 from hb)).cell (p := ⟨b, off, none⟩) HP.out.2).trans HP.out.1; have HOP := Lib.hid hop; clear hb h3 hop)
      go_ret2
      exact ⟨⟨_, rfl, Own.nil⟩, bs_old HB2.out⟩
  · have HE := Lib.hid (update_err (t := t) h1)
    have HQ := Lib.hid h1
    have hq := neq_of h1
    rw [HE.out]
    clear h1 hn
    go_enter Tryd.func29, Tryd.ntmps29
    go_wp2_with (go_at_call 40; refine HO.out.mono ?_; rintro e w2 ⟨hb, _, h3⟩; obtain rfl := h3 HQ.out; have HB2 := Lib.hid (show Gr (bs w (.slice A n c) 24) w2 from hb); clear hb h3)
    go_ret2
    exact ⟨⟨_, rfl, Own.nil⟩, bs_old HB2.out⟩
end Go.Proofs.YtcpglghklmfbcaaDoor.T
