import Derived.Test.YtcpglghklmfbcaaDoorT11
namespace Go.Proofs.YtcpglghklmfbcaaDoor.T
open Go Go.RowKit Go.Proofs.YtcpglghklmfbcaaDoor.M Go.Proofs.YtcpglghklmfbcaaDoor.R
set_option linter.unusedVariables false
set_option linter.unusedSimpArgs false

theorem length_le_of_subset : ∀ (a b : List Int), a.Nodup → (∀ x ∈ a, x ∈ b) → a.length ≤ b.length
  | [], b, _, _ => by simp
  | x :: a, b, hn, hs => by
    have h1 := List.nodup_cons.1 hn
    have hx : x ∈ b := hs x (by simp)
    have h2 := length_le_of_subset a (b.erase x) h1.2 (fun y hy => (List.mem_erase_of_ne (fun e => h1.1 (by rw [← e]; exact hy))).2 (hs y (by simp [hy])))
    rw [List.length_erase_of_mem hx] at h2
    have : 0 < b.length := List.length_pos_of_mem hx
    simp only [List.length_cons]
    omega
theorem flatMap_le {α β : Type} (f : α → List β) (k : Nat) : ∀ (l : List α), (∀ x ∈ l, (f x).length ≤ k) → (l.flatMap f).length ≤ l.length * k
  | [], _ => by simp
  | x :: l, h => by
    have h1 := flatMap_le f k l (fun y hy => h y (by simp [hy]))
    have h2 := h x (by simp)
    rw [List.flatMap_cons, List.length_append, List.length_cons, Nat.succ_mul]
    omega
/-- A free number is there. -/
theorem skip_some {l : Cop} {S : List Nat} (hok : okC l = true) (hS : ∀ s ∈ S, s < l.length) (h4 : S.length ≤ 4) : ∃ m, skip l S = some m := by
  cases h : skip l S with
  | some m => exact ⟨m, rfl⟩
  | none =>
    exfalso
    unfold skip at h
    rw [List.find?_eq_none] at h
    have hst := start_range hok
    have h1 := length_le_of_subset ((List.range 64).map (num l)) (S.flatMap fun s => (sl l s).map (·.seq)) (by
      unfold List.Nodup
      rw [List.pairwise_map]
      refine List.Pairwise.imp_of_mem (fun {i j} hi hj hij => ?_) List.pairwise_lt_range
      have h1 := List.mem_range.1 hi
      have h2 := List.mem_range.1 hj
      unfold num
      omega) (by
      intro x hx
      obtain ⟨m, hm, rfl⟩ := List.mem_map.1 hx
      have h2 := h m hm
      rw [show (start l + (m : Int)) % 64 = num l m from rfl] at h2
      rw [Bool.not_eq_true] at h2
      unfold unused at h2
      rw [List.all_eq_false] at h2
      obtain ⟨s, hs, h3⟩ := h2
      rw [Bool.not_eq_true, List.all_eq_false] at h3
      obtain ⟨x, hx, h4⟩ := h3
      refine List.mem_flatMap.2 ⟨s, hs, List.mem_map.2 ⟨x, hx, ?_⟩⟩
      simp at h4
      exact h4.2)
    have h2 := flatMap_le (fun s => (sl l s).map (·.seq)) 4 S (fun s hs => by
      have := okC_slot hok (hS s hs)
      have := okC_len hok
      simp; omega)
    simp at h1 h2
    omega

/-- What hands back a row and an error. -/
def RetR {α : Type} (enc : α → List Value) (sz : Nat) (ty : TypeId) (w : World) (t : List α) (b : Int) (e : Ending) (w' : World) : Prop := (∃ v, e = .returned (.tuple #[v, .int .i64 b]) ∧ Own enc sz ty w' w.heap.size v t) ∧ Below w.heap.size w w'
theorem update_err {l : Cop} {t : List Int} (h : checkM l ≠ 0) : update l t = ([], checkM l) := by simp [update, h]
theorem update_table {l : Cop} {t : List Int} (h : checkM l = 0) (h2 : isTable l t = false) : update l t = ([], 102) := by simp [update, h, h2]
theorem update_many {l : Cop} {t : List Int} (h : checkM l = 0) (h2 : isTable l t = true) (h3 : ahead l (free l [(victim l).toNat]) (victim l) = false) : update l t = ([], 2) := by simp [update, h, h2, h3]
theorem update_ok {l : Cop} {t : List Int} (h : checkM l = 0) (h2 : isTable l t = true) (h3 : ahead l (free l [(victim l).toNat]) (victim l) = true) : update l t = (patches (victim l) (free l [(victim l).toNat]) t, 0) := by simp [update, h, h2, h3]
theorem victim_range {l : Cop} (hok : okC l = true) (hm : mixed l = false) : 0 ≤ victim l ∧ victim l < l.length := by
  by_cases h : ∃ j, j < l.length ∧ whole (sl l j) = false
  · obtain ⟨j, hj, hw⟩ := h
    have : ∃ s, (List.range l.length).find? (fun s => !whole (sl l s)) = some s := by
      cases e : (List.range l.length).find? (fun s => !whole (sl l s)) with
      | some s => exact ⟨s, rfl⟩
      | none =>
        rw [List.find?_eq_none] at e
        have := e j (List.mem_range.2 hj)
        rw [hw] at this
        simp at this
    obtain ⟨s, hs⟩ := this
    have h1 := List.mem_range.1 (List.mem_of_find?_eq_some hs)
    rw [victim, hs]
    exact ⟨Int.natCast_nonneg _, Int.ofNat_lt.2 h1⟩
  · have hall : ∀ j, j < l.length → whole (sl l j) = true := fun j hj => by
      cases e : whole (sl l j) with
      | true => rfl
      | false => exact absurd ⟨j, hj, e⟩ h
    rw [victim_all hall]
    have hr := vUpto_range l l.length
    refine ⟨?_, hr.2⟩
    have h2 := (okC_len hok).1
    -- of two slots one is not the newest
    have key : ∀ k, 2 ≤ k → 0 ≤ vUpto l k := by
      intro k hk
      induction k with
      | zero => omega
      | succ k ih =>
        have h3 := vUpto_succ l k
        have h4 := vUpto_range l k
        by_cases hk2 : 2 ≤ k
        · have := ih hk2
          rw [h3]; split <;> omega
        · have e : k = 1 := by omega
          subst e
          have h5 := vUpto_succ l 0
          have h6 : vUpto l 0 = -1 := rfl
          rw [h6] at h5
          rw [h3]
          by_cases ho : ownI l = 0
          · have e1 : vUpto l (0 + 1) = -1 := by rw [h5, if_neg (by omega)]
            simp only [Nat.zero_add] at e1
            rw [if_pos ⟨by omega, Or.inl (by omega)⟩]
            omega
          · have e1 : vUpto l (0 + 1) = 0 := by rw [h5, if_pos ⟨by omega, Or.inl (by omega)⟩]; rfl
            simp only [Nat.zero_add] at e1
            split <;> omega
    exact key _ h2
theorem rr {v : Value} {a a' : Int} (h : a = a') : Ending.returned (.tuple #[v, .int .i64 a]) = .returned (.tuple #[v, .int .i64 a']) := by rw [h]

theorem row_lit {v : Int} (w : World) (h : 0 ≤ v) : Row encI 1 (w.alloc (.cells #[.int .i64 v] 3)) (some ⟨w.heap.size, 0, none⟩) (ints [v.toNat]) := by
  refine ⟨by simp [ints], fun _ => ⟨w.heap.size, 0, rfl, fun j x hx i u hu => ?_⟩⟩
  have e : ints [v.toNat] = [v] := by simp [ints, Int.toNat_of_nonneg h]
  rw [e] at hx
  cases j with
  | succ j => simp at hx
  | zero =>
    simp only [List.getElem?_cons_zero, Option.some.injEq] at hx
    subst hx
    cases i with
    | succ i => simp [encI] at hu
    | zero =>
      have := Gr.box (Gr.refl (w.alloc (.cells #[.int .i64 v] 3))) 0
      rw [show 0 + 0 * 1 + 0 = 0 from rfl, this]
      exact hu
set_option maxHeartbeats 1000000 in
theorem Update_calls (A A' : Option Addr) (n n' c c' : Nat) (l : Cop) (t : List Int) (w : World) (hn : n = l.length) (hn' : n' = t.length) (hR : Row2 encS 3 w A l) (hR' : Row encI 1 w A' t) (hs : small l) (ht : t.length ≤ 4398046511104) :
    Calls Tryd.prog 34 #[.agg #[.slice A n c], .slice A' n' c'] w (RetR encP 4 68 w (update l t).1 (update l t).2) := by
  have HR := Lib.hid hR
  have HR' := Lib.hid hR'
  have HN := Lib.hid (And.intro hn hn')
  have HS := Lib.hid (And.intro hs ht)
  clear hR hn hs hR' hn' ht
  by_cases h1 : checkM l = 0
  · have HM := Lib.hid h1
    have HOK := Lib.hid (checkM_ok h1).1
    have hl0 : 0 < l.length := by have := okC_len (checkM_ok h1).1; omega
    have HL0 := Lib.hid hl0
    have HVI := Lib.hid (victim_range (checkM_ok h1).1 (checkM_ok h1).2)
    clear h1 hl0
    rcases h2 : isTable l t with _ | _
    · have HE := Lib.hid (update_table HM.out h2)
      have HT := Lib.hid h2
      rw [HE.out]
      clear h2
      go_enter Tryd.func34, Tryd.ntmps34
      go_wp2_with (first
        | (go_at_call 38; refine (CheckMixed_calls _ _ _ l _ HN.out.1 (HR.out.below ((Below.refl _ _).alloc (Nat.le_refl _) _)) HS.out.1).mono ?_; rintro e w1 ⟨rfl, hb⟩; rw [HM.out]; have HB := Lib.hid (show Gr (bs w (.slice A n c) 24) w1 from hb); have hbox := bs_box HB.out; clear hb)
        | (go_at_call 28; refine (IsTable_calls _ _ _ _ _ _ l t _ HN.out.1 HN.out.2 (HR.out.below (bs_old HB.out)) (HR'.out.below (bs_old HB.out)) HL0.out).mono ?_; rintro e w2 ⟨rfl, hb⟩; rw [HT.out]; have HB2 := Lib.hid (HB.out.step hb); have hbox2 := bs_box HB2.out; clear hb))
      go_ret2
      exact ⟨⟨_, rfl, Own.nil⟩, bs_old HB2.out⟩
    · obtain ⟨m, hm⟩ := skip_some (S := [(victim l).toNat]) HOK.out (fun s hs => by simp at hs; have := HVI.out; omega) (by simp)
      have HSK := Lib.hid hm
      have HT := Lib.hid h2
      clear hm h2
      rcases h3 : ahead l (free l [(victim l).toNat]) (victim l) with _ | _
      · have HE := Lib.hid (update_many HM.out HT.out h3)
        have HA := Lib.hid h3
        rw [HE.out]
        clear h3
        go_enter Tryd.func34, Tryd.ntmps34
        go_wp2_with (first
          | (go_at_call 38; refine (CheckMixed_calls _ _ _ l _ HN.out.1 (HR.out.below ((Below.refl _ _).alloc (Nat.le_refl _) _)) HS.out.1).mono ?_; rintro e w1 ⟨rfl, hb⟩; rw [HM.out]; have HB := Lib.hid (show Gr (bs w (.slice A n c) 24) w1 from hb); have hbox := bs_box HB.out; clear hb)
          | (go_at_call 28; refine (IsTable_calls _ _ _ _ _ _ l t _ HN.out.1 HN.out.2 (HR.out.below (bs_old HB.out)) (HR'.out.below (bs_old HB.out)) HL0.out).mono ?_; rintro e w2 ⟨rfl, hb⟩; rw [HT.out]; have HB2 := Lib.hid (HB.out.step hb); have hbox2 := bs_box HB2.out; clear hb)
          | (go_at_call 63; refine (victim_calls _ _ _ l _ HN.out.1 (HR.out.below (bs_old HB2.out)) HOK.out).mono ?_; rintro e w3 ⟨rfl, hb⟩; have HB3 := Lib.hid (HB2.out.step hb); have hbox3 := bs_box HB3.out; clear hb)
          | (go_at_call 64; go_must (refine (free_calls _ _ _ _ _ _ _ l [(victim l).toNat] _ _ HN.out.1 rfl (HR.out.below (bs_old (HB3.out.alloc _))) (row_lit _ HVI.out.1) HOK.out (fun s hs => by simp at hs; have := HVI.out; omega) (by simp) HSK.out).mono ?_); rintro e w4 ⟨rfl, hb⟩; rw [HA.out]; have HB4 := Lib.hid ((HB3.out.alloc _).step hb); clear hb))
        go_ret2
        exact ⟨⟨_, rfl, Own.nil⟩, bs_old HB4.out⟩
      · have HE := Lib.hid (update_ok HM.out HT.out h3)
        have HA := Lib.hid h3
        rw [HE.out]
        clear h3
        go_enter Tryd.func34, Tryd.ntmps34
        go_wp2_with (first
          | (go_at_call 38; refine (CheckMixed_calls _ _ _ l _ HN.out.1 (HR.out.below ((Below.refl _ _).alloc (Nat.le_refl _) _)) HS.out.1).mono ?_; rintro e w1 ⟨rfl, hb⟩; rw [HM.out]; have HB := Lib.hid (show Gr (bs w (.slice A n c) 24) w1 from hb); have hbox := bs_box HB.out; clear hb)
          | (go_at_call 28; refine (IsTable_calls _ _ _ _ _ _ l t _ HN.out.1 HN.out.2 (HR.out.below (bs_old HB.out)) (HR'.out.below (bs_old HB.out)) HL0.out).mono ?_; rintro e w2 ⟨rfl, hb⟩; rw [HT.out]; have HB2 := Lib.hid (HB.out.step hb); have hbox2 := bs_box HB2.out; clear hb)
          | (go_at_call 63; refine (victim_calls _ _ _ l _ HN.out.1 (HR.out.below (bs_old HB2.out)) HOK.out).mono ?_; rintro e w3 ⟨rfl, hb⟩; have HB3 := Lib.hid (HB2.out.step hb); have hbox3 := bs_box HB3.out; clear hb)
          | (go_at_call 64; go_must (refine (free_calls _ _ _ _ _ _ _ l [(victim l).toNat] _ _ HN.out.1 rfl (HR.out.below (bs_old (HB3.out.alloc _))) (row_lit _ HVI.out.1) HOK.out (fun s hs => by simp at hs; have := HVI.out; omega) (by simp) HSK.out).mono ?_); rintro e w4 ⟨rfl, hb⟩; rw [HA.out]; have HB4 := Lib.hid ((HB3.out.alloc _).step hb); clear hb)
          | (go_at_call 65; go_must (refine (patches_calls _ _ _ _ _ t _ HN.out.2 (HR'.out.below (bs_old HB4.out)) HS.out.2).mono ?_); rintro e w5 ⟨⟨v, rfl, hO⟩, hb⟩; have HO := Lib.hid (And.intro hO hb); clear hb hO))
        go_ret2
        exact ⟨⟨_, rfl, HO.out.1.mono (bs_old HB4.out).size⟩, (bs_old HB4.out).step HO.out.2⟩
  · have HE := Lib.hid (update_err (t := t) h1)
    have hq := neq_of h1
    rw [HE.out]
    clear h1
    go_enter Tryd.func34, Tryd.ntmps34
    go_wp2_with (go_at_call 38; refine (CheckMixed_calls _ _ _ l _ HN.out.1 (HR.out.below ((Below.refl _ _).alloc (Nat.le_refl _) _)) HS.out.1).mono ?_; rintro e w1 ⟨rfl, hb⟩; have HB := Lib.hid (show Gr (bs w (.slice A n c) 24) w1 from hb); clear hb)
    go_ret2
    exact ⟨⟨_, rfl, Own.nil⟩, bs_old HB.out⟩
end Go.Proofs.YtcpglghklmfbcaaDoor.T
