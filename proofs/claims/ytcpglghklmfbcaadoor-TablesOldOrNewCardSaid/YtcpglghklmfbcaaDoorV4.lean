/- Copies of which some sectors become unreadable, one after the other. -/
import Derived.Test.YtcpglghklmfbcaaDoorV3
namespace Go.Proofs.YtcpglghklmfbcaaDoor.T
set_option linter.unusedVariables false
set_option linter.unusedSimpArgs false

/-- The sector with these numbers. -/
def secAt (c : Cop) (s p : Nat) : Sec := (sl c s).getD p Sec.z
def spoils (y : Cop) (s p : Int) : Bool := decide (0 ≤ s ∧ s < y.length ∧ 0 ≤ p ∧ p < parts y) && !(secAt y s.toNat p.toNat).bad
def spoilU (l : Cop) (xs ps : List Int) : Nat → Cop × Nat
  | 0 => (l, 0)
  | k + 1 =>
    let y := spoilU l xs ps k
    if spoils y.1 (xs.getD k 0) (ps.getD k 0) = true then (setSec y.1 (xs.getD k 0).toNat (ps.getD k 0).toNat Sec.b, y.2 + 1) else y
theorem spoilU_no {l : Cop} {xs ps : List Int} {k : Nat} {s p : Int} (h1 : xs[k]? = some s) (h2 : ps[k]? = some p) (h : spoils (spoilU l xs ps k).1 s p = false) : spoilU l xs ps (k + 1) = spoilU l xs ps k := by
  have e1 : xs.getD k 0 = s := by rw [List.getD_eq_getElem?_getD, h1]; rfl
  have e2 : ps.getD k 0 = p := by rw [List.getD_eq_getElem?_getD, h2]; rfl
  simp only [spoilU, e1, e2, h]
  rfl
theorem spoilU_yes {l : Cop} {xs ps : List Int} {k : Nat} {s p : Int} (h1 : xs[k]? = some s) (h2 : ps[k]? = some p) (h : spoils (spoilU l xs ps k).1 s p = true) : spoilU l xs ps (k + 1) = (setSec (spoilU l xs ps k).1 s.toNat p.toNat Sec.b, (spoilU l xs ps k).2 + 1) := by
  have e1 : xs.getD k 0 = s := by rw [List.getD_eq_getElem?_getD, h1]; rfl
  have e2 : ps.getD k 0 = p := by rw [List.getD_eq_getElem?_getD, h2]; rfl
  simp only [spoilU, e1, e2, h]
  rfl
theorem Sub.refl {c : Cop} (h : okC c = true) : Sub c c := ⟨rfl, h, rfl, fun _ _ => Or.inl rfl⟩
theorem Sub.step {y c : Cop} {s p : Int} (h : Sub y c) (hc : okC c = true) (hs : spoils y s p = true) : Sub (setSec y s.toNat p.toNat Sec.b) c := by
  simp only [spoils, Bool.and_eq_true, decide_eq_true_eq] at hs
  obtain ⟨⟨h1, h2, h3, h4⟩, _⟩ := hs
  rw [h.len] at h2
  rw [h.prt] at h4
  exact h.spoil (by omega) (by omega) hc
theorem spoilU_sub {l : Cop} (xs ps : List Int) (h : okC l = true) : ∀ k, Sub (spoilU l xs ps k).1 l
  | 0 => Sub.refl h
  | k + 1 => by
    have ih := spoilU_sub xs ps h k
    simp only [spoilU]
    split
    · rename_i hs
      exact ih.step h hs
    · exact ih
theorem spoilU_le (l : Cop) (xs ps : List Int) : ∀ k, (spoilU l xs ps k).2 ≤ k
  | 0 => Nat.le_refl _
  | k + 1 => by
    have ih := spoilU_le l xs ps k
    simp only [spoilU]
    split
    · simp; omega
    · omega
/-- The slots that are as before. -/
def kept (l y : Cop) (s : Nat) : Bool := sl y s == sl l s
theorem filter_drop_one {p q : Nat → Bool} (a : Nat) : ∀ (L : List Nat), L.Nodup → (∀ x ∈ L, x ≠ a → q x = p x) → (L.filter p).length ≤ (L.filter q).length + 1
  | [], _, _ => by simp
  | x :: L, hd, h => by
    have hd' := List.nodup_cons.1 hd
    by_cases e : x = a
    · subst e
      have : L.filter p = L.filter q := List.filter_congr fun y hy => (h y (List.mem_cons_of_mem _ hy) (fun e => hd'.1 (e ▸ hy))).symm
      rw [List.filter_cons, List.filter_cons, this]
      split <;> split <;> simp <;> omega
    · have ih := filter_drop_one a L hd'.2 (fun y hy => h y (List.mem_cons_of_mem _ hy))
      have hx := h x (by simp) e
      rw [List.filter_cons, List.filter_cons, hx]
      split
      · simp only [List.length_cons]; omega
      · exact ih
/-- At most as many slots are lost as sectors became unreadable. -/
theorem spoilU_count {l : Cop} (xs ps : List Int) (h : okC l = true) (L : List Nat) (hL : L.Nodup) : ∀ k, L.length ≤ (L.filter (kept l (spoilU l xs ps k).1)).length + (spoilU l xs ps k).2
  | 0 => by
    have : L.filter (kept l (spoilU l xs ps 0).1) = L := List.filter_eq_self.2 fun a _ => by simp [kept, spoilU]
    rw [this]
    omega
  | k + 1 => by
    have ih := spoilU_count xs ps h L hL k
    simp only [spoilU]
    split
    · rename_i hs
      simp only [spoils, Bool.and_eq_true, decide_eq_true_eq] at hs
      obtain ⟨⟨h1, h2, h3, h4⟩, _⟩ := hs
      have := filter_drop_one (p := kept l (spoilU l xs ps k).1) (q := kept l (setSec (spoilU l xs ps k).1 (xs.getD k 0).toNat (ps.getD k 0).toNat Sec.b)) (xs.getD k 0).toNat L hL (fun x _ hne => by
        unfold kept
        rw [setSec_sl _ _ (by omega), if_neg (Ne.symm hne)])
      simp only
      omega
    · exact ih
theorem wN_nodup (c : Cop) : (wN c).Nodup := by
  unfold wN wUpto
  exact List.Nodup.sublist List.filter_sublist List.nodup_range
/-- Fewer than Margin sectors: the table is the same. -/
theorem rot_stays {l : Cop} {o : Nat} (xs ps : List Int) (k : Nat) (hcm : checkM l = 0) (ho : newest l = some o) (h : (spoilU l xs ps k).2 < (firsts l o).length) : ∃ t : Nat, t < l.length ∧ recover (spoilU l xs ps k).1 = (tab (sl l o), (t : Int), 0) := by
  have hok := (checkM_ok hcm).1
  have hsub := spoilU_sub xs ps hok k
  have hnd : (firsts l o).Nodup := List.Nodup.sublist List.filter_sublist (wN_nodup l)
  have hc := spoilU_count xs ps hok (firsts l o) hnd k
  have hpos : 0 < ((firsts l o).filter (kept l (spoilU l xs ps k).1)).length := by omega
  obtain ⟨f, hf⟩ := List.exists_mem_of_length_pos hpos
  obtain ⟨h1, h2⟩ := List.mem_filter.1 hf
  obtain ⟨h3, h4⟩ := List.mem_filter.1 h1
  have e : sl (spoilU l xs ps k).1 f = sl l f := by simpa [kept] using h2
  exact hsub.stays hcm ho h4 (wUpto_mem.2 ⟨by rw [hsub.len]; exact (wN_lt h3).1, by rw [e]; exact (wN_lt h3).2⟩)
/-- The slots below k that hold this table. -/
def ownU (l : Cop) (t : List Int) (k : Nat) : List Nat := (List.range k).filter fun s => whole (sl l s) && tab (sl l s) == t
def nums (E : List Nat) : List Int := E.map fun (s : Nat) => (s : Int)
def zeros (E : List Nat) : List Int := E.map fun _ => (0 : Int)
theorem ownU_yes {l : Cop} {t : List Int} {k : Nat} (h : whole (sl l k) = true) (h2 : tab (sl l k) = t) : ownU l t (k + 1) = ownU l t k ++ [k] := by simp [ownU, List.range_succ, List.filter_append, h, h2]
theorem ownU_no {l : Cop} {t : List Int} {k : Nat} (h : whole (sl l k) = false ∨ tab (sl l k) ≠ t) : ownU l t (k + 1) = ownU l t k := by
  rcases h with h | h <;> simp [ownU, List.range_succ, List.filter_append, h]
theorem ownU_len (l : Cop) (t : List Int) (k : Nat) : (ownU l t k).length ≤ k := Nat.le_trans (List.length_filter_le ..) (by simp)
theorem ownU_nodup (l : Cop) (t : List Int) (k : Nat) : (ownU l t k).Nodup := List.Nodup.sublist List.filter_sublist List.nodup_range
theorem ownU_mem {l : Cop} {t : List Int} {k s : Nat} : s ∈ ownU l t k ↔ s < k ∧ whole (sl l s) = true ∧ tab (sl l s) = t := by simp [ownU]
theorem whole_first {l : List Sec} (h : whole l = true) (h0 : 0 < l.length) : (l.getD 0 Sec.z).bad = false := by
  cases l with
  | nil => simp at h0
  | cons a l => simp [whole] at h; simp [h.1]
theorem all_spoil {l : Cop} (E : List Nat) (hE : E.Nodup) (hok : okC l = true) (hlt : ∀ s ∈ E, s < l.length ∧ whole (sl l s) = true) : ∀ k, k ≤ E.length →
    (spoilU l (nums E) (zeros E) k).2 = k ∧ ∀ s, sl (spoilU l (nums E) (zeros E) k).1 s = if s ∈ E.take k then (sl l s).set 0 Sec.b else sl l s
  | 0, _ => by simp [spoilU]
  | k + 1, hk => by
    obtain ⟨ih1, ih2⟩ := all_spoil E hE hok hlt k (by omega)
    have hsub := spoilU_sub (nums E) (zeros E) hok k
    have hkE : k < E.length := by omega
    have hs := hlt E[k] (List.getElem_mem hkE)
    have hnot : E[k] ∉ E.take k := by
      intro hm
      obtain ⟨j, hj, e⟩ := List.getElem_of_mem hm
      rw [List.length_take] at hj
      rw [List.getElem_take] at e
      exact absurd e (List.pairwise_iff_getElem.1 hE j k (by omega) hkE (by omega))
    have e1 : (nums E)[k]? = some (E[k] : Int) := by simp [nums, hkE]
    have e2 : (zeros E)[k]? = some 0 := by simp [zeros, hkE]
    have hl := okC_len hok
    have hy : sl (spoilU l (nums E) (zeros E) k).1 E[k] = sl l E[k] := by rw [ih2, if_neg hnot]
    have hsp : spoils (spoilU l (nums E) (zeros E) k).1 (E[k] : Int) 0 = true := by
      simp only [spoils, Bool.and_eq_true, decide_eq_true_eq, Bool.not_eq_true']
      refine ⟨⟨by omega, by rw [hsub.len]; omega, by omega, by rw [hsub.prt]; omega⟩, ?_⟩
      show (secAt _ E[k] 0).bad = false
      unfold secAt
      rw [hy]
      exact whole_first hs.2 (by have := okC_slot hok hs.1; omega)
    rw [spoilU_yes e1 e2 hsp]
    refine ⟨by simp [ih1], fun s => ?_⟩
    show sl (setSec _ E[k] 0 Sec.b) s = _
    rw [setSec_sl _ _ (by rw [hsub.len]; exact hs.1), hy, List.take_succ_eq_append_getElem hkE]
    by_cases e : E[k] = s
    · rw [if_pos e, if_pos (by simp [e]), e]
    · rw [if_neg e, ih2 s]
      have : (s ∈ E.take k ++ [E[k]]) ↔ s ∈ E.take k := by
        rw [List.mem_append]
        exact ⟨fun h => h.elim id (fun h => absurd (List.mem_singleton.1 h).symm e), Or.inl⟩
      simp only [this]
theorem firsts_le {l : Cop} {o : Nat} : (firsts l o).length ≤ (ownU l (tab (sl l o)) l.length).length := by
  rw [firsts_eq]
  unfold ownU
  refine filter_len_le _ fun x _ h => ?_
  simp only [Bool.and_eq_true, first, beq_iff_eq] at h ⊢
  exact ⟨h.1, h.2.1⟩
theorem firsts_pos {l : Cop} {o : Nat} (hcm : checkM l = 0) (ho : newest l = some o) : 1 ≤ (firsts l o).length :=
  List.length_pos_of_mem (List.mem_filter.2 ⟨wUpto_mem.2 (newest_lt ho), first_own hcm ho⟩ : o ∈ firsts l o)
theorem firsts_len (l : Cop) (o : Nat) : (firsts l o).length ≤ l.length := by
  have h1 := List.length_filter_le (first l o) (wN l)
  have h2 := wUpto_len l l.length
  unfold firsts
  have h3 : (wN l).length ≤ l.length := h2
  omega
/-- A sector of each slot with the table: another table, or none. -/
theorem rot_goes {l : Cop} {o : Nat} (hcm : checkM l = 0) (ho : newest l = some o) (E : List Nat) (hE : E = ownU l (tab (sl l o)) l.length) :
    (spoilU l (nums E) (zeros E) E.length).2 = E.length ∧ (recover (spoilU l (nums E) (zeros E) E.length).1 = ([], 0, 3) ∨ ∃ t : Nat, recover (spoilU l (nums E) (zeros E) E.length).1 = (tab (sl l t), (t : Int), 0) ∧ tab (sl l t) ≠ tab (sl l o)) := by
  have hok := (checkM_ok hcm).1
  obtain ⟨h1, h2⟩ := all_spoil (l := l) E (by rw [hE]; exact ownU_nodup _ _ _) hok (fun s hs => by
    rw [hE, ownU_mem] at hs
    exact ⟨hs.1, hs.2.1⟩) E.length (Nat.le_refl _)
  refine ⟨h1, ?_⟩
  rw [List.take_length] at h2
  have hsub := spoilU_sub (nums E) (zeros E) hok E.length
  refine hsub.goes hcm ho (fun f hf => ?_) (fun k hk hne => ?_)
  · have hs := hsub.same hf
    cases hfo : first l o f with
    | false => rfl
    | true =>
      exfalso
      have hw := (wN_lt hf).2
      have hmem : f ∈ E := by
        rw [hE, ownU_mem]
        refine ⟨hs.1, (wN_lt hs.2.2).2, ?_⟩
        simp only [first, Bool.and_eq_true, beq_iff_eq] at hfo
        exact hfo.1
      rw [h2 f, if_pos hmem, whole_bad (by have := okC_slot hok hs.1; have := okC_len hok; omega)] at hw
      cases hw
  · have hkm := wN_lt hk
    refine wUpto_mem.2 ⟨by rw [hsub.len]; exact hkm.1, ?_⟩
    rw [h2 k, if_neg (fun h => by rw [hE, ownU_mem] at h; exact hne h.2.2)]
    exact hkm.2
end Go.Proofs.YtcpglghklmfbcaaDoor.T
