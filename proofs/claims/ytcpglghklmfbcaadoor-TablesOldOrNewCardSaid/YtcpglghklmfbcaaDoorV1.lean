/- Copies of which some slots are lost: what Recover says, and why Margin is the number of first slots. No program in sight (but for the names of what it computes). -/
import Derived.Test.YtcpglghklmfbcaaDoorT26
import Derived.Test.YtcpglghklmfbcaaDoorT21
namespace Go.Proofs.YtcpglghklmfbcaaDoor.T
set_option linter.unusedVariables false
set_option linter.unusedSimpArgs false

/-- How far a slot is behind the newest one. -/
def dist (c : Cop) (o s : Nat) : Int := (sq c o - sq c s) % 64
theorem parts_eq {c : Cop} (h : 0 < c.length) : parts c = (sl c 0).length := by cases c with | nil => simp at h | cons a b => rfl
/-- Each slot is as before, or not whole. -/
structure Sub (y c : Cop) : Prop where
  len : y.length = c.length
  ok : okC y = true
  prt : parts y = parts c
  sub : ∀ s, s < c.length → sl y s = sl c s ∨ whole (sl y s) = false
theorem Sub.same {y c : Cop} (h : Sub y c) {s : Nat} (hs : s ∈ wN y) : s < c.length ∧ sl y s = sl c s ∧ s ∈ wN c := by
  obtain ⟨h1, h2⟩ := wN_lt hs
  rw [h.len] at h1
  rcases h.sub s h1 with e | e
  · exact ⟨h1, e, wUpto_mem.2 ⟨h1, by rw [← e]; exact h2⟩⟩
  · rw [e] at h2; cases h2
theorem Sub.sqe {y c : Cop} (h : Sub y c) {s : Nat} (hs : s ∈ wN y) : sq y s = sq c s := by unfold sq; rw [(h.same hs).2.1]
theorem dist_range {c : Cop} {o s : Nat} (hok : okC c = true) (ho : newest c = some o) (hs : s ∈ wN c) : 0 ≤ dist c o s ∧ dist c o s ≤ 31 := by
  have h := wN_lt hs
  exact okB_range (okC_sq hok (newest_lt ho).1) (okC_sq hok h.1) (newest_tops ho h.1 h.2)
theorem newer_dist {c : Cop} {o s t : Nat} (hok : okC c = true) (ho : newest c = some o) (hs : s ∈ wN c) (ht : t ∈ wN c) : newerB (sq c s) (sq c t) = decide (dist c o s < dist c o t) :=
  newer_far (dist_range hok ho hs) (dist_range hok ho ht)
theorem dist_eq {c : Cop} {o s t : Nat} (hok : okC c = true) (hs : s < c.length) (ht : t < c.length) : dist c o s = dist c o t ↔ sq c s = sq c t := by
  have h1 := okC_sq hok hs
  have h2 := okC_sq hok ht
  unfold dist
  omega
theorem exists_min (f : Nat → Int) : ∀ l : List Nat, l ≠ [] → ∃ t ∈ l, ∀ k ∈ l, f t ≤ f k
  | [], h => absurd rfl h
  | [a], _ => ⟨a, by simp, fun k hk => by simp at hk; rw [hk]; exact Int.le_refl _⟩
  | a :: b :: l, _ => by
    obtain ⟨t, ht, hm⟩ := exists_min f (b :: l) (by simp)
    by_cases h : f a ≤ f t
    · refine ⟨a, by simp, fun k hk => ?_⟩
      rcases List.mem_cons.1 hk with rfl | hk
      · exact Int.le_refl _
      · exact Int.le_trans h (hm k hk)
    · refine ⟨t, List.mem_cons_of_mem _ ht, fun k hk => ?_⟩
      rcases List.mem_cons.1 hk with rfl | hk
      · omega
      · exact hm k hk
theorem clash_false {c : Cop} (h : clash c = false) {s t : Nat} (hs : s ∈ wN c) (ht : t ∈ wN c) (e : sq c s = sq c t) : tab (sl c s) = tab (sl c t) := by
  have h1 := List.any_eq_false.1 h s hs
  rw [Bool.not_eq_true] at h1
  have h2 := List.any_eq_false.1 h1 t ht
  simp [clashP, e] at h2
  exact h2
theorem mixed_clash_false {c : Cop} (h : mixed c = false) : clash c = false := by
  cases e : clash c with
  | false => rfl
  | true => rw [mixed_clash e] at h; cases h
/-- The newest slot of what is left: none is nearer. -/
theorem Sub.nearest {y c : Cop} {o : Nat} (h : Sub y c) (hcm : checkM c = 0) (ho : newest c = some o) {t : Nat} (ht : newest y = some t) : t ∈ wN y ∧ ∀ k ∈ wN y, dist c o t ≤ dist c o k := by
  have hok := (checkM_ok hcm).1
  have h1 := List.mem_of_find?_eq_some ht
  refine ⟨h1, fun k hk => ?_⟩
  have h0 : tops y t = true := List.find?_some (p := tops y) (l := wN y) ht
  have h2 := List.all_eq_true.1 (show ((wN y).all fun k => okB (sq y t) (sq y k)) = true from h0) k hk
  have ht' := h.same h1
  have hk' := h.same hk
  rw [h.sqe h1, h.sqe hk] at h2
  simp only [okB, Bool.or_eq_true, beq_iff_eq] at h2
  rcases h2 with e | e
  · exact Int.le_of_eq ((dist_eq hok ht'.1 hk'.1).2 e.symm)
  · rw [newer_dist hok ho ht'.2.2 hk'.2.2] at e
    have := of_decide_eq_true e
    omega
theorem Sub.check0 {y c : Cop} (h : Sub y c) (hcm : checkM c = 0) : checkM y = 0 := by
  have hok := (checkM_ok hcm).1
  have hmx := (checkM_ok hcm).2
  have hcl := mixed_clash_false hmx
  have hy : clash y = false := by
    unfold clash
    refine List.any_eq_false.2 fun i hi => ?_
    rw [Bool.not_eq_true]
    refine List.any_eq_false.2 fun k hk => ?_
    have hi' := h.same hi
    have hk' := h.same hk
    unfold clashP
    rw [h.sqe hi, h.sqe hk, hi'.2.1, hk'.2.1]
    by_cases e : sq c i = sq c k
    · simp [e, clash_false hcl hi'.2.2 hk'.2.2 e]
    · simp [e]
  have hm : mixed y = false := by
    unfold mixed
    rw [hy, Bool.false_or]
    cases e : wN y with
    | nil => rfl
    | cons a l =>
      have hne : wN y ≠ [] := by rw [e]; simp
      have ha : a ∈ wN y := by rw [e]; simp
      obtain ⟨o, ho⟩ := newest_of_whole hcm ⟨a, (h.same ha).1, (wN_lt (h.same ha).2.2).2⟩
      obtain ⟨t, ht, hmin⟩ := exists_min (dist c o) (wN y) hne
      have htop : tops y t = true := by
        refine List.all_eq_true.2 fun k hk => ?_
        have ht' := h.same ht
        have hk' := h.same hk
        rw [h.sqe ht, h.sqe hk]
        have := hmin k hk
        by_cases e2 : dist c o t = dist c o k
        · simp [okB, (dist_eq hok ht'.1 hk'.1).1 e2]
        · have e3 : newerB (sq c t) (sq c k) = true := by
            rw [newer_dist hok ho ht'.2.2 hk'.2.2]
            exact decide_eq_true (by omega)
          simp [okB, e3]
      cases e3 : newest y with
      | some _ => simp
      | none =>
        have := List.find?_eq_none.1 e3 t ht
        exact absurd htop this
  unfold checkM
  rw [h.ok, hm]
  rfl
theorem first_spec {c : Cop} {o f k : Nat} (h : first c o f = true) (hk : k ∈ wN c) (hne : tab (sl c k) ≠ tab (sl c o)) : newerB (sq c f) (sq c k) = true := by
  simp only [first, Bool.and_eq_true, List.all_eq_true, Bool.or_eq_true, beq_iff_eq] at h
  rcases h.2 k hk with e | e
  · exact absurd e hne
  · exact e
/-- A first slot stays: the table is the same. -/
theorem Sub.stays {y c : Cop} {o f : Nat} (h : Sub y c) (hcm : checkM c = 0) (ho : newest c = some o) (hf : first c o f = true) (hfy : f ∈ wN y) : ∃ t : Nat, t < c.length ∧ recover y = (tab (sl c o), (t : Int), 0) := by
  have hok := (checkM_ok hcm).1
  have hy := h.check0 hcm
  obtain ⟨t, ht⟩ := newest_of_whole hy ⟨f, (wN_lt hfy).1, (wN_lt hfy).2⟩
  obtain ⟨h1, h2⟩ := h.nearest hcm ho ht
  have ht' := h.same h1
  refine ⟨t, ht'.1, ?_⟩
  rw [recover_some hy ht, ht'.2.1]
  have : tab (sl c t) = tab (sl c o) := by
    by_cases e : tab (sl c t) = tab (sl c o)
    · exact e
    · have h3 := first_spec hf ht'.2.2 e
      rw [newer_dist hok ho (h.same hfy).2.2 ht'.2.2] at h3
      have h4 := of_decide_eq_true h3
      have := h2 f hfy
      omega
  rw [this]
/-- No first slot stays, but all slots with another table: another table, or none. -/
theorem Sub.goes {y c : Cop} {o : Nat} (h : Sub y c) (hcm : checkM c = 0) (ho : newest c = some o) (hf : ∀ f ∈ wN y, first c o f = false) (hd : ∀ k ∈ wN c, tab (sl c k) ≠ tab (sl c o) → k ∈ wN y) :
    recover y = ([], 0, 3) ∨ ∃ t : Nat, recover y = (tab (sl c t), (t : Int), 0) ∧ tab (sl c t) ≠ tab (sl c o) := by
  have hok := (checkM_ok hcm).1
  have hcl := mixed_clash_false (checkM_ok hcm).2
  have hy := h.check0 hcm
  cases ht : newest y with
  | none => exact Or.inl (recover_none hy ht)
  | some t =>
    obtain ⟨h1, h2⟩ := h.nearest hcm ho ht
    have ht' := h.same h1
    refine Or.inr ⟨t, by rw [recover_some hy ht, ht'.2.1], fun e => ?_⟩
    have h3 := hf t h1
    have h4 : ∃ k ∈ wN c, tab (sl c k) ≠ tab (sl c o) ∧ newerB (sq c t) (sq c k) = false := by
      unfold first at h3
      rw [e, beq_self_eq_true, Bool.true_and] at h3
      obtain ⟨k, hk, h5⟩ := List.all_eq_false.1 h3
      simp only [Bool.not_eq_true, Bool.or_eq_false_iff, beq_eq_false_iff_ne, ne_eq] at h5
      exact ⟨k, hk, h5.1, h5.2⟩
    obtain ⟨k, hk, hne, hnn⟩ := h4
    have hky := hd k hk hne
    have h5 := h2 k hky
    rw [newer_dist hok ho ht'.2.2 hk] at hnn
    have h6 := of_decide_eq_false hnn
    have h7 := (dist_eq hok ht'.1 (wN_lt hk).1).1 (show dist c o t = dist c o k by omega)
    exact hne (by rw [← e]; exact (clash_false hcl ht'.2.2 hk h7).symm)
/-- The newest slot is a first one. -/
theorem first_own {c : Cop} {o : Nat} (hcm : checkM c = 0) (ho : newest c = some o) : first c o o = true := by
  have hcl := mixed_clash_false (checkM_ok hcm).2
  have hol := newest_lt ho
  have hom : o ∈ wN c := wUpto_mem.2 hol
  unfold first
  rw [beq_self_eq_true, Bool.true_and]
  refine List.all_eq_true.2 fun k hk => ?_
  by_cases e : tab (sl c k) = tab (sl c o)
  · simp [e]
  · have h1 := newest_tops ho (wN_lt hk).1 (wN_lt hk).2
    simp only [okB, Bool.or_eq_true, beq_iff_eq] at h1
    rcases h1 with h1 | h1
    · exact absurd (clash_false hcl hk hom h1) e
    · simp [h1]
end Go.Proofs.YtcpglghklmfbcaaDoor.T
