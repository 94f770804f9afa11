/- The program's Margin, which tries all sets of slots, is the number of first slots. -/
import Derived.Test.YtcpglghklmfbcaaDoorV1
namespace Go.Proofs.YtcpglghklmfbcaaDoor.T
set_option linter.unusedVariables false
set_option linter.unusedSimpArgs false

/-- The first slots. -/
def firsts (c : Cop) (o : Nat) : List Nat := (wN c).filter (first c o)
theorem firsts_eq (c : Cop) (o : Nat) : firsts c o = (List.range c.length).filter fun i => whole (sl c i) && first c o i := by
  unfold firsts wN wUpto
  rw [List.filter_filter]
  refine List.filter_congr fun x _ => ?_
  cases whole (sl c x) <;> cases first c o x <;> rfl
theorem filter_len_le {α : Type} {p q : α → Bool} : ∀ (l : List α), (∀ x ∈ l, p x = true → q x = true) → (l.filter p).length ≤ (l.filter q).length
  | [], _ => Nat.le_refl _
  | x :: l, h => by
    have ih := filter_len_le l (fun y hy => h y (List.mem_cons_of_mem _ hy))
    have hx := h x (by simp)
    by_cases hp : p x = true
    · rw [List.filter_cons_of_pos hp, List.filter_cons_of_pos (hx hp)]
      simp only [List.length_cons]
      omega
    · rw [List.filter_cons_of_neg hp]
      by_cases hq : q x = true
      · rw [List.filter_cons_of_pos hq]
        simp only [List.length_cons]
        omega
      · rw [List.filter_cons_of_neg hq]
        exact ih
theorem whole_bad {l : List Sec} (h : 0 < l.length) : whole (l.set 0 Sec.b) = false := by
  cases l with
  | nil => simp at h
  | cons a l => simp [whole, Sec.b]
theorem yU_sub {l : Cop} (h : okC l = true) (s : Nat) : Sub (yU l s l.length) l := by
  have hl := okC_len h
  refine ⟨yU_len l s _, yU_ok h s _ (Nat.le_refl _), ?_, fun i hi => ?_⟩
  · rw [parts_eq (by rw [yU_len]; omega), parts_eq (by omega), yU_sl l s l.length (Nat.le_refl _) 0]
    split <;> simp
  rw [yU_sl l s l.length (Nat.le_refl _) i]
  by_cases hb : i < l.length ∧ bitN s i = true
  · rw [if_pos hb]
    refine Or.inr (whole_bad ?_)
    have := okC_slot h hi
    have := okC_len h
    omega
  · rw [if_neg hb]
    exact Or.inl rfl
theorem yU_whole {l : Cop} (s i : Nat) (hi : i ∈ wN l) (hb : bitN s i = false) : i ∈ wN (yU l s l.length) := by
  have h := wN_lt hi
  refine wUpto_mem.2 ⟨by rw [yU_len]; exact h.1, ?_⟩
  rw [yU_sl l s l.length (Nat.le_refl _) i, if_neg (by rw [hb]; simp)]
  exact h.2
theorem yU_lost {l : Cop} (h : okC l = true) (s i : Nat) (hi : i ∈ wN (yU l s l.length)) : bitN s i = false := by
  have h1 := wN_lt hi
  rw [yU_len] at h1
  cases hb : bitN s i with
  | false => rfl
  | true =>
    have := h1.2
    rw [yU_sl l s l.length (Nat.le_refl _) i, if_pos ⟨h1.1, hb⟩, whole_bad (by have := okC_slot h h1.1; have := okC_len h; omega)] at this
    cases this
theorem changes_of {y : Cop} {t : List Int} (h : recover y = ([], 0, 3) ∨ ∃ (u : List Int) (s : Int), recover y = (u, s, 0) ∧ u ≠ t) : changes y t = true := by
  rcases h with h | ⟨u, s, h, hne⟩
  · simp [changes, h]
  · simp [changes, h, hne]
theorem least_step {l : Cop} {t : List Int} (s : Nat) : leastUpto l t (s + 1) ≤ leastUpto l t s := by
  rw [leastUpto]
  split <;> omega
theorem least_mono {l : Cop} {t : List Int} (a : Nat) : ∀ b, leastUpto l t (a + b) ≤ leastUpto l t a
  | 0 => Int.le_refl _
  | b + 1 => Int.le_trans (least_step (a + b)) (least_mono a b)
theorem least_ge {l : Cop} {o : Nat} (hcm : checkM l = 0) (ho : newest l = some o) : ∀ s, ((firsts l o).length : Int) ≤ leastUpto l (tab (sl l o)) s
  | 0 => by
    have h1 := List.length_filter_le (first l o) (wN l)
    have h2 := wUpto_len l l.length
    unfold leastUpto firsts
    have h3 : (wN l).length ≤ l.length := h2
    omega
  | s + 1 => by
    have ih := least_ge hcm ho s
    rw [leastUpto]
    split
    · rename_i h
      have hok := (checkM_ok hcm).1
      have hsub := yU_sub hok s
      rw [firsts_eq]
      unfold many
      have := filter_len_le (p := fun i => whole (sl l i) && first l o i) (q := bitN s) (List.range l.length) (fun x hx hp => by
        simp only [Bool.and_eq_true] at hp
        cases hb : bitN s x with
        | true => rfl
        | false =>
          exfalso
          have hxw : x ∈ wN l := wUpto_mem.2 ⟨List.mem_range.1 hx, hp.1⟩
          obtain ⟨t, _, hr⟩ := hsub.stays hcm ho hp.2 (yU_whole s x hxw hb)
          have := h.2.2
          simp [changes, hr] at this)
      omega
    · exact ih
/-- The number of a set. -/
def code (p : Nat → Bool) : Nat → Nat
  | 0 => 0
  | k + 1 => code p k + (if p k then 2 ^ k else 0)
theorem code_lt (p : Nat → Bool) : ∀ k, code p k < 2 ^ k
  | 0 => by simp [code]
  | k + 1 => by
    have := code_lt p k
    rw [code, Nat.pow_succ]
    split <;> omega
theorem code_bit (p : Nat → Bool) {n i : Nat} (hn : n ≤ 4) (hi : i < n) : bitN (code p n) i = p i := by
  have h4 : n = 1 ∨ n = 2 ∨ n = 3 ∨ n = 4 := by omega
  have hi4 : i = 0 ∨ i = 1 ∨ i = 2 ∨ i = 3 := by omega
  rcases h4 with rfl | rfl | rfl | rfl <;> rcases hi4 with rfl | rfl | rfl | rfl <;> first
    | (exfalso; omega)
    | (unfold bitN; simp only [code]; cases p 0 <;> cases p 1 <;> cases p 2 <;> cases p 3 <;> rfl)
theorem least_le {l : Cop} {o : Nat} (hcm : checkM l = 0) (ho : newest l = some o) : leastUpto l (tab (sl l o)) (2 ^ l.length) ≤ ((firsts l o).length : Int) := by
  have hok := (checkM_ok hcm).1
  have hn := okC_len hok
  have hlt := code_lt (fun i => whole (sl l i) && first l o i) l.length
  have hbit : ∀ i, i < l.length → bitN (code (fun i => whole (sl l i) && first l o i) l.length) i = (whole (sl l i) && first l o i) := fun i hi => code_bit (fun i => whole (sl l i) && first l o i) hn.2.1 hi
  generalize code (fun i => whole (sl l i) && first l o i) l.length = s at hlt hbit
  have hmany : many s l.length = (firsts l o).length := by
    rw [firsts_eq]
    unfold many
    congr 1
    exact List.filter_congr fun x hx => hbit x (List.mem_range.1 hx)
  have hsub := yU_sub hok s
  have hset : okSet l s l.length = true := by
    refine List.all_eq_true.2 fun i hi => ?_
    rw [hbit i (List.mem_range.1 hi)]
    cases whole (sl l i) <;> simp
  have hch : changes (yU l s l.length) (tab (sl l o)) = true := by
    have h := hsub.goes hcm ho (fun f hf => by
      have h1 := yU_lost hok s f hf
      have h2 := hsub.same hf
      rw [hbit f h2.1, (wN_lt h2.2.2).2] at h1
      simpa using h1) (fun k hk hne => yU_whole s k hk (by
      rw [hbit k (wN_lt hk).1]
      have : first l o k = false := by unfold first; simp [hne]
      rw [this, Bool.and_false]))
    rcases h with h | ⟨t, h, hne⟩
    · exact changes_of (Or.inl h)
    · exact changes_of (Or.inr ⟨_, _, h, hne⟩)
  have h1 : leastUpto l (tab (sl l o)) (s + 1) ≤ ((firsts l o).length : Int) := by
    rw [leastUpto]
    by_cases hl : (many s l.length : Int) < leastUpto l (tab (sl l o)) s
    · rw [if_pos ⟨hset, hl, hch⟩, hmany]
      exact Int.le_refl _
    · rw [if_neg (fun h => hl h.2.1), ← hmany]
      omega
  have h2 := least_mono (l := l) (t := tab (sl l o)) (s + 1) (2 ^ l.length - (s + 1))
  rw [show s + 1 + (2 ^ l.length - (s + 1)) = 2 ^ l.length by omega] at h2
  omega
theorem gmargin_eq (l : Cop) : gmargin l = margin l := by
  unfold gmargin margin
  by_cases h : checkM l = 0
  · rw [if_pos h, if_pos h]
    cases ho : newest l with
    | none => rfl
    | some o =>
      have h1 := least_ge h ho (2 ^ l.length)
      have h2 := least_le h ho
      show (leastUpto l (tab (sl l o)) (2 ^ l.length), (0 : Int)) = (((firsts l o).length : Int), 0)
      rw [show leastUpto l (tab (sl l o)) (2 ^ l.length) = ((firsts l o).length : Int) by omega]
  · rw [if_neg h, if_neg h]
end Go.Proofs.YtcpglghklmfbcaaDoor.T
