/- Rows of rows that a call owns: no two of them share a block. For any program. -/
import Derived.Test.YtcpglghklmfbcaaDoorR
namespace Go.Proofs.YtcpglghklmfbcaaDoor.R
open Go Go.RowKit
set_option linter.unusedVariables false
set_option linter.unusedSimpArgs false
set_option linter.unusedSectionVars false

def encV (u : Value) : List Value := [u]
theorem encV_len (u : Value) : (encV u).length = 1 := rfl
/-- A is none, or another block than B. -/
def Apart (A B : Option Nat) : Prop := A = none ∨ A ≠ B
theorem Apart.of_lt {A B : Option Nat} {n : Nat} (h : ∀ k, A = some k → k < n) (k : ∀ k, B = some k → n ≤ k) : Apart A B := by
  cases A with
  | none => exact Or.inl rfl
  | some a =>
    refine Or.inr fun e => ?_
    have := h a rfl
    have := k a e.symm
    omega
theorem Apart.of_gt {A B : Option Nat} {n : Nat} (h : ∀ k, A = some k → n ≤ k) (k : ∀ k, B = some k → k < n) : Apart A B := by
  cases A with
  | none => exact Or.inl rfl
  | some a =>
    refine Or.inr fun e => ?_
    have := h a rfl
    have := k a e.symm
    omega
theorem Apart.symm {A B : Option Nat} (h : Apart A B) : Apart B A := by
  cases B with
  | none => exact Or.inl rfl
  | some b =>
    rcases h with rfl | h
    · exact Or.inr (by simp)
    · exact Or.inr (Ne.symm h)

variable {α : Type} {enc : α → List Value} {sz : Nat} {e e2 : TypeId} {w w' : World} {base : Nat} {v : Value} {xss : List (List α)}
/-- The slice v owns its row, and each element's row; no two of these lie in one block. -/
def Own2 (enc : α → List Value) (sz : Nat) (e e2 : TypeId) (w : World) (base : Nat) (v : Value) (xss : List (List α)) (vs : List Value) : Prop :=
  vs.length = xss.length ∧ Own encV 1 e2 w base v vs ∧ (∀ (j : Nat) (xs : List α) (u : Value), xss[j]? = some xs → vs[j]? = some u → Own enc sz e w base u xs ∧ Apart u.ownBlock v.ownBlock) ∧
    ∀ (i j : Nat) (u u' : Value), i < j → vs[i]? = some u → vs[j]? = some u' → Apart u.ownBlock u'.ownBlock
theorem Own2.nil : Own2 enc sz e e2 w base (.slice none 0 0) ([] : List (List α)) [] :=
  ⟨rfl, Own.nil, fun j xs u h => by simp at h, fun i j u u' _ h => by simp at h⟩
theorem Own2.below {vs : List Value} (h : Own2 enc sz e e2 w base v xss vs) (hb : Below w.heap.size w w') : Own2 enc sz e e2 w' base v xss vs :=
  ⟨h.1, h.2.1.below hb, fun j xs u h1 h2 => ⟨(h.2.2.1 j xs u h1 h2).1.below hb, (h.2.2.1 j xs u h1 h2).2⟩, h.2.2.2⟩
theorem Own2.mono {vs : List Value} {base' : Nat} (h : Own2 enc sz e e2 w base v xss vs) (hb : base' ≤ base) : Own2 enc sz e e2 w base' v xss vs :=
  ⟨h.1, h.2.1.mono hb, fun j xs u h1 h2 => ⟨(h.2.2.1 j xs u h1 h2).1.mono hb, (h.2.2.1 j xs u h1 h2).2⟩, h.2.2.2⟩
/-- Another block is written: all stays. -/
theorem Own2.kept {vs : List Value} (h : Own2 enc sz e e2 w base v xss vs) {b : Nat} (hg : w.grownBy w' (some b)) (hb : b < base) : Own2 enc sz e e2 w' base v xss vs := by
  have key : ∀ {β : Type} {en : β → List Value} {s : Nat} {ty : TypeId} {u : Value} {xs : List β}, Own en s ty w base u xs → Own en s ty w' base u xs := fun ho => ho.kept hg (by
    rename_i u _
    cases hu : u.ownBlock with
    | none => exact Or.inl rfl
    | some k => exact Or.inr (by have := (ho.lt k hu).1; intro e; injection e with e; omega))
  exact ⟨h.1, key h.2.1, fun j xs u h1 h2 => ⟨key (h.2.2.1 j xs u h1 h2).1, (h.2.2.1 j xs u h1 h2).2⟩, h.2.2.2⟩
theorem Own2.row2 {vs : List Value} (hsz : ∀ x, (enc x).length = sz) (h : Own2 enc sz e e2 w base v xss vs) : ∃ A c, v = .slice A xss.length c ∧ Row2 enc sz w A xss ∧ xss.length ≤ c := by
  obtain ⟨h1, h2, h3, _⟩ := h
  obtain ⟨A, c, e', hr, hc⟩ := h2.row encV_len
  refine ⟨A, c, by rw [e', h1], ⟨by rw [← h1]; exact Nat.le_trans h2.1 (by decide), fun hp => ?_⟩, by rw [← h1]; exact hc⟩
  obtain ⟨b, off, e'', hcell⟩ := hr.2 (by omega)
  refine ⟨b, off, e'', fun j xs hx => ?_⟩
  have hj : j < vs.length := by rw [h1]; exact (List.getElem?_eq_some_iff.1 hx).1
  obtain ⟨h4, _⟩ := h3 j xs _ hx (List.getElem?_eq_getElem hj)
  obtain ⟨Aj, cj, e3, hrow, hle⟩ := h4.row hsz
  have h5 := hcell j _ (List.getElem?_eq_getElem hj) 0 _ rfl
  rw [e3] at h5
  exact ⟨Aj, cj, by simpa using h5, hle, hrow⟩
/-- A new row goes to the end. -/
theorem Own2.append {w1 w2 : World} {vs : List Value} {v1 u : Value} {ys : List α} (h : Own2 enc sz e e2 w base v xss vs) (hb : Below w.heap.size w w1) (hu : Own enc sz e w1 base u ys) (hf : ∀ k, u.ownBlock = some k → w.heap.size ≤ k)
    (ho : Own encV 1 e2 w2 base v1 (vs ++ [u])) (hg : w1.grownBy w2 v.ownBlock) (hv : v1.ownBlock = v.ownBlock ∨ ∃ b, v1.ownBlock = some b ∧ w1.heap.size ≤ b) : Own2 enc sz e e2 w2 base v1 (xss ++ [ys]) (vs ++ [u]) := by
  obtain ⟨h1, h2, h3, h4⟩ := h
  have hvlt : ∀ k, v.ownBlock = some k → k < w.heap.size := fun k hk => (h2.lt k hk).2
  have hto : ∀ {x : Value}, Apart x.ownBlock v.ownBlock → (∀ k, x.ownBlock = some k → k < w1.heap.size) → Apart x.ownBlock v1.ownBlock := by
    intro x ha hlt
    rcases hv with e' | ⟨b, e', hle⟩
    · rw [e']; exact ha
    · exact Apart.of_lt (n := w1.heap.size) hlt (fun k hk => by rw [e'] at hk; injection hk with hk; omega)
  refine ⟨by simp [h1], ho, fun j xs x hx hxv => ?_, fun i j x x' hij hi hj => ?_⟩
  · rcases Nat.lt_or_ge j xss.length with hlt | hge
    · rw [List.getElem?_append_left hlt] at hx
      rw [List.getElem?_append_left (by omega)] at hxv
      obtain ⟨h5, h6⟩ := h3 j xs x hx hxv
      exact ⟨(h5.below hb).kept hg (by rcases h6 with h6 | h6; exact Or.inl h6; exact Or.inr h6), hto h6 (fun k hk => ((h5.below hb).lt k hk).2)⟩
    · rw [List.getElem?_append_right hge] at hx
      rw [List.getElem?_append_right (by omega), h1] at hxv
      have hj0 : j - xss.length = 0 := by
        have := (List.getElem?_eq_some_iff.1 hx).1
        simp at this
        omega
      rw [hj0] at hx hxv
      simp only [List.getElem?_cons_zero, Option.some.injEq] at hx hxv
      subst hx hxv
      have ha : Apart u.ownBlock v.ownBlock := Apart.of_gt hf hvlt
      exact ⟨hu.kept hg (by rcases ha with h6 | h6; exact Or.inl h6; exact Or.inr h6), hto ha (fun k hk => (hu.lt k hk).2)⟩
  · have hjl := (List.getElem?_eq_some_iff.1 hj).1
    simp at hjl
    have hil : i < vs.length := by omega
    rw [List.getElem?_append_left hil] at hi
    rcases Nat.lt_or_ge j vs.length with hlt | hge
    · rw [List.getElem?_append_left hlt] at hj
      exact h4 i j x x' hij hi hj
    · rw [List.getElem?_append_right hge, show j - vs.length = 0 by omega] at hj
      simp only [List.getElem?_cons_zero, Option.some.injEq] at hj
      subst hj
      have hx := h3 i _ x (List.getElem?_eq_getElem (show i < xss.length by omega)) hi
      exact Apart.of_lt (n := w.heap.size) (fun k hk => (hx.1.lt k hk).2) hf
/-- The world behind two boxes. -/
def bs2 (w : World) (v : Value) (t : TypeId) (v' : Value) (t' : TypeId) : World := (w.alloc (.cells #[v] t)).alloc (.cells #[v'] t')
theorem bs2_size (w : World) (v : Value) (t : TypeId) (v' : Value) (t' : TypeId) : (bs2 w v t v' t').heap.size = w.heap.size + 1 + 1 := by simp [bs2]
theorem bs2_old {w b : World} {v v' : Value} {t t' : TypeId} (h : Gr (bs2 w v t v' t') b) : Gr w b := Gr.old (Gr.old h)
theorem bs2_box {w b : World} {v v' : Value} {t t' : TypeId} (h : Gr (bs2 w v t v' t') b) : b.cell? ⟨w.heap.size, 0, none⟩ = some v := Gr.box (Gr.old h) 0
theorem bs2_box2 {w b : World} {v v' : Value} {t t' : TypeId} (h : Gr (bs2 w v t v' t') b) : b.cell? ⟨w.heap.size + 1, 0, none⟩ = some v' := by
  have := Gr.box (w := w.alloc (.cells #[v] t)) h 0
  simpa using this
theorem Gr.free {w b : World} {cs : Array Value} {t : TypeId} (h : Gr (w.alloc (.cells cs t)) b) (i : Nat) : b.frozen? ⟨w.heap.size, i, none⟩ = false := by
  rw [Below.frozen h (p := ⟨w.heap.size, i, none⟩) (by simp)]
  have : (w.alloc (.cells cs t)).heap[w.heap.size]? = some (.cells cs t) := by show (w.heap.push _)[_]? = _; simp
  unfold World.frozen?
  simp only [this]
  simp
theorem bs2_free {w b : World} {v v' : Value} {t t' : TypeId} (h : Gr (bs2 w v t v' t') b) : b.frozen? ⟨w.heap.size + 1, 0, none⟩ = false := by
  have := Gr.free (w := w.alloc (.cells #[v] t)) h 0
  simpa using this
/-- A block that holds one cell. -/
def Cell1 (w : World) (b : Nat) (v : Value) (t : TypeId) : Prop := w.heap[b]? = some (.cells #[v] t (0, 0))
theorem Cell1.cell {w : World} {b : Nat} {v : Value} {t : TypeId} (h : Cell1 w b v t) : w.cell? ⟨b, 0, none⟩ = some v := by
  unfold Cell1 at h
  unfold World.cell?
  simp only [h]
  simp
theorem Cell1.free {w : World} {b : Nat} {v : Value} {t : TypeId} (h : Cell1 w b v t) (i : Nat) : w.frozen? ⟨b, i, none⟩ = false := by
  unfold Cell1 at h
  unfold World.frozen?
  simp only [h]
  simp
theorem Cell1.keep {w w' : World} {b : Nat} {v : Value} {t : TypeId} (h : Cell1 w b v t) (k : w'.heap[b]? = w.heap[b]?) : Cell1 w' b v t := k.trans h
theorem Cell1.lt {w : World} {b : Nat} {v : Value} {t : TypeId} (h : Cell1 w b v t) : b < w.heap.size := (Array.getElem?_eq_some_iff.1 h).1
theorem Cell1.new (w : World) (v : Value) (t : TypeId) : Cell1 (w.alloc (.cells #[v] t)) w.heap.size v t := by
  unfold Cell1
  show (w.heap.push _)[_]? = _
  simp
theorem Cell1.set {w : World} {b : Nat} {v u : Value} {t : TypeId} (h : Cell1 w b v t) : Cell1 (w.setCell ⟨b, 0, none⟩ u) b u t := by
  unfold Cell1 at h ⊢
  unfold World.setCell
  simp only [Array.getElem?_modify, h, if_true, Option.map_some]
  rfl
theorem setCell_grown (w : World) (p : Addr) (u : Value) : w.grownBy (w.setCell p u) (some p.block) :=
  ⟨rfl, rfl, rfl, by simp [World.setCell], fun k _ hk => Below.heap_setCell _ _ _ _ (fun e => hk (by rw [e]))⟩
theorem Own.empty {α : Type} (enc : α → List Value) (sz : Nat) (e : TypeId) (w : World) (base : Nat) (hb : base ≤ w.heap.size) : Own enc sz e (w.alloc (.cells #[] e)) base (.slice (some ⟨w.heap.size, 0, none⟩) 0 0) ([] : List α) := by
  refine ⟨by simp, ?_⟩
  have h := World.ownsRow_lit (base := base) (e := e) (size := sz) w #[] 0 hb (by simp [maxLen]) (by simp)
  simpa [flat] using h
end Go.Proofs.YtcpglghklmfbcaaDoor.R
