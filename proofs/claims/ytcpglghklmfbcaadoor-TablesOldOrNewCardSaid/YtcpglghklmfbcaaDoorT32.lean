import Derived.Test.YtcpglghklmfbcaaDoorT31
import Derived.Test.YtcpglghklmfbcaaDoorT28
namespace Go.Proofs.YtcpglghklmfbcaaDoor.T
open Go Go.RowKit Go.Proofs.YtcpglghklmfbcaaDoor.M Go.Proofs.YtcpglghklmfbcaaDoor.R
set_option linter.unusedVariables false
set_option linter.unusedSimpArgs false

theorem Own2.rowA {w : World} {base : Nat} {A : Option Addr} {n c : Nat} {y : Cop} {vs : List Value} (h : Own2 encS 3 78 41 w base (.slice A n c) y vs) : Row2 encS 3 w A y := by
  obtain ⟨A', c', e', hr, _⟩ := h.row2 encS_len
  injection e' with e1 e2 e3
  rw [e1]
  exact hr
/-- A block that holds two cells. -/
def Cell2 (w : World) (b : Nat) (v v2 : Value) (t : TypeId) : Prop := w.heap[b]? = some (.cells #[v, v2] t (0, 0))
section
variable {w w' : World} {b : Nat} {v v2 u : Value} {t : TypeId}
theorem Cell2.cell (h : Cell2 w b v v2 t) : w.cell? ⟨b, 0, none⟩ = some v ∧ w.cell? ⟨b, 1, none⟩ = some v2 := by
  unfold Cell2 at h
  unfold World.cell?
  simp only [h]
  simp
theorem Cell2.free (h : Cell2 w b v v2 t) (i : Nat) : w.frozen? ⟨b, i, none⟩ = false := by
  unfold Cell2 at h
  unfold World.frozen?
  simp only [h]
  simp
theorem Cell2.keep (h : Cell2 w b v v2 t) (k : w'.heap[b]? = w.heap[b]?) : Cell2 w' b v v2 t := k.trans h
theorem Cell2.lt (h : Cell2 w b v v2 t) : b < w.heap.size := (Array.getElem?_eq_some_iff.1 h).1
theorem Cell2.new (w : World) (v v2 : Value) (t : TypeId) : Cell2 (w.alloc (.cells #[v, v2] t)) w.heap.size v v2 t := by
  unfold Cell2
  show (w.heap.push _)[_]? = _
  simp
theorem Cell2.set0 (h : Cell2 w b v v2 t) : Cell2 (w.setCell ⟨b, 0, none⟩ u) b u v2 t := by
  unfold Cell2 at h ⊢
  unfold World.setCell
  simp only [Array.getElem?_modify, h, if_true, Option.map_some]
  rfl
theorem Cell2.set1 (h : Cell2 w b v v2 t) : Cell2 (w.setCell ⟨b, 1, none⟩ u) b v u t := by
  unfold Cell2 at h ⊢
  unfold World.setCell
  simp only [Array.getElem?_modify, h, if_true, Option.map_some]
  rfl
end
/-- The world behind two boxes, one of them of two cells. -/
def bx (w : World) (v : Value) (t : TypeId) (v1 v2 : Value) (t' : TypeId) : World := (w.alloc (.cells #[v] t)).alloc (.cells #[v1, v2] t')
section
variable {w b : World} {v v1 v2 v3 : Value} {t t' t3 : TypeId}
theorem bx_size (w : World) (v : Value) (t : TypeId) (v1 v2 : Value) (t' : TypeId) : (bx w v t v1 v2 t').heap.size = w.heap.size + 1 + 1 := by simp [bx]
theorem bx_old (h : Gr (bx w v t v1 v2 t') b) : Gr w b := Gr.old (Gr.old h)
theorem bx_box (h : Gr (bx w v t v1 v2 t') b) : b.cell? ⟨w.heap.size, 0, none⟩ = some v ∧ b.cell? ⟨w.heap.size + 1, 0, none⟩ = some v1 ∧ b.cell? ⟨w.heap.size + 1, 1, none⟩ = some v2 := by
  have e : (w.alloc (.cells #[v] t)).heap.size = w.heap.size + 1 := by simp
  have h3 := Gr.box h 0
  have h4 := Gr.box h 1
  rw [e] at h3 h4
  exact ⟨Gr.box (Gr.old h) 0, h3, h4⟩
end
/-- Two rows of the call's own, in a box of two cells. -/
structure Two (w : World) (b : Nat) (v1 v2 : Value) (xs ys : List Int) : Prop where
  box : Cell2 w b v1 v2 27
  one : Own encI 1 3 w (b + 1) v1 xs
  two : Own encI 1 3 w (b + 1) v2 ys
  apart : Apart v1.ownBlock v2.ownBlock
theorem Two.new (w : World) : Two (w.alloc (.cells #[.slice none 0 0, .slice none 0 0] 27)) w.heap.size (.slice none 0 0) (.slice none 0 0) [] [] :=
  ⟨Cell2.new .., Own.nil, Own.nil, Or.inl rfl⟩
theorem Two.below {w w' : World} {b : Nat} {v1 v2 : Value} {xs ys : List Int} (h : Two w b v1 v2 xs ys) (hb : Below w.heap.size w w') : Two w' b v1 v2 xs ys :=
  ⟨h.box.keep (hb.block _ h.box.lt), h.one.below hb, h.two.below hb, h.apart⟩
/-- What an append to the first row leaves, behind the store. -/
theorem Two.set0 {w w1 : World} {b : Nat} {v1 v2 u : Value} {xs ys zs : List Int} (h : Two w b v1 v2 xs ys) (ho : Own encI 1 3 w1 (b + 1) u zs) (hg : w.grownBy w1 v1.ownBlock) (hu : u.ownBlock = v1.ownBlock ∨ u.ownBlock = some (w.heap.size + 1)) : Two (w1.setCell ⟨b, 0, none⟩ u) b u v2 zs ys := by
  have hb : Below (b + 1) w w1 := (Below.refl _ _).grown hg h.box.lt (fun k hk => (h.one.lt k hk).1)
  have h1 : Cell2 w1 b v1 v2 27 := h.box.keep (hb.block _ (Nat.lt_succ_self _))
  have h2 : Own encI 1 3 w1 (b + 1) v2 ys := h.two.kept hg (by
    rcases h.apart.symm with e | e
    · exact Or.inl e
    · exact Or.inr e)
  refine ⟨h1.set0, ho.kept (setCell_grown w1 ⟨b, 0, none⟩ u) ?_, h2.kept (setCell_grown w1 ⟨b, 0, none⟩ u) ?_, ?_⟩
  · cases e : u.ownBlock with
    | none => exact Or.inl rfl
    | some k => exact Or.inr (by intro e2; injection e2 with e2; dsimp only at e2; have := (ho.lt k e).1; omega)
  · cases e : v2.ownBlock with
    | none => exact Or.inl rfl
    | some k => exact Or.inr (by intro e2; injection e2 with e2; dsimp only at e2; have := (h2.lt k e).1; omega)
  · rcases hu with e | e
    · rw [e]; exact h.apart
    · exact Apart.symm (Apart.of_lt (n := w.heap.size) (fun k hk => (h.two.lt k hk).2) (fun k hk => by rw [e] at hk; injection hk with hk; omega))
theorem Two.set1 {w w1 : World} {b : Nat} {v1 v2 u : Value} {xs ys zs : List Int} (h : Two w b v1 v2 xs ys) (ho : Own encI 1 3 w1 (b + 1) u zs) (hg : w.grownBy w1 v2.ownBlock) (hu : u.ownBlock = v2.ownBlock ∨ u.ownBlock = some (w.heap.size + 1)) : Two (w1.setCell ⟨b, 1, none⟩ u) b v1 u xs zs := by
  have hb : Below (b + 1) w w1 := (Below.refl _ _).grown hg h.box.lt (fun k hk => (h.two.lt k hk).1)
  have h1 : Cell2 w1 b v1 v2 27 := h.box.keep (hb.block _ (Nat.lt_succ_self _))
  have h2 : Own encI 1 3 w1 (b + 1) v1 xs := h.one.kept hg (by
    rcases h.apart with e | e
    · exact Or.inl e
    · exact Or.inr e)
  refine ⟨h1.set1, h2.kept (setCell_grown w1 ⟨b, 1, none⟩ u) ?_, ho.kept (setCell_grown w1 ⟨b, 1, none⟩ u) ?_, ?_⟩
  · cases e : v1.ownBlock with
    | none => exact Or.inl rfl
    | some k => exact Or.inr (by intro e2; injection e2 with e2; dsimp only at e2; have := (h2.lt k e).1; omega)
  · cases e : u.ownBlock with
    | none => exact Or.inl rfl
    | some k => exact Or.inr (by intro e2; injection e2 with e2; dsimp only at e2; have := (ho.lt k e).1; omega)
  · rcases hu with e | e
    · rw [e]; exact h.apart
    · exact Apart.of_lt (n := w.heap.size) (fun k hk => (h.one.lt k hk).2) (fun k hk => by rw [e] at hk; injection hk with hk; omega)
end Go.Proofs.YtcpglghklmfbcaaDoor.T
