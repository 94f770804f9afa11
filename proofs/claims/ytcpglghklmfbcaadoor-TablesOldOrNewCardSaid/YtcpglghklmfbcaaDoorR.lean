/- Rows of elements as they lie in memory: read through any slice; owned ones as the library's ownsRow. For any program. -/
import Derived.Below
import Derived.WalkKit
import Derived.OwnWalk
import Derived.Laws.AppendOwn
import Derived.Laws.OwnMore
import Derived.Laws.MakeOwn
import Derived.Maps.AppendAt
import Derived.Lib.Hide
import Derived.Deep.QuietTactic
import Derived.BigQuiet
namespace Go.Proofs.YtcpglghklmfbcaaDoor.R
open Go Go.RowKit
set_option linter.unusedVariables false
set_option linter.unusedSimpArgs false
set_option linter.unusedSectionVars false

theorem rb {a b : Bool} (h : a = b) : Ending.returned (.bool a) = .returned (.bool b) := by rw [h]
theorem ri {a b : Int} (h : a = b) : Ending.returned (.int .i64 a) = .returned (.int .i64 b) := by rw [h]

theorem rib {a b : Int} {c d : Bool} (h : a = b) (k : c = d) : Ending.returned (.tuple #[.int .i64 a, .bool c]) = .returned (.tuple #[.int .i64 b, .bool d]) := by rw [h, k]
theorem rii {a b c d : Int} (h : a = b) (k : c = d) : Ending.returned (.tuple #[.int .i64 a, .int .i64 c]) = .returned (.tuple #[.int .i64 b, .int .i64 d]) := by rw [h, k]
theorem rbi {a b : Bool} {c d : Int} (h : a = b) (k : c = d) : Ending.returned (.tuple #[.bool a, .int .i64 c]) = .returned (.tuple #[.bool b, .int .i64 d]) := by rw [h, k]
variable {α : Type} {enc : α → List Value} {sz : Nat} {w w' : World} {A : Option Addr} {xs : List α}
/-- The slice that begins at A reads as xs. -/
def Row (enc : α → List Value) (sz : Nat) (w : World) (A : Option Addr) (xs : List α) : Prop :=
  xs.length ≤ 9223372036854775807 ∧ (0 < xs.length → ∃ b off, A = some ⟨b, off, none⟩ ∧ ∀ j x, xs[j]? = some x → ∀ i u, (enc x)[i]? = some u → w.cell? ⟨b, off + j * sz + i, none⟩ = some u)
theorem Row.nil (A : Option Addr) : Row enc sz w A ([] : List α) := ⟨by simp, fun h => absurd h (by simp)⟩
/-- What a reading leads to lies below the heap's end; so it stays while the old blocks stay. -/
theorem Row.below (h : Row enc sz w A xs) (hb : Below w.heap.size w w') : Row enc sz w' A xs :=
  ⟨h.1, fun hl => by
    obtain ⟨b, off, e, hc⟩ := h.2 hl
    refine ⟨b, off, e, fun j x hx i u hu => ?_⟩
    have h1 := hc j x hx i u hu
    rw [hb.cell (World.block_lt_of_cell? w _ h1)]
    exact h1⟩
/-- Element k's cells. -/
theorem Row.at (h : Row enc sz w A xs) {k : Nat} {x : α} (hx : xs[k]? = some x) : ∃ b off, A = some ⟨b, off, none⟩ ∧ ∀ i u, (enc x)[i]? = some u → w.cell? ⟨b, off + k * sz + i, none⟩ = some u := by
  obtain ⟨b, off, e, hc⟩ := h.2 (by have := (List.getElem?_eq_some_iff.1 hx).1; omega)
  exact ⟨b, off, e, hc k x hx⟩
theorem Row.congr {enc' : α → List Value} (h : Row enc sz w A xs) (he : ∀ x ∈ xs, enc' x = enc x) : Row enc' sz w A xs :=
  ⟨h.1, fun hl => by
    obtain ⟨b, off, e, hc⟩ := h.2 hl
    exact ⟨b, off, e, fun j x hx i u hu => hc j x hx i u (by rw [← he x (List.mem_of_getElem? hx)]; exact hu)⟩⟩
theorem Row.take (h : Row enc sz w A xs) (k : Nat) : Row enc sz w A (xs.take k) :=
  ⟨by have := h.1; rw [List.length_take]; omega, fun hl => by
    obtain ⟨b, off, e, hc⟩ := h.2 (by rw [List.length_take] at hl; omega)
    refine ⟨b, off, e, fun j x hx => hc j x ?_⟩
    rw [List.getElem?_take] at hx
    split at hx
    · exact hx
    · cases hx⟩

/-- A slice of slices. -/
def Row2 (enc : α → List Value) (sz : Nat) (w : World) (A : Option Addr) (xss : List (List α)) : Prop :=
  xss.length ≤ 9223372036854775807 ∧ (0 < xss.length → ∃ b off, A = some ⟨b, off, none⟩ ∧ ∀ j xs, xss[j]? = some xs → ∃ Aj cj, w.cell? ⟨b, off + j, none⟩ = some (.slice Aj xs.length cj) ∧ xs.length ≤ cj ∧ Row enc sz w Aj xs)
variable {xss : List (List α)}
theorem Row2.nil (A : Option Addr) : Row2 enc sz w A ([] : List (List α)) := ⟨by simp, fun h => absurd h (by simp)⟩
theorem Row2.below (h : Row2 enc sz w A xss) (hb : Below w.heap.size w w') : Row2 enc sz w' A xss :=
  ⟨h.1, fun hl => by
    obtain ⟨b, off, e, hc⟩ := h.2 hl
    refine ⟨b, off, e, fun j xs hx => ?_⟩
    obtain ⟨Aj, cj, h1, h2, h3⟩ := hc j xs hx
    exact ⟨Aj, cj, by rw [hb.cell (World.block_lt_of_cell? w _ h1)]; exact h1, h2, h3.below hb⟩⟩
theorem Row2.at (h : Row2 enc sz w A xss) {k : Nat} {xs : List α} (hx : xss[k]? = some xs) : ∃ b off Ak ck, A = some ⟨b, off, none⟩ ∧ w.cell? ⟨b, off + k, none⟩ = some (.slice Ak xs.length ck) ∧ xs.length ≤ ck ∧ Row enc sz w Ak xs := by
  obtain ⟨b, off, e, hc⟩ := h.2 (by have := (List.getElem?_eq_some_iff.1 hx).1; omega)
  obtain ⟨Ak, ck, h1⟩ := hc k xs hx
  exact ⟨b, off, Ak, ck, e, h1⟩

/-! ### Owned rows -/
/-- All cells of a row. -/
def flat (enc : α → List Value) (xs : List α) : List Value := xs.flatMap enc
theorem flat_nil : flat enc ([] : List α) = [] := rfl
theorem flat_append (xs ys : List α) : flat enc (xs ++ ys) = flat enc xs ++ flat enc ys := by simp [flat]
theorem flat_one (x : α) : flat enc [x] = enc x := by simp [flat]
theorem flat_length (hsz : ∀ x, (enc x).length = sz) (xs : List α) : (flat enc xs).length = xs.length * sz := by
  induction xs with
  | nil => simp [flat]
  | cons x xs ih => rw [show flat enc (x :: xs) = enc x ++ flat enc xs by simp [flat], List.length_append, ih, hsz, List.length_cons, Nat.succ_mul]; omega
theorem flat_get (hsz : ∀ x, (enc x).length = sz) : ∀ (xs : List α) (j : Nat) (x : α) (i : Nat) (u : Value), xs[j]? = some x → (enc x)[i]? = some u → (flat enc xs)[j * sz + i]? = some u
  | y :: ys, j, x, i, u, hx, hu => by
    rw [show flat enc (y :: ys) = enc y ++ flat enc ys by simp [flat]]
    cases j with
    | zero =>
      simp only [List.getElem?_cons_zero, Option.some.injEq] at hx
      subst hx
      rw [Nat.zero_mul, Nat.zero_add, List.getElem?_append_left (List.getElem?_eq_some_iff.1 hu).1]
      exact hu
    | succ j =>
      simp only [List.getElem?_cons_succ] at hx
      rw [Nat.succ_mul, List.getElem?_append_right (by rw [hsz]; omega), hsz, show j * sz + sz + i - sz = j * sz + i by omega]
      exact flat_get hsz ys j x i u hx hu
/-- The slice v is a row of the call's own (from block base on) of these elements, of element type e. -/
def Own (enc : α → List Value) (sz : Nat) (e : TypeId) (w : World) (base : Nat) (v : Value) (xs : List α) : Prop := xs.length ≤ 140737488355328 ∧ w.ownsRow base e sz v xs.length (flat enc xs)
variable {e : TypeId} {base B : Nat} {v : Value}
theorem Own.nil : Own enc sz e w base (.slice none 0 0) ([] : List α) := ⟨by simp, World.ownsRow_nil ..⟩
theorem Own.row (hsz : ∀ x, (enc x).length = sz) (h : Own enc sz e w base v xs) : ∃ A c, v = .slice A xs.length c ∧ Row enc sz w A xs ∧ xs.length ≤ c := by
  have h0 := h.2
  rcases h0.2 with ⟨rfl, hn⟩ | ⟨g, cap, cur, rfl, hb, hh, hc1, _⟩
  · obtain rfl := List.eq_nil_of_length_eq_zero hn
    exact ⟨none, 0, rfl, Row.nil _, Nat.le_refl _⟩
  · refine ⟨_, cap, rfl, ⟨Nat.le_trans h.1 (by decide), fun _ => ⟨g, 0, rfl, fun j x hx i u hu => ?_⟩⟩, hc1⟩
    have h1 := h0.cells (g := g) rfl (j * sz + i) u (flat_get hsz xs j x i u hx hu)
    have h2 : (⟨g, 0, none⟩ : Addr).add (j * sz + i) = ⟨g, 0 + j * sz + i, none⟩ := by
      unfold Addr.add
      split
      · simp_all
      · simp [Nat.add_assoc]
    rwa [h2] at h1
theorem Own.kept {row : Option Nat} (h : Own enc sz e w base v xs) (hg : w.grownBy w' row) (hne : v.ownBlock = none ∨ v.ownBlock ≠ row) : Own enc sz e w' base v xs := ⟨h.1, h.2.kept hg hne⟩
theorem Own.below (h : Own enc sz e w base v xs) (hb : Below w.heap.size w w') : Own enc sz e w' base v xs :=
  h.kept (row := none) ⟨hb.os, hb.tape, hb.output, hb.size, fun k hk _ => hb.block k hk⟩ (by cases v.ownBlock <;> simp)
theorem Own.alloc (h : Own enc sz e w base v xs) (o : Obj) : Own enc sz e (w.alloc o) base v xs := ⟨h.1, h.2.alloc o⟩
theorem Own.mono {base' : Nat} (h : Own enc sz e w base v xs) (hb : base' ≤ base) : Own enc sz e w base' v xs := by
  refine ⟨h.1, h.2.1, ?_⟩
  rcases h.2.2 with h1 | ⟨g, cap, cur, e1, e2, e3⟩
  · exact .inl h1
  · exact .inr ⟨g, cap, cur, e1, by omega, e3⟩
theorem Own.lt (h : Own enc sz e w base v xs) : ∀ k, v.ownBlock = some k → base ≤ k ∧ k < w.heap.size := h.2.lt
theorem grown_trans {a b c : World} {row : Option Nat} (h : a.grownBy b row) (k : b.grownBy c row) : a.grownBy c row := ⟨k.os.trans h.os, k.tape.trans h.tape, k.output.trans h.output, Nat.le_trans h.size k.size, fun i hi hn => (k.block i (Nat.lt_of_lt_of_le hi h.size) hn).trans (h.block i hi hn)⟩
theorem grown_below {row : Option Nat} (hg : w.grownBy w' row) (hr : ∀ k, row = some k → B ≤ k) (hB : B ≤ w.heap.size) : Below B w w' :=
  (Below.refl B w).grown hg hB hr

variable {P : Program} {ops : Array Oper} {rest : List Oper} {o : Oper} {a : Act} {Q : Exit → Act → World → Prop} {K : Act → World → Prop} {w0 : World}
/-- What an append leaves. -/
def Appended (enc : α → List Value) (sz : Nat) (e : TypeId) (base : Nat) (w0 w : World) (v : Value) (xs : List α) (v1 : Value) (w1 : World) : Prop :=
  Own enc sz e w1 base v1 xs ∧ Below base w0 w1 ∧ w.grownBy w1 v.ownBlock ∧ (v1.ownBlock = v.ownBlock ∨ v1.ownBlock = some w.heap.size)
theorem addr_add (b off j : Nat) : (⟨b, off, none⟩ : Addr).add j = ⟨b, off + j, none⟩ := by
  unfold Addr.add
  split
  · simp_all
  · simp
theorem run_append_none (base : Nat) (t ty e : TypeId) (i : TypeInfo) (size : Nat) (ht : P.underlying t = some (.slice e)) (hi : P.info? e = some i)
    (v : Value) (n c : Nat) (xs : List Value) (hown : w.ownsRow base e size v n xs) :
    (Builtin.append_ #[t, t] ty #[v, .slice none 0 c]).run P w = .ok v w := by
  rcases hown.2 with ⟨rfl, rfl⟩ | ⟨g, cap, cur, rfl, _, _, hnc, _⟩
  · simp [Builtin.append_, run_underlying ht, sizeOf, typeInfo, hi, Builtin.lenOf, Builtin.firstCells]
  · simp [Builtin.append_, run_underlying ht, sizeOf, typeInfo, hi, Builtin.lenOf, Builtin.firstCells, hnc, storeCells]
/-- append(v, ys...). -/
theorem op_append_row (hsz : ∀ x, (enc x).length = sz) (s x : Operand) (t : TypeId)
    (ho : o.op = .call { callee := .builtin .append, args := #[s, x], argTypes := #[t, t] }) (ht : P.underlying t = some (.slice e)) (z : Value) (bytes : Nat)
    (hinfo : (P.info? e).map (fun i => (i.zero, i.size, i.bytes)) = some (some z, sz, bytes)) (hz : z.cells.size = sz) (hs0 : 0 < sz ∧ 0 < bytes) (ys : List α) (B' : Option Addr) (c : Nat) (hs : a.eval s = v) (hx : a.eval x = .slice B' ys.length c)
    (hR : Row enc sz w B' ys) (hone : ∀ y ∈ ys, ∀ u ∈ enc y, u.oneCell' = true) (HO : Own enc sz e w base v xs) (HB : Below base w0 w) (hbase : base ≤ w.heap.size) (hl : (xs.length + ys.length) * bytes ≤ 140737488355328)
    (h : ∀ v1 w1, Hid (Appended enc sz e base w0 w v (xs ++ ys) v1 w1) → K (a.put o.dst v1) w1) : o.wp P a w K Q := by
  have hl2 : xs.length + ys.length ≤ 140737488355328 := Nat.le_trans (Nat.le_mul_of_pos_right _ hs0.2) hl
  obtain ⟨i0, hi, hzz⟩ := Option.map_eq_some_iff.1 hinfo
  simp only [Prod.mk.injEq] at hzz
  obtain ⟨hz0, hz1, hz2⟩ := hzz
  cases B' with
  | none =>
    have hy : ys = [] := by
      cases ys with
      | nil => rfl
      | cons y ys =>
        obtain ⟨b, off, e', _⟩ := hR.2 (by simp)
        cases e'
    subst hy
    have hrun := run_append_none (P := P) (w := w) base t o.type e i0 sz ht hi v xs.length c (flat enc xs) HO.2
    unfold Oper.wp
    simp only [List.length_nil] at hx
    simp [execOp, ho, resolve, invoke, builtin, hs, hx, hrun, Result.andThen]
    exact h v w ⟨by rw [List.append_nil]; exact HO, HB, ⟨rfl, rfl, rfl, Nat.le_refl _, fun _ _ _ => rfl⟩, Or.inl rfl⟩
  | some ad =>
    have hrow : ∃ ad', (ys = [] ∨ ad' = ad) ∧ ∀ j u, (flat enc ys)[j]? = some u → w.cell? (ad'.add j) = some u := by
      refine ⟨ad, Or.inr rfl, fun j u hu => ?_⟩
      have hjl := (List.getElem?_eq_some_iff.1 hu).1
      rw [flat_length hsz] at hjl
      have hq : j / sz < ys.length := (Nat.div_lt_iff_lt_mul hs0.1).2 hjl
      obtain ⟨b', off', e', hc⟩ := hR.at (List.getElem?_eq_getElem hq)
      cases e'
      rw [addr_add]
      have hi : j % sz < (enc (ys[j / sz])).length := by rw [hsz]; exact Nat.mod_lt _ hs0.1
      have hu2 := flat_get hsz ys (j / sz) _ (j % sz) _ (List.getElem?_eq_getElem hq) (List.getElem?_eq_getElem hi)
      rw [Nat.div_add_mod' j sz] at hu2
      rw [hu2] at hu
      have := hc (j % sz) _ (List.getElem?_eq_getElem hi)
      rw [Nat.add_assoc, Nat.div_add_mod' j sz] at this
      rw [this]
      exact hu
    obtain ⟨ad', hor, hcell⟩ := hrow
    have hcell2 : ∀ j u, (flat enc ys)[j]? = some u → w.cell? (ad.add j) = some u := by
      rcases hor with rfl | rfl
      · intro j u hu; simp [flat] at hu
      · exact hcell
    obtain ⟨v', w', hr, h2, h3, h4, h5⟩ := run_append_own_at (P := P) w base t o.type e i0 z sz bytes ht hi hz0 hz1 hz2 hz hs0.1 v xs.length (flat enc xs) HO.2 ad ys.length c (flat enc ys) (by rw [flat_length hsz]) hcell2 (fun u hu => by
      obtain ⟨y, hy, hu⟩ := List.mem_flatMap.1 hu
      exact hone y hy u hu) (by simp only [maxLen]; omega) hl hbase
    unfold Oper.wp execOp
    simp only [ho, resolve, invoke, builtin, Sem.run_bind, Sem.run_pure, Result.andThen_ok, List.map_toArray, List.map_cons, List.map_nil, hs, hx, hr]
    refine h v' w' ⟨⟨by simpa using hl2, ?_⟩, HB.grown h3 hbase (fun k hk => (HO.lt k hk).1), h3, h5⟩
    rw [flat_append, List.length_append]
    exact h2
theorem row_new (hsz : ∀ x, (enc x).length = sz) (w : World) (y : α) (t : TypeId) : Row enc sz (w.alloc (.cells (enc y).toArray t)) (some ⟨w.heap.size, 0, none⟩) [y] := by
  refine ⟨by simp, fun _ => ⟨w.heap.size, 0, rfl, fun j x hx i u hu => ?_⟩⟩
  cases j with
  | succ j => simp at hx
  | zero =>
    simp only [List.getElem?_cons_zero, Option.some.injEq] at hx
    subst hx
    have : (w.alloc (.cells (enc y).toArray t)).heap[w.heap.size]? = some (.cells (enc y).toArray t) := by show (w.heap.push _)[_]? = _; simp
    rw [show 0 + 0 * sz + i = i by omega]
    unfold World.cell?
    simp only [this]
    simpa using hu
/-- append(v, y): y's box was made just before. -/
theorem op_append1 (hsz : ∀ x, (enc x).length = sz) (s x : Operand) (t : TypeId)
    (ho : o.op = .call { callee := .builtin .append, args := #[s, x], argTypes := #[t, t] }) (ht : P.underlying t = some (.slice e)) (z : Value) (bytes : Nat)
    (hinfo : (P.info? e).map (fun i => (i.zero, i.size, i.bytes)) = some (some z, sz, bytes)) (hz : z.cells.size = sz) (hs0 : 0 < sz ∧ 0 < bytes) (y : α) (hone : ∀ u ∈ enc y, u.oneCell' = true) (hs : a.eval s = v) (hx : a.eval x = .slice (some ⟨w.heap.size, 0, none⟩) 1 1)
    (HO : Own enc sz e w base v xs) (HB : Below base w0 w) (hbase : base ≤ w.heap.size) (hl : (xs.length + 1) * bytes ≤ 140737488355328)
    (h : ∀ v1 w1, Hid (Own enc sz e w1 base v1 (xs ++ [y]) ∧ Below base w0 w1 ∧ w.grownBy w1 v.ownBlock ∧ (v1.ownBlock = v.ownBlock ∨ v1.ownBlock = some (w.heap.size + 1))) → K (a.put o.dst v1) w1) : o.wp P a (w.alloc (.cells (enc y).toArray e)) K Q :=
  op_append_row hsz s x t ho ht z bytes hinfo hz hs0 [y] (some ⟨w.heap.size, 0, none⟩) 1 hs hx (row_new hsz w y e) (fun y' hy' => by simp at hy'; subst hy'; exact hone) (HO.alloc _) (HB.alloc hbase _) (by simp; omega) hl
    fun v1 w1 H => h v1 w1 ⟨H.1, H.2.1, grown_trans (World.grownBy_alloc w _ _) H.2.2.1, by have := H.2.2.2; simpa using this⟩
theorem wp_append_row (hsz : ∀ x, (enc x).length = sz) (hone : ∀ x, ∀ u ∈ enc x, u.oneCell' = true) (hgd : o.guard = none) (s x : Operand) (t : TypeId)
    (ho : o.op = .call { callee := .builtin .append, args := #[s, x], argTypes := #[t, t] }) (ht : P.underlying t = some (.slice e)) (z : Value) (bytes : Nat)
    (hinfo : (P.info? e).map (fun i => (i.zero, i.size, i.bytes)) = some (some z, sz, bytes)) (hz : z.cells.size = sz) (hs0 : 0 < sz ∧ 0 < bytes) (ys : List α) (B' : Option Addr) (c : Nat) (hs : a.eval s = v) (hx : a.eval x = .slice B' ys.length c)
    (hR : Row enc sz w B' ys) (HO : Own enc sz e w base v xs) (HB : Below base w0 w) (hbase : base ≤ w.heap.size) (hl : (xs.length + ys.length) * bytes ≤ 140737488355328)
    (h : ∀ v1 w1, Hid (Appended enc sz e base w0 w v (xs ++ ys) v1 w1) → wpList P ops Q rest (a.put o.dst v1) w1) : wpList P ops Q (o :: rest) a w :=
  wpList_plain hgd fun K hK => op_append_row hsz s x t ho ht z bytes hinfo hz hs0 ys B' c hs hx hR (fun y _ => hone y) HO HB hbase hl fun v1 w1 H => hK _ _ (h v1 w1 H)
theorem wp_append1 (hsz : ∀ x, (enc x).length = sz) (hone : ∀ x, ∀ u ∈ enc x, u.oneCell' = true) (hgd : o.guard = none) (s x : Operand) (t : TypeId)
    (ho : o.op = .call { callee := .builtin .append, args := #[s, x], argTypes := #[t, t] }) (ht : P.underlying t = some (.slice e)) (z : Value) (bytes : Nat)
    (hinfo : (P.info? e).map (fun i => (i.zero, i.size, i.bytes)) = some (some z, sz, bytes)) (hz : z.cells.size = sz) (hs0 : 0 < sz ∧ 0 < bytes) (y : α) (hs : a.eval s = v) (hx : a.eval x = .slice (some ⟨w.heap.size, 0, none⟩) 1 1)
    (HO : Own enc sz e w base v xs) (HB : Below base w0 w) (hbase : base ≤ w.heap.size) (hl : (xs.length + 1) * bytes ≤ 140737488355328)
    (h : ∀ v1 w1, Hid (Own enc sz e w1 base v1 (xs ++ [y]) ∧ Below base w0 w1 ∧ w.grownBy w1 v.ownBlock ∧ (v1.ownBlock = v.ownBlock ∨ v1.ownBlock = some (w.heap.size + 1))) → wpList P ops Q rest (a.put o.dst v1) w1) :
    wpList P ops Q (o :: rest) a (w.alloc (.cells (enc y).toArray e)) :=
  wpList_plain hgd fun K hK => op_append1 hsz s x t ho ht z bytes hinfo hz hs0 y (hone y) hs hx HO HB hbase hl fun v1 w1 H => hK _ _ (h v1 w1 H)
/-- The same laws in a region that draws its order. -/
theorem step_append_row {E : Prop} (hsz : ∀ x, (enc x).length = sz) (hone : ∀ x, ∀ u ∈ enc x, u.oneCell' = true) (hgd : o.guard = none) (s x : Operand) (t : TypeId)
    (ho : o.op = .call { callee := .builtin .append, args := #[s, x], argTypes := #[t, t] }) (ht : P.underlying t = some (.slice e)) (z : Value) (bytes : Nat)
    (hinfo : (P.info? e).map (fun i => (i.zero, i.size, i.bytes)) = some (some z, sz, bytes)) (hz : z.cells.size = sz) (hs0 : 0 < sz ∧ 0 < bytes) (ys : List α) (B' : Option Addr) (c : Nat) (hs : a.eval s = v) (hx : a.eval x = .slice B' ys.length c)
    (hR : Row enc sz w B' ys) (HO : Own enc sz e w base v xs) (HB : Below base w0 w) (hbase : base ≤ w.heap.size) (hl : (xs.length + ys.length) * bytes ≤ 140737488355328)
    (h : ∀ v1 w1, Hid (Appended enc sz e base w0 w v (xs ++ ys) v1 w1) → K (a.put o.dst v1) w1) : if Region.wanted o (yielded ops a.tmps) = true then Oper.wp P o a w K Q else E := by
  rw [if_pos (by simp [Region.wanted, hgd])]
  exact op_append_row hsz s x t ho ht z bytes hinfo hz hs0 ys B' c hs hx hR (fun y _ => hone y) HO HB hbase hl h
theorem step_append1 {E : Prop} (hsz : ∀ x, (enc x).length = sz) (hgd : o.guard = none) (s x : Operand) (t : TypeId)
    (ho : o.op = .call { callee := .builtin .append, args := #[s, x], argTypes := #[t, t] }) (ht : P.underlying t = some (.slice e)) (z : Value) (bytes : Nat)
    (hinfo : (P.info? e).map (fun i => (i.zero, i.size, i.bytes)) = some (some z, sz, bytes)) (hz : z.cells.size = sz) (hs0 : 0 < sz ∧ 0 < bytes) (y : α) (hone : ∀ u ∈ enc y, u.oneCell' = true) (hs : a.eval s = v) (hx : a.eval x = .slice (some ⟨w.heap.size, 0, none⟩) 1 1)
    (HO : Own enc sz e w base v xs) (HB : Below base w0 w) (hbase : base ≤ w.heap.size) (hl : (xs.length + 1) * bytes ≤ 140737488355328)
    (h : ∀ v1 w1, Hid (Own enc sz e w1 base v1 (xs ++ [y]) ∧ Below base w0 w1 ∧ w.grownBy w1 v.ownBlock ∧ (v1.ownBlock = v.ownBlock ∨ v1.ownBlock = some (w.heap.size + 1))) → K (a.put o.dst v1) w1) : if Region.wanted o (yielded ops a.tmps) = true then Oper.wp P o a (w.alloc (.cells (enc y).toArray e)) K Q else E := by
  rw [if_pos (by simp [Region.wanted, hgd])]
  exact op_append1 hsz s x t ho ht z bytes hinfo hz hs0 y hone hs hx HO HB hbase hl h

/-! ### A region that draws its order and calls functions that make memory of their own: one walk, in the worlds that are grown from w -/
/-- A world in which what lay in w stands as it was. -/
def Gro (w : World) := { w' : World // Below w.heap.size w w' }
instance Gro.some (w : World) : Nonempty (Gro w) := ⟨⟨w, Below.refl _ _⟩⟩
def Gro.W {w : World} (x : Gro w) : World := x.1
theorem Gro.b {w : World} (x : Gro w) : Below w.heap.size w x.W := x.2
theorem Gro.cell {w : World} (x : Gro w) (b o : Nat) (h : b < w.heap.size) : x.W.cell? ⟨b, o, none⟩ = w.cell? ⟨b, o, none⟩ := x.2.cell (p := ⟨b, o, none⟩) h
theorem Gro.out {w W : World} {C : World → Prop} (h : ∀ x : Gro w, C x.W) (hW : Below w.heap.size w W) : C W := h ⟨W, hW⟩
theorem Gro.calls {w : World} {f : FuncId} {args : Array Value} {v : Value} (x : Gro w) (h : Calls P f args x.W fun e w' => e = .returned v ∧ Below x.W.heap.size x.W w') : Calls P f args x.W fun e w'' => e = .returned v ∧ ∃ y : Gro w, w'' = y.W :=
  h.mono fun _ w' ⟨he, hb⟩ => ⟨he, ⟨w', x.b.trans (hb.mono x.b.size)⟩, rfl⟩
theorem Gro.calls_same {w : World} {f : FuncId} {args : Array Value} {v : Value} (x : Gro w) (h : Calls P f args x.W fun e w' => e = .returned v ∧ x.W = w') : Calls P f args x.W fun e w'' => e = .returned v ∧ ∃ y : Gro w, w'' = y.W :=
  h.mono fun _ w' ⟨he, hb⟩ => ⟨he, x, hb.symm⟩
theorem wp_region_gro {id : Nat} {Q : Exit → Act → World → Prop} {a : Act} {w : World} {l : List Oper} (hm : P.follows .mixedOrders = true) (hB : Region.lexB .any l.toArray = true)
    (h : wpQuiet P l.toArray (fun w' => ∃ x : Gro w, w' = x.W) (fun a' => ∀ w', (∃ x : Gro w, w' = x.W) → Q .normal a' w') l a) : (Code.region id l.toArray true).wp P Q a w :=
  wp_region_quiet (C := fun w' => ∃ x : Gro w, w' = x.W) hm hB ⟨⟨w.drew, (Below.refl _ _).drew⟩, rfl⟩ (by simpa using h)
theorem bthen {B : Nat} {a b c : World} (h : Below B a b) (hB : B ≤ b.heap.size) (k : Below b.heap.size b c) : Below B a c := h.trans (k.mono hB)
/-- A grown world: what lay in W lies there still. -/
def Gr (W w : World) : Prop := Below W.heap.size W w
theorem Gr.refl (w : World) : Gr w w := Below.refl _ _
theorem Gr.step {a b c : World} (h : Gr a b) (k : Below b.heap.size b c) : Gr a c := bthen h h.size k
theorem Gr.drew {a b : World} (h : Gr a b) (n : Nat) : Gr a (b.drewN n) := ⟨h.os, h.tape, h.output, h.size, h.block⟩
theorem Gr.alloc {a b : World} (h : Gr a b) (o : Obj) : Gr a (b.alloc o) := Below.alloc h h.size o
theorem Gr.old {w b : World} {o : Obj} (h : Gr (w.alloc o) b) : Gr w b := ((Below.refl w.heap.size w).alloc (Nat.le_refl _) o).trans (Below.mono h (by simp))
theorem Gr.lt {w b : World} {o : Obj} (h : Gr (w.alloc o) b) : w.heap.size < b.heap.size := by have := Below.size h; simp at this; omega
theorem Gr.box {w b : World} {cs : Array Value} {t : TypeId} (h : Gr (w.alloc (.cells cs t)) b) (i : Nat) : b.cell? ⟨w.heap.size, i, none⟩ = cs[i]? := by
  rw [Below.cell h (p := ⟨w.heap.size, i, none⟩) (by simp)]
  have : (w.alloc (.cells cs t)).heap[w.heap.size]? = some (.cells cs t) := by show (w.heap.push _)[_]? = _; simp
  unfold World.cell?
  simp only [this]
  simp
/-- The world behind the box of a struct of one cell. -/
def bs (w : World) (v : Value) (t : TypeId) : World := w.alloc (.cells #[v] t)
theorem bs_size (w : World) (v : Value) (t : TypeId) : (bs w v t).heap.size = w.heap.size + 1 := by simp [bs]
theorem bs_old {w b : World} {v : Value} {t : TypeId} (h : Gr (bs w v t) b) : Gr w b := Gr.old h
theorem bs_box {w b : World} {v : Value} {t : TypeId} (h : Gr (bs w v t) b) : b.cell? ⟨w.heap.size, 0, none⟩ = some v := Gr.box h 0
theorem Own.bs {w0 : World} {u : Value} {t : TypeId} (h : Own enc sz e w (bs w0 u t).heap.size v xs) : Own enc sz e w w0.heap.size v xs := h.mono (by rw [bs_size]; omega)
end Go.Proofs.YtcpglghklmfbcaaDoor.R
