import Derived.Test.YtcpglghklmfbcaaDoorT24
import Derived.Test.YtcpglghklmfbcaaDoorT20
namespace Go.Proofs.YtcpglghklmfbcaaDoor.T
open Go Go.RowKit Go.Proofs.YtcpglghklmfbcaaDoor.M Go.Proofs.YtcpglghklmfbcaaDoor.R
set_option linter.unusedVariables false
set_option linter.unusedSimpArgs false

/-- One of the rows is written. -/
theorem Own2.update {α : Type} {enc : α → List Value} {sz : Nat} {e e2 : TypeId} {w w' : World} {base : Nat} {v : Value} {xss : List (List α)} {vs : List Value} (h : Own2 enc sz e e2 w base v xss vs) {j : Nat} {xs ys : List α} {u : Value}
    (hx : xss[j]? = some xs) (hu : vs[j]? = some u) (hn : u.ownBlock ≠ none) (hg : w.grownBy w' u.ownBlock) (ho : Own enc sz e w' base u ys) : Own2 enc sz e e2 w' base v (xss.set j ys) vs := by
  obtain ⟨h1, h2, h3, h4⟩ := h
  have hap := (h3 j xs u hx hu).2
  refine ⟨by simp [h1], h2.kept hg (Or.inr ?_), fun i zs x hi hxi => ?_, h4⟩
  · rcases hap with e | e
    · exact absurd e hn
    · exact Ne.symm e
  · rw [List.getElem?_set] at hi
    by_cases hij : j = i
    · subst hij
      have hjl := (List.getElem?_eq_some_iff.1 hx).1
      simp only [if_true, hjl, Option.some.injEq] at hi
      subst hi
      rw [hu] at hxi
      obtain rfl := Option.some.inj hxi
      exact ⟨ho, hap⟩
    · rw [if_neg hij] at hi
      have h5 := h3 i zs x hi hxi
      refine ⟨h5.1.kept hg ?_, h5.2⟩
      rcases Nat.lt_or_ge i j with hlt | hge
      · rcases h4 i j x u hlt hxi hu with e | e
        · exact Or.inl e
        · exact Or.inr e
      · rcases h4 j i u x (by omega) hu hxi with e | e
        · exact absurd e hn
        · exact Or.inr (Ne.symm e)
theorem flat_set3 (x : Sec) : ∀ (xs : List Sec) (p : Nat), p < xs.length → flat encS (xs.set p x) = (((flat encS xs).set (p * 3) (.int .i64 x.seq)).set (p * 3 + 1) (.int .i64 x.data)).set (p * 3 + 2) (.bool x.bad)
  | [], p, h => by simp at h
  | y :: ys, 0, _ => rfl
  | y :: ys, p + 1, h => by
    have ih := flat_set3 x ys p (by simpa using h)
    rw [List.set_cons_succ]
    have e : ∀ zs : List Sec, flat encS (y :: zs) = .int .i64 y.seq :: .int .i64 y.data :: .bool y.bad :: flat encS zs := fun zs => rfl
    rw [e, e, ih, show (p + 1) * 3 = p * 3 + 1 + 1 + 1 by omega]
    rfl
/-- A world with a sector written. -/
def put3 (w : World) (g o : Nat) (x : Sec) : World := ((w.setCell ⟨g, o, none⟩ (.int .i64 x.seq)).setCell ⟨g, o + 1, none⟩ (.int .i64 x.data)).setCell ⟨g, o + 2, none⟩ (.bool x.bad)
theorem put3_grown (w : World) (g o : Nat) (x : Sec) : w.grownBy (put3 w g o x) (some g) :=
  ⟨rfl, rfl, rfl, by simp [put3], fun k hk hne => by
    have hk' : g ≠ k := fun e => hne (by rw [e])
    unfold put3
    rw [Below.heap_setCell _ _ _ _ (Ne.symm hk'), Below.heap_setCell _ _ _ _ (Ne.symm hk'), Below.heap_setCell _ _ _ _ (Ne.symm hk')]⟩
theorem Own.put3 {w : World} {base g n c p : Nat} {xs : List Sec} (h : Own encS 3 78 w base (.slice (some ⟨g, 0, none⟩) n c) xs) (hn : n = xs.length) (hp : p < xs.length) (x : Sec) : Own encS 3 78 (put3 w g (p * 3) x) base (.slice (some ⟨g, 0, none⟩) n c) (xs.set p x) := by
  subst hn
  refine ⟨by simpa using h.1, ?_⟩
  rw [flat_set3 x xs p hp, List.length_set]
  exact (((h.2.stored _ _).1.stored _ _).1.stored _ _).1
theorem Own.form {w : World} {base : Nat} {v : Value} {xs : List Sec} (h : Own encS 3 78 w base v xs) (hx : 0 < xs.length) : ∃ g c, v = .slice (some ⟨g, 0, none⟩) xs.length c ∧ base ≤ g ∧ g < w.heap.size ∧ (∀ o, w.frozen? ⟨g, o, none⟩ = false) := by
  rcases h.2.2 with ⟨rfl, hn⟩ | ⟨g, cap, cur, rfl, hb, hh, hc1, _⟩
  · omega
  · exact ⟨g, cap, rfl, hb, (Array.getElem?_eq_some_iff.1 hh).1, fun o => h.2.frozenAt o⟩
theorem setSec_eq {c : Cop} {s : Nat} (p : Nat) (x : Sec) (h : s < c.length) : setSec c s p x = c.set s ((sl c s).set p x) := by
  unfold setSec
  apply List.ext_getElem?
  intro i
  rw [List.getElem?_modify, List.getElem?_set]
  by_cases e : s = i
  · subst e
    rw [sl_get h, if_pos rfl, if_pos h]
    simp
  · rw [if_neg e]
    cases c[i]? <;> simp [e]
theorem sl_set {c : Cop} {s t : Nat} (xs : List Sec) (h : s < c.length) : sl (c.set s xs) t = if s = t then xs else sl c t := by
  unfold sl
  rw [List.getD_eq_getElem?_getD, List.getElem?_set]
  by_cases e : s = t
  · subst e; simp [h]
  · simp [e, List.getD_eq_getElem?_getD]

def bitN (s i : Nat) : Bool := s / 2 ^ i % 2 == 1
theorem shr_run (s i : Nat) (hi : i < 4) (w : World) : (binOp .shr 3 (.int .i64 (s : Int)) (.int .i64 (i : Int))).run Tryd.prog w = .ok (.int .i64 ((s / 2 ^ i : Nat) : Int)) w := by
  match i, hi with
  | 0, _ => simp [binOp, Op.shift]
  | 1, _ => simp [binOp, Op.shift, IntKind.bits]
  | 2, _ => simp [binOp, Op.shift, IntKind.bits]
  | 3, _ => simp [binOp, Op.shift, IntKind.bits]
theorem and_run (q : Nat) (hq : q < 16) (w : World) : (binOp .and 3 (.int .i64 (q : Int)) (.int .i64 1)).run Tryd.prog w = .ok (.int .i64 ((q % 2 : Nat) : Int)) w := by
  have : q = 0 ∨ q = 1 ∨ q = 2 ∨ q = 3 ∨ q = 4 ∨ q = 5 ∨ q = 6 ∨ q = 7 ∨ q = 8 ∨ q = 9 ∨ q = 10 ∨ q = 11 ∨ q = 12 ∨ q = 13 ∨ q = 14 ∨ q = 15 := by omega
  rcases this with rfl | rfl | rfl | rfl | rfl | rfl | rfl | rfl | rfl | rfl | rfl | rfl | rfl | rfl | rfl | rfl <;> rfl
theorem shl_run (n : Nat) (hn : n ≤ 4) (w : World) : (binOp .shl 3 (.int .i64 1) (.int .i64 (n : Int))).run Tryd.prog w = .ok (.int .i64 ((2 ^ n : Nat) : Int)) w := by
  have : n = 0 ∨ n = 1 ∨ n = 2 ∨ n = 3 ∨ n = 4 := by omega
  rcases this with rfl | rfl | rfl | rfl | rfl <;> rfl
theorem bitN_run (s i : Nat) (hs : s < 16) (hi : i < 4) : ∃ q : Nat, (∀ w, (binOp .shr 3 (.int .i64 (s : Int)) (.int .i64 (i : Int))).run Tryd.prog w = .ok (.int .i64 (q : Int)) w) ∧ (∀ w, (binOp .and 3 (.int .i64 (q : Int)) (.int .i64 1)).run Tryd.prog w = .ok (.int .i64 (if bitN s i then 1 else 0)) w) := by
  refine ⟨s / 2 ^ i, shr_run s i hi, fun w => ?_⟩
  rw [and_run _ (Nat.lt_of_le_of_lt (Nat.div_le_self _ _) hs)]
  have : ((s / 2 ^ i % 2 : Nat) : Int) = if bitN s i then 1 else 0 := by
    unfold bitN
    rcases Nat.mod_two_eq_zero_or_one (s / 2 ^ i) with e | e <;> rw [e] <;> rfl
  rw [this]

/-- The copies with the first sector of each slot of a set, below k, unreadable. -/
def yU (l : Cop) (s : Nat) : Nat → Cop
  | 0 => l
  | k + 1 => if bitN s k then setSec (yU l s k) k 0 Sec.b else yU l s k
def okSet (l : Cop) (s k : Nat) : Bool := (List.range k).all fun i => !bitN s i || whole (sl l i)
def many (s k : Nat) : Nat := ((List.range k).filter (bitN s)).length
def changes (y : Cop) (t : List Int) : Bool := (recover y).2.2 != 0 || !((recover y).1 == t)
/-- The program's 'least' behind the first s sets. -/
def leastUpto (l : Cop) (t : List Int) : Nat → Int
  | 0 => l.length
  | s + 1 => if okSet l s l.length = true ∧ (many s l.length : Int) < leastUpto l t s ∧ changes (yU l s l.length) t = true then (many s l.length : Int) else leastUpto l t s
theorem yU_len (l : Cop) (s : Nat) : ∀ k, (yU l s k).length = l.length
  | 0 => rfl
  | k + 1 => by
    have ih := yU_len l s k
    unfold yU
    split
    · simp [setSec, ih]
    · exact ih
theorem yU_sl (l : Cop) (s : Nat) : ∀ k, k ≤ l.length → ∀ i, sl (yU l s k) i = if i < k ∧ bitN s i = true then (sl l i).set 0 Sec.b else sl l i
  | 0, _, i => by simp [yU]
  | k + 1, hk, i => by
    have ih := yU_sl l s k (by omega)
    have hl := yU_len l s k
    unfold yU
    by_cases hb : bitN s k = true
    · rw [if_pos hb, setSec_eq 0 _ (by omega), sl_set _ (by omega)]
      by_cases e : k = i
      · subst e
        rw [if_pos rfl, ih k, if_neg (by omega), if_pos ⟨by omega, hb⟩]
      · rw [if_neg e, ih i]
        by_cases h2 : i < k ∧ bitN s i = true
        · rw [if_pos h2, if_pos ⟨by omega, h2.2⟩]
        · rw [if_neg h2, if_neg (fun h => h2 ⟨by omega, h.2⟩)]
    · rw [if_neg hb, ih i]
      by_cases h2 : i < k ∧ bitN s i = true
      · rw [if_pos h2, if_pos ⟨by omega, h2.2⟩]
      · rw [if_neg h2, if_neg (fun h => h2 ⟨by
          have : i ≠ k := fun e => hb (e ▸ h.2)
          omega, h.2⟩)]
theorem many_le (s k : Nat) : many s k ≤ k := by
  unfold many
  exact Nat.le_trans (List.length_filter_le ..) (by simp)
theorem many_yes {s k : Nat} (h : bitN s k = true) : many s (k + 1) = many s k + 1 := by simp [many, List.range_succ, List.filter_append, h]
theorem many_no {s k : Nat} (h : bitN s k = false) : many s (k + 1) = many s k := by simp [many, List.range_succ, List.filter_append, h]
theorem okSet_succ (l : Cop) (s k : Nat) : okSet l s (k + 1) = (okSet l s k && (!bitN s k || whole (sl l k))) := by simp [okSet, List.range_succ, List.all_append]
theorem okSet_no {l : Cop} {s k : Nat} (hk : k < l.length) (h : bitN s k = true) (hw : whole (sl l k) = false) : okSet l s l.length = false := by
  unfold okSet
  exact List.all_eq_false.2 ⟨k, List.mem_range.2 hk, by simp [h, hw]⟩
end Go.Proofs.YtcpglghklmfbcaaDoor.T
