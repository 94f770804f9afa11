/- Laws of maps with int keys, whose entries are told by a list of pairs: made, looked up, stored into, ranged over. For any program. -/
import Derived.Maps.RangeWalk
import Derived.WalkKit
import Derived.WideLaws
namespace Go.Proofs.YtcpglghklmfbcaaDoor.M
open Go Go.RowKit
set_option linter.unusedVariables false
set_option linter.unusedSimpArgs false
set_option linter.unusedSectionVars false

/-- The entries of a map whose pairs, in the order of their making, are L. -/
def ents {β : Type} (ev : β → Value) (L : List (Int × β)) : Array MapEntry := (L.zipIdx.map fun p => { key := .int .i64 p.1.1, val := ev p.1.2, born := p.2 }).toArray
theorem ents_size {β : Type} (ev : β → Value) (L : List (Int × β)) : (ents ev L).size = L.length := by simp [ents]
theorem ents_get {β : Type} (ev : β → Value) (L : List (Int × β)) (i : Nat) : (ents ev L)[i]? = L[i]?.map fun p => { key := .int .i64 p.1, val := ev p.2, born := i } := by
  simp [ents, List.getElem?_zipIdx]
  cases L[i]? <;> rfl
theorem ents_mem {β : Type} {ev : β → Value} {L : List (Int × β)} {e : MapEntry} (h : e ∈ (ents ev L).toList) : ∃ i p, L[i]? = some p ∧ e = { key := .int .i64 p.1, val := ev p.2, born := i } := by
  obtain ⟨i, hi, he⟩ := List.getElem_of_mem h
  have h1 : (ents ev L)[i]? = some e := by
    rw [← Array.getElem?_toList, List.getElem?_eq_getElem hi, he]
  rw [ents_get] at h1
  obtain ⟨p, hp, rfl⟩ := Option.map_eq_some_iff.1 h1
  exact ⟨i, p, hp, rfl⟩
theorem mem_ents {β : Type} {ev : β → Value} {L : List (Int × β)} {i : Nat} {p : Int × β} (h : L[i]? = some p) : ({ key := .int .i64 p.1, val := ev p.2, born := i } : MapEntry) ∈ (ents ev L).toList := by
  have h1 : (ents ev L)[i]? = some { key := .int .i64 p.1, val := ev p.2, born := i } := by rw [ents_get, h]; rfl
  rw [← Array.getElem?_toList] at h1
  exact List.mem_of_getElem? h1
theorem ents_born {β : Type} (ev : β → Value) (L : List (Int × β)) : (ents ev L).toList.map (·.born) = List.range L.length := by
  apply List.ext_getElem?
  intro i
  rw [List.getElem?_map, Array.getElem?_toList, ents_get]
  rcases Nat.lt_or_ge i L.length with h | h
  · simp [List.getElem?_eq_getElem h, h]
  · rw [List.getElem?_eq_none h, List.getElem?_eq_none (by simpa using h)]; rfl
theorem ents_push {β : Type} (ev : β → Value) (L : List (Int × β)) (k : Int) (v : β) : (ents ev L).push { key := .int .i64 k, val := ev v, born := L.length } = ents ev (L ++ [(k, v)]) := by
  apply Array.ext'
  simp [ents, List.zipIdx_append]
theorem ents_set {β : Type} (ev : β → Value) (L : List (Int × β)) (i : Nat) (k : Int) (v : β) : ((ents ev L).modify i fun e => { e with key := .int .i64 k, val := ev v }) = ents ev (L.set i (k, v)) := by
  apply Array.ext_getElem?
  intro j
  rw [Array.getElem?_modify, ents_get, ents_get, List.getElem?_set]
  by_cases h : i = j
  · subst h
    rcases Nat.lt_or_ge i L.length with h1 | h1
    · simp [List.getElem?_eq_getElem h1, h1]
    · simp [List.getElem?_eq_none h1, h1]
  · simp [h]

/-- Block m is a map of these pairs. -/
def IsMap {β : Type} (ev : β → Value) (w : World) (m : Nat) (L : List (Int × β)) : Prop := w.heap[m]? = some (.map (ents ev L) L.length)
theorem IsMap.lt {β : Type} {ev : β → Value} {w : World} {m : Nat} {L : List (Int × β)} (h : IsMap ev w m L) : m < w.heap.size := (Array.getElem?_eq_some_iff.1 h).1
theorem IsMap.keep {β : Type} {ev : β → Value} {w w' : World} {m : Nat} {L : List (Int × β)} (h : IsMap ev w m L) (k : w'.heap[m]? = w.heap[m]?) : IsMap ev w' m L := k.trans h
theorem IsMap.below {β : Type} {ev : β → Value} {w w' : World} {m B : Nat} {L : List (Int × β)} (h : IsMap ev w m L) (k : Below B w w') (hB : m < B) : IsMap ev w' m L := (k.block m hB).trans h
theorem IsMap.new {β : Type} (ev : β → Value) (w : World) : IsMap ev (w.alloc (.map #[] 0)) w.heap.size ([] : List (Int × β)) := (MapKept.heap_alloc w _).1

/-- The place of the pair with a key. -/
def place {β : Type} (L : List (Int × β)) (k : Int) : Option Nat := L.findIdx? (·.1 == k)
theorem findNow_ents {β : Type} (ev : β → Value) (k : Int) : ∀ (L : List (Int × β)) (i n : Nat), Instr.findNow (.int .i64) (.int .i64 k) (((L.zipIdx n).map fun p => ({ key := .int .i64 p.1.1, val := ev p.1.2, born := p.2 } : MapEntry))) i = some ((place L k).map fun j => (i + j, (L[j]?.map fun p => ev p.2).getD undef))
  | [], i, n => by simp [Instr.findNow, place]
  | p :: L, i, n => by
    simp only [List.zipIdx_cons, List.map_cons, Instr.findNow, Instr.sameNow, if_true]
    by_cases h : p.1 = k
    · have h2 : (k == p.1) = true := by simp [h]
      rw [h2]
      have h3 : place (p :: L) k = some 0 := by simp [place, List.findIdx?_cons, h]
      rw [h3]
      simp
    · have h2 : (k == p.1) = false := by simp [Ne.symm h]
      have h4 : (p.1 == k) = false := by simp [h]
      rw [h2]
      simp only []
      rw [findNow_ents ev k L (i + 1) (n + 1)]
      have h3 : place (p :: L) k = (place L k).map (· + 1) := by
        simp only [place]
        rw [List.findIdx?_cons, h4]
        simp
      rw [h3]
      cases place L k with
      | none => rfl
      | some j => simp [Nat.add_assoc, Nat.add_comm 1 j]
variable {P : Program} {w : World} {β : Type} {ev : β → Value}

theorem run_find (kt : TypeId) (hk : P.underlying kt = some (.int .i64)) (k : Int) (L : List (Int × β)) :
    (Instr.findKey kt (.int .i64 k) (ents ev L).toList).run P w = .ok ((place L k).map fun j => (j, (L[j]?.map fun p => ev p.2).getD undef)) w := by
  refine MapKept.run_findKey hk ?_
  have h := findNow_ents ev k L 0 0
  simp only [Nat.zero_add] at h
  simpa [ents] using h

theorem place_some {L : List (Int × β)} {k : Int} {j : Nat} (h : place L k = some j) : ∃ v, L[j]? = some (k, v) := by
  unfold place at h
  rw [List.findIdx?_eq_some_iff_getElem] at h
  obtain ⟨hj, h1, _⟩ := h
  refine ⟨L[j].2, ?_⟩
  rw [List.getElem?_eq_getElem hj]
  have : L[j].1 = k := by simpa using h1
  rw [← this]
/-- What stands at a key. -/
def look (L : List (Int × β)) (k : Int) : Option β := (place L k).bind fun j => L[j]?.map (·.2)

theorem run_lookup_ok {t kt et : TypeId} (ht : P.underlying t = some (.map kt et)) (hk : P.underlying kt = some (.int .i64)) {z : Value} (hz : (zeroValue et).run P w = .ok z w) {m : Nat} {L : List (Int × β)} (hm : IsMap ev w m L) (k : Int) :
    (Instr.lookup t (.map (some m)) (.int .i64 k) true).run P w = .ok (.tuple #[((look L k).map ev).getD z, .bool (look L k).isSome]) w := by
  have hf := run_find (P := P) (w := w) (ev := ev) kt hk k L
  have hc := fun b => MapKept.run_checkKey (P := P) (w := w) hk (show MapKept.IsKey (.int .i64) (.int .i64 k) from rfl) b 9999
  simp only [Instr.lookup, Sem.run_bind, run_underlying ht, Result.andThen, MapKept.run_getObj_map hm, Sem.run_pure, hc]
  cases h : place L k with
  | none =>
    rw [h] at hf
    simp [look, h, hz, hf, Result.andThen]
  | some j =>
    obtain ⟨v, hv⟩ := place_some h
    rw [h] at hf
    simp [look, h, hv, hf, Result.andThen]
theorem run_lookup {t kt et : TypeId} (ht : P.underlying t = some (.map kt et)) (hk : P.underlying kt = some (.int .i64)) {z : Value} (hz : (zeroValue et).run P w = .ok z w) {m : Nat} {L : List (Int × β)} (hm : IsMap ev w m L) (k : Int) :
    (Instr.lookup t (.map (some m)) (.int .i64 k) false).run P w = .ok (((look L k).map ev).getD z) w := by
  have hf := run_find (P := P) (w := w) (ev := ev) kt hk k L
  have hc := fun b => MapKept.run_checkKey (P := P) (w := w) hk (show MapKept.IsKey (.int .i64) (.int .i64 k) from rfl) b 9999
  simp only [Instr.lookup, Sem.run_bind, run_underlying ht, Result.andThen, MapKept.run_getObj_map hm, Sem.run_pure, hc]
  cases h : place L k with
  | none =>
    rw [h] at hf
    simp [look, h, hz, hf, Result.andThen]
  | some j =>
    obtain ⟨v, hv⟩ := place_some h
    rw [h] at hf
    simp [look, h, hv, hf, Result.andThen]

/-- A store of a key. -/
def put (L : List (Int × β)) (k : Int) (v : β) : List (Int × β) := match place L k with | some j => L.set j (k, v) | none => L ++ [(k, v)]
theorem run_mapUpdate {t kt et : TypeId} (ht : P.underlying t = some (.map kt et)) (hk : P.underlying kt = some (.int .i64)) {m : Nat} {L : List (Int × β)} (hm : IsMap ev w m L) (k : Int) (v : β) :
    (Instr.mapUpdate t (.map (some m)) (.int .i64 k) (ev v)).run P w = .ok () (ChangeMaps.setBlock w m (.map (ents ev (put L k v)) (put L k v).length)) := by
  have hf := run_find (P := P) (w := w) (ev := ev) kt hk k L
  have hc := fun b => MapKept.run_checkKey (P := P) (w := w) hk (show MapKept.IsKey (.int .i64) (.int .i64 k) from rfl) b 9999
  simp only [Instr.mapUpdate, Sem.run_bind, run_underlying ht, Result.andThen, MapKept.run_getObj_map hm, Sem.run_pure, hc]
  cases h : place L k with
  | none =>
    have e1 := ents_push ev L k v
    rw [h] at hf
    have e2 := MapKept.run_setObj_map (P := P) (.map ((ents ev L).push { key := .int .i64 k, val := ev v, born := L.length }) (L.length + 1)) hm
    simp only [hf, Option.map_none, e2]
    simp [put, h, e1, ChangeMaps.setBlock]
  | some j =>
    obtain ⟨u, hu⟩ := place_some h
    have e1 := ents_set ev L j k v
    have e2 : ((ents ev L)[j]?.map (·.key)).getD (.int .i64 k) = .int .i64 k := by rw [ents_get, hu]; rfl
    rw [h] at hf
    have e3 := MapKept.run_setObj_map (P := P) (.map ((ents ev L).modify j fun e => { e with key := .int .i64 k, val := ev v }) L.length) hm
    simp only [hf, Option.map_some, Sem.run_bind, e2, MapKept.run_keyThatStays (show MapKept.IsKey (.int .i64) (.int .i64 k) from rfl), Result.andThen, e3]
    simp [put, h, e1, ChangeMaps.setBlock]

theorem setBlock_same {m : Nat} {o o' : Obj} (h : w.heap[m]? = some o) : (ChangeMaps.setBlock w m o').heap[m]? = some o' := (MapKept.heap_set h).1
theorem setBlock_other {m : Nat} {o' : Obj} (k : Nat) (hne : k ≠ m) : (ChangeMaps.setBlock w m o').heap[k]? = w.heap[k]? := by
  simp [ChangeMaps.setBlock, Ne.symm hne]
theorem setBlock_size {m : Nat} {o' : Obj} : (ChangeMaps.setBlock w m o').heap.size = w.heap.size := by simp [ChangeMaps.setBlock]
theorem below_setBlock {B : Nat} {w0 : World} (h : Below B w0 w) {m : Nat} {o' : Obj} (hm : B ≤ m) : Below B w0 (ChangeMaps.setBlock w m o') :=
  ⟨h.os, h.tape, h.output, by rw [setBlock_size]; exact h.size, fun k hk => (setBlock_other k (by omega)).trans (h.block k hk)⟩

/-- Block r is an iterator over map m, of n pairs; 'rest': the places of the pairs that are still to come. -/
def IsIter (w : World) (r m n : Nat) (rest : List Nat) : Prop := ∃ seen c0, w.heap[r]? = some (.mapIter (some m) n seen c0) ∧ n ≤ c0 ∧ rest = (List.range n).filter (fun i => !seen.contains i)
theorem IsIter.lt {w : World} {r m n : Nat} {rest : List Nat} (h : IsIter w r m n rest) : r < w.heap.size := by
  obtain ⟨_, _, h, _⟩ := h
  exact (Array.getElem?_eq_some_iff.1 h).1
theorem IsIter.keep {w w' : World} {r m n : Nat} {rest : List Nat} (h : IsIter w r m n rest) (k : w'.heap[r]? = w.heap[r]?) : IsIter w' r m n rest := by
  obtain ⟨s, c, h1, h2⟩ := h
  exact ⟨s, c, k.trans h1, h2⟩
theorem IsIter.below {w w' : World} {r m n B : Nat} {rest : List Nat} (h : IsIter w r m n rest) (k : Below B w w') (hB : r < B) : IsIter w' r m n rest := h.keep (k.block r hB)
theorem IsIter.new (w : World) (m n : Nat) : IsIter (w.alloc (.mapIter (some m) n #[] n)) w.heap.size m n (List.range n) :=
  ⟨#[], n, (MapKept.heap_alloc w _).1, Nat.le_refl _, (List.filter_eq_self.2 (by simp)).symm⟩

theorem run_range {t kt et : TypeId} (ht : P.underlying t = some (.map kt et)) {m : Nat} {L : List (Int × β)} (hm : IsMap ev w m L) :
    (Instr.range t (.map (some m))).run P w = .ok (.pointer (some ⟨w.heap.size, 0, none⟩)) (w.alloc (.mapIter (some m) L.length #[] L.length)) :=
  run_range_map w t kt et m _ _ ht hm

/-- The next pair: none is left, or any one that is. -/
theorem run_next {r m : Nat} {L : List (Int × β)} {rest : List Nat} (hm : IsMap ev w m L) (hi : IsIter w r m L.length rest) (ty : TypeId) :
    (rest = [] ∧ (Instr.next (.pointer (some ⟨r, 0, none⟩)) false ty).run P w = .ok (.tuple #[.bool false]) w) ∨
    ∃ i p w', L[i]? = some p ∧ i ∈ rest ∧ (Instr.next (.pointer (some ⟨r, 0, none⟩)) false ty).run P w = .ok (.tuple #[.bool true, .int .i64 p.1, ev p.2]) w' ∧ IsIter w' r m L.length (rest.filter (· != i)) ∧ IsMap ev w' m L ∧
      w'.heap.size = w.heap.size ∧ w.grownBy w' (some r) ∧ (Instr.entry (.pointer (some ⟨r, 0, none⟩))).run P w' = .ok (.tuple #[.int .i64 p.1, ev p.2]) w' := by
  obtain ⟨seen, c0, hr, hc, rfl⟩ := hi
  have hne : r ≠ m := by
    rintro rfl
    unfold IsMap at hm
    rw [hm] at hr
    cases hr
  have hold : ∀ x ∈ (ents ev L).toList, x.born < L.length := by
    intro x hx
    obtain ⟨i, p, hp, rfl⟩ := ents_mem hx
    exact (List.getElem?_eq_some_iff.1 hp).1
  rcases run_next_at (P := P) w ty r m L.length c0 seen (ents ev L) L.length hr hm hold hc with ⟨h0, hrun⟩ | ⟨e, he, w1, hw1, hrun⟩
  · refine .inl ⟨?_, hrun⟩
    rw [List.filter_eq_nil_iff]
    intro i hi
    have hlt : i < L.length := by simpa using hi
    have h1 : leftOf (ents ev L) seen = #[] := Array.eq_empty_of_size_eq_zero h0
    unfold leftOf at h1
    rw [Array.filter_eq_empty_iff] at h1
    have h2 := h1 _ (Array.mem_toList_iff.1 (mem_ents (ev := ev) (List.getElem?_eq_getElem hlt)))
    simpa using h2
  · unfold leftOf at he
    rw [Array.toList_filter, List.mem_filter] at he
    obtain ⟨he1, he2⟩ := he
    obtain ⟨i, p, hp, rfl⟩ := ents_mem he1
    have hlt : i < L.length := (List.getElem?_eq_some_iff.1 hp).1
    have hr1 : w1.heap[r]? = some (.mapIter (some m) L.length seen c0) := by rcases hw1 with rfl | rfl <;> exact hr
    have hm1 : w1.heap[m]? = some (.map (ents ev L) L.length) := by rcases hw1 with rfl | rfl <;> exact hm
    have hg1 : w.grownBy w1 (some r) := by rcases hw1 with rfl | rfl <;> exact ⟨rfl, rfl, rfl, Nat.le_refl _, fun _ _ _ => rfl⟩
    have hs1 : w1.heap.size = w.heap.size := by rcases hw1 with rfl | rfl <;> rfl
    have hm2 : IsMap ev (ChangeMaps.setBlock w1 r (.mapIter (some m) L.length (seen.push i) L.length)) m L := (setBlock_other m (Ne.symm hne)).trans hm1
    refine .inr ⟨i, p, _, hp, ?_, hrun, ⟨_, _, setBlock_same hr1, Nat.le_refl _, ?_⟩, hm2, by rw [setBlock_size]; exact hs1, ⟨hg1.os, hg1.tape, hg1.output, by rw [setBlock_size]; exact hg1.size, fun k hk hkr => (setBlock_other k (fun he => hkr (by rw [he]))).trans (hg1.block k hk hkr)⟩, ?_⟩
    · simp only [List.mem_filter, List.mem_range]
      exact ⟨hlt, he2⟩
    · rw [List.filter_filter]
      refine List.filter_congr fun x _ => ?_
      rw [Array.contains_push]
      show ((x != i) && !seen.contains x) = !(seen.contains x || x == i)
      rw [show (x != i) = !(x == i) from rfl]
      cases seen.contains x <;> cases (x == i) <;> rfl
    · refine run_entry_at _ r m L.length seen (ents ev L) L.length { key := .int .i64 p.1, val := ev p.2, born := i } (setBlock_same hr1) hm2 (mem_ents hp) ?_
      rw [ents_born]
      exact List.nodup_range

section
variable {ops : Array Oper} {rst : List Oper} {o : Oper} {a : Act} {Q : Exit → Act → World → Prop} {B : Nat} {w0 : World}
/-- 'range m', as an operation of the walk. -/
theorem wp_range (hg : o.guard = none) (x : Operand) (t kt et : TypeId) (hop : o.op = Op.range t x) (ht : P.underlying t = some (.map kt et)) (m : Nat) (L : List (Int × β)) (hx : a.eval x = .map (some m)) (hm : IsMap ev w m L) (hb : Below B w0 w) (hB : B ≤ w.heap.size)
    (hK : ∀ w', Hid (IsIter w' w.heap.size m L.length (List.range L.length) ∧ IsMap ev w' m L ∧ Below B w0 w' ∧ w.grownBy w' none ∧ w'.heap.size = w.heap.size + 1) → wpList P ops Q rst (a.put o.dst (.pointer (some ⟨w.heap.size, 0, none⟩))) w') :
    wpList P ops Q (o :: rst) a w := by
  refine wpList_plain hg fun K' hK' => ?_
  unfold Oper.wp
  simp [execOp, hop, hx, run_range ht hm, Result.andThen]
  exact hK' _ _ (hK _ ⟨IsIter.new w m L.length, hm.keep (by have := hm.lt; exact (MapKept.heap_alloc w _).2 m this), hb.alloc hB _, World.grownBy_alloc w _ none, by simp⟩)
/-- 'next'. -/
theorem wp_next (hg : o.guard = none) (it : Operand) (hop : o.op = Op.next it false) (r m : Nat) (L : List (Int × β)) (rest : List Nat) (hit : a.eval it = .pointer (some ⟨r, 0, none⟩)) (hm : IsMap ev w m L) (hi : IsIter w r m L.length rest) (hb : Below B w0 w) (hB : B ≤ r)
    (hDone : Hid (rest = []) → wpList P ops Q rst (a.put o.dst (.tuple #[.bool false])) w)
    (hMore : ∀ (i : Nat) (k : Int) (v : β) (w' : World), Hid (L[i]? = some (k, v) ∧ i ∈ rest ∧ IsIter w' r m L.length (rest.filter (· != i)) ∧ IsMap ev w' m L ∧ Below B w0 w' ∧ w'.heap.size = w.heap.size ∧ w.grownBy w' (some r)) →
      (Instr.entry (.pointer (some ⟨r, 0, none⟩))).run P w' = .ok (.tuple #[.int .i64 k, ev v]) w' → wpList P ops Q rst (a.put o.dst (.tuple #[.bool true, .int .i64 k, ev v])) w') :
    wpList P ops Q (o :: rst) a w := by
  refine wpList_plain hg fun K' hK' => ?_
  unfold Oper.wp
  have hlt := hi.lt
  rcases run_next (P := P) hm hi o.type with ⟨h0, hrun⟩ | ⟨i, p, w', hp, hir, hrun, hi', hm', hs, hgr, hen⟩
  · simp [execOp, hop, hit, hrun, Result.andThen]
    exact hK' _ _ (hDone h0)
  · simp [execOp, hop, hit, hrun, Result.andThen]
    exact hK' _ _ (hMore i p.1 p.2 w' ⟨hp, hir, hi', hm', hb.grown hgr (by omega) (by simp; omega), hs, hgr⟩ hen)
/-- 'm[k] = v'. -/
theorem wp_update (hg : o.guard = none) (x y z : Operand) (t kt et : TypeId) (hop : o.op = Op.mapUpdate t x y z) (ht : P.underlying t = some (.map kt et)) (hk : P.underlying kt = some (.int .i64)) (m : Nat) (L : List (Int × β)) (k : Int) (v : β) (hx : a.eval x = .map (some m)) (hy : a.eval y = .int .i64 k) (hz : a.eval z = ev v) (hm : IsMap ev w m L) (hb : Below B w0 w) (hB : B ≤ m)
    (hK : ∀ w', Hid (IsMap ev w' m (put L k v) ∧ Below B w0 w' ∧ w'.heap.size = w.heap.size ∧ w.grownBy w' (some m)) → wpList P ops Q rst (a.put o.dst undef) w') :
    wpList P ops Q (o :: rst) a w := by
  refine wpList_plain hg fun K' hK' => ?_
  unfold Oper.wp
  simp [execOp, hop, hx, hy, hz, run_mapUpdate ht hk hm, Result.andThen]
  exact hK' _ _ (hK _ ⟨setBlock_same hm, below_setBlock hb hB, setBlock_size, ⟨rfl, rfl, rfl, by rw [setBlock_size]; exact Nat.le_refl _, fun j hj hjm => setBlock_other j (fun he => hjm (by rw [he]))⟩⟩)
end
/-! What has been ranged over -/
theorem rest_step {L : List (Int × β)} {rest : List Nat} {i : Nat} {p : Int × β} {Pr : Int × β → Prop} (h : ∀ (i : Nat) (p : Int × β), L[i]? = some p → ¬ i ∈ rest → Pr p) (hp : L[i]? = some p) (hv : Pr p) :
    ∀ (j : Nat) (p : Int × β), L[j]? = some p → ¬ j ∈ rest.filter (· != i) → Pr p := by
  intro j q hj hn
  by_cases e : j = i
  · subst e
    rw [hj] at hp
    cases hp
    exact hv
  · exact h j q hj (fun hm => hn (List.mem_filter.2 ⟨hm, by simp [e]⟩))
theorem rest_all {L : List (Int × β)} {Pr : Int × β → Prop} (h : ∀ (i : Nat) (p : Int × β), L[i]? = some p → ¬ i ∈ ([] : List Nat) → Pr p) : ∀ p ∈ L, Pr p := by
  intro p hp
  obtain ⟨i, hi, rfl⟩ := List.getElem_of_mem hp
  exact h i _ (List.getElem?_eq_getElem hi) (by simp)
theorem rest_start {L : List (Int × β)} {Pr : Int × β → Prop} : ∀ (i : Nat) (p : Int × β), L[i]? = some p → ¬ i ∈ List.range L.length → Pr p :=
  fun i p hp hn => absurd (List.mem_range.2 (List.getElem?_eq_some_iff.1 hp).1) hn
theorem rest_less {rest : List Nat} {i : Nat} (hi : i ∈ rest) : (rest.filter (· != i)).length < rest.length := by
  have h := filter_lt (fun _ => true) (fun j : Nat => j != i) (fun _ _ => rfl) i rfl (by simp) rest hi
  rwa [List.filter_eq_self.2 (fun _ _ => rfl)] at h
end Go.Proofs.YtcpglghklmfbcaaDoor.M
