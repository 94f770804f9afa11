/- Arguments that came in, opened: slices of elements of several cells, slices of such slices. -/
import Derived.Test.YtcpglghklmfbcaaDoorT12
import Derived.Test.YtcpglghklmfbcaaDoorH1
import Derived.Deep.Slices
namespace Go.Proofs.YtcpglghklmfbcaaDoor.T
open Go Go.RowKit Go.ChangeShapes Go.WideShapes Go.ChangeAt Go.Deep Go.Proofs.YtcpglghklmfbcaaDoor.R
set_option linter.unusedVariables false
set_option linter.unusedSimpArgs false

section
variable {H : Type} {en : TypeId × Value → H} {W : World} {α : Type} [Inhabited α] {enc : α → List Value} {sz : Nat}
/-- A slice of elements of one kind. -/
theorem open_row {t e : TypeId} {fuel : Nat} {v : Value} {x : DataW H × List MemPlace} (ht : Tryd.prog.underlying t = some (.slice e)) (hc : Tryd.prog.cellsOf e = sz) (hs0 : 0 < sz)
    (he : ∀ (n : Nat) (cs : List Value) (y : DataW H × List MemPlace), DataW.trod en Tryd.prog W 0 (fun _ => true) true n e cs = some y → ∃ a : α, cs = enc a)
    (h : DataW.trod en Tryd.prog W 0 (fun _ => true) true fuel t [v] = some x) : ∃ A n c, ∃ xs : List α, v = .slice A n c ∧ n = xs.length ∧ Row enc sz W A xs ∧ n ≤ c := by
  rcases open_slice ht h with ⟨h0, _⟩ | ⟨a, len, cap, m, n, D, Pl, hcs, hb, hl, hm, hmm, hx, hel⟩
  · obtain rfl : v = .slice none 0 0 := by simpa using h0
    exact ⟨none, 0, 0, [], rfl, rfl, Row.nil _, Nat.le_refl _⟩
  · obtain rfl : v = .slice (some a) len cap := by simpa using hcs
    simp only [if_true] at hmm
    subst hmm
    rw [hc] at hel
    obtain ⟨X, hX⟩ := choose_lt (α := α) (n := m) (p := fun i y => W.cells? 0 (a.add (i * sz)) sz = some (enc y)) (fun i hi => by
      obtain ⟨cs', h1, h2⟩ := hel i hi
      obtain ⟨y, rfl⟩ := he _ _ _ h2
      exact ⟨y, h1⟩)
    refine ⟨some a, len, m, (List.range len).map X, rfl, by simp, ⟨by simp; unfold maxLen at hm; omega, fun hp => ?_⟩, hl⟩
    have hlen : 0 < len := by simpa using hp
    have hcell : ∀ i, i < m → ∀ k u, (enc (X i))[k]? = some u → W.cell? ((a.add (i * sz)).add k) = some u := fun i hi k u hu => by
      have h1 := World.cells?_some (hX i hi)
      have hk := (List.getElem?_eq_some_iff.1 hu).1
      rw [h1.2.2 k (by omega)]
      exact hu
    obtain ⟨b, off, spot⟩ := a
    have hsp : spot = none := by
      have h1 := hX 0 (by omega)
      have h2 : (enc (X 0)).length = sz := (World.cells?_some h1).2.1
      have h3 := hcell 0 (by omega) 0 _ (List.getElem?_eq_getElem (by omega))
      have := World.cell?_spot h3
      simpa [Addr.add] using this
    subst hsp
    refine ⟨b, off, rfl, fun j y hy i u hu => ?_⟩
    have hj : j < len := by
      have := (List.getElem?_eq_some_iff.1 hy).1
      simpa using this
    have hy' : X j = y := by
      rw [List.getElem?_map, List.getElem?_range hj] at hy
      exact Option.some.inj hy
    subst hy'
    have := hcell j (by omega) i u hu
    rwa [add_add, add_plain, ← Nat.add_assoc] at this
/-- A slice of such slices. -/
theorem open_row2 {t e q : TypeId} {fuel : Nat} {v : Value} {x : DataW H × List MemPlace} (ht : Tryd.prog.underlying t = some (.slice e)) (ht2 : Tryd.prog.underlying e = some (.slice q)) (hc2 : Tryd.prog.cellsOf e = 1) (hc : Tryd.prog.cellsOf q = sz) (hs0 : 0 < sz)
    (he : ∀ (n : Nat) (cs : List Value) (y : DataW H × List MemPlace), DataW.trod en Tryd.prog W 0 (fun _ => true) true n q cs = some y → ∃ a : α, cs = enc a)
    (h : DataW.trod en Tryd.prog W 0 (fun _ => true) true fuel t [v] = some x) : ∃ A n c, ∃ xss : List (List α), v = .slice A n c ∧ n = xss.length ∧ Row2 enc sz W A xss ∧ n ≤ c := by
  rcases open_slice1 ht hc2 h with ⟨h0, _⟩ | ⟨a, len, cap, m, n, V, D, Pl, hcs, hb, hl, hm, hmm, hx, hel⟩
  · obtain rfl : v = .slice none 0 0 := by simpa using h0
    exact ⟨none, 0, 0, [], rfl, rfl, Row2.nil _, Nat.le_refl _⟩
  · obtain rfl : v = .slice (some a) len cap := by simpa using hcs
    simp only [if_true] at hmm
    subst hmm
    obtain ⟨X, hX⟩ := choose_lt (α := List α) (n := m) (p := fun i ys => ∃ A c, V i = .slice A ys.length c ∧ ys.length ≤ c ∧ Row enc sz W A ys) (fun i hi => by
      obtain ⟨A, k, c, ys, h1, rfl, h3, h4⟩ := open_row ht2 hc hs0 he (hel i hi).2
      exact ⟨ys, A, c, h1, h4, h3⟩)
    refine ⟨some a, len, m, (List.range len).map X, rfl, by simp, ⟨by simp; unfold maxLen at hm; omega, fun hp => ?_⟩, hl⟩
    have hlen : 0 < len := by simpa using hp
    obtain ⟨b, off, spot⟩ := a
    have hsp : spot = none := by
      have := World.cell?_spot (hel 0 (by omega)).1
      simpa [Addr.add] using this
    subst hsp
    refine ⟨b, off, rfl, fun j ys hy => ?_⟩
    have hj : j < len := by
      have := (List.getElem?_eq_some_iff.1 hy).1
      simpa using this
    have hy' : X j = ys := by
      rw [List.getElem?_map, List.getElem?_range hj] at hy
      exact Option.some.inj hy
    subst hy'
    obtain ⟨A, c, h1, h2, h3⟩ := hX j (by omega)
    have h4 := (hel j (by omega)).1
    rw [add_plain, h1] at h4
    exact ⟨A, c, h4, h2, h3⟩
end
instance : Inhabited Sec := ⟨Sec.z⟩
instance : Inhabited Pat := ⟨⟨0, 0, 0, 0⟩⟩
section
variable {H : Type} {en : TypeId × Value → H} {W : World}
theorem trod_sec (n : Nat) (cs : List Value) (y : DataW H × List MemPlace) (h : DataW.trod en Tryd.prog W 0 (fun _ => true) true n 78 cs = some y) : ∃ a : Sec, cs = encS a := by
  obtain ⟨y0, y1, y2, n, hx, hl, h0, h1, h2⟩ := Deep.trod_struct3 Tryd.underlying78 h
  rw [cells78] at hl
  simp only [cells3, cells4, List.drop_zero] at h0 h1 h2
  obtain ⟨n0, e0, _, _⟩ := DataW.trod_int Tryd.underlying3 h0
  obtain ⟨n1, e1, _, _⟩ := DataW.trod_int Tryd.underlying3 h1
  obtain ⟨b2, e2, _⟩ := DataW.trod_bool Tryd.underlying4 h2
  refine ⟨⟨n0, n1, b2⟩, ?_⟩
  match cs, hl with
  | [x, y, z], _ =>
    simp at e0 e1 e2
    rw [e0, e1, e2]
    rfl
theorem trod_i (n : Nat) (cs : List Value) (y : DataW H × List MemPlace) (h : DataW.trod en Tryd.prog W 0 (fun _ => true) true n 3 cs = some y) : ∃ a : Int, cs = encI a := by
  obtain ⟨n0, e0, _, _⟩ := DataW.trod_int Tryd.underlying3 h
  exact ⟨n0, e0⟩
theorem cells24 : Tryd.prog.cellsOf 24 = 1 := by kernel_rfl
theorem cells41 : Tryd.prog.cellsOf 41 = 1 := by kernel_rfl
theorem cells22 : Tryd.prog.cellsOf 22 = 1 := by kernel_rfl
/-- Copies that came in. -/
theorem open_cop {v : Value} {d : DataW H} {p : List MemPlace} (hval : Value.okWide Tryd.prog W .any 0 24 v ∨ True) (h : DataW.Trod en Tryd.prog W 0 (fun _ => true) true 24 v d p) : ∃ A n c, ∃ l : Cop, v.cells.toList = [.slice A n c] ∧ n = l.length ∧ Row2 encS 3 W A l := by
  obtain ⟨fuel, hf⟩ := h
  obtain ⟨y0, n, hx, hl, h0⟩ := trod_struct1 Tryd.underlying24 hf
  rw [cells24] at hl
  simp only [cells22, List.drop_zero] at h0
  match hcs : v.cells.toList, hl with
  | [u], _ =>
    rw [hcs] at h0
    obtain ⟨A, n, c, l, rfl, h1, h2, _⟩ := open_row2 Tryd.underlying22 Tryd.underlying41 cells41 cells78 (by decide) trod_sec h0
    exact ⟨A, n, c, l, rfl, h1, h2⟩
end
end Go.Proofs.YtcpglghklmfbcaaDoor.T
