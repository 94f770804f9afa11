import Derived.Test.YtcpglghklmfbcaaDoorT14
import Derived.Shelf.Abstract
namespace Go.Proofs.YtcpglghklmfbcaaDoor.T
open Go Go.RowKit Go.Proofs.YtcpglghklmfbcaaDoor.M Go.Proofs.YtcpglghklmfbcaaDoor.R
set_option linter.unusedVariables false
set_option linter.unusedSimpArgs false

/-- The program's opened copies. -/
def cpObj (A : Option Addr) (n c m : Nat) (nw : Int) : Obj := .cells #[.slice A n c, .map (some m), .int .i64 nw] 74

theorem gtable_calls (g : Nat) (A : Option Addr) (n c s : Nat) (l : Cop) (w : World) (hg : w.cell? ⟨g, 0, none⟩ = some (.slice A n c)) (hn : n = l.length) (hR : Row2 encS 3 w A l) (hs : s < l.length) (hl : (sl l s).length ≤ 1000) :
    Calls Tryd.prog 41 #[.pointer (some ⟨g, 0, none⟩), .int .i64 s] w fun e w' => (∃ v, e = .returned v ∧ Own encI 1 3 w' w.heap.size v (tab (sl l s))) ∧ Below w.heap.size w w' := by
  obtain ⟨b, off, Ak, ck, rfl, h1, h2, h3⟩ := hR.at (sl_get hs)
  have HR := Lib.hid h3
  have hsn : s < n := by omega
  clear hR h3 hn hs h2
  generalize sl l s = q at *
  go_enter Tryd.func41, Tryd.ntmps41
  go_wp2
  go_loopg [5, 17] q.length (fun gg v i wr => ∃ k : Nat, k ≤ q.length ∧ i = .int .i64 k ∧ gg = q.length - k ∧ Below w.heap.size w wr ∧ Own encI 1 3 wr w.heap.size v (tab (q.take k)))
  case atStart => exact ⟨0, Nat.zero_le _, rfl, rfl, Below.refl _ _, Own.nil⟩
  case round =>
    obtain ⟨k, hk, rfl, hg2, hB, hO⟩ := hrel
    have HB := Lib.hid hB
    have HA := Lib.hid (And.intro hg2 hO)
    clear hB hO hg2
    by_cases hlt : k < q.length
    · obtain ⟨b3, off3, rfl, hbl, h4, h5, h6⟩ := RowS.at (HR.out.below HB.out) hlt
      go_wp2_with (at_builtin; go_must (refine wp_append1 encI_len encI_one rfl _ _ 25 rfl Tryd.underlying25 _ 8 info3 rfl (by decide) q[k].data rfl (by go_simp) (HA.out.2.below ((Below.refl _ _).alloc (Nat.le_refl _) _)) (HB.out.alloc HB.out.size _) (by have := HB.out.size; simp; omega) (by rw [tab_len _ _ hk]; omega) (fun v1 w1 H => ?_)))
      go_roundg (q.length - (k + 1))
      case measure => have := HA.out.1; omega
      case rel => exact ⟨k + 1, by omega, by go_num, rfl, H.out.2.1, by rw [tab_succ hlt]; exact H.out.1⟩
    · go_wp2
      go_ret
      exact ⟨⟨_, rfl, by have h := HA.out.2; rwa [List.take_of_length_le (by omega)] at h⟩, HB.out⟩

/-- What is asked of a predicate that is handed in. -/
def PredOk {α : Type} (g : Nat) (lb : Array Value) (enc : α → Value) (p : α → Bool) (xs : List α) (w : World) : Prop :=
  ∀ (W : World) (x : α), x ∈ xs → Below w.heap.size w W → Calls Tryd.prog g (#[enc x] ++ lb) W fun e w' => e = .returned (.bool (p x)) ∧ Below w.heap.size w w'
def aggS (x : Sec) : Value := .agg #[.int .i64 x.seq, .int .i64 x.data, .bool x.bad]
def idx {α : Type} (p : α → Bool) (xs : List α) : Int := match xs.findIdx? p with | some i => i | none => -1
theorem idx_hit {α : Type} {p : α → Bool} {xs : List α} {k : Nat} (hk : k < xs.length) (h : ∀ j x, j < k → xs[j]? = some x → p x = false) (hp : p xs[k] = true) : idx p xs = k := by
  have : xs.findIdx? p = some k := by
    rw [List.findIdx?_eq_some_iff_getElem]
    exact ⟨hk, hp, fun j hj => by rw [h j _ hj (List.getElem?_eq_getElem (by omega))]; simp⟩
  simp [idx, this]
theorem idx_miss {α : Type} {p : α → Bool} {xs : List α} (h : ∀ j x, j < xs.length → xs[j]? = some x → p x = false) : idx p xs = -1 := by
  have : xs.findIdx? p = none := by
    rw [List.findIdx?_eq_none_iff]
    intro x hx
    obtain ⟨j, hj, rfl⟩ := List.getElem_of_mem hx
    exact h j _ hj (List.getElem?_eq_getElem hj)
  simp [idx, this]
theorem idx_any {α : Type} (p : α → Bool) (xs : List α) : decide (0 ≤ idx p xs) = xs.any p := by
  unfold idx
  cases h : xs.findIdx? p with
  | none =>
    rw [List.findIdx?_eq_none_iff] at h
    have : xs.any p = false := by rw [List.any_eq_false]; intro x hx; simp [h x hx]
    simp [this]
  | some i =>
    rw [List.findIdx?_eq_some_iff_getElem] at h
    obtain ⟨hi, hp, _⟩ := h
    have : xs.any p = true := List.any_eq_true.2 ⟨_, List.getElem_mem hi, hp⟩
    simp [this]

theorem IndexFuncS_calls (A : Option Addr) (c : Nat) (xs : List Sec) (p : Sec → Bool) (g : Nat) (lb : Array Value) (w : World) (eg : ∀ args w, (callFunc g args).run Tryd.prog w = .ok (.enter g args) w)
    (hp : PredOk g lb aggS p xs w) (hR : Row encS 3 w A xs) (hl : xs.length ≤ 1000) :
    Calls Tryd.prog 75 #[.slice A xs.length c, .func (.func g) #[] lb] w fun e w' => e = .returned (.int .i64 (idx p xs)) ∧ Below w.heap.size w w' := by
  have HR := Lib.hid hR
  have HP := Lib.hid hp
  clear hR hp
  go_enter Tryd.func75, Tryd.ntmps75
  go_wp2
  go_loopg [8] xs.length (fun gg i wr => ∃ k : Nat, k ≤ xs.length ∧ i = .int .i64 k ∧ gg = xs.length - k ∧ Below w.heap.size w wr ∧ ∀ j x, j < k → xs[j]? = some x → p x = false)
  case atStart => exact ⟨0, Nat.zero_le _, rfl, rfl, Below.refl _ _, fun j x h => absurd h (by omega)⟩
  case round =>
    obtain ⟨k, hk, rfl, hg2, hB, hO⟩ := hrel
    have HB := Lib.hid hB
    have HA := Lib.hid (And.intro hg2 hO)
    clear hB hO hg2
    by_cases hlt : k < xs.length
    · obtain ⟨b3, off3, rfl, hbl, h4, h5, h6⟩ := RowS.at (HR.out.below HB.out) hlt
      rcases hq : p xs[k] with _ | _
      · have HQ := Lib.hid hq
        go_wp2_with (go_at_fn g; refine (HP.out wr xs[k] (List.getElem_mem hlt) HB.out).mono ?_; rintro e w1 ⟨rfl, hb⟩; rw [HQ.out]; have HB1 := Lib.hid hb; clear hb)
        go_roundg (xs.length - (k + 1))
        case measure => have := HA.out.1; omega
        case rel => exact ⟨k + 1, by omega, by go_num, rfl, HB1.out, none_succ HA.out.2 (List.getElem?_eq_getElem hlt) HQ.out⟩
      · have HQ := Lib.hid hq
        go_wp2_with (go_at_fn g; refine (HP.out wr xs[k] (List.getElem_mem hlt) HB.out).mono ?_; rintro e w1 ⟨rfl, hb⟩; rw [HQ.out]; have HB1 := Lib.hid hb; clear hb)
        go_ret
        exact ⟨ri (idx_hit hlt HA.out.2 HQ.out).symm, HB1.out⟩
    · go_wp2
      go_ret
      exact ⟨ri (idx_miss (fun j x hj hx => HA.out.2 j x (by omega) hx)).symm, HB.out⟩
theorem ContainsFuncS_calls (A : Option Addr) (c : Nat) (xs : List Sec) (p : Sec → Bool) (g : Nat) (lb : Array Value) (w : World) (eg : ∀ args w, (callFunc g args).run Tryd.prog w = .ok (.enter g args) w)
    (hp : PredOk g lb aggS p xs w) (hR : Row encS 3 w A xs) (hl : xs.length ≤ 1000) :
    Calls Tryd.prog 72 #[.slice A xs.length c, .func (.func g) #[] lb] w fun e w' => e = .returned (.bool (xs.any p)) ∧ Below w.heap.size w w' := by
  rw [← idx_any]
  have hc := IndexFuncS_calls A c xs p g lb w eg hp hR hl
  clear hp hR
  generalize idx p xs = r at hc ⊢
  go_enter Tryd.func72, Tryd.ntmps72
  go_wp2_with (go_at_call 75; refine hc.mono ?_; rintro e w1 ⟨rfl, hb⟩)
  go_ret
  exact ⟨rfl, hb⟩

/-- The predicate of 'judge': the sector is no part of a whole slot. -/
theorem judgeP (l : List Sec) (A : Option Addr) (c B : Nat) (w : World) (hB : B < w.heap.size) (hc : w.cell? ⟨B, 0, none⟩ = some (.slice A l.length c)) (hR : Row encS 3 w A l) :
    PredOk 73 #[.pointer (some ⟨B, 0, none⟩)] aggS (fun x => x.bad || x.seq != hd l) l w := fun W x hx hb => by
  have h0 : 0 < l.length := List.length_pos_of_mem hx
  have hc1 : W.cell? ⟨B, 0, none⟩ = some (.slice A l.length c) := (hb.cell (p := ⟨B, 0, none⟩) hB).trans hc
  obtain ⟨b3, off3, rfl, hbl, h4, h5, h6⟩ := RowS.at (hR.below hb) h0
  rw [hd_eq h0] at h4
  simp only [Nat.zero_mul, Nat.add_zero] at h4
  have hBW : B < W.heap.size := Nat.lt_of_lt_of_le hB hb.size
  have HB := Lib.hid hb
  clear hb hR hc hx h5 h6
  show Calls Tryd.prog 73 #[.agg #[.int .i64 x.seq, .int .i64 x.data, .bool x.bad], .pointer (some ⟨B, 0, none⟩)] W _
  obtain ⟨s, d, b⟩ := x
  have hb0 : ∀ x : Gro (W.alloc (.cells #[.int .i64 s, .int .i64 d, .bool b] 78)), x.W.cell? ⟨W.heap.size, 0, none⟩ = some (.int .i64 s) := fun x => (x.cell _ _ (by simp)).trans (by simp)
  have hb2 : ∀ x : Gro (W.alloc (.cells #[.int .i64 s, .int .i64 d, .bool b] 78)), x.W.cell? ⟨W.heap.size, 2, none⟩ = some (.bool b) := fun x => (x.cell _ _ (by simp)).trans (by simp)
  have hx0 : ∀ x : Gro (W.alloc (.cells #[.int .i64 s, .int .i64 d, .bool b] 78)), x.W.cell? ⟨B, 0, none⟩ = some (.slice (some ⟨b3, off3, none⟩) l.length c) := fun x => (x.cell _ _ (by simp; omega)).trans ((World.cell?_alloc_lt _ _ ⟨B, 0, none⟩ hBW).trans hc1)
  have hx1 : ∀ x : Gro (W.alloc (.cells #[.int .i64 s, .int .i64 d, .bool b] 78)), x.W.cell? ⟨b3, off3, none⟩ = some (.int .i64 (hd l)) := fun x => (x.cell _ _ (by simp; omega)).trans ((World.cell?_alloc_lt _ _ ⟨b3, off3, none⟩ hbl).trans h4)
  rcases b with _ | _
  all_goals
    go_enter Tryd.func73, Tryd.ntmps73
    go_wp2
    refine wp_region_gro (by kernel_rfl) (by kernel_rfl) ?_
    repeat (go_big_quiet_step (fail))
    refine wpQuiet_nil ?_
    intro _ hw'
    obtain ⟨x, hw''⟩ := hw'
    subst hw''
    go_wp2
    go_ret
    exact ⟨rb (by simp [bne]), (HB.out.alloc HB.out.size _).trans (x.b.mono (by have := HB.out.size; simp; omega))⟩
end Go.Proofs.YtcpglghklmfbcaaDoor.T
