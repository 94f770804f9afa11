import Derived.Test.YtcpglghklmfbcaaDoorT26
import Derived.Test.YtcpglghklmfbcaaDoorT23
namespace Go.Proofs.YtcpglghklmfbcaaDoor.T
open Go Go.RowKit Go.Proofs.YtcpglghklmfbcaaDoor.M Go.Proofs.YtcpglghklmfbcaaDoor.R
set_option linter.unusedVariables false
set_option linter.unusedSimpArgs false

theorem sameInts_calls (A A' : Option Addr) (c c' : Nat) (a b : List Int) (w : World) (hR : Row encI 1 w A a) (hR' : Row encI 1 w A' b) :
    Calls Tryd.prog 16 #[.slice A a.length c, .slice A' b.length c'] w fun e w' => e = .returned (.bool (a == b)) ∧ Below w.heap.size w w' := by
  have HR := Lib.hid hR
  have HR' := Lib.hid hR'
  have h1 := hR.1
  have h2 := hR'.1
  clear hR hR'
  rcases hn : ((a.length : Int) != b.length) with _ | _
  rotate_left
  · have HN := Lib.hid hn
    go_enter Tryd.func16, Tryd.ntmps16
    go_wp2
    go_ret
    exact ⟨rb (ne_len HN.out).symm, Below.refl _ _⟩
  have hab : a.length = b.length := by simp only [bne_eq_false_iff_eq] at hn; omega
  have HN := Lib.hid hab
  clear hab
  go_enter Tryd.func16, Tryd.ntmps16
  go_wp2
  go_loopg [5] a.length (fun g i wr => ∃ k : Nat, k ≤ a.length ∧ i = .int .i64 k ∧ g = a.length - k ∧ Gr w wr ∧ ∀ j (h1 : j < a.length) (h2 : j < b.length), j < k → a[j] = b[j])
  case atStart => exact ⟨0, Nat.zero_le _, rfl, rfl, Gr.refl _, fun j _ _ h => absurd h (by omega)⟩
  case round =>
    obtain ⟨k, hk, rfl, hg, hB, hall⟩ := hrel
    have HA := Lib.hid (And.intro hg hall)
    have HB := Lib.hid hB
    clear hB hg hall hn
    by_cases hlt : k < a.length
    · have hlt' : k < b.length := by rw [← HN.out]; exact hlt
      obtain ⟨b1, o1, rfl, hl1, hc1⟩ := RowI.at (HR.out.below HB.out) hlt
      obtain ⟨b2, o2, rfl, hl2, hc2⟩ := RowI.at (HR'.out.below HB.out) hlt'
      rcases hb : (a[k] != b[k]) with _ | _
      · go_wp2
        go_quiet (fail)
        go_wp2
        go_roundg (a.length - (k + 1))
        case measure => have := HA.out.1; omega
        case rel => exact ⟨k + 1, by omega, by go_num, rfl, HB.out.drew _, fun j h1 h2 hj => by
          by_cases e : j = k
          · subst e; simpa using hb
          · exact HA.out.2 j h1 h2 (by omega)⟩
      · go_wp2
        go_quiet (fail)
        go_wp2
        go_ret
        exact ⟨rb (ne_get hlt hlt' hb).symm, HB.out.drew _⟩
    · have HE := Lib.hid (eq_at HN.out hlt HA.out.2)
      go_wp2
      go_ret
      exact ⟨rb HE.out.symm, HB.out⟩


theorem RowP.at {w : World} {A : Option Addr} {l : List Pat} (h : Row encP 4 w A l) {k : Nat} (hk : k < l.length) : ∃ b off, A = some ⟨b, off, none⟩ ∧ b < w.heap.size ∧ w.cell? ⟨b, off + k * 4, none⟩ = some (.int .i64 l[k].slot) ∧ w.cell? ⟨b, off + k * 4 + 1, none⟩ = some (.int .i64 l[k].part) ∧ w.cell? ⟨b, off + k * 4 + 2, none⟩ = some (.int .i64 l[k].seq) ∧ w.cell? ⟨b, off + k * 4 + 3, none⟩ = some (.int .i64 l[k].data) := by
  obtain ⟨b, off, e, hc⟩ := h.at (List.getElem?_eq_getElem hk)
  exact ⟨b, off, e, World.block_lt_of_cell? w _ (hc 0 _ rfl), hc 0 _ rfl, hc 1 _ rfl, hc 2 _ rfl, hc 3 _ rfl⟩
theorem eqP_at {a b : List Pat} {k : Nat} (h : a.length = b.length) (hk : ¬ k < a.length) (hall : ∀ j (h1 : j < a.length) (h2 : j < b.length), j < k → a[j] = b[j]) : (a == b) = true := by
  simp only [beq_iff_eq]
  exact List.ext_getElem h (fun j h1 h2 => hall j h1 h2 (by omega))
theorem neP_len {a b : List Pat} (h : ((a.length : Int) != b.length) = true) : (a == b) = false := by
  simp only [bne_iff_ne, ne_eq] at h
  simp only [beq_eq_false_iff_ne, ne_eq]
  rintro rfl
  exact h rfl
theorem neP_get {a b : List Pat} {k : Nat} (h1 : k < a.length) (h2 : k < b.length) (h : a[k] ≠ b[k]) : (a == b) = false := by
  simp only [beq_eq_false_iff_ne, ne_eq]
  rintro rfl
  exact h rfl

set_option maxHeartbeats 1000000 in
theorem samePatches_calls (A A' : Option Addr) (c c' : Nat) (a b : List Pat) (w : World) (hR : Row encP 4 w A a) (hR' : Row encP 4 w A' b) :
    Calls Tryd.prog 36 #[.slice A a.length c, .slice A' b.length c'] w fun e w' => e = .returned (.bool (a == b)) ∧ Below w.heap.size w w' := by
  have HR := Lib.hid hR
  have HR' := Lib.hid hR'
  have h1 := hR.1
  have h2 := hR'.1
  clear hR hR'
  rcases hn : ((a.length : Int) != b.length) with _ | _
  rotate_left
  · have HN := Lib.hid hn
    go_enter Tryd.func36, Tryd.ntmps36
    go_wp2
    go_ret
    exact ⟨rb (neP_len HN.out).symm, Below.refl _ _⟩
  have hab : a.length = b.length := by simp only [bne_eq_false_iff_eq] at hn; omega
  have HN := Lib.hid hab
  clear hab
  go_enter Tryd.func36, Tryd.ntmps36
  go_wp2
  go_loopg [5] a.length (fun g i wr => ∃ k : Nat, k ≤ a.length ∧ i = .int .i64 k ∧ g = a.length - k ∧ Gr w wr ∧ ∀ j (h1 : j < a.length) (h2 : j < b.length), j < k → a[j] = b[j])
  case atStart => exact ⟨0, Nat.zero_le _, rfl, rfl, Gr.refl _, fun j _ _ h => absurd h (by omega)⟩
  case round =>
    obtain ⟨k, hk, rfl, hg, hB, hall⟩ := hrel
    have HA := Lib.hid (And.intro hg hall)
    have HB := Lib.hid hB
    clear hB hg hall hn
    by_cases hlt : k < a.length
    · have hlt' : k < b.length := by rw [← HN.out]; exact hlt
      obtain ⟨b1, o1, rfl, hl1, hc1, hc2, hc3, hc4⟩ := RowP.at (HR.out.below HB.out) hlt
      obtain ⟨b2, o2, rfl, hl2, hd1, hd2, hd3, hd4⟩ := RowP.at (HR'.out.below HB.out) hlt'
      have HAB := Lib.hid (fun h : a[k] ≠ b[k] => neP_get hlt hlt' h)
      have HAE : Hid (a[k] = b[k] → ∀ j (h1 : j < a.length) (h2 : j < b.length), j < k + 1 → a[j] = b[j]) := Lib.hid fun h j h1 h2 hj => by
        by_cases e : j = k
        · subst e; exact h
        · exact HA.out.2 j h1 h2 (by omega)
      generalize a[k] = p at *
      generalize b[k] = q at *
      obtain ⟨p1, p2, p3, p4⟩ := p
      obtain ⟨q1, q2, q3, q4⟩ := q
      simp only at hc1 hc2 hc3 hc4 hd1 hd2 hd3 hd4
      rcases e1 : (p1 == q1) with _ | _
      rotate_left
      rcases e2 : (p2 == q2) with _ | _
      rotate_left
      rcases e3 : (p3 == q3) with _ | _
      rotate_left
      rcases e4 : (p4 == q4) with _ | _
      rotate_left
      · have HE : Hid ((⟨p1, p2, p3, p4⟩ : Pat) = ⟨q1, q2, q3, q4⟩) := Lib.hid (by simp at e1 e2 e3 e4; rw [e1, e2, e3, e4])
        go_wp2
        go_quiet (fail)
        go_wp2
        go_roundg (a.length - (k + 1))
        case measure => have := HA.out.1; omega
        case rel => exact ⟨k + 1, by omega, by go_num, rfl, HB.out.drew _, HAE.out HE.out⟩
      all_goals
        have HE : Hid ((⟨p1, p2, p3, p4⟩ : Pat) ≠ ⟨q1, q2, q3, q4⟩) := Lib.hid (by intro h; cases h; simp_all)
        go_wp2
        go_quiet (fail)
        go_wp2
        go_ret
        exact ⟨rb (HAB.out HE.out).symm, HB.out.drew _⟩
    · have HE := Lib.hid (eqP_at HN.out hlt HA.out.2)
      go_wp2
      go_ret
      exact ⟨rb HE.out.symm, HB.out⟩

def exC : Cop := [[⟨63, 7, false⟩, ⟨63, 8, false⟩], [⟨0, 9, false⟩, ⟨0, 9, false⟩], [⟨62, 3, false⟩, ⟨0, 0, true⟩]]
theorem row_of_lit {α : Type} {enc : α → List Value} {sz : Nat} (hsz : ∀ x, (enc x).length = sz) (w : World) (e : TypeId) (xs : List α) (hl : xs.length ≤ 9223372036854775807) (b : Nat) (hb : b = w.heap.size) (cs : Array Value) (hcs : cs = (flat enc xs).toArray) : Row enc sz (w.alloc (.cells cs e)) (some ⟨b, 0, none⟩) xs := by
  subst hb hcs
  refine ⟨hl, fun _ => ⟨w.heap.size, 0, rfl, fun j x hx i u hu => ?_⟩⟩
  rw [Nat.zero_add, World.cell?_alloc_new]
  rw [List.getElem?_toArray]
  exact flat_get hsz xs j x i u hx hu
theorem Example_calls (w : World) : Calls Tryd.prog 39 #[] w fun e w' => (∃ A c, e = .returned (.agg #[.slice A 3 c]) ∧ Row2 encS 3 w' A exC) ∧ Below w.heap.size w w' := by
  go_enter Tryd.func39, Tryd.ntmps39
  go_wp2
  have hB0 := (Below.refl w.heap.size w).alloc (Nat.le_refl _) (.cells #[.slice (some ⟨w.heap.size + 1 + 1 + 1 + 1, 0, none⟩) 3 3] 24)
  have hs0 : (w.alloc (.cells #[.slice (some ⟨w.heap.size + 1 + 1 + 1 + 1, 0, none⟩) 3 3] 24)).heap.size = w.heap.size + 1 := by simp
  generalize hW0 : w.alloc (.cells #[.slice (some ⟨w.heap.size + 1 + 1 + 1 + 1, 0, none⟩) 3 3] 24) = W0 at *
  have hc0 : W0.cell? ⟨w.heap.size, 0, none⟩ = some (.slice (some ⟨w.heap.size + 1 + 1 + 1 + 1, 0, none⟩) 3 3) := by rw [← hW0]; simp
  clear hW0
  have r1 := row_of_lit encS_len W0 78 [⟨63, 7, false⟩, ⟨63, 8, false⟩] (by simp) (w.heap.size + 1) hs0.symm _ rfl
  have hB1 := hB0.alloc (by omega) (.cells (flat encS [⟨63, 7, false⟩, ⟨63, 8, false⟩]).toArray 78)
  have hs1 : (W0.alloc (.cells (flat encS [⟨63, 7, false⟩, ⟨63, 8, false⟩]).toArray 78)).heap.size = w.heap.size + 1 + 1 := by simp [hs0]
  have hc1 : (W0.alloc (.cells (flat encS [⟨63, 7, false⟩, ⟨63, 8, false⟩]).toArray 78)).cell? ⟨w.heap.size, 0, none⟩ = some (.slice (some ⟨w.heap.size + 1 + 1 + 1 + 1, 0, none⟩) 3 3) := (World.cell?_alloc_lt _ _ ⟨w.heap.size, 0, none⟩ (by simp; omega)).trans hc0
  change bodyPost _ _ _ _ _ ((((W0.alloc (.cells (flat encS [⟨63, 7, false⟩, ⟨63, 8, false⟩]).toArray 78)).alloc (.cells (flat encS [⟨0, 9, false⟩, ⟨0, 9, false⟩]).toArray 78)).alloc (.cells (flat encS [⟨62, 3, false⟩, ⟨0, 0, true⟩]).toArray 78)).alloc _)
  generalize W0.alloc (.cells (flat encS [⟨63, 7, false⟩, ⟨63, 8, false⟩]).toArray 78) = W1 at *
  have r2 := row_of_lit encS_len W1 78 [⟨0, 9, false⟩, ⟨0, 9, false⟩] (by simp) (w.heap.size + 1 + 1) hs1.symm _ rfl
  have r12 := r1.below ((Below.refl W1.heap.size W1).alloc (Nat.le_refl _) (.cells (flat encS [⟨0, 9, false⟩, ⟨0, 9, false⟩]).toArray 78))
  have hB2 := hB1.alloc (by omega) (.cells (flat encS [⟨0, 9, false⟩, ⟨0, 9, false⟩]).toArray 78)
  have hs2 : (W1.alloc (.cells (flat encS [⟨0, 9, false⟩, ⟨0, 9, false⟩]).toArray 78)).heap.size = w.heap.size + 1 + 1 + 1 := by simp [hs1]
  have hc2 : (W1.alloc (.cells (flat encS [⟨0, 9, false⟩, ⟨0, 9, false⟩]).toArray 78)).cell? ⟨w.heap.size, 0, none⟩ = some (.slice (some ⟨w.heap.size + 1 + 1 + 1 + 1, 0, none⟩) 3 3) := (World.cell?_alloc_lt _ _ ⟨w.heap.size, 0, none⟩ (by simp; omega)).trans hc1
  generalize W1.alloc (.cells (flat encS [⟨0, 9, false⟩, ⟨0, 9, false⟩]).toArray 78) = W2 at *
  have r3 := row_of_lit encS_len W2 78 [⟨62, 3, false⟩, ⟨0, 0, true⟩] (by simp) (w.heap.size + 1 + 1 + 1) hs2.symm _ rfl
  have hb3 := ((Below.refl W2.heap.size W2).alloc (Nat.le_refl _) (.cells (flat encS [⟨62, 3, false⟩, ⟨0, 0, true⟩]).toArray 78))
  have r13 := r12.below hb3
  have r23 := r2.below hb3
  have hB3 := hB2.alloc (by omega) (.cells (flat encS [⟨62, 3, false⟩, ⟨0, 0, true⟩]).toArray 78)
  have hs3 : (W2.alloc (.cells (flat encS [⟨62, 3, false⟩, ⟨0, 0, true⟩]).toArray 78)).heap.size = w.heap.size + 1 + 1 + 1 + 1 := by simp [hs2]
  have hc3 : (W2.alloc (.cells (flat encS [⟨62, 3, false⟩, ⟨0, 0, true⟩]).toArray 78)).cell? ⟨w.heap.size, 0, none⟩ = some (.slice (some ⟨w.heap.size + 1 + 1 + 1 + 1, 0, none⟩) 3 3) := (World.cell?_alloc_lt _ _ ⟨w.heap.size, 0, none⟩ (by simp; omega)).trans hc2
  generalize W2.alloc (.cells (flat encS [⟨62, 3, false⟩, ⟨0, 0, true⟩]).toArray 78) = W3 at *
  clear r1 r2 r12 hB0 hB1 hB2 hs0 hs1 hs2 hc0 hc1 hc2 hb3
  refine bodyPost_ret (v := .agg #[.slice (some ⟨w.heap.size + 1 + 1 + 1 + 1, 0, none⟩) 3 3]) ?_ rfl ⟨⟨_, _, rfl, ⟨by decide, fun _ => ⟨_, _, rfl, fun j xs hx => ?_⟩⟩⟩, hB3.alloc (by omega) _⟩
  · have hc4 := (World.cell?_alloc_lt W3 (.cells #[Value.slice (some ⟨w.heap.size + 1, 0, none⟩) 2 2, Value.slice (some ⟨w.heap.size + 1 + 1, 0, none⟩) 2 2, Value.slice (some ⟨w.heap.size + 1 + 1 + 1, 0, none⟩) 2 2] 41) ⟨w.heap.size, 0, none⟩ (by simp; omega)).trans hc3
    simp [results, Tryd.results39, go_sem, hc4]
  · have hb4 := ((Below.refl W3.heap.size W3).alloc (Nat.le_refl _) (.cells #[Value.slice (some ⟨w.heap.size + 1, 0, none⟩) 2 2, Value.slice (some ⟨w.heap.size + 1 + 1, 0, none⟩) 2 2, Value.slice (some ⟨w.heap.size + 1 + 1 + 1, 0, none⟩) 2 2] 41))
    have hc : ∀ i, (W3.alloc (.cells #[Value.slice (some ⟨w.heap.size + 1, 0, none⟩) 2 2, Value.slice (some ⟨w.heap.size + 1 + 1, 0, none⟩) 2 2, Value.slice (some ⟨w.heap.size + 1 + 1 + 1, 0, none⟩) 2 2] 41)).cell? ⟨w.heap.size + 1 + 1 + 1 + 1, 0 + i, none⟩ = #[Value.slice (some ⟨w.heap.size + 1, 0, none⟩) 2 2, Value.slice (some ⟨w.heap.size + 1 + 1, 0, none⟩) 2 2, Value.slice (some ⟨w.heap.size + 1 + 1 + 1, 0, none⟩) 2 2][i]? := fun i => by
      rw [← hs3, Nat.zero_add, World.cell?_alloc_new]
    match j, hx with
    | 0, hx => cases hx; exact ⟨_, 2, hc 0, Nat.le_refl _, r13.below hb4⟩
    | 1, hx => cases hx; exact ⟨_, 2, hc 1, Nat.le_refl _, r23.below hb4⟩
    | 2, hx => cases hx; exact ⟨_, 2, hc 2, Nat.le_refl _, r3.below hb4⟩
    | j + 3, hx => simp [exC] at hx
end Go.Proofs.YtcpglghklmfbcaaDoor.T
