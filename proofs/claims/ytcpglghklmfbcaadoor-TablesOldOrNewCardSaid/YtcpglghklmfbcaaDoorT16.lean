import Derived.Test.YtcpglghklmfbcaaDoorT15
namespace Go.Proofs.YtcpglghklmfbcaaDoor.T
open Go Go.RowKit Go.Proofs.YtcpglghklmfbcaaDoor.M Go.Proofs.YtcpglghklmfbcaaDoor.R
set_option linter.unusedVariables false
set_option linter.unusedSimpArgs false

theorem eq_at {a b : List Int} {k : Nat} (h : a.length = b.length) (hk : ¬ k < a.length) (hall : ∀ j (h1 : j < a.length) (h2 : j < b.length), j < k → a[j] = b[j]) : (a == b) = true := by
  simp only [beq_iff_eq]
  exact List.ext_getElem h (fun j h1 h2 => hall j h1 h2 (by omega))
theorem ne_len {a b : List Int} (h : ((a.length : Int) != b.length) = true) : (a == b) = false := by
  simp only [bne_iff_ne, ne_eq] at h
  simp only [beq_eq_false_iff_ne, ne_eq]
  rintro rfl
  exact h rfl
theorem ne_get {a b : List Int} {k : Nat} (h1 : k < a.length) (h2 : k < b.length) (h : (a[k] != b[k]) = true) : (a == b) = false := by
  simp only [bne_iff_ne, ne_eq] at h
  simp only [beq_eq_false_iff_ne, ne_eq]
  rintro rfl
  exact h rfl

theorem Equal_calls (A A' : Option Addr) (c c' : Nat) (a b : List Int) (w : World) (hR : Row encI 1 w A a) (hR' : Row encI 1 w A' b) :
    Calls Tryd.prog 43 #[.slice A a.length c, .slice A' b.length c'] w fun e w' => e = .returned (.bool (a == b)) ∧ Below w.heap.size w w' := by
  have HR := Lib.hid hR
  have HR' := Lib.hid hR'
  have h1 := hR.1
  have h2 := hR'.1
  clear hR hR'
  rcases hn : ((a.length : Int) != b.length) with _ | _
  rotate_left
  · have HN := Lib.hid hn
    go_enter Tryd.func43, Tryd.ntmps43
    go_wp2
    go_ret
    exact ⟨rb (ne_len HN.out).symm, Below.refl _ _⟩
  have hab : a.length = b.length := by simp only [bne_eq_false_iff_eq] at hn; omega
  have HN := Lib.hid hab
  clear hab
  go_enter Tryd.func43, Tryd.ntmps43
  go_wp2
  go_loopg [13] a.length (fun g i wr => ∃ k : Nat, k ≤ a.length ∧ i = .int .i64 k ∧ g = a.length - k ∧ Gr w wr ∧ ∀ j (h1 : j < a.length) (h2 : j < b.length), j < k → a[j] = b[j])
  case atStart => exact ⟨0, Nat.zero_le _, rfl, rfl, Gr.refl _, fun j _ _ h => absurd h (by omega)⟩
  case round =>
    obtain ⟨k, hk, rfl, hg, hB, hall⟩ := hrel
    have HA := Lib.hid (And.intro hg hall)
    have HB := Lib.hid hB
    clear hB hg hall hn
    by_cases hlt : k < a.length
    · have hlt' : k < b.length := by rw [← HN.out]; exact hlt
      obtain ⟨b1, o1, rfl, hl1, hc1⟩ := RowI.at (HR.out.below HB.out) hlt
      obtain ⟨b2, o2, rfl, hl2, hc2⟩ := RowI.at (HR'.out.below HB.out) hlt'
      rcases hb : (a[k] != b[k]) with _ | _
      · go_wp2
        go_quiet (fail)
        go_wp2
        go_roundg (a.length - (k + 1))
        case measure => have := HA.out.1; omega
        case rel => exact ⟨k + 1, by omega, by go_num, rfl, HB.out.drew _, fun j h1 h2 hj => by
          by_cases e : j = k
          · subst e; simpa using hb
          · exact HA.out.2 j h1 h2 (by omega)⟩
      · go_wp2
        go_quiet (fail)
        go_wp2
        go_ret
        exact ⟨rb (ne_get hlt hlt' hb).symm, HB.out.drew _⟩
    · have HE := Lib.hid (eq_at HN.out hlt HA.out.2)
      go_wp2
      go_ret
      exact ⟨rb HE.out.symm, HB.out⟩

theorem okB_eq {n v : Int} (h : (v != n) = false) : okB n v = true := by simp at h; simp [okB, h]
theorem okB_ne {n v : Int} {b : Bool} (h : (v != n) = true) (h2 : newerB n v = b) : okB n v = b := by simp at h; simp [okB, h, h2]
def topsB (L : List (Int × Int)) (n : Int) : Bool := L.all fun p => okB n p.2
theorem tops_no {L : List (Int × Int)} {n : Int} {i : Nat} {k v : Int} (hp : L[i]? = some (k, v)) (h : okB n v = false) : topsB L n = false := by
  unfold topsB
  rw [List.all_eq_false]
  exact ⟨_, List.mem_of_getElem? hp, by simp [h]⟩
theorem tops_calls (g m : Nat) (n : Int) (L : List (Int × Int)) (w : World) (hc1 : w.cell? ⟨g, 1, none⟩ = some (.map (some m))) (hm : IsMap (Value.int .i64) w m L) (hn : 0 ≤ n) (hn' : n ≤ 63) (hL : ∀ p ∈ L, 0 ≤ p.2 ∧ p.2 ≤ 63) :
    Calls Tryd.prog 74 #[.pointer (some ⟨g, 0, none⟩), .int .i64 n] w fun e w' => e = .returned (.bool (topsB L n)) ∧ Below w.heap.size w w' := by
  have HM := Lib.hid hm
  have HL := Lib.hid hL
  clear hm hL
  go_enter Tryd.func74, Tryd.ntmps74
  go_wp2_with (at_range; refine wp_range rfl _ 72 _ _ rfl Tryd.underlying72 m L rfl HM.out (Below.refl w.heap.size w) (Nat.le_refl _) ?_; intro w0 H0)
  go_frame
  go_loopg [6] L.length (fun k v wr => ∃ rest, IsIter wr w.heap.size m L.length rest ∧ IsMap (Value.int .i64) wr m L ∧ Below w.heap.size w wr ∧ rest.length = k ∧ ∀ i p, L[i]? = some p → ¬ i ∈ rest → okB n p.2 = true)
  case atStart => exact ⟨_, H0.out.1, H0.out.2.1, H0.out.2.2.1, by simp, rest_start⟩
  case round =>
    obtain ⟨rest, hr⟩ := hrel
    have HR := Lib.hid hr
    clear hr H0 hc1
    go_wp2_with (first
      | (at_next; refine wp_next rfl _ rfl _ m L rest rfl HR.out.2.1 HR.out.1 HR.out.2.2.1 (Nat.le_refl _) (fun HE => ?_) (fun i k v w' H hen => ?_); all_goals (try (have hv1 : 0 ≤ v := (HL.out _ (List.mem_of_getElem? H.out.1)).1; have hv2 : v ≤ 63 := (HL.out _ (List.mem_of_getElem? H.out.1)).2; rcases Bool.eq_false_or_eq_true (v != n) with hvn | hvn; rcases Bool.eq_false_or_eq_true (newerB n v) with hnv | hnv)))
      | (go_at_call 45; refine (gnewer_calls _ _ _ (by omega) (by omega) (by omega) (by omega)).mono ?_; rintro e w1 ⟨rfl, rfl⟩))
    · go_ret
      obtain rfl := HE.out
      exact ⟨rb (List.all_eq_true.2 (rest_all HR.out.2.2.2.2)).symm, HR.out.2.2.1⟩
    · have H2 := H.out
      go_roundg (rest.filter (· != i)).length
      case measure => have := rest_less H2.2.1; have := HR.out.2.2.2.1; omega
      case rel => exact ⟨_, H2.2.2.1, H2.2.2.2.1, H2.2.2.2.2.1, rfl, rest_step HR.out.2.2.2.2 H2.1 (okB_ne hvn hnv)⟩
    · go_ret
      exact ⟨rb (tops_no H.out.1 (okB_ne hvn hnv)).symm, H.out.2.2.2.2.1⟩
    · have H2 := H.out
      go_roundg (rest.filter (· != i)).length
      case measure => have := rest_less H2.2.1; have := HR.out.2.2.2.1; omega
      case rel => exact ⟨_, H2.2.2.1, H2.2.2.2.1, H2.2.2.2.2.1, rfl, rest_step HR.out.2.2.2.2 H2.1 (okB_eq hvn)⟩
/-- The program's 'ahead'. -/
def aheadB (L : List (Int × Int)) (n but : Int) : Bool := L.all fun p => p.1 == but || newerB n p.2
theorem ahead_no {L : List (Int × Int)} {n but : Int} {i : Nat} {k v : Int} (hp : L[i]? = some (k, v)) (h : (k != but) = true) (h2 : newerB n v = false) : aheadB L n but = false := by
  unfold aheadB
  rw [List.all_eq_false]
  exact ⟨_, List.mem_of_getElem? hp, by simp at h; simp [h, h2]⟩
theorem ahead_calls (g m : Nat) (n but : Int) (L : List (Int × Int)) (w : World) (hc1 : w.cell? ⟨g, 1, none⟩ = some (.map (some m))) (hm : IsMap (Value.int .i64) w m L) (hn : 0 ≤ n) (hn' : n ≤ 63) (hL : ∀ p ∈ L, 0 ≤ p.2 ∧ p.2 ≤ 63) :
    Calls Tryd.prog 58 #[.pointer (some ⟨g, 0, none⟩), .int .i64 n, .int .i64 but] w fun e w' => e = .returned (.bool (aheadB L n but)) ∧ Below w.heap.size w w' := by
  have HM := Lib.hid hm
  have HL := Lib.hid hL
  clear hm hL
  go_enter Tryd.func58, Tryd.ntmps58
  go_wp2_with (at_range; refine wp_range rfl _ 72 _ _ rfl Tryd.underlying72 m L rfl HM.out (Below.refl w.heap.size w) (Nat.le_refl _) ?_; intro w0 H0)
  go_frame
  go_loopg [7, 8] L.length (fun k v v2 wr => ∃ rest, IsIter wr w.heap.size m L.length rest ∧ IsMap (Value.int .i64) wr m L ∧ Below w.heap.size w wr ∧ rest.length = k ∧ ∀ i p, L[i]? = some p → ¬ i ∈ rest → (p.1 == but || newerB n p.2) = true)
  case atStart => exact ⟨_, H0.out.1, H0.out.2.1, H0.out.2.2.1, by simp, rest_start⟩
  case round =>
    obtain ⟨rest, hr⟩ := hrel
    have HR := Lib.hid hr
    clear hr H0 hc1
    go_wp2_with (first
      | (at_next; refine wp_next rfl _ rfl _ m L rest rfl HR.out.2.1 HR.out.1 HR.out.2.2.1 (Nat.le_refl _) (fun HE => ?_) (fun i k v w' H hen => ?_); all_goals (try (have hv1 : 0 ≤ v := (HL.out _ (List.mem_of_getElem? H.out.1)).1; have hv2 : v ≤ 63 := (HL.out _ (List.mem_of_getElem? H.out.1)).2; rcases Bool.eq_false_or_eq_true (k != but) with hvn | hvn; rcases Bool.eq_false_or_eq_true (newerB n v) with hnv | hnv)))
      | (go_at_call 45; refine (gnewer_calls _ _ _ (by omega) (by omega) (by omega) (by omega)).mono ?_; rintro e w1 ⟨rfl, rfl⟩))
    · go_ret
      obtain rfl := HE.out
      exact ⟨rb (List.all_eq_true.2 (rest_all HR.out.2.2.2.2)).symm, HR.out.2.2.1⟩
    · have H2 := H.out
      go_roundg (rest.filter (· != i)).length
      case measure => have := rest_less H2.2.1; have := HR.out.2.2.2.1; omega
      case rel => exact ⟨_, H2.2.2.1, H2.2.2.2.1, H2.2.2.2.2.1, rfl, rest_step HR.out.2.2.2.2 H2.1 (by simp [hnv])⟩
    · go_ret
      exact ⟨rb (ahead_no H.out.1 hvn hnv).symm, H.out.2.2.2.2.1⟩
    · have H2 := H.out
      go_roundg (rest.filter (· != i)).length
      case measure => have := rest_less H2.2.1; have := HR.out.2.2.2.1; omega
      case rel => exact ⟨_, H2.2.2.1, H2.2.2.2.1, H2.2.2.2.2.1, rfl, rest_step HR.out.2.2.2.2 H2.1 (by simp at hvn; simp [hvn])⟩
end Go.Proofs.YtcpglghklmfbcaaDoor.T
