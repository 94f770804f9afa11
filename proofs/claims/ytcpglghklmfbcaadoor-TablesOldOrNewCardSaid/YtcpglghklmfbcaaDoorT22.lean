import Derived.Test.YtcpglghklmfbcaaDoorT21
namespace Go.Proofs.YtcpglghklmfbcaaDoor.T
open Go Go.RowKit Go.Proofs.YtcpglghklmfbcaaDoor.M Go.Proofs.YtcpglghklmfbcaaDoor.R
set_option linter.unusedVariables false
set_option linter.unusedSimpArgs false

theorem look_nil {β : Type} (k : Int) : M.look ([] : List (Int × β)) k = none := rfl
theorem look_cons {β : Type} (p : Int × β) (L : List (Int × β)) (k : Int) : M.look (p :: L) k = if p.1 = k then some p.2 else M.look L k := by
  unfold M.look place
  rw [List.findIdx?_cons]
  by_cases h : p.1 = k
  · simp [h]
  · have h2 : (p.1 == k) = false := by simp [h]
    rw [if_neg h, h2]
    cases e : L.findIdx? (fun x => x.1 == k) <;> simp
theorem put_cons {β : Type} (p : Int × β) (L : List (Int × β)) (k : Int) (v : β) : put (p :: L) k v = if p.1 = k then (k, v) :: L else p :: put L k v := by
  unfold put place
  rw [List.findIdx?_cons]
  by_cases h : p.1 = k
  · simp [h]
  · have h2 : (p.1 == k) = false := by simp [h]
    rw [if_neg h, h2]
    cases e : L.findIdx? (fun x => x.1 == k) <;> simp
theorem look_put {β : Type} (k q : Int) (v : β) : ∀ L : List (Int × β), M.look (put L k v) q = if k = q then some v else M.look L q
  | [] => by
    show M.look [(k, v)] q = _
    rw [look_cons]
  | p :: L => by
    rw [put_cons]
    by_cases h : p.1 = k
    · rw [if_pos h, look_cons, look_cons, h]
      split <;> rfl
    · rw [if_neg h, look_cons, look_put k q v L, look_cons]
      by_cases h2 : p.1 = q
      · rw [if_pos h2, if_neg (by omega), if_pos h2]
      · rw [if_neg h2, if_neg h2]
/-- How many of some sectors have a number. -/
def cnt (X : List Sec) (q : Int) : Int := ((X.filter fun x => !x.bad && x.seq == q).length : Nat)
theorem cnt_range (X : List Sec) (q : Int) : 0 ≤ cnt X q ∧ cnt X q ≤ X.length := by
  have := List.length_filter_le (fun x : Sec => !x.bad && x.seq == q) X
  unfold cnt
  omega
theorem cnt_bad {X : List Sec} {x : Sec} (h : x.bad = true) (q : Int) : cnt (X ++ [x]) q = cnt X q := by simp [cnt, List.filter_append, h]
theorem cnt_good {X : List Sec} {x : Sec} (h : x.bad = false) (q : Int) : cnt (X ++ [x]) q = if x.seq = q then cnt X q + 1 else cnt X q := by
  by_cases e : x.seq = q <;> simp [cnt, List.filter_append, h, e]
def Counts (U : List (Int × Int)) (X : List Sec) : Prop := ∀ q, (M.look U q).getD 0 = cnt X q
theorem Counts.nil : Counts [] [] := fun q => rfl
theorem Counts.put {U : List (Int × Int)} {X : List Sec} {x : Sec} (h : Counts U X) (hx : x.bad = false) : Counts (M.put U x.seq (cnt X x.seq + 1)) (X ++ [x]) := by
  intro q
  rw [look_put, cnt_good hx]
  by_cases e : x.seq = q
  · rw [if_pos e, if_pos e, e]; rfl
  · rw [if_neg e, if_neg e]; exact h q
theorem Counts.skip {U : List (Int × Int)} {X : List Sec} {x : Sec} (h : Counts U X) (hx : x.bad = true) : Counts U (X ++ [x]) := by
  intro q
  rw [cnt_bad hx]; exact h q
/-- The sectors of some slots. -/
def secsOf (l : Cop) (S : List Nat) (i : Nat) : List Sec := (S.take i).flatMap (sl l)
theorem secsOf_succ {l : Cop} {S : List Nat} {i s : Nat} (hs : S[i]? = some s) : secsOf l S (i + 1) = secsOf l S i ++ sl l s := by
  obtain ⟨hi, rfl⟩ := List.getElem?_eq_some_iff.1 hs
  rw [secsOf, secsOf, List.take_succ_eq_append_getElem hi, List.flatMap_append]
  simp
theorem secsOf_len {l : Cop} {S : List Nat} (hok : okC l = true) (hS : ∀ s ∈ S, s < l.length) (i : Nat) (hi : i ≤ S.length) : (secsOf l S i).length ≤ i * 4 := by
  have := flatMap_le (sl l) 4 (S.take i) (fun s hs => by
    have h1 := okC_slot hok (hS s (List.mem_of_mem_take hs))
    have h2 := okC_len hok
    omega)
  rw [List.length_take, Nat.min_eq_left hi] at this
  exact this
theorem cnt_unused (l : Cop) (S : List Nat) (q : Int) : (0 < cnt (secsOf l S S.length) q) = (unused l S q = false) := by
  apply propext
  unfold cnt secsOf unused
  rw [List.take_length]
  constructor
  · intro h
    have h2 : 0 < ((S.flatMap (sl l)).filter fun x => !x.bad && x.seq == q).length := by omega
    obtain ⟨x, hx⟩ := List.exists_mem_of_length_pos h2
    rw [List.mem_filter, List.mem_flatMap] at hx
    obtain ⟨⟨s, hs, hxs⟩, hx2⟩ := hx
    refine List.all_eq_false.2 ⟨s, hs, ?_⟩
    rw [Bool.not_eq_true]
    refine List.all_eq_false.2 ⟨x, hxs, ?_⟩
    simp at hx2
    simp [hx2]
  · intro h
    obtain ⟨s, hs, h2⟩ := List.all_eq_false.1 h
    rw [Bool.not_eq_true] at h2
    obtain ⟨x, hx, h3⟩ := List.all_eq_false.1 h2
    have : x ∈ (S.flatMap (sl l)).filter fun x => !x.bad && x.seq == q := by
      refine List.mem_filter.2 ⟨List.mem_flatMap.2 ⟨s, hs, hx⟩, ?_⟩
      simp at h3
      simp [h3]
    have := List.length_pos_of_mem this
    omega

theorem write_calls (s nu : Int) (A : Option Addr) (n c : Nat) (t : List Int) (w : World) (hn : n = t.length) (hR : Row encI 1 w A t) (hl : t.length ≤ 4398046511104) :
    Calls Tryd.prog 59 #[.int .i64 s, .int .i64 nu, .slice A n c] w fun e w' => (∃ v, e = .returned v ∧ Own encP 4 68 w' w.heap.size v (patches s nu t)) ∧ Below w.heap.size w w' := by
  have HR := Lib.hid hR
  subst hn
  clear hR
  go_enter Tryd.func59, Tryd.ntmps59
  go_wp2
  go_loopg [7, 12] t.length (fun g v i wr => ∃ k : Nat, k ≤ t.length ∧ i = .int .i64 k ∧ g = t.length - k ∧ Below w.heap.size w wr ∧ Own encP 4 68 wr w.heap.size v (patches s nu (t.take k)))
  case atStart => exact ⟨0, Nat.zero_le _, rfl, rfl, Below.refl _ _, Own.nil⟩
  case round =>
    obtain ⟨k, hk, rfl, hg, hB, hO⟩ := hrel
    have HB := Lib.hid hB
    have HA := Lib.hid (And.intro hg hO)
    clear hB hO hg
    by_cases hlt : k < t.length
    · obtain ⟨b, off, rfl, hbl, h0⟩ := RowI.at (HR.out.below HB.out) hlt
      go_wp2_with (at_builtin; go_must (refine wp_append1 encP_len encP_one rfl _ _ 51 rfl Tryd.underlying51 _ 32 info68 rfl (by decide) (⟨s, (k : Int), nu, t[k]⟩ : Pat) rfl rfl HA.out.2 HB.out HB.out.size (by rw [patches_len _ _ _ _ hk]; omega) (fun v1 w1 H => ?_)))
      go_roundg (t.length - (k + 1))
      case measure => have := HA.out.1; omega
      case rel => exact ⟨k + 1, by omega, by go_num, rfl, H.out.2.1, by rw [patches_succ hlt]; exact H.out.1⟩
    · go_wp2
      go_ret
      exact ⟨⟨_, rfl, by have h := HA.out.2; rwa [List.take_of_length_le (by omega)] at h⟩, HB.out⟩

theorem skip_spec {l : Cop} {S : List Nat} {m : Nat} (hm : skip l S = some m) : m < 64 ∧ unused l S (num l m) = true ∧ (∀ j, j < m → unused l S (num l j) = false) ∧ free l S = num l m := by
  unfold skip at hm
  obtain ⟨h1, k, hk, h2, h3⟩ := List.find?_eq_some_iff_getElem.1 hm
  simp only [List.length_range, List.getElem_range] at hk h2
  subst h2
  refine ⟨hk, h1, fun j hj => ?_, by rw [free, skip, hm]; rfl⟩
  have := h3 j hj
  rw [List.getElem_range] at this
  simpa [num] using this
set_option maxHeartbeats 1000000 in
set_option maxRecDepth 100000 in
theorem gfree_calls (g m : Nat) (A A2 : Option Addr) (n c n2 c2 : Nat) (l : Cop) (S : List Nat) (M0 : Nat) (w : World) (hop : Opened w g m A n c l) (hn : n = l.length) (hn2 : n2 = S.length) (hR : Row2 encS 3 w A l) (hR2 : Row encI 1 w A2 (ints S)) (hcm : checkM l = 0) (hS : ∀ s ∈ S, s < l.length) (hS4 : S.length ≤ 4) (hM : skip l S = some M0) :
    Calls Tryd.prog 57 #[.pointer (some ⟨g, 0, none⟩), .slice A2 n2 c2] w fun e w' => e = .returned (.int .i64 (free l S)) ∧ Below w.heap.size w w' := by
  have HOP := Lib.hid hop
  have HN := Lib.hid (And.intro hn hn2)
  have HM := Lib.hid hcm
  have HOK := Lib.hid (checkM_ok hcm).1
  have HR := Lib.hid hR
  have HR2 := Lib.hid hR2
  have HS := Lib.hid hS
  have hn4 : n2 ≤ 4 := by omega
  have HSK := Lib.hid hM
  obtain ⟨hw0, hw1, hw2, hwf, hwg⟩ := cp_cells hop.1
  clear hop hn hcm hwf hR hR2 hS hM hS4 hn2
  have hmm := @run_makeMap Tryd.prog
  go_enter Tryd.func57, Tryd.ntmps57
  go_wp2
  go_loopg [14] n2 (fun gk i wr => ∃ k : Nat, k ≤ n2 ∧ i = .int .i64 k ∧ gk = n2 - k ∧ Below w.heap.size w wr ∧ ∃ U, IsMap (Value.int .i64) wr w.heap.size U ∧ Counts U (secsOf l S k))
  case atStart => exact ⟨0, Nat.zero_le _, rfl, rfl, (Below.refl _ _).alloc (Nat.le_refl _) _, [], IsMap.new _ _, Counts.nil⟩
  case round =>
    obtain ⟨k, hk, rfl, hg, hB, U, hU, hC⟩ := hrel
    have HB := Lib.hid hB
    have HA := Lib.hid (And.intro hg (And.intro hU hC))
    clear hw0 hw1 hw2 hwg
    obtain ⟨hw0, hw1, hw2, hwf, hwg⟩ := cp_cells (HOP.out.below hB).1
    clear hB hU hC hg hwf
    by_cases hlt : k < n2
    · have hkS : k < S.length := by have := HN.out.2; omega
      have hmem := HS.out S[k] (List.getElem_mem hkS)
      obtain ⟨b2, o2, rfl, hb2, hc2⟩ := RowI.at (HR2.out.below HB.out) (show k < (ints S).length by rw [ints_len]; exact hkS)
      have hS1 : (ints S)[k]'(by rw [ints_len]; exact hkS) = (S[k] : Int) := by simp [ints]
      rw [hS1] at hc2
      have HSK2 := Lib.hid (List.getElem?_eq_getElem hkS)
      clear hS1
      generalize S[k] = s at *
      obtain ⟨b1, o1, Ak, ck, rfl, h1, h2, h3⟩ := HR.out.at (sl_get hmem)
      have h1w := (HB.out.cell (p := ⟨b1, o1 + s, none⟩) (World.block_lt_of_cell? w _ h1)).trans h1
      have hsn : s < n := by have := HN.out.1; omega
      have hsl : (sl l s).length ≤ 4 := by have := okC_slot HOK.out hmem; have := okC_len HOK.out; omega
      have HK := Lib.hid (And.intro h3 hmem)
      clear h1 h2 h3 hmem hkS
      go_wp2_with (fail)
      go_loopg [27] (sl l s).length (fun gk i wr => ∃ j : Nat, j ≤ (sl l s).length ∧ i = .int .i64 j ∧ gk = (sl l s).length - j ∧ Below w.heap.size w wr ∧ ∃ U, IsMap (Value.int .i64) wr w.heap.size U ∧ Counts U (secsOf l S k ++ (sl l s).take j))
      case atStart => exact ⟨0, Nat.zero_le _, rfl, rfl, HB.out, U, HA.out.2.1, by rw [List.take_zero, List.append_nil]; exact HA.out.2.2⟩
      case round =>
        obtain ⟨j, hj, rfl, hg, hB, U2, hU, hC⟩ := hrel
        have HB2 := Lib.hid hB
        have HA2 := Lib.hid (And.intro hg (And.intro hU hC))
        clear hB hU hC hg
        by_cases hlt2 : j < (sl l s).length
        · obtain ⟨b3, off3, rfl, hbl, h4, h5, h6⟩ := RowS.at (HK.out.1.below HB2.out) hlt2
          have e := List.take_succ_eq_append_getElem hlt2
          have HE : Hid (secsOf l S k ++ (sl l s).take (j + 1) = (secsOf l S k ++ (sl l s).take j) ++ [(sl l s)[j]]) := Lib.hid (by rw [e, List.append_assoc])
          have hcr := cnt_range (secsOf l S k ++ (sl l s).take j) (sl l s)[j].seq
          rw [List.length_append, List.length_take, Nat.min_eq_left (by omega)] at hcr
          have hsec := secsOf_len HOK.out HS.out k (by have := HN.out.2; omega)
          have hlk : ∀ wx, IsMap (Value.int .i64) wx w.heap.size U2 → (Instr.lookup 72 (.map (some w.heap.size)) (.int .i64 (sl l s)[j].seq) false).run Tryd.prog wx = .ok (.int .i64 (cnt (secsOf l S k ++ (sl l s).take j) (sl l s)[j].seq)) wx := fun wx hx => by rw [look72 hx, HA2.out.2.2]
          have hMA : IsMap (Value.int .i64) (wr.alloc (.cells #[.int .i64 (sl l s)[j].seq, .int .i64 (sl l s)[j].data, .bool (sl l s)[j].bad] 78)) w.heap.size U2 := HA2.out.2.1.keep ((MapKept.heap_alloc wr _).2 _ HA2.out.2.1.lt)
          have hl1 := hlk _ hMA
          have HMA := Lib.hid hMA
          have hc1 : 0 ≤ cnt (secsOf l S k ++ (sl l s).take j) (sl l s)[j].seq := hcr.1
          have hc2' : cnt (secsOf l S k ++ (sl l s).take j) (sl l s)[j].seq ≤ 20 := by omega
          have HBA := Lib.hid (HB2.out.alloc HB2.out.size (.cells #[.int .i64 (sl l s)[j].seq, .int .i64 (sl l s)[j].data, .bool (sl l s)[j].bad] 78))
          clear hlk hMA hcr hsec e
          rcases hbad : (sl l s)[j].bad with _ | _
          · have HBD := Lib.hid hbad
            rw [hbad] at hl1 HMA HBA
            go_wp2_with (at_mapUpdate; refine wp_update rfl _ _ _ 72 _ _ rfl Tryd.underlying72 Tryd.underlying3 w.heap.size U2 (sl l s)[j].seq (cnt (secsOf l S k ++ (sl l s).take j) (sl l s)[j].seq + 1) rfl rfl rfl HMA.out HBA.out (Nat.le_refl _) ?_; intro w' H)
            go_roundg ((sl l s).length - (j + 1))
            case measure => have := HA2.out.1; omega
            case rel => exact ⟨j + 1, by omega, by go_num, rfl, H.out.2.1, _, H.out.1, by rw [HE.out]; exact HA2.out.2.2.put HBD.out⟩
          · have HBD := Lib.hid hbad
            rw [hbad] at hl1 HMA HBA
            go_wp2_with (fail)
            go_roundg ((sl l s).length - (j + 1))
            case measure => have := HA2.out.1; omega
            case rel => exact ⟨j + 1, by omega, by go_num, rfl, HBA.out, U2, HMA.out, by rw [HE.out]; exact HA2.out.2.2.skip HBD.out⟩
        · have hC := HA2.out.2.2
          rw [List.take_of_length_le (by omega), ← secsOf_succ HSK2.out] at hC
          have HC := Lib.hid hC
          clear hC
          go_wp2_with (fail)
          go_roundg (n2 - (k + 1))
          case measure => have := HA.out.1; omega
          case rel => exact ⟨k + 1, by omega, by go_num, rfl, HB2.out, U2, HA2.out.2.1, HC.out⟩
    · have hkn : k = S.length := by have := HN.out.2; omega
      rw [hkn] at HA
      clear hkn
      cases hne : newest l with
      | none =>
        have HST := Lib.hid (start_none hne)
        rw [newI_none hne] at hw2
        clear hne
        go_wp2_with (fail)
        go_loopg [10] M0 (fun gk v wr => ∃ i : Nat, i ≤ M0 ∧ v = .int .i64 (num l i) ∧ gk = M0 - i ∧ Below w.heap.size w wr ∧ IsMap (Value.int .i64) wr w.heap.size U)
        case atStart => exact ⟨0, Nat.zero_le _, by rw [num_zero HOK.out, HST.out], rfl, HB.out, HA.out.2.1⟩
        case round =>
          obtain ⟨i, hi, rfl, hg, hB, hU⟩ := hrel
          have HB2 := Lib.hid hB
          have HA2 := Lib.hid (And.intro hg hU)
          have hnr := num_range l i
          have hns := num_succ l i
          have HNS := Lib.hid hns
          have hlk := look72 hU (num l i)
          rw [HA.out.2.2 (num l i)] at hlk
          clear hB hU hg hns
          by_cases hlt2 : i < M0
          · have hpos : 0 < cnt (secsOf l S S.length) (num l i) := by rw [cnt_unused]; exact (skip_spec HSK.out).2.2.1 i hlt2
            go_wp2_with (fail)
            go_roundg (M0 - (i + 1))
            case measure => have := HA2.out.1; omega
            case rel => exact ⟨i + 1, by omega, by rw [HNS.out], rfl, HB2.out, HA2.out.2⟩
          · have hpos : ¬ 0 < cnt (secsOf l S S.length) (num l i) := by
              rw [cnt_unused, show i = M0 by omega, (skip_spec HSK.out).2.1]
              simp
            go_wp2_with (fail)
            go_ret
            exact ⟨ri (by rw [(skip_spec HSK.out).2.2.2, show i = M0 by omega]), HB2.out⟩
      | some o =>
        have HST := Lib.hid (start_some hne)
        have hol := newest_lt hne
        have hqo := okC_sq HOK.out hol.1
        rw [newI_some hne] at hw2
        have hop2 := HOP.out.below HB.out
        have hx1 : ∀ x : Gro wr, x.W.cell? ⟨g, 1, none⟩ = some (.map (some m)) := fun x => (x.cell _ _ hwg).trans hw1
        have hx2 : ∀ x : Gro wr, x.W.cell? ⟨g, 2, none⟩ = some (.int .i64 (o : Int)) := fun x => (x.cell _ _ hwg).trans hw2
        have hx4 : ∀ x : Gro wr, (Instr.lookup 72 (.map (some m)) (.int .i64 (o : Int)) false).run Tryd.prog x.W = .ok (.int .i64 (sq l o)) x.W := fun x => by
          rw [look72 (hop2.below x.b).2, look_yes hol.1 hol.2]; rfl
        have HOL := Lib.hid hol
        clear hop2 hne hol
        go_wp2_with (fail)
        refine wp_region_gro (by kernel_rfl) (by kernel_rfl) ?_
        repeat (go_big_quiet_step (fail))
        refine wpQuiet_nil ?_
        intro _ hw'
        obtain ⟨x, hw''⟩ := hw'
        subst hw''
        go_wp2_with (fail)
        go_loopg [10] M0 (fun gk v wr => ∃ i : Nat, i ≤ M0 ∧ v = .int .i64 (num l i) ∧ gk = M0 - i ∧ Below w.heap.size w wr ∧ IsMap (Value.int .i64) wr w.heap.size U)
        case atStart => exact ⟨0, Nat.zero_le _, by rw [num_zero HOK.out, HST.out], rfl, HB.out.trans (x.b.mono HB.out.size), HA.out.2.1.below x.b HA.out.2.1.lt⟩
        case round =>
          obtain ⟨i, hi, rfl, hg, hB, hU⟩ := hrel
          have HB2 := Lib.hid hB
          have HA2 := Lib.hid (And.intro hg hU)
          have hnr := num_range l i
          have hns := num_succ l i
          have HNS := Lib.hid hns
          have hlk := look72 hU (num l i)
          rw [HA.out.2.2 (num l i)] at hlk
          clear hB hU hg hns
          by_cases hlt2 : i < M0
          · have hpos : 0 < cnt (secsOf l S S.length) (num l i) := by rw [cnt_unused]; exact (skip_spec HSK.out).2.2.1 i hlt2
            go_wp2_with (fail)
            go_roundg (M0 - (i + 1))
            case measure => have := HA2.out.1; omega
            case rel => exact ⟨i + 1, by omega, by rw [HNS.out], rfl, HB2.out, HA2.out.2⟩
          · have hpos : ¬ 0 < cnt (secsOf l S S.length) (num l i) := by
              rw [cnt_unused, show i = M0 by omega, (skip_spec HSK.out).2.1]
              simp
            go_wp2_with (fail)
            go_ret
            exact ⟨ri (by rw [(skip_spec HSK.out).2.2.2, show i = M0 by omega]), HB2.out⟩
end Go.Proofs.YtcpglghklmfbcaaDoor.T
