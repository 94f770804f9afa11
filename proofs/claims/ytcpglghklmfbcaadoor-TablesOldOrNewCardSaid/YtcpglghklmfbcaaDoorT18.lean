import Derived.Test.YtcpglghklmfbcaaDoorT17
import Derived.Test.YtcpglghklmfbcaaDoorWLast
namespace Go.Proofs.YtcpglghklmfbcaaDoor.T
open Go Go.RowKit Go.Proofs.YtcpglghklmfbcaaDoor.M Go.Proofs.YtcpglghklmfbcaaDoor.R Go.Proofs.YtcpglghklmfbcaaDoorW.PrintLast
set_option linter.unusedVariables false
set_option linter.unusedSimpArgs false

theorem cp_cells {w : World} {g : Nat} {A : Option Addr} {n c m : Nat} {nw : Int} (h : w.heap[g]? = some (cpObj A n c m nw)) :
    w.cell? ⟨g, 0, none⟩ = some (.slice A n c) ∧ w.cell? ⟨g, 1, none⟩ = some (.map (some m)) ∧ w.cell? ⟨g, 2, none⟩ = some (.int .i64 nw) ∧ (∀ i, w.frozen? ⟨g, i, none⟩ = false) ∧ g < w.heap.size := by
  refine ⟨by simp [World.cell?, h, cpObj], by simp [World.cell?, h, cpObj], by simp [World.cell?, h, cpObj], fun i => ?_, (Array.getElem?_eq_some_iff.1 h).1⟩
  unfold World.frozen?
  simp only [h, cpObj]
  simp
theorem cp_set {w : World} {g : Nat} {A : Option Addr} {n c m : Nat} {nw v : Int} (h : w.heap[g]? = some (cpObj A n c m nw)) : (w.setCell ⟨g, 2, none⟩ (.int .i64 v)).heap[g]? = some (cpObj A n c m v) := by
  unfold World.setCell
  simp only [Array.getElem?_modify, h, if_true, Option.map_some, cpObj]
  rfl
theorem cp_made {w : World} {g : Nat} {A : Option Addr} {n c : Nat} {mv nv : Value} (h : w.heap[g]? = some (.cells #[.slice A n c, mv, nv] 74 (0, 0))) (m : Nat) (v : Int) :
    ((w.setCell ⟨g, 1, none⟩ (.map (some m))).setCell ⟨g, 2, none⟩ (.int .i64 v)).heap[g]? = some (cpObj A n c m v) := by
  unfold World.setCell
  simp only [Array.getElem?_modify, h, if_true, Option.map_some, cpObj]
  rfl
theorem zero3 (w : World) : (zeroValue 3).run Tryd.prog w = .ok (.int .i64 0) w := by
  have h : Tryd.t3.zero = some (.int .i64 0) := by kernel_rfl
  simp [zeroValue]
  rw [h]
  rfl
theorem len72 {w : World} {m : Nat} {L : List (Int × Int)} (hm : IsMap (Value.int .i64) w m L) (ty : TypeId) : (Builtin.len_ #[72] ty #[.map (some m)]).run Tryd.prog w = .ok (goInt L.length) w := by
  have := run_len_map (P := Tryd.prog) (w := w) 72 ty m _ _ Tryd.underlying72 hm
  rwa [ents_size] at this
theorem look72_ok {w : World} {m : Nat} {L : List (Int × Int)} (hm : IsMap (Value.int .i64) w m L) {k v : Int} (h : M.look L k = some v) : (Instr.lookup 72 (.map (some m)) (.int .i64 k) true).run Tryd.prog w = .ok (.tuple #[.int .i64 v, .bool true]) w := by
  have := run_lookup_ok (P := Tryd.prog) (w := w) (ev := Value.int .i64) Tryd.underlying72 Tryd.underlying3 (zero3 w) hm k
  rw [h] at this
  exact this
theorem look72_no {w : World} {m : Nat} {L : List (Int × Int)} (hm : IsMap (Value.int .i64) w m L) {k : Int} (h : M.look L k = none) : (Instr.lookup 72 (.map (some m)) (.int .i64 k) true).run Tryd.prog w = .ok (.tuple #[.int .i64 0, .bool false]) w := by
  have := run_lookup_ok (P := Tryd.prog) (w := w) (ev := Value.int .i64) Tryd.underlying72 Tryd.underlying3 (zero3 w) hm k
  rw [h] at this
  exact this
theorem look72 {w : World} {m : Nat} {L : List (Int × Int)} (hm : IsMap (Value.int .i64) w m L) (k : Int) : (Instr.lookup 72 (.map (some m)) (.int .i64 k) false).run Tryd.prog w = .ok (.int .i64 ((M.look L k).getD 0)) w := by
  have := run_lookup (P := Tryd.prog) (w := w) (ev := Value.int .i64) Tryd.underlying72 Tryd.underlying3 (zero3 w) hm k
  rw [this]
  cases M.look L k <;> rfl
theorem nUpto_notop {l : Cop} {k : Nat} (hw : whole (sl l k) = true) (h : tops l k = false) : nUpto l (k + 1) = nUpto l k := by
  by_cases hn : nUpto l k < 0
  · rw [nUpto_next hw hn, h]; simp
  · exact nUpto_had (eq_false hn)
/-- What 'judge' leaves. -/
def RetJ (w0 : World) (g : Nat) (A : Option Addr) (n c : Nat) (l : Cop) (e : Ending) (w' : World) : Prop :=
  e = .returned (.bool (!mixed l)) ∧ ∃ m, w0.heap.size ≤ m ∧ w'.heap[g]? = some (cpObj A n c m (newI l)) ∧ IsMap (Value.int .i64) w' m (wL l l.length) ∧ Below w0.heap.size w0 w'

set_option maxHeartbeats 1000000 in
set_option maxRecDepth 100000 in
theorem judge_calls (g : Nat) (A : Option Addr) (n c : Nat) (l : Cop) (mv nv : Value) (w0 w : World) (hg : w.heap[g]? = some (.cells #[.slice A n c, mv, nv] 74 (0, 0))) (hb : Below w0.heap.size w0 w) (hg0 : w0.heap.size ≤ g) (hn : n = l.length) (hR : Row2 encS 3 w0 A l) (hok : okC l = true) :
    Calls Tryd.prog 67 #[.pointer (some ⟨g, 0, none⟩)] w (RetJ w0 g A n c l) := by
  have HR := Lib.hid hR
  have HN := Lib.hid hn
  have HOK := Lib.hid hok
  have hn4 : n ≤ 4 := by have := okC_len hok; omega
  have HG := Lib.hid (And.intro hg hb)
  have hgw : g < w.heap.size := (Array.getElem?_eq_some_iff.1 hg).1
  have hf : ∀ i, w.frozen? ⟨g, i, none⟩ = false := fun i => by unfold World.frozen?; simp only [hg]; simp
  have hf1 := hf 1
  have hf2 := hf 2
  have hc0 : w.cell? ⟨g, 0, none⟩ = some (.slice A n c) := by simp [World.cell?, hg]
  have hc1 : w.cell? ⟨g, 1, none⟩ = some mv := by simp [World.cell?, hg]
  have hc2 : w.cell? ⟨g, 2, none⟩ = some nv := by simp [World.cell?, hg]
  have hm0 : w0.heap.size ≤ w.heap.size := Nat.le_trans hg0 (Nat.le_of_lt hgw)
  clear hR hn hok hg hb hf
  have hst : ∀ m', m' = w.heap.size → (((w.setCell ⟨g, 1, none⟩ (.map (some m'))).setCell ⟨g, 2, none⟩ (.int .i64 (-1))).alloc (.map #[] 0)).heap[g]? = some (cpObj A n c m' (-1)) ∧ IsMap (Value.int .i64) (((w.setCell ⟨g, 1, none⟩ (.map (some m'))).setCell ⟨g, 2, none⟩ (.int .i64 (-1))).alloc (.map #[] 0)) m' (wL l 0) ∧ Below w0.heap.size w0 (((w.setCell ⟨g, 1, none⟩ (.map (some m'))).setCell ⟨g, 2, none⟩ (.int .i64 (-1))).alloc (.map #[] 0)) := by
    rintro m' rfl
    have hsz : ((w.setCell ⟨g, 1, none⟩ (.map (some w.heap.size))).setCell ⟨g, 2, none⟩ (.int .i64 (-1))).heap.size = w.heap.size := by simp
    have hbw : Below w0.heap.size w0 ((w.setCell ⟨g, 1, none⟩ (.map (some w.heap.size))).setCell ⟨g, 2, none⟩ (.int .i64 (-1))) := Below.setCell (Below.setCell HG.out.2 hg0 _) hg0 _
    refine ⟨((MapKept.heap_alloc _ (.map #[] 0)).2 g (by rw [hsz]; exact hgw)).trans (cp_made HG.out.1 _ _), ?_, hbw.alloc hbw.size _⟩
    have := IsMap.new (Value.int .i64) ((w.setCell ⟨g, 1, none⟩ (.map (some w.heap.size))).setCell ⟨g, 2, none⟩ (.int .i64 (-1)))
    rwa [hsz] at this
  have HST := Lib.hid hst
  clear hst
  have hmm := @run_makeMap Tryd.prog
  go_enter Tryd.func67, Tryd.ntmps67
  go_wp2

  go_loopg [25] n (fun gk i wr => ∃ k : Nat, k ≤ n ∧ i = .int .i64 k ∧ gk = n - k ∧ wr.heap[g]? = some (cpObj A n c w.heap.size (-1)) ∧ IsMap (Value.int .i64) wr w.heap.size (wL l k) ∧ Below w0.heap.size w0 wr)
  case atStart => exact ⟨0, Nat.zero_le _, rfl, rfl, HST.out _ rfl⟩
  case round =>
    obtain ⟨k, hk, rfl, hgk, hO, hM, hB⟩ := hrel
    have HA := Lib.hid (And.intro hgk (And.intro hO (And.intro hM hB)))
    obtain ⟨hw0, hw1, hw2, hwf, hwg⟩ := cp_cells hO
    have hwf2 := hwf 2
    clear hgk hO hM hB hwf hc0 hc1 hc2 hf1 hf2 HG HST
    by_cases hlt : k < n
    · have hkl : k < l.length := by have := HN.out; omega
      obtain ⟨b1, o1, Ak, ck, rfl, h1, h2, h3⟩ := HR.out.at (sl_get hkl)
      have h1w := (HA.out.2.2.2.cell (p := ⟨b1, o1 + k, none⟩) (World.block_lt_of_cell? w0 _ h1)).trans h1
      have HK := Lib.hid (And.intro h3 hkl)
      clear h1 h2 h3 hkl
      have eg : ∀ args w, (callFunc 73 args).run Tryd.prog w = .ok (.enter 73 args) w := enters_of Tryd.func73 (by kernel_rfl) rfl
      have hlen := (okC_slot HOK.out HK.out.2).1
      have hlen2 := okC_len HOK.out
      have hlp : 0 < (sl l k).length := by omega
      have hl4 : (sl l k).length ≤ 4 := by omega
      have hcall : Calls Tryd.prog 72 #[.slice Ak (sl l k).length ck, .func (.func 73) #[] #[.pointer (some ⟨wr.heap.size, 0, none⟩)]] (bs wr (.slice Ak (sl l k).length ck) 41) fun e w' => e = .returned (.bool (!whole (sl l k))) ∧ Gr (bs wr (.slice Ak (sl l k).length ck) 41) w' := by
        have hRb : Row encS 3 (bs wr (.slice Ak (sl l k).length ck) 41) Ak (sl l k) := (HK.out.1.below HA.out.2.2.2).below (bs_old (Gr.refl _))
        rw [← whole_not]
        exact ContainsFuncS_calls Ak ck (sl l k) _ 73 _ _ eg (judgeP (sl l k) Ak ck wr.heap.size _ (by rw [bs_size]; omega) (bs_box (Gr.refl _)) hRb) hRb (by omega)
      have HC := Lib.hid hcall
      clear hcall hlen hlen2 eg
      rcases hwh : whole (sl l k) with _ | _
      · have HW := Lib.hid hwh
        rw [hwh] at HC
        go_wp2_with (go_at_call 72; refine HC.out.mono ?_; rintro e w1 ⟨rfl, hb⟩; have HB1 := Lib.hid hb; clear hb)
        go_roundg (n - (k + 1))
        case measure => have := HA.out.1; omega
        case rel => exact ⟨k + 1, by omega, by go_num, rfl, ((bs_old HB1.out).block g hwg).trans HA.out.2.1, by rw [wL_skip HW.out]; exact HA.out.2.2.1.below (bs_old HB1.out) HA.out.2.2.1.lt, HA.out.2.2.2.trans ((bs_old HB1.out).mono HA.out.2.2.2.size)⟩
      · have HW := Lib.hid hwh
        rw [hwh] at HC
        obtain ⟨b3, o3, rfl, hb3, h4, _, _⟩ := RowS.at (HK.out.1.below HA.out.2.2.2) hlp
        rw [hd_eq hlp] at h4
        simp only [Nat.zero_mul, Nat.add_zero] at h4
        have H4 := Lib.hid (And.intro h4 hb3)
        clear h4 hb3
        go_wp2_with (go_at_call 72; refine HC.out.mono ?_; rintro e w1 ⟨rfl, hb⟩; have HB1 := Lib.hid hb; clear hb)
        have hk1 : w1.drew.cell? ⟨g, 1, none⟩ = some (.map (some w.heap.size)) := show w1.cell? ⟨g, 1, none⟩ = _ from ((bs_old HB1.out).cell (p := ⟨g, 1, none⟩) hwg).trans hw1
        have hk2 : w1.drew.cell? ⟨wr.heap.size, 0, none⟩ = some (.slice (some ⟨b3, o3, none⟩) (sl l k).length ck) := (show w1.cell? ⟨wr.heap.size, 0, none⟩ = _ from bs_box HB1.out)
        have hk3 : w1.drew.cell? ⟨b3, o3, none⟩ = some (.int .i64 (sq l k)) := show w1.cell? ⟨b3, o3, none⟩ = _ from ((bs_old HB1.out).cell (p := ⟨b3, o3, none⟩) H4.out.2).trans H4.out.1
        have HM1 : Hid (IsMap (Value.int .i64) w1.drew w.heap.size (wL l k)) := Lib.hid (show IsMap (Value.int .i64) w1 w.heap.size (wL l k) from HA.out.2.2.1.below (bs_old HB1.out) HA.out.2.2.1.lt)
        refine start_ (n := 10) (S := fun W' => W'.cell? ⟨g, 1, none⟩ = some (.map (some w.heap.size)) ∧ W'.cell? ⟨wr.heap.size, 0, none⟩ = some (.slice (some ⟨b3, o3, none⟩) (sl l k).length ck) ∧ W'.cell? ⟨b3, o3, none⟩ = some (.int .i64 (sq l k))) (ds := [9]) #[false, false, false, false, false, false, false, false, false, false] (by kernel_rfl) rfl rfl ⟨hk1, hk2, hk3⟩ (fun hHeld => ?_)
        refine pure_ (i := 0) (N := some 34) (v := ?_) (a' := ?_) #[true, false, false, false, false, false, false, false, false, false] rfl rfl (by kernel_rfl) (fun _ _ _ h => h) (Or.inl ⟨by rfl, ?_⟩) ?_ ?_
        rotate_left
        · intro w_
          go_simp
          with_reducible rfl
        rotate_left
        · simp only [Act.put, List.setIfInBounds_toArray, List.set_cons_zero, List.set_cons_succ]
          rfl
        refine pure_ (i := 1) (N := some 35) (v := ?_) (a' := ?_) #[true, true, false, false, false, false, false, false, false, false] rfl rfl (by kernel_rfl) (fun _ _ _ h => h) (Or.inl ⟨by rfl, ?_⟩) ?_ ?_
        rotate_left
        · intro w_
          go_simp
          with_reducible rfl
        rotate_left
        · simp only [Act.put, List.setIfInBounds_toArray, List.set_cons_zero, List.set_cons_succ]
          rfl
        refine pure_ (i := 2) (N := some 36) (v := ?_) (a' := ?_) #[true, true, true, false, false, false, false, false, false, false] rfl rfl (by kernel_rfl) (fun _ _ _ h => h) (Or.inl ⟨by rfl, ?_⟩) ?_ ?_
        rotate_left
        · intro w_
          go_simp
          with_reducible rfl
        rotate_left
        · simp only [Act.put, List.setIfInBounds_toArray, List.set_cons_zero, List.set_cons_succ]
          rfl
        refine pure_ (i := 4) (N := some 38) (v := ?_) (a' := ?_) #[true, true, true, false, true, false, false, false, false, false] rfl rfl (by kernel_rfl) (fun _ _ _ h => h) (Or.inl ⟨by rfl, ?_⟩) ?_ ?_
        rotate_left
        · intro w_
          go_simp
          with_reducible rfl
        rotate_left
        · simp only [Act.put, List.setIfInBounds_toArray, List.set_cons_zero, List.set_cons_succ]
          rfl
        refine take_ (i := 3) (N := some 37) (v := ?_) (a' := ?_) #[true, true, true, true, true, false, false, false, false, false] rfl rfl (by kernel_rfl) (fun _ _ _ h => h) (Or.inl ⟨by rfl, ?_⟩) hHeld ?_ ?_
        rotate_left
        · rintro w_ ⟨s0, s1, s2⟩
          go_simp
          with_reducible rfl
        rotate_left
        · simp only [Act.put, List.setIfInBounds_toArray, List.set_cons_zero, List.set_cons_succ]
          rfl
        refine take_ (i := 5) (N := some 39) (v := ?_) (a' := ?_) #[true, true, true, true, true, true, false, false, false, false] rfl rfl (by kernel_rfl) (fun _ _ _ h => h) (Or.inl ⟨by rfl, ?_⟩) hHeld ?_ ?_
        rotate_left
        · rintro w_ ⟨s0, s1, s2⟩
          go_simp
          with_reducible rfl
        rotate_left
        · simp only [Act.put, List.setIfInBounds_toArray, List.set_cons_zero, List.set_cons_succ]
          rfl
        refine pure_ (i := 6) (N := some 40) (v := ?_) (a' := ?_) #[true, true, true, true, true, true, true, false, false, false] rfl rfl (by kernel_rfl) (fun _ _ _ h => h) (Or.inl ⟨by rfl, ?_⟩) ?_ ?_
        rotate_left
        · intro w_
          go_simp
          with_reducible rfl
        rotate_left
        · simp only [Act.put, List.setIfInBounds_toArray, List.set_cons_zero, List.set_cons_succ]
          rfl
        refine pure_ (i := 7) (N := some 41) (v := ?_) (a' := ?_) #[true, true, true, true, true, true, true, true, false, false] rfl rfl (by kernel_rfl) (fun _ _ _ h => h) (Or.inl ⟨by rfl, ?_⟩) ?_ ?_
        rotate_left
        · intro w_
          go_simp
          with_reducible rfl
        rotate_left
        · simp only [Act.put, List.setIfInBounds_toArray, List.set_cons_zero, List.set_cons_succ]
          rfl
        refine take_ (i := 8) (N := some 42) (v := ?_) (a' := ?_) #[true, true, true, true, true, true, true, true, true, false] rfl rfl (by kernel_rfl) (fun _ _ _ h => h) (Or.inl ⟨by rfl, ?_⟩) hHeld ?_ ?_
        rotate_left
        · rintro w_ ⟨s0, s1, s2⟩
          go_simp
          with_reducible rfl
        rotate_left
        · simp only [Act.put, List.setIfInBounds_toArray, List.set_cons_zero, List.set_cons_succ]
          rfl
        refine last_ (i := 9) (N := none) #[true, true, true, true, true, true, true, true, true, true] rfl rfl (by kernel_rfl) (by decide) (fun K hK => ?_)
        refine skip_ (w1 := ChangeMaps.setBlock w1.drew w.heap.size (.map (ents (Value.int .i64) (put (wL l k) k (sq l k))) (put (wL l k) k (sq l k)).length)) (by rfl) rfl ?_ ?_
        · have hrun := run_mapUpdate (P := Tryd.prog) (w := w1.drew) (ev := Value.int .i64) Tryd.underlying72 Tryd.underlying3 (m := w.heap.size) (L := wL l k) HM1.out (k : Int) (sq l k)
          unfold execOp
          simp [hrun, Act.eval, Result.andThen]
        refine hK.out _ _ ?_
        clear hK K
        refine done_ (by kernel_rfl) ?_

        go_wp2_with (fail)
        go_roundg (n - (k + 1))
        case measure => have := HA.out.1; omega
        case rel => exact ⟨k + 1, by omega, by go_num, rfl, (setBlock_other g (Nat.ne_of_lt hgw)).trans (((bs_old HB1.out).block g hwg).trans HA.out.2.1), by rw [← put_wL HW.out]; exact setBlock_same HM1.out, below_setBlock (HA.out.2.2.2.trans ((bs_old HB1.out).mono HA.out.2.2.2.size)).drew hm0⟩
    · have hkn : k = l.length := by have := HN.out; omega
      rw [hkn] at HA
      have HA2 := Lib.hid HA.out.2
      clear HA hkn
      go_wp2_with (fail)
      go_loopg [50] n (fun gk i wr => ∃ k : Nat, k ≤ n ∧ i = .int .i64 k ∧ gk = n - k ∧ wr.heap[g]? = some (cpObj A n c w.heap.size (nUpto l k)) ∧ IsMap (Value.int .i64) wr w.heap.size (wL l l.length) ∧ Below w0.heap.size w0 wr)
      case atStart => exact ⟨0, Nat.zero_le _, rfl, rfl, HA2.out⟩
      case round =>
        obtain ⟨k, hk, rfl, hgk, hO, hM, hB⟩ := hrel
        have HA := Lib.hid (And.intro hgk (And.intro hO (And.intro hM hB)))
        clear hw0 hw1 hw2 hwg hwf2
        obtain ⟨hw0, hw1, hw2, hwf, hwg⟩ := cp_cells hO
        have hwf2 := hwf 2
        have hrg := nUpto_range l k
        clear hgk hO hM hB hwf HA2
        by_cases hlt : k < n
        · have hkl : k < l.length := by have := HN.out; omega
          have hsq := okC_sq HOK.out hkl
          have htc := tops_calls g w.heap.size (sq l k) _ wr hw1 HA.out.2.2.1 hsq.1 hsq.2 (wL_range HOK.out (Nat.le_refl _))
          rw [topsB_eq] at htc
          have HT := Lib.hid htc
          have HKL := Lib.hid hkl
          clear htc hsq hkl
          rcases hwh : whole (sl l k) with _ | _
          · have HW := Lib.hid hwh
            have hlk := look72_no HA.out.2.2.1 (look_no (k := l.length) hwh)
            go_wp2_with (fail)
            go_roundg (n - (k + 1))
            case measure => have := HA.out.1; omega
            case rel => exact ⟨k + 1, by omega, by go_num, rfl, by rw [nUpto_skip HW.out]; exact HA.out.2⟩
          · have HW := Lib.hid hwh
            have hlk := look72_ok HA.out.2.2.1 (look_yes HKL.out hwh)
            rcases htp : tops l k with _ | _
            · have HTP := Lib.hid htp
              rw [htp] at HT
              go_wp2_with (go_at_call 74; refine HT.out.mono ?_; rintro e w1 ⟨rfl, hb⟩; have HB1 := Lib.hid (show Gr wr w1 from hb); clear hb)
              go_roundg (n - (k + 1))
              case measure => have := HA.out.1; omega
              case rel => exact ⟨k + 1, by omega, by go_num, rfl, by rw [nUpto_notop HW.out HTP.out]; exact (HB1.out.block g hwg).trans HA.out.2.1, HA.out.2.2.1.below HB1.out HA.out.2.2.1.lt, HA.out.2.2.2.trans (HB1.out.mono HA.out.2.2.2.size)⟩
            · have HTP := Lib.hid htp
              rw [htp] at HT
              by_cases hneg : nUpto l k < 0
              · have HNEG := Lib.hid hneg
                go_wp2_with (go_at_call 74; refine HT.out.mono ?_; rintro e w1 ⟨rfl, hb⟩; have HB1 := Lib.hid (show Gr wr w1 from hb); have hx2 := (hb.cell (p := ⟨g, 2, none⟩) hwg).trans hw2; have hxf := (hb.frozen (p := ⟨g, 2, none⟩) hwg).trans hwf2; have hxs := Nat.lt_of_lt_of_le hwg hb.size; clear hb)
                go_roundg (n - (k + 1))
                case measure => have := HA.out.1; omega
                case rel => exact ⟨k + 1, by omega, by go_num, rfl, by rw [nUpto_next HW.out HNEG.out, if_pos HTP.out]; exact cp_set ((HB1.out.block g hwg).trans HA.out.2.1), (HA.out.2.2.1.below HB1.out HA.out.2.2.1.lt).keep (Below.heap_setCell _ _ _ _ (by simp; omega)), Below.setCell (HA.out.2.2.2.trans (HB1.out.mono HA.out.2.2.2.size)) hg0 _⟩
              · have HNEG := Lib.hid hneg
                go_wp2_with (go_at_call 74; refine HT.out.mono ?_; rintro e w1 ⟨rfl, hb⟩; have HB1 := Lib.hid (show Gr wr w1 from hb); have hx2 := (hb.cell (p := ⟨g, 2, none⟩) hwg).trans hw2; have hxf := (hb.frozen (p := ⟨g, 2, none⟩) hwg).trans hwf2; have hxs := Nat.lt_of_lt_of_le hwg hb.size; clear hb)
                go_roundg (n - (k + 1))
                case measure => have := HA.out.1; omega
                case rel => exact ⟨k + 1, by omega, by go_num, rfl, by rw [nUpto_had (eq_false (by have := HNEG.out; omega))]; exact (HB1.out.block g hwg).trans HA.out.2.1, HA.out.2.2.1.below HB1.out HA.out.2.2.1.lt, HA.out.2.2.2.trans (HB1.out.mono HA.out.2.2.2.size)⟩
        · have hkn : k = l.length := by have := HN.out; omega
          rw [hkn] at HA hw2 hrg
          have HA2 := Lib.hid HA.out.2
          clear HA hkn
          change wr.cell? ⟨g, 2, none⟩ = some (.int .i64 (newI l)) at hw2
          change -1 ≤ newI l ∧ newI l < (l.length : Int) at hrg
          go_wp2_with (at_range; refine wp_range rfl _ 72 _ _ rfl Tryd.underlying72 w.heap.size (wL l l.length) rfl HA2.out.2.1 HA2.out.2.2 HA2.out.2.2.size ?_; intro w2 H2)
          have HI := Lib.hid (And.intro H2.out.1 (And.intro H2.out.2.1 (And.intro (((H2.out.2.2.2.1).block g hwg (by simp)).trans HA2.out.1) H2.out.2.2.1)))
          have hR0 : w0.heap.size ≤ wr.heap.size := HA2.out.2.2.size
          have hgR : g < wr.heap.size := hwg
          have hnew := hrg.1
          clear H2 HA2 hw0 hw1 hw2 hwg hwf2 hrg
          generalize wr.heap.size = R at *
          go_frame
          go_loopg [8, 9] (wL l l.length).length (fun gk v v' wq => ∃ rest, IsIter wq R w.heap.size (wL l l.length).length rest ∧ IsMap (Value.int .i64) wq w.heap.size (wL l l.length) ∧ wq.heap[g]? = some (cpObj A n c w.heap.size (newI l)) ∧ Below w0.heap.size w0 wq ∧ rest.length = gk ∧ ∀ i p, (wL l l.length)[i]? = some p → ¬ i ∈ rest → ∀ q ∈ wL l l.length, pairOk l p q = true)
          case atStart => exact ⟨_, HI.out.1, HI.out.2.1, HI.out.2.2.1, HI.out.2.2.2, by simp, rest_start⟩
          case round =>
            obtain ⟨rest, hr⟩ := hrel
            have HRE := Lib.hid hr
            obtain ⟨hw0, hw1, hw2, hwf, hwg⟩ := cp_cells hr.2.2.1
            clear hr HI hwf
            go_wp2_with (first
              | (at_next; refine wp_next rfl _ rfl _ w.heap.size (wL l l.length) rest rfl HRE.out.2.1 HRE.out.1 HRE.out.2.2.2.1 hR0 (fun HE => ?_) (fun i k v w' H hen => ?_); all_goals (first
                | (obtain ⟨s, e, hs, hws⟩ := wL_mem (List.mem_of_getElem? H.out.1); obtain ⟨rfl, rfl⟩ := Prod.mk.inj e; have HS := Lib.hid (And.intro hs hws); clear e hs hws
                   obtain ⟨hx0, hx1, hx2, hxf, hxg⟩ := cp_cells ((H.out.2.2.2.2.2.2.block g hwg (by simp; omega)).trans HRE.out.2.2.1); clear hxf)
                | (have hlen := len72 HRE.out.2.1; generalize hN : (wL l l.length).length = N at hlen; have HNN := Lib.hid hN; clear hN
                   by_cases hge : 0 ≤ newI l
                   rotate_left
                   by_cases hN0 : N = 0)))
              | (at_range; refine wp_range rfl _ 72 _ _ rfl Tryd.underlying72 w.heap.size (wL l l.length) rfl H.out.2.2.2.1 H.out.2.2.2.2.1 H.out.2.2.2.2.1.size ?_; intro w2 H2))
            · go_ret
              obtain rfl := HE.out
              have hcl := gclash_no (rest_all HRE.out.2.2.2.2.2)
              exact ⟨rb (by rw [mixed_none hcl (by omega), HNN.out, hN0]; rfl), _, hm0, HRE.out.2.2.1, HRE.out.2.1, HRE.out.2.2.2.1⟩
            · go_ret
              obtain rfl := HE.out
              have hcl := gclash_no (rest_all HRE.out.2.2.2.2.2)
              exact ⟨rb (by rw [mixed_none hcl (by omega), HNN.out]; simp [hN0]), _, hm0, HRE.out.2.2.1, HRE.out.2.1, HRE.out.2.2.2.1⟩
            · go_ret
              obtain rfl := HE.out
              have hcl := gclash_no (rest_all HRE.out.2.2.2.2.2)
              exact ⟨rb (by rw [mixed_some hcl (by omega)]; rfl), _, hm0, HRE.out.2.2.1, HRE.out.2.1, HRE.out.2.2.2.1⟩
            · have HI := Lib.hid (And.intro H2.out.1 (And.intro H2.out.2.1 (And.intro ((H2.out.2.2.2.1.block g hxg (by simp)).trans ((H.out.2.2.2.2.2.2.block g hwg (by simp; omega)).trans HRE.out.2.2.1)) (And.intro H2.out.2.2.1 (And.intro H.out.1 (And.intro H.out.2.1 (H.out.2.2.1.keep (H2.out.2.2.2.1.block R H.out.2.2.1.lt (by simp)))))))))
              have hR2 : w0.heap.size ≤ w'.heap.size := H.out.2.2.2.2.1.size
              have hgR2 : g < w'.heap.size := hxg
              have hRR : R < w'.heap.size := H.out.2.2.1.lt
              clear H H2 hx0 hx1 hx2 hxg hw0 hw1 hw2 hwg hen
              generalize w'.heap.size = R2 at *
              go_frame
              go_loopg [10, 11] (wL l l.length).length (fun gk v v' wq => ∃ rest2, IsIter wq R2 w.heap.size (wL l l.length).length rest2 ∧ IsIter wq R w.heap.size (wL l l.length).length (rest.filter (· != i)) ∧ IsMap (Value.int .i64) wq w.heap.size (wL l l.length) ∧ wq.heap[g]? = some (cpObj A n c w.heap.size (newI l)) ∧ Below w0.heap.size w0 wq ∧ rest2.length = gk ∧ ∀ j q, (wL l l.length)[j]? = some q → ¬ j ∈ rest2 → pairOk l ((s : Int), sq l s) q = true)
              case atStart => exact ⟨_, HI.out.1, HI.out.2.2.2.2.2.2, HI.out.2.1, HI.out.2.2.1, HI.out.2.2.2.1, by simp, rest_start⟩
              case round =>
                obtain ⟨rest2, hr⟩ := hrel
                have HR2 := Lib.hid hr
                have HI2 := Lib.hid HI.out.2.2.2.2
                obtain ⟨hw0, hw1, hw2, hwf, hwg⟩ := cp_cells hr.2.2.2.1
                clear hr HI hwf
                go_wp2_with (first
                  | (at_next; refine wp_next rfl _ rfl _ w.heap.size (wL l l.length) rest2 rfl HR2.out.2.2.1 HR2.out.1 HR2.out.2.2.2.2.1 hR2 (fun HE => ?_) (fun i2 k v w' H hen => ?_); all_goals (try (obtain ⟨s2, e, hs, hws⟩ := wL_mem (List.mem_of_getElem? H.out.1); obtain ⟨rfl, rfl⟩ := Prod.mk.inj e; have HS2 := Lib.hid (And.intro hs hws); clear e hs hws; have HG2 := Lib.hid ((H.out.2.2.2.2.2.2.block g hwg (by simp; omega)).trans HR2.out.2.2.2.1); have HTB := Lib.hid (rfl : (tab (sl l s) == tab (sl l s2)) = (tab (sl l s) == tab (sl l s2))); rcases hsq : (sq l s == sq l s2) with _ | _; rotate_left; rcases htb : (tab (sl l s) == tab (sl l s2)) with _ | _)))
                  | (go_at_call_of 41 s; refine (gtable_calls g A n c s l w' (cp_cells HG2.out).1 HN.out (HR.out.below H.out.2.2.2.2.1) HS.out.1 (by have := okC_slot HOK.out HS.out.1; have := okC_len HOK.out; omega)).mono ?_; rintro e w3 ⟨⟨v1, rfl, hO⟩, hb⟩; obtain ⟨A1, c1, rfl, hr1, hc1⟩ := hO.row encI_len; have HQ1 := Lib.hid (And.intro hr1 (show Gr w' w3 from hb)); clear hO hr1 hc1 hb)
                  | (go_at_call 41; refine (gtable_calls g A n c s2 l w3 (cp_cells ((HQ1.out.2.block g (cp_cells HG2.out).2.2.2.2).trans HG2.out)).1 HN.out (HR.out.below (H.out.2.2.2.2.1.trans (HQ1.out.2.mono H.out.2.2.2.2.1.size))) HS2.out.1 (by have := okC_slot HOK.out HS2.out.1; have := okC_len HOK.out; omega)).mono ?_; rintro e w4 ⟨⟨v1, rfl, hO⟩, hb⟩; obtain ⟨A2, c2, rfl, hr1, hc1⟩ := hO.row encI_len; have HQ2 := Lib.hid (And.intro hr1 (And.intro (HQ1.out.1.below hb) (HQ1.out.2.step hb))); clear hO hr1 hc1 hb)
                  | (go_at_call 43; refine (Equal_calls _ _ _ _ _ _ w4 HQ2.out.2.1 HQ2.out.1).mono ?_; rintro e w5 ⟨rfl, hb⟩; rw [htb]; have HQ3 := Lib.hid (HQ2.out.2.2.step hb); clear hb))
                · obtain rfl := HE.out
                  go_roundg (rest.filter (· != i)).length
                  case measure => have := rest_less HI2.out.2.1; have := HRE.out.2.2.2.2.1; omega
                  case rel => exact ⟨_, HR2.out.2.1, HR2.out.2.2.1, HR2.out.2.2.2.1, HR2.out.2.2.2.2.1, rfl, rest_step HRE.out.2.2.2.2.2 HI2.out.1 (rest_all HR2.out.2.2.2.2.2.2)⟩
                · go_ret
                  have hcl := gclash_yes (List.mem_of_getElem? HI2.out.1) (List.mem_of_getElem? H.out.1) (by simp [pairOk, hsq, htb])
                  exact ⟨rb (by rw [mixed_clash hcl]; rfl), _, hm0, (HQ3.out.block g (cp_cells HG2.out).2.2.2.2).trans HG2.out, H.out.2.2.2.1.below HQ3.out H.out.2.2.2.1.lt, H.out.2.2.2.2.1.trans (HQ3.out.mono H.out.2.2.2.2.1.size)⟩
                · go_roundg (rest2.filter (· != i2)).length
                  case measure => have := rest_less H.out.2.1; have := HR2.out.2.2.2.2.2.1; omega
                  case rel =>
                    have hIR := HR2.out.2.1.keep (H.out.2.2.2.2.2.2.block R HR2.out.2.1.lt (by simp; omega))
                    exact ⟨_, H.out.2.2.1.below HQ3.out H.out.2.2.1.lt, hIR.below HQ3.out hIR.lt, H.out.2.2.2.1.below HQ3.out H.out.2.2.2.1.lt, (HQ3.out.block g (cp_cells HG2.out).2.2.2.2).trans HG2.out, H.out.2.2.2.2.1.trans (HQ3.out.mono H.out.2.2.2.2.1.size), rfl, rest_step HR2.out.2.2.2.2.2.2 H.out.1 (by simp [pairOk, htb])⟩
                · go_roundg (rest2.filter (· != i2)).length
                  case measure => have := rest_less H.out.2.1; have := HR2.out.2.2.2.2.2.1; omega
                  case rel => exact ⟨_, H.out.2.2.1, HR2.out.2.1.keep (H.out.2.2.2.2.2.2.block R HR2.out.2.1.lt (by simp; omega)), H.out.2.2.2.1, HG2.out, H.out.2.2.2.2.1, rfl, rest_step HR2.out.2.2.2.2.2.2 H.out.1 (by simp [pairOk, hsq])⟩
end Go.Proofs.YtcpglghklmfbcaaDoor.T
