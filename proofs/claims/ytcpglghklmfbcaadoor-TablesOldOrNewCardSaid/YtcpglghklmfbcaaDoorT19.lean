import Derived.Test.YtcpglghklmfbcaaDoorT18
import Derived.Test.YtcpglghklmfbcaaDoorT9
namespace Go.Proofs.YtcpglghklmfbcaaDoor.T
open Go Go.RowKit Go.Proofs.YtcpglghklmfbcaaDoor.M Go.Proofs.YtcpglghklmfbcaaDoor.R
set_option linter.unusedVariables false
set_option linter.unusedSimpArgs false

/-- Block g holds opened copies. -/
def Opened (w : World) (g m : Nat) (A : Option Addr) (n c : Nat) (l : Cop) : Prop := w.heap[g]? = some (cpObj A n c m (newI l)) ∧ IsMap (Value.int .i64) w m (wL l l.length)
theorem Opened.below {w w' : World} {g m : Nat} {A : Option Addr} {n c : Nat} {l : Cop} (h : Opened w g m A n c l) (hb : Gr w w') : Opened w' g m A n c l :=
  ⟨(hb.block g (cp_cells h.1).2.2.2.2).trans h.1, h.2.below hb h.2.lt⟩
/-- What 'open' leaves. -/
def RetO (w : World) (A : Option Addr) (n c : Nat) (l : Cop) (e : Ending) (w' : World) : Prop :=
  Below w.heap.size w w' ∧ (checkM l = 0 → ∃ g m, w.heap.size ≤ g ∧ w.heap.size ≤ m ∧ e = .returned (.tuple #[.pointer (some ⟨g, 0, none⟩), .int .i64 0]) ∧ Opened w' g m A n c l) ∧ (checkM l ≠ 0 → e = .returned (.tuple #[.pointer none, .int .i64 (checkM l)]))
theorem RetO.err {w w' : World} {A : Option Addr} {n c : Nat} {l : Cop} {k : Int} (hb : Below w.heap.size w w') (h : checkM l = k) (hk : k ≠ 0) : RetO w A n c l (.returned (.tuple #[.pointer none, .int .i64 k])) w' :=
  ⟨hb, fun e => absurd (h.symm.trans e) hk, fun _ => by rw [h]⟩
theorem RetO.ok {w w' : World} {A : Option Addr} {n c : Nat} {l : Cop} {g m : Nat} (hb : Below w.heap.size w w') (h : checkM l = 0) (hg : w.heap.size ≤ g) (hm : w.heap.size ≤ m) (ho : Opened w' g m A n c l) : RetO w A n c l (.returned (.tuple #[.pointer (some ⟨g, 0, none⟩), .int .i64 0])) w' :=
  ⟨hb, fun _ => ⟨g, m, hg, hm, rfl, ho⟩, fun e => absurd h e⟩

theorem open_calls (A : Option Addr) (n c : Nat) (l : Cop) (w : World) (hn : n = l.length) (hR : Row2 encS 3 w A l) (hs : small l) (hbad : IsBad w) :
    Calls Tryd.prog 40 #[.agg #[.slice A n c]] w (RetO w A n c l) := by
  have HR := Lib.hid hR
  have HS := Lib.hid hs
  have HN := Lib.hid hn
  have HBA := Lib.hid hbad
  clear hR hs hn hbad
  rcases h1 : okC l with _ | _
  · have e : checkE l = 100 := by simp [checkE, h1]
    have e2 : checkM l = 100 := by simp [checkM, h1]
    have HE := Lib.hid (And.intro e e2)
    clear e e2 h1
    go_enter Tryd.func40, Tryd.ntmps40
    go_wp2_with (go_at_call 22; refine (gCheck_calls _ _ _ l _ HN.out (HR.out.below ((Below.refl _ _).alloc (Nat.le_refl _) _)) HS.out (HBA.out.below ((Below.refl w.heap.size w).alloc (Nat.le_refl _) _) HBA.out.lt)).mono ?_; rintro e w1 ⟨rfl, hb⟩; rw [HE.out.1]; have HB := Lib.hid (show Gr (bs w (.slice A n c) 24) w1 from hb); clear hb)
    go_ret2
    exact RetO.err (bs_old HB.out) HE.out.2 (by decide)
  · have e : checkE l = 0 := by simp [checkE, h1]
    have HO := Lib.hid h1
    clear h1
    have HE := Lib.hid e
    clear e
    have hj : ∀ w1, Gr (bs w (.slice A n c) 24) w1 → Calls Tryd.prog 67 #[.pointer (some ⟨w1.heap.size, 0, none⟩)] (w1.alloc (.cells #[.slice A n c, .map none, .int .i64 0] 74)) (RetJ w w1.heap.size A n c l) := fun w1 hb =>
      judge_calls w1.heap.size A n c l _ _ w _ (MapKept.heap_alloc w1 _).1 ((bs_old hb).alloc _) (bs_old hb).size HN.out HR.out HO.out
    have HJ := Lib.hid hj
    clear hj
    rcases h2 : mixed l with _ | _
    all_goals
      have e2 : checkM l = if mixed l then 101 else 0 := by simp [checkM, HO.out]
      rw [h2] at e2
      have HE2 := Lib.hid e2
      clear e2
      have HM := Lib.hid h2
      clear h2
      go_enter Tryd.func40, Tryd.ntmps40
      go_wp2_with (first
        | (go_at_call 22; refine (gCheck_calls _ _ _ l _ HN.out (HR.out.below ((Below.refl _ _).alloc (Nat.le_refl _) _)) HS.out (HBA.out.below ((Below.refl w.heap.size w).alloc (Nat.le_refl _) _) HBA.out.lt)).mono ?_; rintro e w1 ⟨rfl, hb⟩; rw [HE.out]; have hbox := bs_box hb; have HB := Lib.hid (show Gr (bs w (.slice A n c) 24) w1 from hb); clear hb)
        | (go_at_call 67; refine (HJ.out _ HB.out).mono ?_; rintro e w2 ⟨rfl, hb⟩; rw [HM.out]; have HB2 := Lib.hid hb; clear hb))
      go_ret2
    · obtain ⟨m, hm, h3, h4, h5⟩ := HB2.out
      exact RetO.ok h5 HE2.out (bs_old HB.out).size hm ⟨h3, h4⟩
    · obtain ⟨m, hm, h3, h4, h5⟩ := HB2.out
      exact RetO.err h5 HE2.out (by decide)
end Go.Proofs.YtcpglghklmfbcaaDoor.T
