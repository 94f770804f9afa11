import Derived.Test.YtcpglghklmfbcaaDoorT16
namespace Go.Proofs.YtcpglghklmfbcaaDoor.T
open Go Go.RowKit Go.Proofs.YtcpglghklmfbcaaDoor.M Go.Proofs.YtcpglghklmfbcaaDoor.R
set_option linter.unusedVariables false
set_option linter.unusedSimpArgs false

theorem place_none {β : Type} {L : List (Int × β)} {k : Int} (h : ∀ p ∈ L, p.1 ≠ k) : place L k = none := by
  unfold place
  rw [List.findIdx?_eq_none_iff]
  intro p hp
  simpa using h p hp
theorem look_none {β : Type} {L : List (Int × β)} {k : Int} (h : ∀ p ∈ L, p.1 ≠ k) : M.look L k = none := by rw [M.look, place_none h]; rfl
theorem put_new {β : Type} {L : List (Int × β)} {k : Int} {v : β} (h : ∀ p ∈ L, p.1 ≠ k) : put L k v = L ++ [(k, v)] := by rw [put, place_none h]
theorem look_mem {β : Type} {L : List (Int × β)} {k : Int} {v : β} (hm : (k, v) ∈ L) (hu : ∀ u, (k, u) ∈ L → u = v) : M.look L k = some v := by
  unfold M.look
  cases h : place L k with
  | none =>
    unfold place at h
    rw [List.findIdx?_eq_none_iff] at h
    have := h _ hm
    simp at this
  | some j =>
    obtain ⟨u, hj⟩ := place_some h
    have := hu u (List.mem_of_getElem? hj)
    simp [hj, this]

/-- What the program keeps of the whole slots below k: their numbers and Seqs. -/
def wL (l : Cop) (k : Nat) : List (Int × Int) := (wUpto l k).map fun (s : Nat) => ((s : Int), sq l s)
theorem wUpto_mem {l : Cop} {k s : Nat} : s ∈ wUpto l k ↔ s < k ∧ whole (sl l s) = true := by simp [wUpto]
theorem wL_mem {l : Cop} {k : Nat} {p : Int × Int} (h : p ∈ wL l k) : ∃ s : Nat, p = ((s : Int), sq l s) ∧ s < k ∧ whole (sl l s) = true := by
  obtain ⟨s, hs, rfl⟩ := List.mem_map.1 h
  exact ⟨s, rfl, wUpto_mem.1 hs⟩
theorem mem_wL {l : Cop} {k s : Nat} (h : s < k) (hw : whole (sl l s) = true) : ((s : Int), sq l s) ∈ wL l k := List.mem_map.2 ⟨s, wUpto_mem.2 ⟨h, hw⟩, rfl⟩
theorem look_yes {l : Cop} {k s : Nat} (h : s < k) (hw : whole (sl l s) = true) : M.look (wL l k) s = some (sq l s) := by
  refine look_mem (mem_wL h hw) fun u hu => ?_
  obtain ⟨t, e, _⟩ := wL_mem hu
  simp only [Prod.mk.injEq] at e
  obtain ⟨e1, rfl⟩ := e
  rw [Int.ofNat_inj.1 e1]
theorem look_no {l : Cop} {k s : Nat} (hw : whole (sl l s) = false) : M.look (wL l k) s = none := by
  refine look_none fun p hp => ?_
  obtain ⟨t, rfl, _, ht⟩ := wL_mem hp
  intro e
  simp only at e
  have : t = s := by omega
  subst this
  rw [hw] at ht
  cases ht
theorem put_wL {l : Cop} {k : Nat} (hw : whole (sl l k) = true) : put (wL l k) (k : Int) (sq l k) = wL l (k + 1) := by
  rw [put_new, wL, wL, wUpto_succ_yes hw, List.map_append]; rfl
  intro p hp e
  obtain ⟨t, rfl, h, _⟩ := wL_mem hp
  simp only at e
  omega
theorem wL_skip {l : Cop} {k : Nat} (hw : whole (sl l k) = false) : wL l (k + 1) = wL l k := by rw [wL, wL, wUpto_succ_no hw]
theorem wL_range {l : Cop} (h : okC l = true) {k : Nat} (hk : k ≤ l.length) : ∀ p ∈ wL l k, 0 ≤ p.2 ∧ p.2 ≤ 63 := by
  intro p hp
  obtain ⟨s, rfl, h1, _⟩ := wL_mem hp
  exact okC_sq h (by omega)
theorem wL_len (l : Cop) (k : Nat) : (wL l k).length ≤ k := by rw [wL, List.length_map]; exact wUpto_len l k
theorem topsB_eq (l : Cop) (s : Nat) : topsB (wL l l.length) (sq l s) = tops l s := by simp [topsB, wL, tops, wN, List.all_map, Function.comp_def]
theorem aheadB_eq (l : Cop) (n but : Int) : aheadB (wL l l.length) n but = ahead l n but := by simp [aheadB, wL, ahead, wN, List.all_map, Function.comp_def]

/-- The newest of the whole slots below k; -1: none. -/
def nUpto (l : Cop) (k : Nat) : Int := match (wUpto l k).find? (tops l) with | some s => s | none => -1
def newI (l : Cop) : Int := nUpto l l.length
theorem nUpto_range (l : Cop) (k : Nat) : -1 ≤ nUpto l k ∧ nUpto l k < k := by
  unfold nUpto
  cases h : (wUpto l k).find? (tops l) with
  | none => simp; omega
  | some s =>
    have := (wUpto_mem.1 (List.mem_of_find?_eq_some h)).1
    simp
    omega
theorem nUpto_skip {l : Cop} {k : Nat} (hw : whole (sl l k) = false) : nUpto l (k + 1) = nUpto l k := by rw [nUpto, nUpto, wUpto_succ_no hw]
theorem nUpto_had {l : Cop} {k : Nat} (h : (nUpto l k < 0) = False) : nUpto l (k + 1) = nUpto l k := by
  unfold nUpto at h ⊢
  cases hw : whole (sl l k)
  · rw [wUpto_succ_no hw]
  · rw [wUpto_succ_yes hw, List.find?_append]
    cases e : (wUpto l k).find? (tops l) with
    | none => rw [e] at h; simp at h
    | some s => rfl
theorem nUpto_next {l : Cop} {k : Nat} (hw : whole (sl l k) = true) (h : nUpto l k < 0) : nUpto l (k + 1) = if tops l k = true then (k : Int) else nUpto l k := by
  unfold nUpto at h ⊢
  rw [wUpto_succ_yes hw, List.find?_append]
  cases e : (wUpto l k).find? (tops l) with
  | none => cases ht : tops l k <;> simp [ht]
  | some s => rw [e] at h; simp at h; omega
theorem newI_some {l : Cop} {s : Nat} (h : newest l = some s) : newI l = s := by
  unfold newI nUpto
  rw [show (wUpto l l.length).find? (tops l) = some s from h]
theorem newI_none {l : Cop} (h : newest l = none) : newI l = -1 := by
  unfold newI nUpto
  rw [show (wUpto l l.length).find? (tops l) = none from h]

theorem whole_not (l : List Sec) : (l.any fun x => x.bad || x.seq != hd l) = !whole l := by
  unfold whole
  rw [List.not_all_eq_any_not]
  congr 1
  funext x
  cases x.bad <;> simp [bne]
def pairOk (l : Cop) (p q : Int × Int) : Bool := !(p.2 == q.2 && !(tab (sl l p.1.toNat) == tab (sl l q.1.toNat)))
theorem clash_iff (l : Cop) : clash l = !((wL l l.length).all fun p => (wL l l.length).all fun q => pairOk l p q) := by
  simp only [clash, wL, wN, List.all_map, Function.comp_def, clashP, pairOk, Int.toNat_natCast, List.not_all_eq_any_not, Bool.not_not]
theorem gclash_no {l : Cop} (h : ∀ p ∈ wL l l.length, ∀ q ∈ wL l l.length, pairOk l p q = true) : clash l = false := by
  rw [clash_iff]
  simp only [Bool.not_eq_false']
  exact List.all_eq_true.2 fun p hp => List.all_eq_true.2 fun q hq => h p hp q hq
theorem gclash_yes {l : Cop} {p q : Int × Int} (hp : p ∈ wL l l.length) (hq : q ∈ wL l l.length) (h : pairOk l p q = false) : clash l = true := by
  rw [clash_iff]
  simp only [Bool.not_eq_true']
  exact List.all_eq_false.2 ⟨p, hp, by rw [Bool.not_eq_true]; exact List.all_eq_false.2 ⟨q, hq, by simp [h]⟩⟩
theorem mixed_clash {l : Cop} (h : clash l = true) : mixed l = true := by simp [mixed, h]
theorem mixed_some {l : Cop} (h : clash l = false) (hn : ¬ newI l < 0) : mixed l = false := by
  cases e : newest l with
  | none => rw [newI_none e] at hn; simp at hn
  | some s => simp [mixed, h, e]
theorem mixed_none {l : Cop} (h : clash l = false) (hn : newI l < 0) : mixed l = !(((wL l l.length).length : Int) == 0) := by
  cases e : newest l with
  | none =>
    rw [wL, List.length_map]
    show (clash l || (!(wUpto l l.length).isEmpty && (newest l).isNone)) = _
    rw [h, e]
    cases wUpto l l.length with
    | nil => rfl
    | cons a b => simp; omega
  | some s => rw [newI_some e] at hn; omega
end Go.Proofs.YtcpglghklmfbcaaDoor.T
