/- Copies of which some slots are written anew: what Recover says. -/
import Derived.Test.YtcpglghklmfbcaaDoorV3
import Derived.Test.YtcpglghklmfbcaaDoorT23
namespace Go.Proofs.YtcpglghklmfbcaaDoor.T
set_option linter.unusedVariables false
set_option linter.unusedSimpArgs false

theorem nself (a : Int) : newerB a a = false := by simp [newerB]
theorem nanti {a b : Int} (h : newerB a b = true) : newerB b a = false := by
  simp only [newerB, decide_eq_true_eq, decide_eq_false_iff_not] at h ⊢
  omega
theorem nne {a b : Int} (h : newerB a b = true) : a ≠ b := by
  rintro rfl
  rw [nself] at h
  cases h
/-- Each slot is as before (and its number is older than n), or not whole, or holds the table T with number n. -/
structure Wr (y l : Cop) (n : Int) (T : List Int) : Prop where
  len : y.length = l.length
  ok : okC y = true
  prt : parts y = parts l
  sub : ∀ s, s < l.length → (sl y s = sl l s ∧ (whole (sl l s) = true → newerB n (sq l s) = true)) ∨ whole (sl y s) = false ∨ (sq y s = n ∧ tab (sl y s) = T)
section
variable {y l : Cop} {n : Int} {T : List Int}
theorem Wr.kind (h : Wr y l n T) {s : Nat} (hs : s ∈ wN y) : (s < l.length ∧ s ∈ wN l ∧ sl y s = sl l s ∧ sq y s = sq l s ∧ newerB n (sq l s) = true) ∨ (sq y s = n ∧ tab (sl y s) = T) := by
  obtain ⟨h1, h2⟩ := wN_lt hs
  rw [h.len] at h1
  rcases h.sub s h1 with ⟨e, e2⟩ | e | e
  · refine Or.inl ⟨h1, wUpto_mem.2 ⟨h1, by rw [← e]; exact h2⟩, e, by unfold sq; rw [e], e2 (by rw [← e]; exact h2)⟩
  · rw [e] at h2; cases h2
  · exact Or.inr e
theorem Wr.toSub (h : Wr y l n T) (hno : ∀ s ∈ wN y, ¬ (sq y s = n ∧ tab (sl y s) = T)) : Sub y l :=
  ⟨h.len, h.ok, h.prt, fun s hs => by
    rcases h.sub s hs with ⟨e, _⟩ | e | e
    · exact Or.inl e
    · exact Or.inr e
    · cases hw : whole (sl y s) with
      | false => exact Or.inr rfl
      | true => exact absurd e (hno s (wUpto_mem.2 ⟨by rw [h.len]; exact hs, hw⟩))⟩
theorem Wr.top (h : Wr y l n T) {f : Nat} (hf : sq y f = n) : tops y f = true := by
  refine List.all_eq_true.2 fun k hk => ?_
  rw [hf]
  rcases h.kind hk with ⟨_, _, _, e, e2⟩ | e
  · rw [e]; simp [okB, e2]
  · rw [e.1]; simp [okB]
theorem Wr.check0 (h : Wr y l n T) (hcm : checkM l = 0) : checkM y = 0 := by
  by_cases hex : ∃ s ∈ wN y, sq y s = n ∧ tab (sl y s) = T
  · obtain ⟨f, hf, hf2⟩ := hex
    have hcl := mixed_clash_false (checkM_ok hcm).2
    have hy : clash y = false := by
      unfold clash
      refine List.any_eq_false.2 fun i hi => ?_
      rw [Bool.not_eq_true]
      refine List.any_eq_false.2 fun k hk => ?_
      unfold clashP
      rcases h.kind hi with ⟨_, a1, a2, a3, a4⟩ | a
      · rcases h.kind hk with ⟨_, b1, b2, b3, b4⟩ | b
        · rw [a2, b2, a3, b3]
          by_cases e : sq l i = sq l k
          · simp [e, clash_false hcl a1 b1 e]
          · simp [e]
        · rw [a3, b.1]
          have := nne a4
          simp [Ne.symm this]
      · rcases h.kind hk with ⟨_, b1, b2, b3, b4⟩ | b
        · rw [a.1, b3]
          have := nne b4
          simp [this]
        · simp [a.2, b.2]
    have hm : mixed y = false := by
      unfold mixed
      rw [hy, Bool.false_or]
      cases e3 : newest y with
      | some _ => simp
      | none => exact absurd (h.top hf2.1) (List.find?_eq_none.1 e3 f hf)
    unfold checkM
    rw [h.ok, hm]
    rfl
  · exact (h.toSub fun s hs hh => hex ⟨s, hs, hh⟩).check0 hcm
/-- A slot is written: the table is the new one. -/
theorem Wr.new (h : Wr y l n T) (hcm : checkM l = 0) {f : Nat} (hf : f ∈ wN y) (hf2 : sq y f = n ∧ tab (sl y f) = T) : ∃ t : Nat, t < l.length ∧ newest y = some t ∧ sq y t = n ∧ recover y = (T, (t : Int), 0) := by
  have hy := h.check0 hcm
  obtain ⟨t, ht⟩ := newest_of_whole hy ⟨f, (wN_lt hf).1, (wN_lt hf).2⟩
  have hlt := newest_lt ht
  have htm : t ∈ wN y := wUpto_mem.2 hlt
  have h1 := newest_tops ht (wN_lt hf).1 (wN_lt hf).2
  rw [hf2.1] at h1
  rcases h.kind htm with ⟨_, _, _, e, e2⟩ | e
  · exfalso
    rw [e] at h1
    simp only [okB, Bool.or_eq_true, beq_iff_eq] at h1
    rcases h1 with h1 | h1
    · exact nne e2 h1
    · rw [nanti e2] at h1; cases h1
  · exact ⟨t, by rw [← h.len]; exact hlt.1, ht, e.1, by rw [recover_some hy ht, e.2]⟩
end
/-- One slot (not the newest one) is lost, the others are as before: the table is the same. -/
theorem Sub.same_table {y l : Cop} {s : Nat} (h : Sub y l) (hcm : checkM l = 0) (hs : whole (sl y s) = false) (hoth : ∀ i, i < l.length → i ≠ s → sl y i = sl l i) (hown : ∀ o, newest l = some o → o ≠ s) :
    (recover y).1 = (recover l).1 ∧ (recover y).2.2 = (recover l).2.2 := by
  have hy := h.check0 hcm
  have hcl := mixed_clash_false (checkM_ok hcm).2
  cases ho : newest l with
  | none =>
    have hyn : newest y = none := by
      cases e : newest y with
      | none => rfl
      | some t =>
        exfalso
        have ht := newest_lt e
        have hm := (h.same (wUpto_mem.2 ht : t ∈ wN y)).2.2
        obtain ⟨o, ho'⟩ := newest_of_whole hcm ⟨t, (wN_lt hm).1, (wN_lt hm).2⟩
        rw [ho] at ho'
        cases ho'
    rw [recover_none hy hyn, recover_none hcm ho]
    exact ⟨rfl, rfl⟩
  | some o =>
    have hol := newest_lt ho
    have hne := hown o ho
    have hoy : o ∈ wN y := wUpto_mem.2 ⟨by rw [h.len]; exact hol.1, by rw [hoth o hol.1 hne]; exact hol.2⟩
    obtain ⟨t, _, hr⟩ := h.stays hcm ho (first_own hcm ho) hoy
    rw [hr, recover_some hcm ho]
    exact ⟨rfl, rfl⟩
/-! ### What patches do -/
def mkS (n : Int) (x : Int) : Sec := ⟨n, x, false⟩
/-- A slot of which the first k sectors are written. -/
def rowW (n : Int) (t : List Int) (l0 : List Sec) (k : Nat) : List Sec := (t.take k).map (mkS n) ++ l0.drop k
theorem rowW_len {n : Int} {t : List Int} {l0 : List Sec} {k : Nat} (h : t.length = l0.length) : (rowW n t l0 k).length = l0.length := by
  simp [rowW]; omega
theorem rowW_zero (n : Int) (t : List Int) (l0 : List Sec) : rowW n t l0 0 = l0 := by simp [rowW]
theorem rowW_succ {n : Int} {t : List Int} {l0 : List Sec} {k : Nat} (h : t.length = l0.length) (hk : k < t.length) : (rowW n t l0 k).set k (mkS n t[k]) = rowW n t l0 (k + 1) := by
  unfold rowW
  have h1 : ((t.take k).map (mkS n)).length = k := by simp; omega
  rw [List.set_append_right _ _ (by omega), h1, Nat.sub_self, List.drop_eq_getElem_cons (by omega), List.set_cons_zero, List.take_succ_eq_append_getElem hk, List.map_append]
  simp
theorem rowW_full {n : Int} {t : List Int} {l0 : List Sec} (h : t.length = l0.length) : rowW n t l0 t.length = t.map (mkS n) := by
  unfold rowW
  rw [List.take_length, h, List.drop_length, List.append_nil]
theorem rowW_all {n : Int} {t : List Int} {l0 : List Sec} (h : t.length = l0.length) (h0 : 0 < t.length) : whole (rowW n t l0 t.length) = true ∧ hd (rowW n t l0 t.length) = n ∧ tab (rowW n t l0 t.length) = t := by
  rw [rowW_full h]
  have hh : hd (t.map (mkS n)) = n := by cases t with | nil => simp at h0 | cons a t => rfl
  refine ⟨?_, hh, ?_⟩
  · unfold whole
    rw [hh]
    simp [mkS]
  · simp [tab, mkS, Function.comp_def]
theorem rowW_part {n : Int} {t : List Int} {l0 : List Sec} {k : Nat} (h : t.length = l0.length) (h0 : 0 < k) (hk : k < t.length) (hu : (l0.all fun x => x.bad || x.seq != n) = true) : whole (rowW n t l0 k) = false := by
  have hh : hd (rowW n t l0 k) = n := by
    unfold rowW
    cases t with
    | nil => simp at hk
    | cons a t =>
      cases k with
      | zero => omega
      | succ k => rfl
  unfold whole
  rw [hh]
  have hkl : k < l0.length := by omega
  refine List.all_eq_false.2 ⟨l0[k], ?_, ?_⟩
  · unfold rowW
    rw [List.mem_append]
    right
    rw [List.drop_eq_getElem_cons hkl]
    exact .head _
  · have := List.all_eq_true.1 hu _ (List.getElem_mem hkl)
    simp at this ⊢
    intro hb
    rcases this with e | e
    · rw [e] at hb; cases hb
    · exact e
theorem rowW_ok {n : Int} {t : List Int} {l0 : List Sec} {k : Nat} (hn : 0 ≤ n ∧ n ≤ 63) (ht : (t.all fun x => within x 0 99) = true) (hl : ∀ x ∈ l0, secOk x = true) : ∀ x ∈ rowW n t l0 k, secOk x = true := by
  intro x hx
  unfold rowW at hx
  rw [List.mem_append] at hx
  rcases hx with hx | hx
  · obtain ⟨v, hv, rfl⟩ := List.mem_map.1 hx
    have := List.all_eq_true.1 ht v (List.mem_of_mem_take hv)
    simp [secOk, mkS, this]
    simp [within]
    exact hn
  · exact hl x (List.mem_of_mem_drop hx)
theorem patched_append (c : Cop) (a b : List Pat) : patched c (a ++ b) = patched (patched c a) b := by simp [patched]
theorem patches_take (s n : Int) (t : List Int) (k : Nat) : (patches s n t).take k = patches s n (t.take k) := by
  unfold patches
  rw [← List.map_take]
  congr 1
  apply List.ext_getElem?
  intro i
  rw [List.getElem?_take, List.getElem?_zipIdx, List.getElem?_zipIdx, List.getElem?_take]
  split <;> rfl
theorem patches_length (s n : Int) (t : List Int) : (patches s n t).length = t.length := by simp [patches]
theorem list_set_self {c : Cop} {s : Nat} (h : s < c.length) : c.set s (sl c s) = c := by
  apply List.ext_getElem?
  intro i
  rw [List.getElem?_set]
  by_cases e : s = i
  · subst e; rw [if_pos rfl, if_pos h, sl_get h]
  · rw [if_neg e]
/-- What the first k patches do. -/
theorem patched_slot {c : Cop} {s : Nat} (n : Int) {t : List Int} (hs : s < c.length) (ht : t.length = (sl c s).length) : ∀ k, k ≤ t.length → patched c (patches (s : Int) n (t.take k)) = c.set s (rowW n t (sl c s) k)
  | 0, _ => by simp [patches, patched, rowW_zero, list_set_self hs]
  | k + 1, hk => by
    have ih := patched_slot n hs ht k (by omega)
    rw [patches_succ (by omega), patched_append, ih]
    show setSec (c.set s (rowW n t (sl c s) k)) s k (mkS n t[k]) = _
    rw [setSec_eq k _ (by simpa using hs), sl_set _ hs, if_pos rfl, List.set_set, rowW_succ ht (by omega)]
theorem set_parts {c : Cop} {s : Nat} {r : List Sec} (hs : s < c.length) (hr : r.length = (sl c s).length) : parts (c.set s r) = parts c := by
  have h1 : 0 < c.length := by omega
  rw [parts_eq (by simpa using h1), parts_eq h1, sl_set r hs]
  by_cases e : s = 0
  · subst e; rw [if_pos rfl]; exact hr
  · rw [if_neg e]
theorem set_ok {c : Cop} {s : Nat} {r : List Sec} (hok : okC c = true) (hs : s < c.length) (hr : r.length = (sl c s).length) (hr2 : ∀ x ∈ r, secOk x = true) : okC (c.set s r) = true := by
  refine okC_of hok (by simp) fun i hi => ?_
  rw [sl_set r hs]
  have h3 := okC_slot hok hi
  by_cases e : s = i
  · subst e
    rw [if_pos rfl]
    exact ⟨hr, hr2⟩
  · rw [if_neg e]
    exact ⟨rfl, h3.2⟩
/-! ### Update -/
theorem victimFrom_ne {l : Cop} {own : Int} : ∀ (L : List Nat) (best : Int), best ≠ own → victimFrom l own L best ≠ own
  | [], best, h => h
  | s :: L, best, h => by
    unfold victimFrom
    split
    · rename_i hs
      exact victimFrom_ne L _ hs.1
    · exact victimFrom_ne L _ h
theorem victim_own {l : Cop} {o : Nat} (ho : newest l = some o) : victim l ≠ (o : Int) := by
  unfold victim
  split
  · rename_i s hs
    have h1 : (!whole (sl l s)) = true := List.find?_some (p := fun s => !whole (sl l s)) hs
    have h2 := (newest_lt ho).2
    intro e
    have e' : s = o := by omega
    rw [e', h2] at h1
    cases h1
  · rw [show ownI l = (o : Int) by rw [ownI, ho]]
    exact victimFrom_ne _ _ (by omega)
/-- What an update that is done writes. -/
structure Upd (l : Cop) (t : List Int) (ps : List Pat) (s : Nat) (n : Int) : Prop where
  len : t.length = parts l
  tab : (t.all fun x => within x 0 99) = true
  lt : s < l.length
  range : 0 ≤ n ∧ n ≤ 63
  eq : ps = patches s n t
  own : ∀ o, newest l = some o → o ≠ s
  free : ((sl l s).all fun x => x.bad || x.seq != n) = true
  ahead : ∀ i ∈ wN l, i ≠ s → newerB n (sq l i) = true
theorem upd_of {l : Cop} {t : List Int} {ps : List Pat} (hcm : checkM l = 0) (hu : update l t = (ps, 0)) : ∃ s n, Upd l t ps s n := by
  have hok := checkM_ok hcm
  cases h2 : isTable l t with
  | false => rw [update_table hcm h2] at hu; cases hu
  | true =>
    cases h3 : ahead l (free l [(victim l).toNat]) (victim l) with
    | false => rw [update_many hcm h2 h3] at hu; cases hu
    | true =>
      rw [update_ok hcm h2 h3] at hu
      have hv := victim_range hok.1 hok.2
      obtain ⟨s, hs⟩ := Int.eq_ofNat_of_zero_le hv.1
      rw [hs] at hu h3 hv
      rw [Int.toNat_natCast] at hu h3
      obtain ⟨m, hm⟩ := skip_some (S := [s]) hok.1 (fun x hx => by simp at hx; subst hx; omega) (by simp)
      have hsp := skip_spec hm
      simp only [isTable, Bool.and_eq_true, beq_iff_eq] at h2
      refine ⟨s, free l [s], h2.2, h2.1, by omega, free_range l _, (congrArg Prod.fst hu).symm, fun o ho e => ?_, ?_, fun i hi hne => ?_⟩
      · exact victim_own ho (by rw [hs, e])
      · have := hsp.2.1
        rw [← hsp.2.2.2] at this
        simpa [unused] using this
      · have := List.all_eq_true.1 (show ((wN l).all fun i => ((i : Nat) : Int) == (s : Int) || newerB (free l [s]) (sq l i)) = true from h3) i hi
        simp only [Bool.or_eq_true, beq_iff_eq] at this
        rcases this with e | e
        · exact absurd (Int.ofNat.inj e) hne
        · exact e
/-- The copies behind the first k patches, the next one torn or not. -/
def applied (l : Cop) (ps : List Pat) (k : Nat) (torn : Bool) : Cop := if torn then (match ps[k]? with | some p => tear (patched l (ps.take k)) p | none => patched l (ps.take k)) else patched l (ps.take k)
theorem apply_ok {l : Cop} {ps : List Pat} {k : Nat} {torn : Bool} (hok : okC l = true) (hp : arePatches l ps = true) (hk : k ≤ ps.length) (ht : torn = true → k < ps.length) : apply l ps k torn = (applied l ps k torn, 0) := by
  have h1 : within k 0 ps.length = true := by simp [within]; exact hk
  have h2 : (torn && ((k : Int) == (ps.length : Int))) = false := by
    cases torn with
    | false => rfl
    | true =>
      have := ht rfl
      simp; omega
  unfold apply applied
  rw [hok, hp, h1, h2]
  simp
  cases torn <;> first | rfl | (cases ps[k]? <;> rfl)
section
variable {l : Cop} {t : List Int} {ps : List Pat} {s : Nat} {n : Int}
theorem Upd.len' (h : Upd l t ps s n) (hok : okC l = true) : t.length = (sl l s).length := by rw [h.len]; exact (okC_slot hok h.lt).1.symm
theorem Upd.count (h : Upd l t ps s n) : ps.length = parts l := by rw [h.eq, patches_length, h.len]
theorem Upd.whole (h : Upd l t ps s n) (hok : okC l = true) (k : Nat) (hk : k ≤ ps.length) : applied l ps k false = l.set s (rowW n t (sl l s) k) := by
  rw [h.count, ← h.len] at hk
  show patched l (ps.take k) = _
  rw [h.eq, patches_take]
  exact patched_slot n h.lt (h.len' hok) k hk
theorem Upd.torn (h : Upd l t ps s n) (hok : okC l = true) (k : Nat) (hk : k < ps.length) : applied l ps k true = l.set s ((rowW n t (sl l s) k).set k Sec.b) := by
  have hkt : k < t.length := by rw [h.len, ← h.count]; exact hk
  have e : ps[k]? = some (⟨(s : Int), (k : Int), n, t[k]⟩ : Pat) := by
    rw [h.eq]
    unfold patches
    rw [List.getElem?_map, List.getElem?_zipIdx, List.getElem?_eq_getElem hkt]
    simp
  have e2 := h.whole hok k (by omega)
  change patched l (ps.take k) = _ at e2
  unfold applied
  rw [if_pos rfl, e, e2]
  show setSec (l.set s (rowW n t (sl l s) k)) s k Sec.b = _
  rw [setSec_eq k _ (by simpa using h.lt), sl_set _ h.lt, if_pos rfl, List.set_set]
theorem Upd.are (h : Upd l t ps s n) (hok : okC l = true) : arePatches l ps = true := by
  have hl := okC_len hok
  simp only [arePatches, Bool.and_eq_true, decide_eq_true_eq]
  refine ⟨List.all_eq_true.2 fun p hp => ?_, by rw [h.count]; omega⟩
  rw [h.eq] at hp
  unfold patches at hp
  obtain ⟨q, hq, rfl⟩ := List.mem_map.1 hp
  obtain ⟨v, i⟩ := q
  have h1 := List.mem_zipIdx hq
  have h2 : i < t.length := by have := h1.2.1; omega
  have h3 : v ∈ t := by have := h1.2.2; rw [this]; exact List.getElem_mem _
  have h4 := List.all_eq_true.1 h.tab v h3
  have h5 := h.lt
  have h6 := h.len
  have h7 := h.range
  simp only [patOk, Bool.and_eq_true]
  refine ⟨⟨⟨?_, ?_⟩, ?_⟩, h4⟩ <;> simp [within] <;> omega
/-- Neither all patches nor none: the slot is not whole. -/
theorem Upd.lost (h : Upd l t ps s n) (hcm : checkM l = 0) {r : List Sec} (hr : r.length = (sl l s).length) (hr2 : ∀ x ∈ r, secOk x = true) (hw : T.whole r = false) :
    checkM (l.set s r) = 0 ∧ (recover (l.set s r)).1 = (recover l).1 ∧ (recover (l.set s r)).2.2 = (recover l).2.2 := by
  have hok := (checkM_ok hcm).1
  have hsub : Sub (l.set s r) l := ⟨by simp, set_ok hok h.lt hr hr2, set_parts h.lt hr, fun i hi => by
    rw [sl_set r h.lt]
    by_cases e : s = i
    · rw [if_pos e]; exact Or.inr hw
    · rw [if_neg e]; exact Or.inl rfl⟩
  exact ⟨hsub.check0 hcm, hsub.same_table hcm (by rw [sl_set r h.lt, if_pos rfl]; exact hw) (fun i hi hne => by rw [sl_set r h.lt, if_neg (Ne.symm hne)]) h.own⟩
/-- Not all patches: the table is the old one. -/
theorem Upd.old (h : Upd l t ps s n) (hcm : checkM l = 0) {k : Nat} {torn : Bool} (hk : k < ps.length) : checkM (applied l ps k torn) = 0 ∧ (recover (applied l ps k torn)).1 = (recover l).1 ∧ (recover (applied l ps k torn)).2.2 = (recover l).2.2 := by
  have hok := (checkM_ok hcm).1
  have hlen := h.len' hok
  have hkt : k < t.length := by rw [h.len, ← h.count]; exact hk
  have hsec := (okC_slot hok h.lt).2
  cases torn with
  | true =>
    rw [h.torn hok k hk]
    refine h.lost hcm (by simp [rowW_len hlen]) (fun x hx => ?_) (whole_set_bad (by rw [rowW_len hlen]; omega))
    rcases List.mem_or_eq_of_mem_set hx with hx | rfl
    · exact rowW_ok h.range h.tab hsec x hx
    · decide
  | false =>
    rw [h.whole hok k (by omega)]
    by_cases h0 : k = 0
    · subst h0
      rw [rowW_zero, list_set_self h.lt]
      exact ⟨hcm, rfl, rfl⟩
    · exact h.lost hcm (rowW_len hlen) (rowW_ok h.range h.tab hsec) (rowW_part hlen (by omega) hkt h.free)
/-- All patches: the table is the new one. -/
theorem Upd.new (h : Upd l t ps s n) (hcm : checkM l = 0) : checkM (applied l ps ps.length false) = 0 ∧ ∃ q : Nat, q < l.length ∧ recover (applied l ps ps.length false) = (t, (q : Int), 0) := by
  have hok := (checkM_ok hcm).1
  have hlen := h.len' hok
  have h0 : 0 < t.length := by have := okC_len hok; have := h.len; omega
  rw [h.whole hok _ (Nat.le_refl _), h.count, ← h.len]
  have hall := rowW_all (n := n) hlen h0
  have hr2 := rowW_ok (n := n) (k := t.length) h.range h.tab (okC_slot hok h.lt).2
  have hlr := rowW_len (n := n) (k := t.length) hlen
  generalize rowW n t (sl l s) t.length = r at *
  have hwr : Wr (l.set s r) l n t := ⟨by simp, set_ok hok h.lt hlr hr2, set_parts h.lt hlr, fun i hi => by
    rw [sl_set r h.lt]
    by_cases e : s = i
    · subst e
      rw [if_pos rfl]
      exact Or.inr (Or.inr ⟨by unfold sq; rw [sl_set r h.lt, if_pos rfl]; exact hall.2.1, hall.2.2⟩)
    · rw [if_neg e]
      exact Or.inl ⟨rfl, fun hw => h.ahead i (wUpto_mem.2 ⟨hi, hw⟩) (Ne.symm e)⟩⟩
  have hsm : s ∈ wN (l.set s r) := wUpto_mem.2 ⟨by simpa using h.lt, by rw [sl_set r h.lt, if_pos rfl]; exact hall.1⟩
  obtain ⟨q, hq, _, _, hr⟩ := hwr.new hcm hsm ⟨by unfold sq; rw [sl_set r h.lt, if_pos rfl]; exact hall.2.1, by rw [sl_set r h.lt, if_pos rfl]; exact hall.2.2⟩
  exact ⟨hwr.check0 hcm, q, hq, hr⟩
end
/-! ### Any patches -/
theorem patOk_spec {c : Cop} {p : Pat} (h : patOk c p = true) : ∃ S P : Nat, p.slot = S ∧ p.part = P ∧ S < c.length ∧ P < parts c ∧ secOk ⟨p.seq, p.data, false⟩ = true := by
  obtain ⟨a, b, d, e⟩ := p
  simp only [patOk, Bool.and_eq_true] at h
  obtain ⟨⟨⟨h1, h2⟩, h3⟩, h4⟩ := h
  simp only [within, decide_eq_true_eq] at h1 h2
  refine ⟨a.toNat, b.toNat, by simp; omega, by simp; omega, by omega, by omega, ?_⟩
  simp [secOk, h3, h4]
theorem setSec_parts {c : Cop} {s : Nat} (p : Nat) (x : Sec) (h : s < c.length) : parts (setSec c s p x) = parts c := by
  rw [setSec_eq p x h]
  exact set_parts h (by simp)
theorem patched_step {l : Cop} {ps : List Pat} {k : Nat} (hk : k < ps.length) : patched l (ps.take (k + 1)) = patch (patched l (ps.take k)) ps[k] := by
  rw [List.take_succ_eq_append_getElem hk, patched_append]
  rfl
theorem patched_ok {l : Cop} {ps : List Pat} (hok : okC l = true) (hp : (ps.all (patOk l)) = true) : ∀ k, k ≤ ps.length → okC (patched l (ps.take k)) = true ∧ (patched l (ps.take k)).length = l.length ∧ parts (patched l (ps.take k)) = parts l
  | 0, _ => by simp [patched, hok]
  | k + 1, hk => by
    obtain ⟨i1, i2, i3⟩ := patched_ok hok hp k (by omega)
    obtain ⟨S, P, e1, e2, h1, h2, h3⟩ := patOk_spec (List.all_eq_true.1 hp _ (List.getElem_mem (show k < ps.length by omega)))
    rw [patched_step (by omega)]
    unfold patch
    rw [e1, e2, Int.toNat_natCast, Int.toNat_natCast]
    exact ⟨setSec_ok i1 P _ h3 (by omega), by rw [setSec_len, i2], by rw [setSec_parts P _ (by omega), i3]⟩
theorem apply_100 {l : Cop} (ps : List Pat) (d : Int) (torn : Bool) (h : okC l = false) : apply l ps d torn = ([], 100) := by simp [apply, h]
theorem apply_103 {l : Cop} {ps : List Pat} (d : Int) (torn : Bool) (h : okC l = true) (h2 : arePatches l ps = false) : apply l ps d torn = ([], 103) := by simp [apply, h, h2]
theorem apply_1 {l : Cop} {ps : List Pat} {d : Int} {torn : Bool} (h : okC l = true) (h2 : arePatches l ps = true) (h3 : within d 0 ps.length = false ∨ (torn = true ∧ d = ps.length)) : apply l ps d torn = ([], 1) := by
  unfold apply
  rw [h, h2]
  rcases h3 with h3 | ⟨rfl, rfl⟩
  · rw [h3]; rfl
  · simp
end Go.Proofs.YtcpglghklmfbcaaDoor.T
