/- Copies of which some sectors become unreadable. -/
import Derived.Test.YtcpglghklmfbcaaDoorV2
namespace Go.Proofs.YtcpglghklmfbcaaDoor.T
set_option linter.unusedVariables false
set_option linter.unusedSimpArgs false

theorem setSec_len (c : Cop) (s p : Nat) (x : Sec) : (setSec c s p x).length = c.length := by simp [setSec]
theorem setSec_sl {c : Cop} {s : Nat} (p : Nat) (x : Sec) (h : s < c.length) (t : Nat) : sl (setSec c s p x) t = if s = t then (sl c s).set p x else sl c t := by
  rw [setSec_eq p x h, sl_set _ h]
theorem setSec_ok {c : Cop} {s : Nat} (hok : okC c = true) (p : Nat) (x : Sec) (hx : secOk x = true) (h : s < c.length) : okC (setSec c s p x) = true := by
  refine okC_of hok (setSec_len c s p x) fun i hi => ?_
  rw [setSec_sl p x h i]
  have h3 := okC_slot hok hi
  by_cases e : s = i
  · subst e
    rw [if_pos rfl]
    refine ⟨by simp, fun y hy => ?_⟩
    rcases List.mem_or_eq_of_mem_set hy with h4 | rfl
    · exact h3.2 y h4
    · exact hx
  · rw [if_neg e]
    exact ⟨rfl, h3.2⟩
theorem whole_set_bad {l : List Sec} {p : Nat} (h : p < l.length) : whole (l.set p Sec.b) = false := by
  unfold whole
  refine List.all_eq_false.2 ⟨Sec.b, ?_, by simp [Sec.b]⟩
  have := List.mem_set h (a := Sec.b)
  exact this
theorem Sub.spoil {y c : Cop} {s p : Nat} (h : Sub y c) (hs : s < c.length) (hp : p < parts c) (hc : okC c = true) : Sub (setSec y s p Sec.b) c := by
  have hs' : s < y.length := by rw [h.len]; exact hs
  have hl := okC_len h.ok
  refine ⟨by rw [setSec_len, h.len], setSec_ok h.ok p Sec.b (by decide) hs', ?_, fun i hi => ?_⟩
  · rw [← h.prt, parts_eq (by rw [setSec_len]; omega), parts_eq (by omega), setSec_sl p Sec.b hs' 0]
    by_cases e : s = 0
    · subst e; rw [if_pos rfl]; simp
    · rw [if_neg e]
  rw [setSec_sl p Sec.b hs' i]
  by_cases e : s = i
  · rw [if_pos e]
    refine Or.inr (whole_set_bad ?_)
    rw [(okC_slot h.ok hs').1, h.prt]
    exact hp
  · rw [if_neg e]
    exact h.sub i hi
end Go.Proofs.YtcpglghklmfbcaaDoor.T
