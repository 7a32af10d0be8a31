/- A segment as the reference reads it, frame by frame: the same. -/
import Derived.Test.YtakneimkadjiiaaMsg2
set_option linter.unusedVariables false
set_option linter.unusedSimpArgs false
namespace Cf
theorem tak_nil : tak [] = (0, [], 0, 23) := by decide
theorem tak_err {xs : List UInt8} (h : (tak xs).2.2.2 ≠ 0) : (tak xs).1 = 0 ∧ (tak xs).2.1 = [] ∧ (tak xs).2.2.1 = 0 := by
  unfold tak at h ⊢
  split
  · simp
  · split
    · rename_i h1 h2
      simp [h1, h2] at h
    · simp
theorem seg_err {xs : List UInt8} (h : (tak xs).2.2.2 ≠ 0) : segOf xs = seg0 := by rw [segOf, frs_bad h]; rfl
theorem seg_nohead {xs : List UInt8} (h : hedN (tak xs).1 (tak xs).2.1 = 0) : segOf xs = seg0 := by
  by_cases h1 : (tak xs).2.2.2 = 0
  · by_cases h0 : xs = []
    · subst h0
      rw [tak_nil] at h1
      simp at h1
    · have hs : segStep seg0 ((tak xs).1, (tak xs).2.1) = none := by
        unfold segStep
        rw [if_pos (show seg0.first = 0 from rfl), if_pos h]
      rw [segOf, frs_ok h0 h1, segGo, hs]
  · exact seg_err h1
theorem seg_head {xs : List UInt8} (h1 : (tak xs).2.2.2 = 0) (h : hedN (tak xs).1 (tak xs).2.1 ≠ 0) :
    Onto xs [((tak xs).1, (tak xs).2.1)] (tak xs).2.2.1 ∧ segRun seg0 [((tak xs).1, (tak xs).2.1)] = some ⟨hedN (tak xs).1 (tak xs).2.1, [], (tak xs).2.2.1⟩ := by
  have h0 : 0 < xs.length := by
    rcases xs with _ | ⟨x, r⟩
    · rw [tak_nil] at h1
      simp at h1
    · simp
  obtain ⟨a, b, c⟩ := onto_step (onto_start xs) h0 (by simpa using h1)
  simp only [List.drop_zero, List.nil_append, Nat.zero_add] at a b c
  refine ⟨a, ?_⟩
  have hs : segStep seg0 ((tak xs).1, (tak xs).2.1) = some ⟨hedN (tak xs).1 (tak xs).2.1, [], (tak xs).2.2.1⟩ := by
    unfold segStep
    rw [if_pos (show seg0.first = 0 from rfl), if_neg h]
    simp only [seg0, Nat.zero_add]
    rw [b]
  simp only [segRun, hs]
theorem seg_stop {xs : List UInt8} {pre : List (UInt8 × List UInt8)} {a : Nat} {t : Seg} (ho : Onto xs pre a) (hr : segRun seg0 pre = some t) (h : (tak (xs.drop a)).2.2.2 ≠ 0) : segOf xs = t := by
  have hf : frs xs = pre := by
    by_cases hlt : a < xs.length
    · exact (onto_stop ho hlt h).1
    · exact (onto_end ho (by omega)).1
  rw [segOf, hf]
  exact segGo_end hr
theorem seg_noline {xs : List UInt8} {pre : List (UInt8 × List UInt8)} {a : Nat} {t : Seg} (ho : Onto xs pre a) (hr : segRun seg0 pre = some t) (hf : t.first ≠ 0) (h : linB (tak (xs.drop a)).1 (tak (xs.drop a)).2.1 (t.first + t.l.length) = false) : segOf xs = t := by
  by_cases h1 : (tak (xs.drop a)).2.2.2 = 0
  · have hlt : a < xs.length := by
      rcases Nat.lt_or_ge a xs.length with h | h
      · exact h
      · rw [List.drop_eq_nil_of_le h, tak_nil] at h1
        simp at h1
    have h2 := ho.2.1
    have hne : xs.drop a ≠ [] := by
      intro e
      rw [e, tak_nil] at h1
      simp at h1
    rw [frs_ok hne h1] at h2
    rw [segOf, h2]
    refine segGo_stop hr ?_ _
    unfold segStep
    rw [if_neg hf, h]
    simp
  · exact seg_stop ho hr h1
theorem seg_line {xs : List UInt8} {pre : List (UInt8 × List UInt8)} {a : Nat} {t : Seg} (ho : Onto xs pre a) (hr : segRun seg0 pre = some t) (hf : t.first ≠ 0) (hg : t.good = a) (h1 : (tak (xs.drop a)).2.2.2 = 0) (h : linB (tak (xs.drop a)).1 (tak (xs.drop a)).2.1 (t.first + t.l.length) = true) :
    Onto xs (pre ++ [((tak (xs.drop a)).1, (tak (xs.drop a)).2.1)]) (a + (tak (xs.drop a)).2.2.1) ∧ segRun seg0 (pre ++ [((tak (xs.drop a)).1, (tak (xs.drop a)).2.1)]) = some ⟨t.first, t.l ++ [(linP (tak (xs.drop a)).2.1).2.1], a + (tak (xs.drop a)).2.2.1⟩ ∧ a + (tak (xs.drop a)).2.2.1 ≤ xs.length ∧ 8 ≤ (tak (xs.drop a)).2.2.1 := by
  have hlt : a < xs.length := by
    rcases Nat.lt_or_ge a xs.length with h | h
    · exact h
    · rw [List.drop_eq_nil_of_le h, tak_nil] at h1
      simp at h1
  obtain ⟨p, q, r⟩ := onto_step ho hlt h1
  refine ⟨p, ?_, r, by omega⟩
  rw [segRun_snoc hr, segStep, if_neg hf, if_pos h, hg, q]
end Cf
