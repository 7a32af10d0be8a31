/- The frames with which bytes begin, in plain Lean. -/
import Derived.Test.YtoccidpocagkjaaMfr
set_option linter.unusedVariables false
set_option linter.unusedSimpArgs false
namespace Cf
/-- The frames with which bytes begin. -/
def frs (xs : List UInt8) : List (UInt8 × List UInt8) :=
  if h : xs = [] ∨ (tak xs).2.2.2 ≠ 0 then [] else ((tak xs).1, (tak xs).2.1) :: frs (xs.drop (tak xs).2.2.1)
termination_by xs.length
decreasing_by
  simp only [not_or, Decidable.not_not] at h
  obtain ⟨body, q1, q2, q3, q4, q5, q6, q7, _⟩ := tak_ok h.2
  rw [List.length_drop, q6]
  have : 0 < xs.length := List.length_pos_iff.2 h.1
  omega
/-- How long they are together. -/
def flen (l : List (UInt8 × List UInt8)) : Nat := (l.map fun x => x.2.length + 8).sum
theorem flen_nil : flen [] = 0 := rfl
theorem flen_cons (x : UInt8 × List UInt8) (l : List (UInt8 × List UInt8)) : flen (x :: l) = x.2.length + 8 + flen l := by simp [flen]
theorem flen_append (l m : List (UInt8 × List UInt8)) : flen (l ++ m) = flen l + flen m := by simp [flen]
theorem frs_nil : frs [] = [] := by rw [frs]; simp
theorem frs_bad {xs : List UInt8} (h : (tak xs).2.2.2 ≠ 0) : frs xs = [] := by rw [frs]; simp [h]
theorem frs_ok {xs : List UInt8} (h0 : xs ≠ []) (h : (tak xs).2.2.2 = 0) : frs xs = ((tak xs).1, (tak xs).2.1) :: frs (xs.drop (tak xs).2.2.1) := by
  rw [frs, dif_neg (by simp [h0, h])]
/-- Why they end. -/
def fer (xs : List UInt8) : Nat := if flen (frs xs) < xs.length then (tak (xs.drop (flen (frs xs)))).2.2.2 else 0
/-- How far one has come. -/
def Onto (xs : List UInt8) (pre : List (UInt8 × List UInt8)) (a : Nat) : Prop := a ≤ xs.length ∧ frs xs = pre ++ frs (xs.drop a) ∧ flen pre = a
theorem onto_start (xs : List UInt8) : Onto xs [] 0 := ⟨Nat.zero_le _, by simp, rfl⟩
theorem onto_step {xs : List UInt8} {pre : List (UInt8 × List UInt8)} {a : Nat} (h : Onto xs pre a) (hlt : a < xs.length) (ht : (tak (xs.drop a)).2.2.2 = 0) :
    Onto xs (pre ++ [((tak (xs.drop a)).1, (tak (xs.drop a)).2.1)]) (a + (tak (xs.drop a)).2.2.1) ∧ (tak (xs.drop a)).2.2.1 = (tak (xs.drop a)).2.1.length + 8 ∧ a + (tak (xs.drop a)).2.2.1 ≤ xs.length := by
  obtain ⟨h1, h2, h3⟩ := h
  obtain ⟨body, q1, q2, q3, q4, q5, q6, q7, _⟩ := tak_ok ht
  rw [List.length_drop] at q7
  have hne : xs.drop a ≠ [] := by
    intro e
    have := congrArg List.length e
    rw [List.length_drop] at this
    simp at this
    omega
  refine ⟨⟨by omega, ?_, ?_⟩, by rw [q6, q1], by omega⟩
  · rw [h2, frs_ok hne ht, List.drop_drop]
    simp
  · rw [flen_append, flen_cons, flen_nil, h3, q6]
    simp only []
    rw [q1]
theorem onto_stop {xs : List UInt8} {pre : List (UInt8 × List UInt8)} {a : Nat} (h : Onto xs pre a) (hlt : a < xs.length) (ht : (tak (xs.drop a)).2.2.2 ≠ 0) : frs xs = pre ∧ flen (frs xs) = a ∧ fer xs = (tak (xs.drop a)).2.2.2 := by
  obtain ⟨h1, h2, h3⟩ := h
  rw [frs_bad ht, List.append_nil] at h2
  refine ⟨h2, by rw [h2, h3], ?_⟩
  unfold fer
  rw [h2, h3, if_pos hlt]
theorem onto_end {xs : List UInt8} {pre : List (UInt8 × List UInt8)} {a : Nat} (h : Onto xs pre a) (hge : xs.length ≤ a) : frs xs = pre ∧ flen (frs xs) = a ∧ a = xs.length ∧ fer xs = 0 := by
  obtain ⟨h1, h2, h3⟩ := h
  have e : a = xs.length := by omega
  subst e
  rw [List.drop_length, frs_nil, List.append_nil] at h2
  refine ⟨h2, by rw [h2, h3], rfl, ?_⟩
  unfold fer
  rw [h2, h3, if_neg (by omega)]
theorem flen_le (xs : List UInt8) : flen (frs xs) ≤ xs.length := by
  suffices ∀ n (xs : List UInt8), xs.length ≤ n → flen (frs xs) ≤ xs.length from this xs.length xs (Nat.le_refl _)
  intro n
  induction n with
  | zero =>
    intro xs h
    obtain rfl : xs = [] := List.eq_nil_of_length_eq_zero (by omega)
    rw [frs_nil]
    simp [flen]
  | succ n ih =>
    intro xs h
    by_cases h0 : xs = []
    · subst h0
      rw [frs_nil]
      simp [flen]
    · by_cases ht : (tak xs).2.2.2 = 0
      · obtain ⟨body, q1, q2, q3, q4, q5, q6, q7, _⟩ := tak_ok ht
        have := ih (xs.drop (tak xs).2.2.1) (by rw [List.length_drop, q6]; omega)
        rw [List.length_drop] at this
        rw [frs_ok h0 ht, flen_cons]
        rw [q6] at this ⊢
        simp only []
        rw [q1]
        omega
      · rw [frs_bad ht]
        simp [flen]
theorem onto_pre {xs : List UInt8} {pre : List (UInt8 × List UInt8)} {x : UInt8 × List UInt8} {r : List (UInt8 × List UInt8)} (h : frs xs = pre ++ x :: r) : flen pre + (x.2.length + 8) ≤ xs.length := by
  have := flen_le xs
  rw [h, flen_append, flen_cons] at this
  omega
theorem getD_take (l : List UInt8) (n i : Nat) : (l.take n).getD i 0 = if i < n then l.getD i 0 else 0 := by
  simp only [List.getD_eq_getElem?_getD, List.getElem?_take]
  split <;> simp
/-- What is cut off of a frame is torn. -/
theorem tak_torn (k : UInt8) (xs : List UInt8) (at_ : Nat) (hk : k ≠ 0) (h : xs.length ≤ 65536) (ha : at_ < xs.length + 8) : tak ((wrp k xs).take at_) = (0, [], 0, 23) := by
  have hw := wrp_length k xs
  have hv : vl (wrp k xs) = xs.length := by have := vl_wrp k xs [] (by omega); rwa [List.append_nil] at this
  have hl : ((wrp k xs).take at_).length = at_ := by rw [List.length_take]; omega
  have h0 : (wrp k xs).getD 0 0 = 0x66 := rfl
  have h1 : (wrp k xs).getD 1 0 = k := rfl
  have hv5 : 5 ≤ at_ → vl ((wrp k xs).take at_) = xs.length := fun h5 => by
    rw [← hv]
    unfold vl
    rw [getD_take, getD_take, getD_take, if_pos (by omega), if_pos (by omega), if_pos (by omega)]
  have hb : badB ((wrp k xs).take at_) = false := by
    unfold badB
    rw [hl]
    simp only [Bool.or_eq_false_iff, Bool.and_eq_false_iff, decide_eq_false_iff_not, beq_eq_false_iff_ne, bne_eq_false_iff_eq]
    refine ⟨⟨?_, ?_⟩, ?_⟩
    · by_cases h5 : 5 ≤ at_
      · right; rw [hv5 h5]; omega
      · left; exact h5
    · by_cases h5 : 2 ≤ at_
      · right; rw [getD_take, if_pos (by omega), h1]; exact hk
      · left; exact h5
    · by_cases h5 : 1 ≤ at_
      · right; rw [getD_take, if_pos (by omega), h0]
      · left; exact h5
  have ht : tornB ((wrp k xs).take at_) = true := by
    unfold tornB
    rw [hl]
    simp only [Bool.or_eq_true, decide_eq_true_eq]
    by_cases h5 : 5 ≤ at_
    · right; rw [hv5 h5]; exact ha
    · left; omega
  simp [tak, siz, hb, ht]
theorem frs_wrp (k : UInt8) (xs more : List UInt8) (hk : k ≠ 0) (h : xs.length ≤ 65536) : frs (wrp k xs ++ more) = (k, xs) :: frs more := by
  have ht := tak_wrp k xs more hk h
  have hw := wrp_length k xs
  rw [frs_ok (by intro e; have := congrArg List.length e; rw [List.length_append, hw] at this; simp at this) (by rw [ht]), ht]
  simp only [List.cons.injEq, true_and]
  rw [← hw, List.drop_left]
/-- One frame, and a part of another one. -/
theorem ends_torn (k j : UInt8) (xs ys : List UInt8) (at_ : Nat) (hj : j ≠ 0) (hx : ys.length ≤ 65536) (hk : k ≠ 0) (h : xs.length ≤ 65536) (ha : at_ < xs.length + 8) :
    flen (frs (wrp j ys ++ (wrp k xs).take at_)) = ys.length + 8 ∧ fer (wrp j ys ++ (wrp k xs).take at_) = if at_ = 0 then 0 else 23 := by
  have ht := tak_torn k xs at_ hk h ha
  have hw := wrp_length k xs
  have hl : ((wrp k xs).take at_).length = at_ := by rw [List.length_take]; omega
  have hf : frs ((wrp k xs).take at_) = [] := frs_bad (by rw [ht]; simp)
  have hfl : flen (frs (wrp j ys ++ (wrp k xs).take at_)) = ys.length + 8 := by
    rw [frs_wrp j ys _ hj hx, hf, flen_cons, flen_nil]
  refine ⟨hfl, ?_⟩
  unfold fer
  rw [hfl, List.length_append, wrp_length, hl, ← wrp_length j ys, List.drop_left, ht]
  by_cases h0 : at_ = 0
  · rw [if_neg (by omega), if_pos h0]
  · rw [if_pos (by omega), if_neg h0]
theorem flen_ge (l : List (UInt8 × List UInt8)) : 8 * l.length ≤ flen l := by
  induction l with
  | nil => simp [flen]
  | cons x l ih => rw [flen_cons, List.length_cons]; omega
end Cf
