/- Numbers and texts as bytes, in plain Lean: what is written. -/
import Derived.Test.YtoccidpocagkjaaMql
set_option linter.unusedVariables false
set_option linter.unusedSimpArgs false
namespace Cf
/-- A number's bytes, the greatest first. -/
def beB (n : Nat) : List UInt8 := if h : n = 0 then [] else beB (n / 256) ++ [UInt8.ofNat n]
termination_by n
decreasing_by omega
theorem beB_zero : beB 0 = [] := by rw [beB]; simp
theorem beB_pos {n : Nat} (h : n ≠ 0) : beB n = beB (n / 256) ++ [UInt8.ofNat n] := by rw [beB, dif_neg h]
theorem beN_beB (n : Nat) : beN (beB n) = n := by
  induction n using Nat.strongRecOn with
  | _ n ih =>
    by_cases h : n = 0
    · subst h; rw [beB_zero]; rfl
    · rw [beB_pos h, beN_snoc, ih _ (by omega), UInt8.toNat_ofNat']
      omega
theorem beB_len (k : Nat) : ∀ n, n < 256 ^ k → (beB n).length ≤ k := by
  induction k with
  | zero =>
    intro n h
    have : n = 0 := by simpa using h
    subst this
    rw [beB_zero]
    simp
  | succ k ih =>
    intro n h
    by_cases h0 : n = 0
    · subst h0; rw [beB_zero]; simp
    · rw [beB_pos h0, List.length_append, List.length_singleton]
      have := ih (n / 256) (by rw [Nat.pow_succ] at h; omega)
      omega
theorem beB_len8 {n : Nat} (h : n < 18446744073709551616) : (beB n).length ≤ 8 := beB_len 8 n (by simpa using h)
theorem beB_head (n : Nat) (h : n ≠ 0) : ∃ x r, beB n = x :: r ∧ x ≠ 0 := by
  induction n using Nat.strongRecOn with
  | _ n ih =>
    by_cases h1 : n / 256 = 0
    · rw [beB_pos h, h1, beB_zero]
      refine ⟨_, [], rfl, fun e => ?_⟩
      have := congrArg UInt8.toNat e
      rw [UInt8.toNat_ofNat'] at this
      have h0 : (0 : UInt8).toNat = 0 := rfl
      omega
    · obtain ⟨x, r, e, hx⟩ := ih (n / 256) (by omega) h1
      rw [beB_pos h, e]
      exact ⟨x, r ++ [UInt8.ofNat n], rfl, hx⟩
theorem beB_step {n : Nat} (h : n ≠ 0) : (beB n).length = (beB (n / 256)).length + 1 := by rw [beB_pos h]; simp
theorem beB_get (n : Nat) : ∀ k, k < (beB n).length → (beB n).getD k 0 = UInt8.ofNat (n / 256 ^ ((beB n).length - 1 - k)) := by
  induction n using Nat.strongRecOn with
  | _ n ih =>
    intro k hk
    by_cases h : n = 0
    · subst h; rw [beB_zero] at hk; simp at hk
    · have hl := beB_step h
      rw [hl] at hk ⊢
      rw [beB_pos h]
      by_cases hk2 : k < (beB (n / 256)).length
      · have := ih (n / 256) (by omega) k hk2
        rw [List.getD_eq_getElem?_getD] at this ⊢
        rw [List.getElem?_append_left hk2, this, Nat.div_div_eq_div_mul, ← Nat.pow_succ']
        congr 2
        congr 1
        omega
      · have : k = (beB (n / 256)).length := by omega
        subst this
        rw [List.getD_eq_getElem?_getD, List.getElem?_append_right (Nat.le_refl _)]
        simp
/-- A number as it is written. -/
def numB (n : Nat) : List UInt8 := UInt8.ofNat (beB n).length :: beB n
def txtB (s : List UInt8) : List UInt8 := numB s.length ++ s
theorem numB_len {n : Nat} (h : n < 18446744073709551616) : (numB n).length ≤ 9 := by
  have := beB_len8 h
  simp [numB]
  omega
theorem txtB_len (s : List UInt8) (h : s.length < 18446744073709551616) : (txtB s).length ≤ 9 + s.length := by
  have := numB_len h
  simp [txtB]
  omega
/-- What is written is read. -/
theorem rnum_numB {n most : Nat} (h : n ≤ most) (hm : most < 18446744073709551616) (r : List UInt8) (b : Bool) : rnum most (numB n ++ r, b) = (n, r, b) := by
  have h8 := beB_len8 (show n < 18446744073709551616 by omega)
  have hl : (UInt8.ofNat (beB n).length).toNat = (beB n).length := by rw [UInt8.toNat_ofNat']; omega
  have hb : numBad (beB n).length (beB n ++ r) = false := by
    unfold numBad
    simp only [Bool.or_eq_false_iff, Bool.and_eq_false_iff, decide_eq_false_iff_not, beq_eq_false_iff_ne]
    refine ⟨⟨by omega, by simp⟩, ?_⟩
    by_cases h0 : n = 0
    · left; subst h0; rw [beB_zero]; simp
    · right
      obtain ⟨x, t, e, hx⟩ := beB_head n h0
      rw [e]
      exact hx
  have ht : (beB n ++ r).take (beB n).length = beB n := by simp
  have hd : (beB n ++ r).drop (beB n).length = r := by simp
  show rnum most (UInt8.ofNat (beB n).length :: (beB n ++ r), b) = _
  simp only [rnum]
  rw [hl, if_neg (by rw [hb]; decide), ht, hd, beN_beB, if_neg (by omega)]
theorem rtext_txtB {s : List UInt8} {most : Nat} (h : s.length ≤ most) (hm : most < 18446744073709551616) (r : List UInt8) (b : Bool) : rtext most (txtB s ++ r, b) = (s, r, b) := by
  have e : rnum most (txtB s ++ r, b) = (s.length, s ++ r, b) := by
    rw [txtB, List.append_assoc]
    exact rnum_numB h hm _ _
  unfold rtext
  rw [e, if_neg (by simp)]
  unfold rraw
  rw [if_neg (by simp)]
  simp
end Cf
