/- Names stand in the order of their indexes. -/
import Derived.Test.YtakneimkadjiiaaMfs
import Derived.Test.YtakneimkadjiiaaBas
set_option linter.unusedVariables false
set_option linter.unusedSimpArgs false
namespace Cf
open Go
theorem hexs_head (k n : Nat) : hexs (k + 1) n = hexD (n / 16 ^ k % 16) :: hexs k n := by
  induction k generalizing n with
  | zero => simp [hexs]
  | succ k ih =>
    rw [hexs, ih, hexs, List.cons_append, Nat.div_div_eq_div_mul, Nat.pow_succ, Nat.mul_comm 16]
theorem less_hexs (k a b : Nat) : Op.bytesLess (hexs k a) (hexs k b) = decide (a % 16 ^ k < b % 16 ^ k) := by
  induction k with
  | zero => simp [hexs, Op.bytesLess, Nat.mod_one]
  | succ k ih =>
    rw [hexs_head, hexs_head]
    have hp : 0 < 16 ^ k := Nat.pow_pos (by decide)
    have ea : a % 16 ^ (k + 1) = a % 16 ^ k + 16 ^ k * (a / 16 ^ k % 16) := by rw [Nat.pow_succ, Nat.mod_mul]
    have eb : b % 16 ^ (k + 1) = b % 16 ^ k + 16 ^ k * (b / 16 ^ k % 16) := by rw [Nat.pow_succ, Nat.mod_mul]
    have la : a % 16 ^ k < 16 ^ k := Nat.mod_lt _ hp
    have lb : b % 16 ^ k < 16 ^ k := Nat.mod_lt _ hp
    have h1 := Nat.mod_lt (a / 16 ^ k) (show 0 < 16 by decide)
    have h2 := Nat.mod_lt (b / 16 ^ k) (show 0 < 16 by decide)
    have hl := hexD_lt h1 h2
    have hl2 := hexD_lt h2 h1
    rw [show Op.bytesLess (hexD (a / 16 ^ k % 16) :: hexs k a) (hexD (b / 16 ^ k % 16) :: hexs k b) = (decide (hexD (a / 16 ^ k % 16) < hexD (b / 16 ^ k % 16)) || (hexD (a / 16 ^ k % 16) == hexD (b / 16 ^ k % 16) && Op.bytesLess (hexs k a) (hexs k b))) from rfl, ih, ea, eb]
    have hl3 : hexD (a / 16 ^ k % 16) < hexD (b / 16 ^ k % 16) ↔ a / 16 ^ k % 16 < b / 16 ^ k % 16 := by rw [UInt8.lt_iff_toNat_lt]; exact hl
    generalize a / 16 ^ k % 16 = da at *
    generalize b / 16 ^ k % 16 = db at *
    generalize a % 16 ^ k = ra at *
    generalize b % 16 ^ k = rb at *
    generalize 16 ^ k = p at *
    by_cases h : da < db
    · have hm : p * da + p ≤ p * db := by
        have := Nat.mul_le_mul_left p (show da + 1 ≤ db from h)
        rwa [Nat.mul_add, Nat.mul_one] at this
      rw [decide_eq_true (hl3.2 h), Bool.true_or, eq_comm, decide_eq_true_iff]
      omega
    · have hn : ¬ hexD da < hexD db := fun e => h (hl3.1 e)
      rw [decide_eq_false hn, Bool.false_or]
      by_cases h3 : da = db
      · subst h3
        simp
      · have hgt : db < da := by omega
        have hm : p * db + p ≤ p * da := by
          have := Nat.mul_le_mul_left p (show db + 1 ≤ da from hgt)
          rwa [Nat.mul_add, Nat.mul_one] at this
        have hne : (hexD da == hexD db) = false := by
          rw [beq_eq_false_iff_ne]
          intro e
          have := hl2.2 hgt
          rw [e] at this
          omega
        rw [hne, Bool.false_and, eq_comm, decide_eq_false_iff_not]
        omega
theorem less_nameL {a b : Nat} (ha : 1 ≤ a ∧ a < 1152921504606846976) (hb : 1 ≤ b ∧ b < 1152921504606846976) : Op.bytesLess (nameL a) (nameL b) = decide (a < b) := by
  have ea : nameL a = 76 :: hexs 15 a := by unfold nameL; rw [if_neg (by omega)]
  have eb : nameL b = 76 :: hexs 15 b := by unfold nameL; rw [if_neg (by omega)]
  have h3 : (16 : Nat) ^ 15 = 1152921504606846976 := by decide
  rw [ea, eb, show Op.bytesLess (76 :: hexs 15 a) (76 :: hexs 15 b) = (decide ((76 : UInt8) < 76) || ((76 : UInt8) == 76 && Op.bytesLess (hexs 15 a) (hexs 15 b))) from rfl, less_hexs, h3, Nat.mod_eq_of_lt ha.2, Nat.mod_eq_of_lt hb.2]
  simp
theorem nameL_nil {a : Nat} : nameL a = [] ↔ ¬ (1 ≤ a ∧ a < 1152921504606846976) := by
  unfold nameL
  split <;> simp <;> omega
theorem nameL_len {a : Nat} (h : 1 ≤ a ∧ a < 1152921504606846976) : (nameL a).length = 16 := by
  unfold nameL
  rw [if_neg (by omega)]
  simp [hexs_len]
end Cf
