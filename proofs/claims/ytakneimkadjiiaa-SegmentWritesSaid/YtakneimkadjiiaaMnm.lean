/- The names of segments, in plain Lean. -/
import Derived.Test.YtakneimkadjiiaaMth
set_option linter.unusedVariables false
set_option linter.unusedSimpArgs false
namespace Cf
def hexD (d : Nat) : UInt8 := if d < 10 then UInt8.ofNat (48 + d) else UInt8.ofNat (87 + d)
/-- The last k digits. -/
def hexs : Nat → Nat → List UInt8
  | 0, _ => []
  | k + 1, n => hexs k (n / 16) ++ [hexD (n % 16)]
theorem hexs_len (k n : Nat) : (hexs k n).length = k := by
  induction k generalizing n with
  | zero => rfl
  | succ k ih => simp [hexs, ih]
def nameL (n : Nat) : List UInt8 := if n < 1 ∨ 1152921504606846976 ≤ n then [] else 76 :: hexs 15 n
theorem rep_set (k : Nat) (d : UInt8) (tail : List UInt8) : (76 :: (List.replicate (k + 1) 0 ++ tail)).set (k + 1) d = 76 :: (List.replicate k 0 ++ (d :: tail)) := by
  rw [List.set_cons_succ, List.replicate_succ', List.append_assoc, List.set_append_right _ _ (by simp)]
  simp
end Cf
