/- Numbers and texts as bytes, in plain Lean: what is read. -/
import Derived.Test.YtoccidpocagkjaaMth
set_option linter.unusedVariables false
set_option linter.unusedSimpArgs false
namespace Cf
/-- A reader's state: what is left, whether it is bad. -/
abbrev RS := List UInt8 × Bool
def beN (l : List UInt8) : Nat := l.foldl (fun n b => n * 256 + b.toNat) 0
theorem beN_nil : beN [] = 0 := rfl
theorem beN_snoc (l : List UInt8) (b : UInt8) : beN (l ++ [b]) = beN l * 256 + b.toNat := by simp [beN]
theorem beN_lt (l : List UInt8) : beN l < 256 ^ l.length := by
  suffices ∀ n (l : List UInt8), l.length = n → beN l < 256 ^ n from this l.length l rfl
  intro n
  induction n with
  | zero =>
    intro l h
    obtain rfl : l = [] := List.eq_nil_of_length_eq_zero h
    decide
  | succ n ih =>
    intro l h
    rcases List.eq_nil_or_concat l with rfl | ⟨m, b, rfl⟩
    · simp at h
    · rw [List.concat_eq_append] at h ⊢
      rw [List.length_append] at h
      have := ih m (by simpa using h)
      have hb := b.toNat_lt
      rw [beN_snoc, Nat.pow_succ]
      omega
/-- The form of a number of so many bytes is bad. -/
def numBad (c : Nat) (r : List UInt8) : Bool := decide (8 < c) || decide (r.length < c) || (decide (0 < c) && r.getD 0 0 == 0)
def rnum (most : Nat) (s : RS) : Nat × RS :=
  match s.1 with
  | [] => (0, [], true)
  | c :: r => if numBad c.toNat r then (0, [], true) else if most < beN (r.take c.toNat) then (0, [], true) else (beN (r.take c.toNat), r.drop c.toNat, s.2)
def rraw (n : Nat) (s : RS) : List UInt8 × RS := if s.1.length < n then ([], [], true) else (s.1.take n, s.1.drop n, s.2)
def rtext (most : Nat) (s : RS) : List UInt8 × RS := if (rnum most s).2.1.length < (rnum most s).1 then ([], [], true) else rraw (rnum most s).1 (rnum most s).2
/-- All was read. -/
def rend (s : RS) : Bool := !s.2 && s.1.isEmpty
theorem beN_step (r : List UInt8) (k : Nat) (hk : k < r.length) : beN (r.take (k + 1)) = beN (r.take k) * 256 + (r.getD k 0).toNat := by
  rw [List.take_succ_eq_append_getElem hk, beN_snoc]
  simp [List.getD_eq_getElem?_getD, hk]
theorem beN_take_lt (r : List UInt8) (k : Nat) (hk : k ≤ 7) : beN (r.take k) < 72057594037927936 := by
  have h1 := beN_lt (r.take k)
  have h2 : (r.take k).length ≤ 7 := by rw [List.length_take]; omega
  have h3 : 256 ^ (r.take k).length ≤ 256 ^ 7 := Nat.pow_le_pow_right (by decide) h2
  have h4 : (256 : Nat) ^ 7 = 72057594037927936 := by decide
  omega
theorem beN_take8 (r : List UInt8) (k : Nat) (hk : k ≤ 8) : beN (r.take k) < 18446744073709551616 := by
  have h1 := beN_lt (r.take k)
  have h2 : (r.take k).length ≤ 8 := by rw [List.length_take]; omega
  have h3 : 256 ^ (r.take k).length ≤ 256 ^ 8 := Nat.pow_le_pow_right (by decide) h2
  have h4 : (256 : Nat) ^ 8 = 18446744073709551616 := by decide
  omega
end Cf
