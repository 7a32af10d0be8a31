/- The names of segments, read, in plain Lean. -/
import Derived.Test.YtakneimkadjiiaaMnm
import Derived.Lib.Bytealg
set_option linter.unusedVariables false
set_option linter.unusedSimpArgs false
namespace Cf
def unhex (c : UInt8) : Option Nat := if 48 ≤ c.toNat ∧ c.toNat ≤ 57 then some (c.toNat - 48) else if 97 ≤ c.toNat ∧ c.toNat ≤ 102 then some (c.toNat - 87) else none
def fstGo : Nat → List UInt8 → Option Nat
  | n, [] => some n
  | n, c :: r => match unhex c with
    | none => none
    | some d => fstGo (n * 16 + d) r
def firstL (s : List UInt8) : Nat × Bool :=
  if s.length ≠ 16 ∨ s.getD 0 0 ≠ 76 then (0, false) else match fstGo 0 (s.drop 1) with
  | none => (0, false)
  | some n => (n, decide (0 < n))
theorem unhex_lt {c : UInt8} {d : Nat} (h : unhex c = some d) : d < 16 := by
  unfold unhex at h
  split at h
  · simp only [Option.some.injEq] at h; omega
  · split at h
    · simp only [Option.some.injEq] at h; omega
    · cases h
theorem fstGo_snoc (n : Nat) (l : List UInt8) (c : UInt8) : fstGo n (l ++ [c]) = (fstGo n l).bind fun m => (unhex c).map fun d => m * 16 + d := by
  induction l generalizing n with
  | nil =>
    simp only [List.nil_append, fstGo, Option.bind_some]
    cases unhex c <;> rfl
  | cons x l ih =>
    simp only [List.cons_append, fstGo]
    cases unhex x with
    | none => rfl
    | some d => exact ih _
theorem fstGo_none {n : Nat} {l : List UInt8} (h : fstGo n l = none) (m : List UInt8) : fstGo n (l ++ m) = none := by
  induction l generalizing n with
  | nil => cases h
  | cons x l ih =>
    simp only [List.cons_append, fstGo] at h ⊢
    cases hx : unhex x with
    | none => rfl
    | some d => rw [hx] at h; exact ih h
theorem fstGo_lt {l : List UInt8} : ∀ {n k m : Nat}, n < 16 ^ k → fstGo n l = some m → m < 16 ^ (k + l.length) := by
  induction l with
  | nil =>
    intro n k m hn h
    simp only [fstGo, Option.some.injEq] at h
    subst h
    exact hn
  | cons x l ih =>
    intro n k m hn h
    simp only [fstGo] at h
    cases hx : unhex x with
    | none => rw [hx] at h; cases h
    | some d =>
      rw [hx] at h
      have hd := unhex_lt hx
      have := ih (k := k + 1) (by rw [Nat.pow_succ]; omega) h
      rw [List.length_cons, show k + (l.length + 1) = k + 1 + l.length by omega]
      exact this
theorem unhex_hexD {d : Nat} (h : d < 16) : unhex (hexD d) = some d := by
  have : d = 0 ∨ d = 1 ∨ d = 2 ∨ d = 3 ∨ d = 4 ∨ d = 5 ∨ d = 6 ∨ d = 7 ∨ d = 8 ∨ d = 9 ∨ d = 10 ∨ d = 11 ∨ d = 12 ∨ d = 13 ∨ d = 14 ∨ d = 15 := by omega
  rcases this with rfl | rfl | rfl | rfl | rfl | rfl | rfl | rfl | rfl | rfl | rfl | rfl | rfl | rfl | rfl | rfl <;> rfl
theorem hexD_unhex {c : UInt8} {d : Nat} (h : unhex c = some d) : hexD d = c := by
  unfold unhex at h
  unfold hexD
  refine UInt8.toNat_inj.1 ?_
  split at h
  · simp only [Option.some.injEq] at h
    rw [if_pos (by omega), UInt8.toNat_ofNat']
    omega
  · split at h
    · simp only [Option.some.injEq] at h
      rw [if_neg (by omega), UInt8.toNat_ofNat']
      omega
    · cases h
theorem fstGo_hexs (k n : Nat) : fstGo 0 (hexs k n) = some (n % 16 ^ k) := by
  induction k generalizing n with
  | zero => simp [hexs, fstGo, Nat.mod_one]
  | succ k ih =>
    rw [hexs, fstGo_snoc, ih, unhex_hexD (Nat.mod_lt _ (by decide))]
    simp only [Option.bind_some, Option.map_some, Option.some.injEq]
    have h1 : n % 16 ^ (k + 1) = n % 16 + 16 * (n / 16 % 16 ^ k) := by
      rw [Nat.pow_succ, Nat.mul_comm (16 ^ k) 16, Nat.mod_mul]
    omega
theorem hexs_fstGo {l : List UInt8} : ∀ {m : Nat}, fstGo 0 l = some m → hexs l.length m = l := by
  suffices ∀ n (l : List UInt8), l.length = n → ∀ {m : Nat}, fstGo 0 l = some m → hexs l.length m = l from fun {m} h => this l.length l rfl h
  intro n
  induction n with
  | zero =>
    intro l hl m h
    obtain rfl : l = [] := List.eq_nil_of_length_eq_zero hl
    rfl
  | succ n ih =>
    intro l hl m h
    rcases List.eq_nil_or_concat l with rfl | ⟨t, c, rfl⟩
    · simp at hl
    · rw [List.concat_eq_append] at h hl ⊢
      rw [fstGo_snoc] at h
      cases ht : fstGo 0 t with
      | none => rw [ht] at h; cases h
      | some k =>
        rw [ht] at h
        simp only [Option.bind_some] at h
        cases hc : unhex c with
        | none => rw [hc] at h; cases h
        | some d =>
          rw [hc] at h
          simp only [Option.map_some, Option.some.injEq] at h
          subst h
          have hd := unhex_lt hc
          have htl : t.length = n := by simpa using hl
          have := ih t htl ht
          rw [List.length_append, List.length_singleton, hexs, show (k * 16 + d) / 16 = k by omega, show (k * 16 + d) % 16 = d by omega, this, hexD_unhex hc]
/-- What a name leads to leads back. -/
theorem firstL_nameL {n : Nat} (h1 : 1 ≤ n) (h2 : n < 1152921504606846976) : firstL (nameL n) = (n, true) := by
  have e : nameL n = 76 :: hexs 15 n := by unfold nameL; rw [if_neg (by omega)]
  unfold firstL
  rw [e, if_neg (by simp [hexs_len]), List.drop_succ_cons, List.drop_zero, fstGo_hexs, Nat.mod_eq_of_lt (by simpa using h2)]
  simp
  omega
theorem nameL_firstL {s : List UInt8} (h : (firstL s).2 = true) : nameL (firstL s).1 = s := by
  unfold firstL at h ⊢
  split at h
  · cases h
  · rename_i h0
    rw [if_neg h0]
    have hl : s.length = 16 := by
      by_cases e : s.length = 16
      · exact e
      · exact absurd (.inl e) h0
    have hc : s.getD 0 0 = 76 := by
      by_cases e : s.getD 0 0 = 76
      · exact e
      · exact absurd (.inr e) h0
    cases hf : fstGo 0 (s.drop 1) with
    | none => rw [hf] at h; cases h
    | some n =>
      rw [hf] at h
      simp only [decide_eq_true_eq] at h
      have hlt := fstGo_lt (n := 0) (k := 0) (by decide) hf
      rw [List.length_drop, hl] at hlt
      have hh := hexs_fstGo hf
      rw [List.length_drop, hl] at hh
      simp only
      unfold nameL
      rw [if_neg (by have : (16 : Nat) ^ (0 + (16 - 1)) = 1152921504606846976 := by decide
                     omega)]
      rcases s with _ | ⟨x, r⟩
      · simp at hl
      · simp only [List.getD_cons_zero] at hc
        rw [List.drop_succ_cons, List.drop_zero] at hh
        rw [hc]
        simp only [Nat.reduceSub] at hh
        rw [hh]
theorem idx_unhex (c : UInt8) : Go.Lib.indexByte [48, 49, 50, 51, 52, 53, 54, 55, 56, 57, 97, 98, 99, 100, 101, 102] c = match unhex c with | some d => (d : Int) | none => -1 := by
  have h : ∀ n : Nat, n < 256 → Go.Lib.indexByte [48, 49, 50, 51, 52, 53, 54, 55, 56, 57, 97, 98, 99, 100, 101, 102] (UInt8.ofNat n) = match unhex (UInt8.ofNat n) with | some d => (d : Int) | none => -1 := by decide +kernel
  have := h c.toNat c.toNat_lt
  rwa [UInt8.ofNat_toNat] at this
/-- Names stand in the order of their indexes. -/
theorem hexD_lt {a b : Nat} (ha : a < 16) (hb : b < 16) : (hexD a).toNat < (hexD b).toNat ↔ a < b := by
  have h : ∀ x : Nat, x < 16 → ∀ y : Nat, y < 16 → ((hexD x).toNat < (hexD y).toNat ↔ x < y) := by decide +kernel
  exact h a ha b hb
end Cf
