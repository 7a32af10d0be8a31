/- The check sum of 24 bits, and what follows of it, in plain Lean. -/
set_option linter.unusedVariables false
set_option linter.unusedSimpArgs false
namespace Cf
/-- One shift of the register. -/
def stp (s : Nat) : Nat := if s * 2 / 16777216 = 0 then s * 2 else (s * 2 % 16777216) ^^^ 8801531
def stpn : Nat → Nat → Nat
  | 0, s => s
  | n + 1, s => stp (stpn n s)
def byt (s : Nat) (c : UInt8) : Nat := stpn 8 (s ^^^ c.toNat * 65536)
def crc (s : Nat) (l : List UInt8) : Nat := l.foldl byt s
theorem stp_lt {s : Nat} (h : s < 16777216) : stp s < 16777216 := by
  unfold stp
  split
  · omega
  · exact Nat.xor_lt_two_pow (n := 24) (by omega) (by decide)
theorem stpn_lt {n s : Nat} (h : s < 16777216) : stpn n s < 16777216 := by
  induction n with
  | zero => exact h
  | succ n ih => exact stp_lt ih
theorem mix_lt {s : Nat} (h : s < 16777216) (c : UInt8) : s ^^^ c.toNat * 65536 < 16777216 :=
  Nat.xor_lt_two_pow (n := 24) h (by have := c.toNat_lt; omega)
theorem byt_lt {s : Nat} (h : s < 16777216) (c : UInt8) : byt s c < 16777216 := stpn_lt (mix_lt h c)
theorem crc_lt {s : Nat} (h : s < 16777216) (l : List UInt8) : crc s l < 16777216 := by
  induction l generalizing s with
  | nil => exact h
  | cons c l ih => exact ih (byt_lt h c)
theorem crc_snoc (s : Nat) (l : List UInt8) (c : UInt8) : crc s (l ++ [c]) = byt (crc s l) c := by simp [crc]
theorem crc_append (s : Nat) (l m : List UInt8) : crc s (l ++ m) = crc (crc s l) m := by simp [crc]

/-! ### The register is linear -/
theorem stp_eq {s : Nat} (h : s < 16777216) : stp s = (s * 2 % 16777216) ^^^ (if s / 8388608 % 2 = 1 then 8801531 else 0) := by
  unfold stp
  split
  · rw [if_neg (by omega), Nat.xor_zero, Nat.mod_eq_of_lt (by omega)]
  · rw [if_pos (by omega)]
theorem dbl_xor (a b : Nat) : (a ^^^ b) * 2 % 16777216 = (a * 2 % 16777216) ^^^ (b * 2 % 16777216) := by
  have h (x : Nat) : x * 2 = x <<< 1 := by rw [Nat.shiftLeft_eq]
  rw [h, h, h, Nat.shiftLeft_xor_distrib, show (16777216 : Nat) = 2 ^ 24 from rfl, Nat.xor_mod_two_pow]
theorem top_xor (a b : Nat) : (a ^^^ b) / 8388608 % 2 = (a / 8388608 % 2) ^^^ (b / 8388608 % 2) := by
  rw [show (8388608 : Nat) = 2 ^ 23 from rfl, Nat.xor_div_two_pow]
  exact Nat.xor_mod_two_pow (n := 1)
theorem xor_lt {a b : Nat} (ha : a < 16777216) (hb : b < 16777216) : a ^^^ b < 16777216 := Nat.xor_lt_two_pow (n := 24) ha hb
theorem xor4 (a b c d : Nat) : (a ^^^ b) ^^^ (c ^^^ d) = (a ^^^ c) ^^^ (b ^^^ d) := by
  rw [Nat.xor_assoc, ← Nat.xor_assoc b c d, Nat.xor_comm b c, Nat.xor_assoc c b d, ← Nat.xor_assoc]
theorem stp_xor {a b : Nat} (ha : a < 16777216) (hb : b < 16777216) : stp (a ^^^ b) = stp a ^^^ stp b := by
  rw [stp_eq (xor_lt ha hb), stp_eq ha, stp_eq hb, dbl_xor, top_xor, xor4]
  congr 1
  rcases (by omega : a / 8388608 % 2 = 0 ∨ a / 8388608 % 2 = 1) with h1 | h1 <;> rcases (by omega : b / 8388608 % 2 = 0 ∨ b / 8388608 % 2 = 1) with h2 | h2 <;> simp [h1, h2]
theorem stpn_xor {a b : Nat} (ha : a < 16777216) (hb : b < 16777216) (n : Nat) : stpn n (a ^^^ b) = stpn n a ^^^ stpn n b := by
  induction n with
  | zero => rfl
  | succ n ih => rw [stpn, ih, stp_xor (stpn_lt ha) (stpn_lt hb)]; rfl
theorem stpn_add (m n s : Nat) : stpn (m + n) s = stpn m (stpn n s) := by
  induction m with
  | zero => simp [stpn]
  | succ m ih => rw [Nat.succ_add, stpn, ih]; rfl
theorem stp_small {s : Nat} (h : s < 8388608) : stp s = s * 2 := by unfold stp; rw [if_pos (by omega)]
theorem stpn_small {n : Nat} : ∀ {s : Nat}, s * 2 ^ n < 16777216 → stpn n s = s * 2 ^ n := by
  induction n with
  | zero => intro s _; simp [stpn]
  | succ n ih =>
    intro s h
    have h2 : s * 2 ^ (n + 1) = s * 2 ^ n * 2 := by rw [Nat.pow_succ, Nat.mul_assoc]
    rw [stpn, ih (by omega), stp_small (by omega), h2]
theorem stp_zero : stp 0 = 0 := rfl
theorem stpn_zero (n : Nat) : stpn n 0 = 0 := by induction n with | zero => rfl | succ n ih => rw [stpn, ih, stp_zero]
theorem stp_ker {s : Nat} (h : s < 16777216) (h0 : stp s = 0) : s = 0 := by
  rw [stp_eq h] at h0
  by_cases ht : s / 8388608 % 2 = 1
  · rw [if_pos ht] at h0
    have := congrArg (fun x => x.testBit 0) h0
    simp [Nat.testBit_eq_decide_div_mod_eq] at this
  · rw [if_neg ht, Nat.xor_zero] at h0
    omega
theorem stpn_ker {n s : Nat} (h : s < 16777216) (h0 : stpn n s = 0) : s = 0 := by
  induction n with
  | zero => exact h0
  | succ n ih => exact ih (stp_ker (stpn_lt h) h0)
theorem byt_xor {a b : Nat} (ha : a < 16777216) (hb : b < 16777216) (c : UInt8) : byt (a ^^^ b) c = byt a c ^^^ stpn 8 b := by
  unfold byt
  rw [Nat.xor_assoc, Nat.xor_comm b, ← Nat.xor_assoc, stpn_xor (mix_lt ha c) hb]
theorem crc_xor {a b : Nat} (ha : a < 16777216) (hb : b < 16777216) (l : List UInt8) : crc (a ^^^ b) l = crc a l ^^^ stpn (8 * l.length) b := by
  induction l generalizing a b with
  | nil => rfl
  | cons c l ih =>
    show crc (byt (a ^^^ b) c) l = _
    rw [byt_xor ha hb, ih (byt_lt ha c) (stpn_lt hb), ← stpn_add]
    rfl

/-! ### What is sealed has the register 0 -/
theorem byt_shift {s : Nat} (h : s < 16777216) (c : UInt8) : byt s c = stpn 8 s ^^^ stpn 8 (c.toNat * 65536) := by
  unfold byt
  exact stpn_xor h (by have := c.toNat_lt; omega) 8
theorem stpn_in (n k x : Nat) (h : x * 2 ^ k < 16777216) : stpn n (x * 2 ^ k) = stpn (n + k) x := by rw [stpn_add, stpn_small h]
theorem add_eq_xor {k x y : Nat} (h : y < 2 ^ k) : x * 2 ^ k + y = x * 2 ^ k ^^^ y := by
  apply Nat.eq_of_testBit_eq
  intro i
  rw [Nat.mul_comm, Nat.testBit_two_pow_mul_add x h, Nat.testBit_xor, Nat.testBit_two_pow_mul]
  split
  · rename_i hi
    simp [show ¬ k ≤ i by omega]
  · rename_i hi
    rw [Nat.testBit_lt_two_pow (Nat.lt_of_lt_of_le h (Nat.pow_le_pow_right (by decide) (by omega)))]
    simp [show k ≤ i by omega]
/-- The three bytes of a sum. -/
def sum3 (n : Nat) : List UInt8 := [UInt8.ofNat (n / 65536), UInt8.ofNat (n / 256), UInt8.ofNat n]
def sld (xs : List UInt8) : List UInt8 := xs ++ sum3 (crc 11994318 xs)
theorem small2 (y : Nat) (h : y < 256) : y * 256 * 256 < 16777216 ∧ y * 65536 < 16777216 ∧ y * 256 * 256 = y * 65536 := by omega
theorem crc3 {s : Nat} (h : s < 16777216) (x y z : UInt8) : crc s [x, y, z] = stpn 24 (s ^^^ (x.toNat * 65536 + y.toNat * 256 + z.toNat)) := by
  have hx := x.toNat_lt
  have hy := y.toNat_lt
  have hz := z.toNat_lt
  have e2 : x.toNat * 65536 + y.toNat * 256 + z.toNat = (x.toNat * 65536 ^^^ y.toNat * 256) ^^^ z.toNat := by
    rw [Nat.add_assoc, show (65536 : Nat) = 2 ^ 16 from rfl, add_eq_xor (by omega), show (256 : Nat) = 2 ^ 8 from rfl, add_eq_xor (by omega), Nat.xor_assoc]
  rw [e2]
  show byt (byt (byt s x) y) z = _
  rw [byt_shift (byt_lt (byt_lt h x) y), byt_shift (byt_lt h x), byt_shift h]
  rw [stpn_xor (n := 8) (stpn_lt h) (stpn_lt (by omega)), stpn_xor (n := 8) (xor_lt (stpn_lt (stpn_lt h)) (stpn_lt (stpn_lt (by omega)))) (stpn_lt (by omega)),
    stpn_xor (n := 8) (stpn_lt (stpn_lt h)) (stpn_lt (stpn_lt (by omega)))]
  rw [stpn_xor h (xor_lt (xor_lt (by omega) (by omega)) (by omega)), stpn_xor (xor_lt (by omega) (by omega)) (by omega), stpn_xor (by omega) (by omega)]
  have b3 := (small2 _ hy).1
  have b4 := (small2 _ hz).2.1
  have p8 : (2 : Nat) ^ 8 = 256 := by decide
  have p16 : (2 : Nat) ^ 16 = 65536 := by decide
  have a3 : stpn 8 (stpn 8 (y.toNat * 65536)) = stpn 24 (y.toNat * 256) := by
    have e := stpn_in 16 8 (y.toNat * 256) (by rw [p8]; exact b3)
    rw [p8, (small2 _ hy).2.2] at e
    simp only [Nat.reduceAdd] at e
    rw [← stpn_add]
    simp only [Nat.reduceAdd]
    exact e
  have a4 : stpn 8 (z.toNat * 65536) = stpn 24 z.toNat := by
    have e := stpn_in 8 16 z.toNat (by rw [p16]; exact b4)
    rw [p16] at e
    simp only [Nat.reduceAdd] at e
    exact e
  have a1 : stpn 8 (stpn 8 (stpn 8 s)) = stpn 24 s := by rw [← stpn_add, ← stpn_add]
  have a2 : stpn 8 (stpn 8 (stpn 8 (x.toNat * 65536))) = stpn 24 (x.toNat * 65536) := by rw [← stpn_add, ← stpn_add]
  rw [a1, a2, a3, a4]
  simp only [Nat.xor_assoc]
theorem xor_zero_eq {a b : Nat} (h : a ^^^ b = 0) : a = b := by
  have := congrArg (· ^^^ b) h
  simpa [Nat.xor_assoc] using this
theorem sum3_val {n : Nat} (h : n < 16777216) : (UInt8.ofNat (n / 65536)).toNat * 65536 + (UInt8.ofNat (n / 256)).toNat * 256 + (UInt8.ofNat n).toNat = n := by
  simp [UInt8.toNat_ofNat']
  omega
theorem crc_sld (xs : List UInt8) : crc 11994318 (sld xs) = 0 := by
  have h : crc 11994318 xs < 16777216 := crc_lt (by decide) xs
  rw [sld, crc_append, sum3, crc3 h, sum3_val h, Nat.xor_self, stpn_zero]
/-- What three bytes end in the register 0: those of the sum alone. -/
theorem crc3_zero {s : Nat} (h : s < 16777216) (x y z : UInt8) (h0 : crc s [x, y, z] = 0) : s = x.toNat * 65536 + y.toNat * 256 + z.toNat := by
  have hx := x.toNat_lt
  have hy := y.toNat_lt
  have hz := z.toNat_lt
  rw [crc3 h] at h0
  have := stpn_ker (xor_lt h (by omega)) h0
  exact xor_zero_eq this
theorem sum3_eq {s : Nat} (h : s < 16777216) (x y z : UInt8) : s = x.toNat * 65536 + y.toNat * 256 + z.toNat ↔ [x, y, z] = sum3 s := by
  have hx := x.toNat_lt
  have hy := y.toNat_lt
  have hz := z.toNat_lt
  constructor
  · rintro rfl
    simp only [sum3, List.cons.injEq, and_true, ← UInt8.toNat_inj, UInt8.toNat_ofNat']
    omega
  · intro e
    simp only [sum3, List.cons.injEq, and_true] at e
    rw [e.1, e.2.1, e.2.2, sum3_val h]

/-! ### One bit turned -/
/-- Bit p (the most significant one of each byte first) turned. -/
def flp (l : List UInt8) (p : Nat) : List UInt8 := l.set (p / 8) (l.getD (p / 8) 0 ^^^ (128 : UInt8) >>> UInt8.ofNat (p % 8))
theorem shr_nat (k : Nat) (h : k < 8) : ((128 : UInt8) >>> UInt8.ofNat k).toNat = 2 ^ (7 - k) := by
  match k, h with
  | 0, _ | 1, _ | 2, _ | 3, _ | 4, _ | 5, _ | 6, _ | 7, _ => rfl
theorem byt_flip {s : Nat} (h : s < 16777216) (c m : UInt8) : byt s (c ^^^ m) = byt s c ^^^ stpn 8 (m.toNat * 65536) := by
  have hc := c.toNat_lt
  have hm := m.toNat_lt
  unfold byt
  rw [← stpn_xor (mix_lt h c) (by omega)]
  congr 1
  rw [UInt8.toNat_xor, Nat.xor_assoc]
  congr 1
  rw [show (65536 : Nat) = 2 ^ 16 from rfl, ← Nat.shiftLeft_eq, ← Nat.shiftLeft_eq, ← Nat.shiftLeft_eq, Nat.shiftLeft_xor_distrib]
theorem crc_flp {s : Nat} (h : s < 16777216) (l : List UInt8) (p : Nat) (hp : p < 8 * l.length) : crc s (flp l p) = crc s l ^^^ stpn (8 * l.length - p) 8388608 := by
  have hi : p / 8 < l.length := by omega
  have e1 : l = l.take (p / 8) ++ l[p / 8] :: l.drop (p / 8 + 1) := by simp
  have e2 : flp l p = l.take (p / 8) ++ (l[p / 8] ^^^ (128 : UInt8) >>> UInt8.ofNat (p % 8)) :: l.drop (p / 8 + 1) := by
    unfold flp
    rw [List.set_eq_take_append_cons_drop, if_pos hi, List.getD_eq_getElem?_getD, List.getElem?_eq_getElem hi]
    rfl
  have hl : (l.drop (p / 8 + 1)).length = l.length - (p / 8 + 1) := List.length_drop
  have hk : p % 8 < 8 := Nat.mod_lt _ (by decide)
  rw [e2, crc_append]
  conv => rhs; arg 1; rw [e1, crc_append]
  have hs : crc s (l.take (p / 8)) < 16777216 := crc_lt h _
  show crc (byt (crc s (l.take (p / 8))) _) _ = crc (byt (crc s (l.take (p / 8))) _) _ ^^^ _
  have hm : 2 ^ (7 - p % 8) * 65536 < 16777216 := by
    have : 2 ^ (7 - p % 8) ≤ 2 ^ 7 := Nat.pow_le_pow_right (by decide) (by omega)
    omega
  rw [byt_flip hs, shr_nat _ hk, crc_xor (byt_lt hs _) (stpn_lt hm), hl, ← stpn_add]
  congr 1
  have e3 : stpn (p % 8) (2 ^ (7 - p % 8) * 65536) = 8388608 := by
    have hh : 2 ^ (7 - p % 8) * 65536 * 2 ^ (p % 8) = 8388608 := by
      rw [Nat.mul_right_comm, ← Nat.pow_add, show 7 - p % 8 + p % 8 = 7 by omega]
    rw [stpn_small (by rw [hh]; decide), hh]
  rw [← e3, ← stpn_add]
  congr 1
  omega
theorem flp_length (l : List UInt8) (p : Nat) : (flp l p).length = l.length := by simp [flp]
/-- The first n of the bits 'at' .. turned where 'turn' says so. -/
def burst (turn : Nat) (p : Nat) (l : List UInt8) : Nat → List UInt8
  | 0 => l
  | n + 1 => if turn / 2 ^ n % 2 = 1 then flp (burst turn p l n) (p + n) else burst turn p l n
theorem burst_length (turn p : Nat) (l : List UInt8) (n : Nat) : (burst turn p l n).length = l.length := by
  induction n with
  | zero => rfl
  | succ n ih => unfold burst; split <;> simp [flp_length, ih]
/-- What the turned bits are worth. -/
def bval (turn : Nat) : Nat → Nat
  | 0 => 0
  | n + 1 => if turn / 2 ^ n % 2 = 1 then bval turn n ^^^ 2 ^ (23 - n) else bval turn n
theorem bval_lt (turn n : Nat) (hn : n ≤ 24) : bval turn n < 16777216 := by
  induction n with
  | zero => exact Nat.zero_lt_succ _
  | succ n ih =>
    unfold bval
    have : 2 ^ (23 - n) ≤ 2 ^ 23 := Nat.pow_le_pow_right (by decide) (by omega)
    split
    · exact xor_lt (ih (by omega)) (by omega)
    · exact ih (by omega)
theorem bval_bit (turn n : Nat) (hn : n ≤ 24) (j : Nat) : (bval turn n).testBit (23 - j) = (decide (turn / 2 ^ j % 2 = 1) && decide (j < n)) ∨ 23 < j := by
  rcases Nat.lt_or_ge 23 j with h | hj
  · exact .inr h
  refine .inl ?_
  induction n with
  | zero => simp [bval]
  | succ n ih =>
    have ih := ih (by omega)
    unfold bval
    by_cases hjn : j = n
    · subst hjn
      split
      · rename_i ht
        rw [Nat.testBit_xor, ih, Nat.testBit_two_pow_self]
        simp [ht]
      · rename_i ht
        rw [ih]
        simp [ht]
    · have hne : ¬ (23 - n = 23 - j) := by omega
      split
      · rw [Nat.testBit_xor, ih, Nat.testBit_two_pow]
        simp [hne]
        congr 1
        simp
        omega
      · rw [ih]
        congr 1
        simp
        omega
theorem bval_ne (turn : Nat) (h : turn % 16777216 ≠ 0) : bval turn 24 ≠ 0 := by
  intro h0
  apply h
  apply Nat.eq_of_testBit_eq
  intro i
  rw [show (16777216 : Nat) = 2 ^ 24 from rfl, Nat.testBit_mod_two_pow, Nat.zero_testBit]
  rcases bval_bit turn 24 (by omega) i with hb | hi
  · rw [h0, Nat.zero_testBit] at hb
    rw [Nat.testBit_eq_decide_div_mod_eq]
    revert hb
    cases decide (turn / 2 ^ i % 2 = 1) <;> simp
  · simp
    omega
theorem crc_burst {s : Nat} (h : s < 16777216) (l : List UInt8) (turn p n : Nat) (hn : n ≤ 24) (hp : p + 24 ≤ 8 * l.length) : crc s (burst turn p l n) = crc s l ^^^ stpn (8 * l.length - p) (bval turn n) := by
  induction n with
  | zero => simp [burst, bval, stpn_zero]
  | succ n ih =>
    have ih := ih (by omega)
    unfold burst bval
    split
    · rw [crc_flp h _ _ (by rw [burst_length]; omega), burst_length, ih, Nat.xor_assoc]
      congr 1
      have hp2 : 2 ^ (23 - n) < 16777216 := by
        have : 2 ^ (23 - n) ≤ 2 ^ 23 := Nat.pow_le_pow_right (by decide) (by omega)
        omega
      rw [stpn_xor (bval_lt turn n (by omega)) hp2]
      congr 1
      have e3 : stpn n (2 ^ (23 - n)) = 8388608 := by
        have hh : 2 ^ (23 - n) * 2 ^ n = 8388608 := by rw [← Nat.pow_add, show 23 - n + n = 23 by omega]
        rw [stpn_small (by rw [hh]; decide), hh]
      rw [← e3, ← stpn_add]
      congr 1
      omega
    · exact ih
/-- What was sealed, and turned within 24 bits, isn't sealed. -/
theorem burst_crc (xs : List UInt8) (turn p : Nat) (h : turn % 16777216 ≠ 0) (hp : p + 24 ≤ 8 * (sld xs).length) : crc 11994318 (burst turn p (sld xs) 24) ≠ 0 := by
  rw [crc_burst (by decide) _ _ _ _ (Nat.le_refl _) hp, crc_sld, Nat.zero_xor]
  exact fun e => bval_ne turn h (stpn_ker (bval_lt _ _ (Nat.le_refl _)) e)

/-! ### The reference's register, bit by bit -/
def rst (s b : Nat) : Nat := if s / 8388608 % 2 ≠ b % 2 then (s * 2 % 16777216) ^^^ 8801531 else s * 2 % 16777216
/-- Behind j bits of the byte c, from bit 7 down. -/
def rbs (c : Nat) (s : Nat) : Nat → Nat
  | 0 => s
  | j + 1 => rst (rbs c s j) (c / 2 ^ (7 - j))
theorem rst_lt (s b : Nat) : rst s b < 16777216 := by
  unfold rst
  split
  · exact Nat.xor_lt_two_pow (n := 24) (Nat.mod_lt _ (by decide)) (by decide)
  · exact Nat.mod_lt _ (by decide)
theorem rbs_lt {c s : Nat} (h : s < 16777216) (j : Nat) : rbs c s j < 16777216 := by
  cases j with
  | zero => exact h
  | succ j => exact rst_lt _ _
theorem rst_eq {r d : Nat} (hr : r < 16777216) (hd : d < 256) : stp (r ^^^ d * 65536) = rst r (d / 128) ^^^ (d * 2 % 256) * 65536 := by
  have hd' : d * 65536 < 16777216 := by omega
  have e1 : d * 65536 * 2 % 16777216 = (d * 2 % 256) * 65536 := by omega
  have e2 : d * 65536 / 8388608 % 2 = d / 128 % 2 := by omega
  rw [stp_xor hr hd', stp_eq hr, stp_eq hd', e1, e2]
  unfold rst
  rcases (by omega : r / 8388608 % 2 = 0 ∨ r / 8388608 % 2 = 1) with h1 | h1 <;> rcases (by omega : d / 128 % 2 = 0 ∨ d / 128 % 2 = 1) with h2 | h2 <;> simp only [h1, h2]
  all_goals simp
  · rw [Nat.xor_assoc, Nat.xor_comm 8801531]
  · rw [Nat.xor_assoc, Nat.xor_comm _ 8801531, ← Nat.xor_assoc 8801531, Nat.xor_self, Nat.zero_xor]
theorem rbs_eq {c s : Nat} (hs : s < 16777216) (hc : c < 256) (j : Nat) (hj : j ≤ 8) : stpn j (s ^^^ c * 65536) = rbs c s j ^^^ (c * 2 ^ j % 256) * 65536 := by
  induction j with
  | zero => simp [stpn, rbs, Nat.mod_eq_of_lt hc]
  | succ j ih =>
    have e1 : rst (rbs c s j) ((c * 2 ^ j % 256) / 128) = rst (rbs c s j) (c / 2 ^ (7 - j)) := by
      have h8 : (c * 2 ^ j % 256) / 128 % 2 = c / 2 ^ (7 - j) % 2 := by
        have : j = 0 ∨ j = 1 ∨ j = 2 ∨ j = 3 ∨ j = 4 ∨ j = 5 ∨ j = 6 ∨ j = 7 := by omega
        rcases this with rfl | rfl | rfl | rfl | rfl | rfl | rfl | rfl <;> simp only [Nat.reducePow, Nat.reduceSub, Nat.mul_one, Nat.div_one] <;> omega
      unfold rst
      rw [h8]
    have e2 : c * 2 ^ j % 256 * 2 % 256 = c * 2 ^ (j + 1) % 256 := by
      rw [Nat.pow_succ, ← Nat.mul_assoc]
      generalize c * 2 ^ j = x
      omega
    rw [stpn, ih (by omega), rst_eq (rbs_lt hs j) (Nat.mod_lt _ (by decide)), e1, e2]
    rfl
theorem rbs_byt {s : Nat} (hs : s < 16777216) (c : UInt8) : rbs c.toNat s 8 = byt s c := by
  have hc := c.toNat_lt
  have h := rbs_eq hs (c := c.toNat) (by omega) 8 (by omega)
  have e : c.toNat * 2 ^ 8 % 256 = 0 := by simp
  rw [e, Nat.zero_mul, Nat.xor_zero] at h
  exact h.symm

/-! ### What is opened -/
def opnB (xs : List UInt8) : Bool := decide (3 ≤ xs.length) && (sld (xs.take (xs.length - 3)) == xs)
def opnL (xs : List UInt8) : List UInt8 := if opnB xs then xs.take (xs.length - 3) else []
theorem sld_length (xs : List UInt8) : (sld xs).length = xs.length + 3 := by simp [sld, sum3]
theorem opnB_sld (xs : List UInt8) : opnB (sld xs) = true := by
  have h : (sld xs).take ((sld xs).length - 3) = xs := by rw [sld_length]; simp [sld]
  unfold opnB
  rw [h, sld_length]
  simp
theorem opnL_sld (xs : List UInt8) : opnL (sld xs) = xs := by
  rw [opnL, if_pos (opnB_sld xs), sld_length]
  simp [sld]
theorem sld_inj {xs ys : List UInt8} (h : sld xs = sld ys) : xs = ys := by rw [← opnL_sld xs, h, opnL_sld]
theorem opnB_three {ys : List UInt8} {x y z : UInt8} : opnB (ys ++ [x, y, z]) = true ↔ crc 11994318 ys = x.toNat * 65536 + y.toNat * 256 + z.toNat := by
  have h : crc 11994318 ys < 16777216 := crc_lt (by decide) ys
  rw [sum3_eq h]
  simp [opnB, sld]
  exact eq_comm
theorem opnL_three {ys : List UInt8} {x y z : UInt8} (h : opnB (ys ++ [x, y, z]) = true) : opnL (ys ++ [x, y, z]) = ys := by
  rw [opnL, if_pos h]
  simp
theorem split3 {xs : List UInt8} (h : 3 ≤ xs.length) : ∃ ys x y z, xs = ys ++ [x, y, z] := by
  refine ⟨xs.take (xs.length - 3), xs[xs.length - 3], xs[xs.length - 3 + 1], xs[xs.length - 3 + 1 + 1], ?_⟩
  conv => lhs; rw [← List.take_append_drop (xs.length - 3) xs]
  congr 1
  rw [List.drop_eq_getElem_cons (by omega), List.drop_eq_getElem_cons (by omega), List.drop_eq_getElem_cons (by omega), List.drop_of_length_le (by omega)]
theorem opn_crc {xs : List UInt8} (h : opnB xs = true) : crc 11994318 xs = 0 := by
  simp only [opnB, Bool.and_eq_true, decide_eq_true_eq, beq_iff_eq] at h
  rw [← h.2]
  exact crc_sld _
end Cf
