/- The package frame: size, Wrap, Take, Whole, each by its contract. -/
import Derived.Test.YtoccidpocagkjaaCrc
import Derived.Test.YtoccidpocagkjaaRcr
import Derived.Test.YtoccidpocagkjaaMfr
set_option linter.unusedVariables false
set_option linter.unusedSimpArgs false
namespace Go.Proofs.Ytoccidpocagkjaa
open Go.RowKit Go.Proofs.YtoccidpocagkjaaW.PrintWords Cf
attribute [local go_sem] str_beq str_bne

theorem or_i64 (a b : Nat) (ha : a < 16777216) (hb : b < 16777216) : bits .or .i64 (a : Int) (b : Int) = ((a ||| b : Nat) : Int) :=
  (bits_nat .i64 24 (by decide) (fun n h0 h1 => IntWalk.i64_in n (by
    have e : (2 : Int) ^ 24 = 16777216 := by decide
    rw [e] at h1
    omega)) a b ha hb).2
theorem or3i (x y z : Nat) (hx : x < 256) (hy : y < 256) (hz : z < 256) : bits .or .i64 (bits .or .i64 ((x : Int) * 65536) ((y : Int) * 256)) (z : Int) = ((x * 65536 + y * 256 + z : Nat) : Int) := by
  rw [show ((x : Int) * 65536) = ((x * 65536 : Nat) : Int) by omega, show ((y : Int) * 256) = ((y * 256 : Nat) : Int) by omega, or_i64 _ _ (by omega) (by omega),
    nat_join 16 _ _ (by omega) (by omega), or_i64 _ _ (by omega) (by omega), nat_join 8 _ _ (by omega) (by omega)]
theorem siz_long (b0 b1 b2 b3 b4 : UInt8) (r : List UInt8) : siz (b0 :: b1 :: b2 :: b3 :: b4 :: r) = if 65536 < vl (b0 :: b1 :: b2 :: b3 :: b4 :: r) ∨ b1 = 0 ∨ b0 ≠ 0x66 then (0, 20) else if r.length + 5 < vl (b0 :: b1 :: b2 :: b3 :: b4 :: r) + 8 then (0, 23) else (vl (b0 :: b1 :: b2 :: b3 :: b4 :: r) + 8, 0) := by
  have h1 : badB (b0 :: b1 :: b2 :: b3 :: b4 :: r) = decide (65536 < vl (b0 :: b1 :: b2 :: b3 :: b4 :: r) ∨ b1 = 0 ∨ b0 ≠ 0x66) := by
    unfold badB
    simp only [List.length_cons, List.getD_cons_zero, List.getD_cons_succ]
    rw [Bool.eq_iff_iff]
    simp [or_assoc]
  have h2 : tornB (b0 :: b1 :: b2 :: b3 :: b4 :: r) = decide (r.length + 5 < vl (b0 :: b1 :: b2 :: b3 :: b4 :: r) + 8) := by
    unfold tornB
    simp only [List.length_cons]
    rw [Bool.eq_iff_iff]
    simp only [Bool.or_eq_true, decide_eq_true_eq]
    omega
  unfold siz
  rw [h1, h2]
  simp only [decide_eq_true_eq]
set_option maxHeartbeats 2000000 in
theorem size_long (A : Option Addr) (n c : Nat) (b0 b1 b2 b3 b4 : UInt8) (r : List UInt8) (w : World) (hC : RdB w A n (b0 :: b1 :: b2 :: b3 :: b4 :: r)) :
    Calls Try.prog 81 #[.slice A n c] w fun e w' => e = .returned (.tuple #[.int .i64 (siz (b0 :: b1 :: b2 :: b3 :: b4 :: r)).1, .int .i64 (siz (b0 :: b1 :: b2 :: b3 :: b4 :: r)).2]) ∧ Below w.heap.size w w' := by
  obtain rfl : r.length + 5 = n := hC.1
  obtain ⟨b, off, rfl, hcs⟩ := KB_cells hC (by simp)
  have k0 := hcs 0 (by simp)
  have k1 := hcs 1 (by simp)
  have k2 := hcs 2 (by simp)
  have k3 := hcs 3 (by simp)
  have k4 := hcs 4 (by simp)
  simp only [List.getElem_cons_zero, List.getElem_cons_succ, Nat.add_zero] at k0 k1 k2 k3 k4
  have hm := Kd.C_max hC
  clear hcs hC
  have l0 := b0.toNat_lt
  have l1 := b1.toNat_lt
  have l2 := b2.toNat_lt
  have l3 := b3.toNat_lt
  have l4 := b4.toNat_lt
  have n4 : ((r.length : Int) + 5 == 4) = false := by simp; omega
  have n3 : ((r.length : Int) + 5 == 3) = false := by simp; omega
  have n2 : ((r.length : Int) + 5 == 2) = false := by simp; omega
  have n1 : ((r.length : Int) + 5 == 1) = false := by simp; omega
  have n0 : ((r.length : Int) + 5 == 0) = false := by simp; omega
  have i1 : (1 : Int) < (r.length : Int) + 5 := by omega
  have i2 : (2 : Int) < (r.length : Int) + 5 := by omega
  have i3 : (3 : Int) < (r.length : Int) + 5 := by omega
  have i4 : (4 : Int) < (r.length : Int) + 5 := by omega
  have w2 : IntKind.i64.wrap (b2.toNat : Int) = (b2.toNat : Int) := IntWalk.i64_in _ (by omega)
  have w3 : IntKind.i64.wrap (b3.toNat : Int) = (b3.toNat : Int) := IntWalk.i64_in _ (by omega)
  have w4 : IntKind.i64.wrap (b4.toNat : Int) = (b4.toNat : Int) := IntWalk.i64_in _ (by omega)
  have v2 : IntKind.i64.wrap ((b2.toNat : Int) * 65536) = (b2.toNat : Int) * 65536 := IntWalk.i64_in _ (by omega)
  have v3 : IntKind.i64.wrap ((b3.toNat : Int) * 256) = (b3.toNat : Int) * 256 := IntWalk.i64_in _ (by omega)
  have O3 := Lib.hid (or3i b2.toNat b3.toNat b4.toNat l2 l3 l4)
  have hv : vl (b0 :: b1 :: b2 :: b3 :: b4 :: r) = b2.toNat * 65536 + b3.toNat * 256 + b4.toNat := rfl
  have hvl := vl_lt (b0 :: b1 :: b2 :: b3 :: b4 :: r)
  have hS := siz_long b0 b1 b2 b3 b4 r
  rw [← hv] at O3
  generalize siz (b0 :: b1 :: b2 :: b3 :: b4 :: r) = s at *
  generalize vl (b0 :: b1 :: b2 :: b3 :: b4 :: r) = v at *
  clear hv
  have ev : ((v : Int) + 8 == 0) = false := by simp; omega
  by_cases h1 : 65536 < v
  · have HF := Lib.hid (show s = (0, 20) by rw [hS, if_pos (.inl h1)])
    clear hS
    go_enter Try.func81, Try.ntmps81
    go_wp2
    go_quiet (fail)
    rw [O3.out]
    go_wp2
    go_ret2
    exact ⟨by rw [HF.out]; rfl, pw_below_drewN (Below.refl _ _) _⟩
  by_cases h2 : b1 = 0
  · have HF := Lib.hid (show s = (0, 20) by rw [hS, if_pos (.inr (.inl h2))])
    clear hS
    subst h2
    go_enter Try.func81, Try.ntmps81
    go_wp2
    go_quiet (fail)
    rw [O3.out]
    go_wp2
    go_ret2
    exact ⟨by rw [HF.out]; rfl, pw_below_drewN (Below.refl _ _) _⟩
  have e2 : ((b1.toNat : Int) == 0) = false := by
    rw [beq_eq_false_iff_ne]
    intro h
    exact h2 (UInt8.toNat_inj.1 (by simp; omega))
  by_cases h3 : b0 = 0x66
  · by_cases h4 : r.length + 5 < v + 8
    · have HF := Lib.hid (show s = (0, 23) by rw [hS, if_neg (by simp [h1, h2, h3]), if_pos h4])
      clear hS h2
      subst h3
      go_enter Try.func81, Try.ntmps81
      go_wp2
      go_quiet (fail)
      rw [O3.out]
      go_wp2
      go_ret2
      exact ⟨by rw [HF.out]; rfl, pw_below_drewN (Below.refl _ _) _⟩
    · have HF := Lib.hid (show s = (v + 8, 0) by rw [hS, if_neg (by simp [h1, h2, h3]), if_neg h4])
      have HG := Lib.hid (show ((v + 8 : Nat) : Int) = (v : Int) + 8 by omega)
      clear hS h2
      subst h3
      go_enter Try.func81, Try.ntmps81
      go_wp2
      go_quiet (fail)
      rw [O3.out]
      go_wp2
      go_ret2
      exact ⟨by rw [HF.out]; dsimp only; rw [HG.out]; rfl, pw_below_drewN (Below.refl _ _) _⟩
  · have e3 : ((b0.toNat : Int) != 102) = true := by
      rw [bne_iff_ne]
      intro h
      exact h3 (UInt8.toNat_inj.1 (by simp; omega))
    have HF := Lib.hid (show s = (0, 20) by rw [hS, if_pos (.inr (.inr h3))])
    clear hS h2 h3
    go_enter Try.func81, Try.ntmps81
    go_wp2
    go_quiet (fail)
    rw [O3.out]
    go_wp2
    go_ret2
    exact ⟨by rw [HF.out]; rfl, pw_below_drewN (Below.refl _ _) _⟩

set_option maxHeartbeats 2000000 in
theorem size_short (A : Option Addr) (n c : Nat) (xs : List UInt8) (w : World) (h5 : xs.length < 5) (hC : RdB w A n xs) :
    Calls Try.prog 81 #[.slice A n c] w fun e w' => e = .returned (.tuple #[.int .i64 (siz xs).1, .int .i64 (siz xs).2]) ∧ Below w.heap.size w w' := by
  by_cases hn : 0 < xs.length
  · obtain ⟨b, off, rfl, hcs⟩ := KB_cells hC hn
    have k0 := hcs 0 hn
    simp only [Nat.add_zero] at k0
    have l0 := (xs[0]).toNat_lt
    rcases xs with _ | ⟨b0, xs⟩
    · simp at hn
    simp only [List.getElem_cons_zero] at k0 l0
    rcases xs with _ | ⟨b1, xs⟩
    · obtain rfl : 1 = n := hC.1
      clear hC hcs
      by_cases h3 : b0 = 0x66
      · subst h3
        go_enter Try.func81, Try.ntmps81
        go_wp2
        go_ret2
        exact ⟨rfl, Below.refl _ _⟩
      · have e3 : ((b0.toNat : Int) != 102) = true := by
          rw [bne_iff_ne]
          intro h
          exact h3 (UInt8.toNat_inj.1 (by simp; omega))
        have HF := Lib.hid (show siz [b0] = (0, 20) by simp [siz, badB, h3])
        clear h3
        go_enter Try.func81, Try.ntmps81
        go_wp2
        go_ret2
        exact ⟨by rw [HF.out]; rfl, Below.refl _ _⟩
    · have k1 := hcs 1 (by simp)
      simp only [List.getElem_cons_zero, List.getElem_cons_succ] at k1
      have l1 := b1.toNat_lt
      have hl : xs.length = 0 ∨ xs.length = 1 ∨ xs.length = 2 := by simp at h5; omega
      have hS : siz (b0 :: b1 :: xs) = if b1 = 0 ∨ b0 ≠ 0x66 then (0, 20) else (0, 23) := by
        have h1 : badB (b0 :: b1 :: xs) = decide (b1 = 0 ∨ b0 ≠ 0x66) := by
          unfold badB
          simp only [List.length_cons, List.getD_cons_zero, List.getD_cons_succ]
          rw [Bool.eq_iff_iff]
          have a5 : ¬ 5 ≤ xs.length + 1 + 1 := by simp at h5; omega
          simp [a5]
        have h2 : tornB (b0 :: b1 :: xs) = true := by
          unfold tornB
          simp at h5 ⊢
          omega
        unfold siz
        rw [h1, h2]
        simp only [decide_eq_true_eq, if_true]
      have hn2 : xs.length + 2 = n := hC.1
      generalize siz (b0 :: b1 :: xs) = s at *
      by_cases h2 : b1 = 0
      · have HF := Lib.hid (show s = (0, 20) by rw [hS, if_pos (.inl h2)])
        clear hS hcs hC h5
        subst h2
        rcases hl with hl | hl | hl <;> rw [hl] at hn2 <;> subst hn2
        all_goals
          clear hl
          go_enter Try.func81, Try.ntmps81
          go_wp2
          go_ret2
          exact ⟨by rw [HF.out]; rfl, Below.refl _ _⟩
      have e2 : ((b1.toNat : Int) == 0) = false := by
        rw [beq_eq_false_iff_ne]
        intro h
        exact h2 (UInt8.toNat_inj.1 (by simp; omega))
      by_cases h3 : b0 = 0x66
      · have HF := Lib.hid (show s = (0, 23) by rw [hS, if_neg (by simp [h2, h3])])
        clear hS hcs hC h5 h2
        subst h3
        rcases hl with hl | hl | hl <;> rw [hl] at hn2 <;> subst hn2
        all_goals
          clear hl
          go_enter Try.func81, Try.ntmps81
          go_wp2
          go_ret2
          exact ⟨by rw [HF.out]; rfl, Below.refl _ _⟩
      · have e3 : ((b0.toNat : Int) != 102) = true := by
          rw [bne_iff_ne]
          intro h
          exact h3 (UInt8.toNat_inj.1 (by simp; omega))
        have HF := Lib.hid (show s = (0, 20) by rw [hS, if_pos (.inr h3)])
        clear hS hcs hC h5 h2 h3
        rcases hl with hl | hl | hl <;> rw [hl] at hn2 <;> subst hn2
        all_goals
          clear hl
          go_enter Try.func81, Try.ntmps81
          go_wp2
          go_ret2
          exact ⟨by rw [HF.out]; rfl, Below.refl _ _⟩
  · obtain rfl : xs = [] := List.eq_nil_of_length_eq_zero (by omega)
    obtain rfl : 0 = n := hC.1
    clear hC
    go_enter Try.func81, Try.ntmps81
    go_wp2
    go_ret2
    exact ⟨rfl, Below.refl _ _⟩
theorem size_at (A : Option Addr) (n c : Nat) (xs : List UInt8) (w : World) (hC : RdB w A n xs) :
    Calls Try.prog 81 #[.slice A n c] w fun e w' => e = .returned (.tuple #[.int .i64 (siz xs).1, .int .i64 (siz xs).2]) ∧ Below w.heap.size w w' := by
  by_cases h5 : xs.length < 5
  · exact size_short A n c xs w h5 hC
  · obtain ⟨b0, b1, b2, b3, b4, r, rfl⟩ : ∃ b0 b1 b2 b3 b4 r, xs = b0 :: b1 :: b2 :: b3 :: b4 :: r := by
      rcases xs with _ | ⟨b0, _ | ⟨b1, _ | ⟨b2, _ | ⟨b3, _ | ⟨b4, r⟩⟩⟩⟩⟩
      case cons.cons.cons.cons.cons => exact ⟨b0, b1, b2, b3, b4, r, rfl⟩
      all_goals simp at h5
    exact size_long A n c b0 b1 b2 b3 b4 r w hC
theorem lit5 (k : UInt8) (n : Nat) (h : n ≤ 65536) : ((hed k n).map fun b => Value.int .u8 (b.toNat : Int)).toArray = #[.int .u8 102, .int .u8 (k.toNat : Int), .int .u8 ((n : Int) / 65536), .int .u8 ((n : Int) / 256 % 256), .int .u8 ((n : Int) % 256)] := by
  simp [hed, sum3, UInt8.toNat_ofNat']
  omega
/-- What Wrap tells: the bytes, an error's number. -/
def wrpE (k : UInt8) (xs : List UInt8) : Nat := if k = 0 then 2 else if 65536 < xs.length then 21 else 0
def wrpB (k : UInt8) (xs : List UInt8) : List UInt8 := if wrpE k xs = 0 then wrp k xs else []

set_option maxHeartbeats 2000000 in
theorem wrap_ok (A : Option Addr) (c : Nat) (k : UInt8) (xs : List UInt8) (w : World) (hC : RdB w A xs.length xs) (hk : k ≠ 0) (hl : xs.length ≤ 65536) :
    Calls Try.prog 34 #[.int .u8 k.toNat, .slice A xs.length c] w fun e w' => ∃ A' c', e = .returned (.tuple #[.slice A' (wrp k xs).length c', .int .i64 0]) ∧ (wrp k xs).length ≤ c' ∧ OwB w' w.heap.size (.slice A' (wrp k xs).length c') (wrp k xs) ∧ Below w.heap.size w w' := by
  have ek : ((k.toNat : Int) == 0) = false := by
    rw [beq_eq_false_iff_ne]
    intro h
    exact hk (UInt8.toNat_inj.1 (by simp; omega))
  have hkl := k.toNat_lt
  have HC := Lib.hid hC
  have HL := Lib.hid (OwB.lit w w.heap.size (Nat.le_refl _) (hed k xs.length) _ (lit5 k xs.length hl).symm (by rw [hed_length]; decide))
  clear hC hk
  go_enter Try.func34, Try.ntmps34
  go_wp2_with (at_builtin; refine ap_row (w0 := w) w.heap.size rfl (Operand.tmp 25) (Operand.tmp 26) rfl _ (hed k xs.length) xs A xs.length c rfl rfl ?c1 ?c2 ?c3 ?c4 ?c5 ?_)
  case c1 => exact HL.out
  case c2 => exact Kd.C_alloc HC.out _
  case c3 => exact below_alloc (Below.refl _ _) _
  case c4 => simp
  case c5 => rw [hed_length]; omega
  intro z1 A1 c1 w4 hz1 hc1 hO1 hB1 _
  have HO1 := Lib.hid hO1
  have hzl : z1.length ≤ 65541 := by
    rw [hz1.out, List.length_append, hed_length]
    omega
  have HW := Lib.hid (show wrp k xs = sld z1 by rw [hz1.out]; rfl)
  clear hO1 hz1
  go_wp2_with fail
  refine (seal_walk _ _ _ _ HO1.out.reads.2.2 hc1 (by omega)).mono ?_
  rintro e w5 ⟨A2, c2, rfl, hc2, hO2, hB2⟩
  rw [← HW.out] at hc2 hO2 ⊢
  clear HW
  go_wp2
  go_ret2
  exact ⟨A2, c2, rfl, hc2, hO2.lower hB1.size, below_step hB1 hB2⟩
theorem wrap_at (A : Option Addr) (n c : Nat) (k : UInt8) (xs : List UInt8) (w : World) (hC : RdB w A n xs) :
    Calls Try.prog 34 #[.int .u8 k.toNat, .slice A n c] w fun e w' => ∃ A' c', e = .returned (.tuple #[.slice A' (wrpB k xs).length c', .int .i64 (wrpE k xs)]) ∧ (wrpB k xs).length ≤ c' ∧ OwB w' w.heap.size (.slice A' (wrpB k xs).length c') (wrpB k xs) ∧ Below w.heap.size w w' := by
  obtain rfl : xs.length = n := hC.1
  by_cases hk : k = 0
  · have h1 : wrpE k xs = 2 := by simp [wrpE, hk]
    have h2 : wrpB k xs = [] := by simp [wrpB, h1]
    rw [h1, h2]
    clear h1 h2
    subst hk
    go_enter Try.func34, Try.ntmps34
    go_wp2
    go_ret2
    exact ⟨none, 0, rfl, Nat.le_refl _, OwB.nil _ _, Below.refl _ _⟩
  by_cases hl : 65536 < xs.length
  · have h1 : wrpE k xs = 21 := by simp [wrpE, hk, hl]
    have h2 : wrpB k xs = [] := by simp [wrpB, h1]
    rw [h1, h2]
    have ek : ((k.toNat : Int) == 0) = false := by
      rw [beq_eq_false_iff_ne]
      intro h
      exact hk (UInt8.toNat_inj.1 (by simp; omega))
    clear h1 h2 hk
    go_enter Try.func34, Try.ntmps34
    go_wp2
    go_ret2
    exact ⟨none, 0, rfl, Nat.le_refl _, OwB.nil _ _, Below.refl _ _⟩
  · have h1 : wrpE k xs = 0 := by simp [wrpE, hk, hl]
    have h2 : wrpB k xs = wrp k xs := by simp [wrpB, h1]
    rw [h1, h2]
    exact wrap_ok A c k xs w hC hk (by omega)
set_option maxHeartbeats 2000000 in
theorem bytes_at (A : Option Addr) (n c : Nat) (k : UInt8) (xs : List UInt8) (w : World) (hC : RdB w A n xs) (hl : n ≤ 65536) :
    Calls Try.prog 42 #[.int .u8 k.toNat, .slice A n c] w fun e w' => ∃ A' c', e = .returned (.slice A' (wrp k xs).length c') ∧ (wrp k xs).length ≤ c' ∧ OwB w' w.heap.size (.slice A' (wrp k xs).length c') (wrp k xs) ∧ Below w.heap.size w w' := by
  obtain rfl : xs.length = n := hC.1
  have hkl := k.toNat_lt
  have HC := Lib.hid hC
  have HL := Lib.hid (OwB.lit w w.heap.size (Nat.le_refl _) (hed k xs.length) _ (lit5 k xs.length hl).symm (by rw [hed_length]; decide))
  clear hC
  go_enter Try.func42, Try.ntmps42
  go_wp2_with (at_builtin; refine ap_row (w0 := w) w.heap.size rfl (Operand.tmp 19) (Operand.tmp 20) rfl _ (hed k xs.length) xs A xs.length c rfl rfl ?c1 ?c2 ?c3 ?c4 ?c5 ?_)
  case c1 => exact HL.out
  case c2 => exact Kd.C_alloc HC.out _
  case c3 => exact below_alloc (Below.refl _ _) _
  case c4 => simp
  case c5 => rw [hed_length]; omega
  intro z1 A1 c1 w4 hz1 hc1 hO1 hB1 _
  have HO1 := Lib.hid hO1
  have hzl : z1.length ≤ 65541 := by
    rw [hz1.out, List.length_append, hed_length]
    omega
  have HW := Lib.hid (show wrp k xs = sld z1 by rw [hz1.out]; rfl)
  clear hO1 hz1
  go_wp2_with fail
  refine (rseal_walk _ _ _ _ HO1.out.reads.2.2 (by omega)).mono ?_
  rintro e w5 ⟨A2, c2, rfl, hc2, hO2, hB2⟩
  rw [← HW.out] at hc2 hO2 ⊢
  clear HW
  go_wp2
  go_ret
  exact ⟨A2, c2, rfl, hc2, hO2.lower hB1.size, below_step hB1 hB2⟩
/-- A cut from below: its address has a name. -/
theorem ct_up' (A : Option Addr) (n c : Nat) (lo : Int) (h1 : 0 ≤ lo) (h2 : lo ≤ n) (hc : n ≤ c) : ∃ A' : Option Addr, (∀ W : World, (Instr.slice 25 (.slice A n c) (some (.int .i64 lo)) none none).run Try.prog W = .ok (.slice A' (n - lo.toNat) (c - lo.toNat)) W) ∧
    (∀ (w : World) (xs : List UInt8), xs.length = n → RdB w A n xs → RdB w A' (n - lo.toNat) (xs.drop lo.toNat)) ∧ (∀ B : Nat, (∀ ad, A = some ad → B ≤ ad.block) → ∀ ad, A' = some ad → B ≤ ad.block) := by
  refine ⟨_, ct_up A n c lo h1 h2 hc, fun w xs hx h => ?_, fun B h ad e => ?_⟩
  · subst hx
    have := rd_up (c := c) h lo.toNat (by omega) hc
    rwa [List.length_drop] at this
  · split at e
    · exact h ad e
    · cases A with
      | none => cases e
      | some a =>
        have e' : a.add lo.toNat = ad := by simpa using e
        rw [← e', add_block]
        exact h a rfl
theorem OwB.base {w : World} {b n c : Nat} {A : Option Addr} {xs : List UInt8} (h : OwB w b (.slice A n c) xs) : ∀ ad, A = some ad → b ≤ ad.block := fun ad e => Kd.R_base h ad.block (by rw [e]; rfl)

set_option maxHeartbeats 2000000 in
theorem take_at (A : Option Addr) (n c : Nat) (xs : List UInt8) (w : World) (hC : RdB w A n xs) (hc : n ≤ c) (hl : n ≤ 140737488355328) :
    Calls Try.prog 62 #[.slice A n c] w fun e w' => ∃ A' c', e = .returned (.tuple #[.int .u8 (tak xs).1.toNat, .slice A' (tak xs).2.1.length c', .int .i64 (tak xs).2.2.1, .int .i64 (tak xs).2.2.2]) ∧
      (tak xs).2.1.length ≤ c' ∧ RdB w' A' (tak xs).2.1.length (tak xs).2.1 ∧ (∀ ad, A' = some ad → w.heap.size ≤ ad.block) ∧ Below w.heap.size w w' := by
  obtain rfl : xs.length = n := hC.1
  have HC := Lib.hid hC
  clear hC
  by_cases h1 : (siz xs).2 = 0
  · obtain ⟨hb, ht, hs⟩ := siz_ok h1
    obtain ⟨h5, hv⟩ := tornB_no ht
    have hcut := ct_lo A xs.length c ((vl xs : Int) + 8) (by omega) (by omega) hc
    have e8 : ((vl xs : Int) + 8).toNat = vl xs + 8 := by omega
    rw [e8] at hcut
    have hR : RdB w A (vl xs + 8) (xs.take (vl xs + 8)) := by
      have := rd_lo HC.out (vl xs + 8) hv
      rwa [List.length_take, Nat.min_eq_left hv] at this
    have HR := Lib.hid hR
    have hvl := vl_lt xs
    by_cases h2 : opnB (xs.take (vl xs + 8)) = true
    · obtain ⟨os, x1, hol, hll, hg1, hT⟩ : ∃ (os : List UInt8) (x1 : UInt8), opnL (xs.take (vl xs + 8)) = os ∧ os.length = vl xs + 5 ∧ os[1]? = some x1 ∧ tak xs = (x1, os.drop 5, vl xs + 8, 0) := by
        refine ⟨xs.take (vl xs + 5), xs.getD 1 0, ?_, by rw [List.length_take]; omega, ?_, ?_⟩
        · rw [opnL, if_pos h2, List.length_take, Nat.min_eq_left hv, List.take_take]
          congr 1
          omega
        · rw [List.getElem?_take, if_pos (by omega)]
          simp [List.getD_eq_getElem?_getD, show 1 < xs.length by omega]
        · unfold tak
          rw [if_neg (by simp [h1]), hs, if_pos h2]
      rw [hT]
      dsimp only
      have H2 := Lib.hid h2
      have HOL := Lib.hid hol
      have HS1 := Lib.hid (show ((siz xs).1 : Int) = (vl xs : Int) + 8 by rw [hs]; omega)
      have HS2 := Lib.hid (show ((siz xs).2 : Int) = 0 by rw [h1]; rfl)
      have HLL := Lib.hid hll
      have h15 : 1 < os.length := by omega
      have h55 : 5 ≤ os.length := by omega
      have hlb : os.length - 5 = (os.drop 5).length := by rw [List.length_drop]
      have HLB := Lib.hid hlb
      have HG1 := Lib.hid (show os[1] = x1 by rw [List.getElem?_eq_getElem h15] at hg1; exact Option.some.inj hg1)
      clear h1 h2 hol hs hb ht hT hR hll hg1 hlb e8
      go_enter Try.func62, Try.ntmps62
      go_wp2_with fail
      refine (size_at _ _ _ _ _ HC.out).mono ?_
      rw [HS1.out, HS2.out]
      rintro e w1 ⟨rfl, hb1⟩
      go_wp2_with fail
      refine (open_at _ _ _ _ _ (Kd.C_below HR.out hb1) (by omega) (by omega)).mono ?_
      rw [H2.out, HOL.out]
      rintro e w2 ⟨A2, c2, rfl, hc2, hO2, hb2⟩
      obtain ⟨g, rfl, hg⟩ := OwB.addr hO2 (by omega)
      have k1 := (OwB.cell hO2 1 h15).1
      obtain ⟨A5, hcu, hrd, hbs⟩ := ct_up' (some ⟨g, 0, none⟩) os.length c2 5 (by omega) (by omega) hc2
      have HRD := Lib.hid (hrd w2 os rfl (OwB.reads hO2).2.2)
      have HBS := Lib.hid (hbs w.heap.size (fun ad e => Nat.le_trans hb1.size (OwB.base hO2 ad e)))
      clear hrd hbs hO2
      rw [HG1.out] at k1
      have i1 : (1 : Int) < (os.length : Int) := by omega
      have e5 : (5 : Int).toNat = 5 := rfl
      rw [e5] at hcu HRD
      go_wp2
      go_quiet (fail)
      go_wp2
      refine bodyPost_ret (v := .tuple #[.int .u8 x1.toNat, .slice A5 (os.length - 5) (c2 - 5), .int .i64 ((vl xs : Int) + 8), .int .i64 0]) (by simp [results, Try.results62, go_sem]) rfl ?_
      rw [HLB.out] at HRD ⊢
      refine ⟨A5, c2 - 5, ?_, ?_, HRD.out, HBS.out, pw_below_drewN (below_step hb1 hb2) _⟩
      · rw [show ((vl xs + 8 : Nat) : Int) = (vl xs : Int) + 8 by omega]
        rfl
      · rw [← HLB.out]
        omega
    · have h2 : opnB (xs.take (vl xs + 8)) = false := by simpa using h2
      have hol : opnL (xs.take (vl xs + 8)) = [] := by rw [opnL, if_neg (by simp [h2])]
      have hT : tak xs = (0, [], 0, 22) := by
        unfold tak
        rw [if_neg (by simp [h1]), hs, if_neg (by simp [h2])]
      rw [hT]
      dsimp only
      have H2 := Lib.hid h2
      have HOL := Lib.hid hol
      have HS1 := Lib.hid (show ((siz xs).1 : Int) = (vl xs : Int) + 8 by rw [hs]; omega)
      have HS2 := Lib.hid (show ((siz xs).2 : Int) = 0 by rw [h1]; rfl)
      clear h1 h2 hol hs hb ht hT hR e8
      go_enter Try.func62, Try.ntmps62
      go_wp2_with fail
      refine (size_at _ _ _ _ _ HC.out).mono ?_
      rw [HS1.out, HS2.out]
      rintro e w1 ⟨rfl, hb1⟩
      go_wp2_with fail
      refine (open_at _ _ _ _ _ (Kd.C_below HR.out hb1) (by omega) (by omega)).mono ?_
      rw [H2.out, HOL.out]
      rintro e w2 ⟨A2, c2, rfl, hc2, hO2, hb2⟩
      go_wp2
      refine bodyPost_ret (v := .tuple #[.int .u8 0, .slice none 0 0, .int .i64 0, .int .i64 22]) (by simp [results, Try.results62, go_sem]) rfl ?_
      exact ⟨none, 0, rfl, Nat.le_refl _, Kd.C_nil _ _, (fun ad e => by cases e), below_step hb1 hb2⟩
  · have hT : tak xs = (0, [], 0, (siz xs).2) := by
      unfold tak
      rw [if_pos h1]
    rw [hT]
    dsimp only
    have hne : (((siz xs).2 : Int) != 0) = true := by simp; exact h1
    obtain ⟨en, hen⟩ : ∃ en, (siz xs).2 = en := ⟨_, rfl⟩
    rw [hen] at hne ⊢
    have HE := Lib.hid hen
    clear hT h1 hen
    go_enter Try.func62, Try.ntmps62
    go_wp2_with fail
    refine (size_at _ _ _ _ _ HC.out).mono ?_
    rw [HE.out]
    rintro e w1 ⟨rfl, hb1⟩
    go_wp2
    refine bodyPost_ret (v := .tuple #[.int .u8 0, .slice none 0 0, .int .i64 0, .int .i64 en]) (by simp [results, Try.results62, go_sem]) rfl ?_
    exact ⟨none, 0, rfl, Nat.le_refl _, Kd.C_nil _ _, (fun ad e => by cases e), hb1⟩
end Go.Proofs.Ytoccidpocagkjaa
