/- CrcSeals: the walk. -/
import Derived.Test.YtjbaodmjakeohaaRcr
import Derived.Test.YtjbaodmjakeohaaRdk
set_option linter.unusedVariables false
set_option linter.unusedSimpArgs false
namespace Go.Proofs.Ytjbaodmjakeohaa
open Go.RowKit Go.Proofs.YtjbaodmjakeohaaW.PrintWords Cf
attribute [local go_sem] str_beq str_bne

/-- The reference's Open, of any bytes. -/
theorem ropen_at (A : Option Addr) (n c : Nat) (xs : List UInt8) (w : World) (hC : RdB w A n xs) (hc : n ≤ c) (hl : n ≤ 140737488355328) :
    Calls Try.prog 20 #[.slice A n c] w fun e w' => ∃ A' n' c' ys, e = .returned (.tuple #[.slice A' n' c', .bool (opnB xs)]) ∧ RdB w A' n' ys ∧ (opnB xs = true → ys = opnL xs) ∧ Below w.heap.size w w' := by
  obtain rfl : xs.length = n := hC.1
  by_cases h3 : 3 ≤ xs.length
  · refine (ropen_walk A c xs w hC hc h3 hl).mono ?_
    rintro e w' ⟨hB, rfl⟩
    have hl2 : (xs.take (xs.length - 3)).length = xs.length - 3 := by rw [List.length_take]; omega
    refine ⟨A, xs.length - 3, c, xs.take (xs.length - 3), by simp [opnB, h3], ?_, fun h => by rw [opnL, if_pos h], hB⟩
    have := rd_lo hC (xs.length - 3) (by omega)
    rwa [hl2] at this
  · have hb : opnB xs = false := by simp [opnB, h3]
    refine (ropen_short A c xs w (by omega)).mono ?_
    rintro e w' ⟨rfl, rfl⟩
    exact ⟨none, 0, 0, [], by rw [hb], Kd.C_nil _ _, (fun h => by rw [hb] at h; cases h), Below.refl _ _⟩

set_option maxHeartbeats 2000000 in
set_option maxRecDepth 100000 in
theorem crcSeals_main (A B : Option Addr) (c d : Nat) (xs ys : List UInt8) (w : World) (hC : RdB w A xs.length xs) (hc : xs.length ≤ c) (hD : RdB w B ys.length ys) (hd : ys.length ≤ d) (h3 : xs.length ≤ 3000) (h4 : ys.length ≤ 3000) :
    Calls Try.prog 4 #[.slice A xs.length c, .slice B ys.length d] w fun e w' => e = .returned (.bool true) ∧ Below w.heap.size w w' := by
  have hsl := sld_length xs
  have HC := Lib.hid hC
  have HD := Lib.hid hD
  have HSL := Lib.hid hsl
  have h35 : (sld xs).length ≤ 3003 := by omega
  clear hC hD hsl
  go_enter Try.func4, Try.ntmps4
  go_wp2_with fail
  refine (seal_walk _ _ _ _ HC.out hc (by omega)).mono ?_
  rintro e w1 ⟨A1, c1, rfl, hc1, hO1, hB1⟩
  have HO1 := Lib.hid hO1
  clear hO1
  go_wp2_with fail
  refine (open_at _ _ _ _ _ (Kd.C_below HD.out hB1) hd (by omega)).mono ?_
  rintro e w2 ⟨A2, c2, rfl, hc2, hO2, hB2⟩
  have HO2 := Lib.hid hO2
  have hB2' := below_step hB1 hB2
  clear hO2
  go_wp2_with fail
  refine (ropen_at _ _ _ _ _ (Kd.C_below HD.out hB2') hd (by omega)).mono ?_
  rintro e w3 ⟨A3, n3, c3, zs, rfl, hR3, hz, hB3⟩
  have hB3' := below_step hB2' hB3
  have HR3 := Lib.hid hR3
  have HZ := Lib.hid hz
  clear hR3 hz
  go_wp2_with fail
  refine (open_sld _ _ _ xs _ (OwB.reads (Kd.R_below (Kd.R_below HO1.out hB2) hB3)).2.2 hc1 (by omega)).mono ?_
  rintro e w4 ⟨A4, c4, rfl, hc4, hO4, hB4⟩
  have hB4' := below_step hB3' hB4
  have hR1 := (OwB.reads (Kd.R_below (Kd.R_below (Kd.R_below HO1.out hB2) hB3) hB4)).2.2
  have hR2 := (OwB.reads (Kd.R_below (Kd.R_below HO2.out hB3) hB4)).2.2
  have hR3 := Kd.C_below (Kd.C_below HR3.out hB3) hB4
  have kx := conv_str (c := c2) hR2
  have ky := conv_str (c := c3) hR3
  have s1 := conv_str (c := c1) (Kd.C_drew hR1)
  have s4 := conv_str (c := c4) (Kd.C_drew hO4.reads.2.2)
  have s0 := conv_str (c := c) (Kd.C_drew (Kd.C_below HC.out hB4'))
  have HR1 := Lib.hid hR1
  have HO4 := Lib.hid hO4
  clear hR1 hR2 hR3 hO4 HO1 HO2 HR3
  have fin : ∀ b, opnB ys = b → True := fun _ _ => trivial
  cases hb : opnB ys with
  | true =>
    rw [hb] at HZ
    obtain rfl := HZ.out rfl
    clear HZ
    go_wp2
    clear kx ky
    go_region_with (first
      | (go_at_call 21; refine (rseal_walk _ _ _ _ (Kd.C_drew (Kd.C_below HC.out hB4')) (by omega)).mono ?_; rintro e w5 ⟨A5, c5, rfl, hc5, hO5, hb5⟩; have t5 := conv_str (c := c5) hO5.reads.2.2; have t1 := conv_str (c := c1) (Kd.C_below (Kd.C_drew HR1.out) hb5); have t4 := conv_str (c := c4) (Kd.C_below (Kd.C_drew HO4.out.reads.2.2) hb5); have t0 := conv_str (c := c) (Kd.C_below (Kd.C_drew (Kd.C_below HC.out hB4')) hb5))
      | (go_at_call 12; refine (lives2_walk _).mono ?_; rintro e w6 ⟨rfl, hb6⟩))
    all_goals go_wp2
    all_goals go_ret
    all_goals exact ⟨rfl, below_step (below_step (below_drew hB4') hb5) hb6⟩
  | false =>
    have hl : opnL ys = [] := by simp [opnL, hb]
    rw [hl] at *
    clear HZ
    go_wp2
    clear kx ky
    go_region_with (first
      | (go_at_call 21; refine (rseal_walk _ _ _ _ (Kd.C_drew (Kd.C_below HC.out hB4')) (by omega)).mono ?_; rintro e w5 ⟨A5, c5, rfl, hc5, hO5, hb5⟩; have t5 := conv_str (c := c5) hO5.reads.2.2; have t1 := conv_str (c := c1) (Kd.C_below (Kd.C_drew HR1.out) hb5); have t4 := conv_str (c := c4) (Kd.C_below (Kd.C_drew HO4.out.reads.2.2) hb5); have t0 := conv_str (c := c) (Kd.C_below (Kd.C_drew (Kd.C_below HC.out hB4')) hb5))
      | (go_at_call 12; refine (lives2_walk _).mono ?_; rintro e w6 ⟨rfl, hb6⟩))
    all_goals go_wp2
    all_goals go_ret
    all_goals exact ⟨rfl, below_step (below_step (below_drew hB4') hb5) hb6⟩

set_option maxHeartbeats 1000000 in
theorem crcSeals_law (A : Option Addr) (c : Nat) (xs : List UInt8) (B : Option Addr) (d : Nat) (ys : List UInt8) (w : World) (hC : RdB w A xs.length xs) (hc : xs.length ≤ c) (_ : True) (hD : RdB w B ys.length ys) (hd : ys.length ≤ d) (_ : True) :
    Calls Try.prog 4 #[.slice A xs.length c, .slice B ys.length d] w fun e w' => e = .returned (.bool true) ∧ Below w.heap.size w w' := by
  by_cases h3 : 3000 < xs.length
  · clear hC hD
    go_enter Try.func4, Try.ntmps4
    go_wp2_with (go_at_call 12; refine (lives2_walk _).mono ?_; rintro e w5 ⟨rfl, hb5⟩)
    go_ret
    exact ⟨rfl, hb5⟩
  by_cases h4 : 3000 < ys.length
  · clear hC hD
    go_enter Try.func4, Try.ntmps4
    go_wp2_with (go_at_call 12; refine (lives2_walk _).mono ?_; rintro e w5 ⟨rfl, hb5⟩)
    go_ret
    exact ⟨rfl, hb5⟩
  exact crcSeals_main A B c d xs ys w hC hc hD hd (by omega) (by omega)
end Go.Proofs.Ytjbaodmjakeohaa
