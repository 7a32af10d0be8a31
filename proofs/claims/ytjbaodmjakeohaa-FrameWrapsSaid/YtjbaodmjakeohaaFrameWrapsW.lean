/- FrameWraps: the walk. -/
import Derived.Test.YtjbaodmjakeohaaWho
import Derived.Test.YtjbaodmjakeohaaFrameBurstsW
set_option linter.unusedVariables false
set_option linter.unusedSimpArgs false
namespace Go.Proofs.Ytjbaodmjakeohaa
open Go.RowKit Go.Proofs.YtjbaodmjakeohaaW.PrintWords Cf
attribute [local go_sem] str_beq str_bne

set_option maxHeartbeats 2000000 in
set_option maxRecDepth 100000 in
theorem frameWraps_main (k : UInt8) (A : Option Addr) (c : Nat) (xs : List UInt8) (B : Option Addr) (d : Nat) (ys : List UInt8) (w : World) (hk : k ≠ 0) (hC : RdB w A xs.length xs) (hc : xs.length ≤ c) (hD : RdB w B ys.length ys) (hd : ys.length ≤ d) (h5 : xs.length ≤ 65536) (h6 : ys.length ≤ 1000) :
    Calls Try.prog 7 #[.int .u8 k.toNat, .slice A xs.length c, .slice B ys.length d] w fun e w' => e = .returned (.bool true) ∧ Below w.heap.size w w' := by
  have ek : ((k.toNat : Int) == 0) = false := by
    rw [beq_eq_false_iff_ne]
    intro h
    exact hk (UInt8.toNat_inj.1 (by simp; omega))
  have hsl := wrp_length k xs
  have hW := wrap_ok A c k xs w hC hk (by omega)
  have hR := fun w hC => bytes_at A xs.length c k xs w hC (by omega)
  have hT := tak_wrp k xs ys hk (by omega)
  generalize wrp k xs = z at *
  have HSL := Lib.hid hsl
  have HW := Lib.hid hW
  have HR := Lib.hid hR
  have HT := Lib.hid hT
  have HC := Lib.hid hC
  have HD := Lib.hid hD
  clear hC hD hsl hW hR hT hk
  have h36 : z.length ≤ 65544 := by have := HSL.out; omega
  go_enter Try.func7, Try.ntmps7
  go_wp2_with fail
  refine (HW.out).mono ?_
  rintro e w1 ⟨A1, c1, rfl, hc1, hO1, hB1⟩
  have HO1 := Lib.hid hO1
  have s1 := conv_str (c := c1) (Kd.C_drew hO1.reads.2.2)
  have HCd := Lib.hid (Kd.C_drew (Kd.C_below HC.out hB1))
  clear hO1
  go_wp2
  go_region_with (go_at_call 24; refine (HR.out _ HCd.out).mono ?_; rintro e w5 ⟨A6, c6, rfl, hc6, hO6, hb6⟩; have t6 := conv_str (c := c6) hO6.reads.2.2; have t7 := conv_str (c := c1) (Kd.C_below (Kd.C_drew HO1.out.reads.2.2) hb6))
  all_goals
    have hB6 := below_step (below_drew hB1) hb6
    have HZ6 := Lib.hid (Kd.C_below (Kd.C_drew HO1.out.reads.2.2) hb6)
    clear s1 t6 t7 hO6 hc6 HCd HR HO1
    go_wp2_with (at_builtin; refine ap_row (w0 := w) w.heap.size rfl (Operand.tmp 65) (Operand.tmp 66) rfl _ [] z A1 z.length c1 rfl rfl ?c1 ?c2 ?c3 ?c4 ?c5 ?_)
    case c1 => exact OwB.lit w5 _ hB6.size [] _ rfl (by simp)
    case c2 => exact Kd.C_alloc HZ6.out _
    case c3 => exact below_alloc hB6 _
    case c4 => exact Nat.le_trans hB6.size (by simp)
    case c5 => simp; omega
    intro z7 A7 c7 w7 hz7 hc7 hO7 hB7 _
    obtain rfl : z7 = z := hz7
    clear HZ6
    have HO7 := Lib.hid hO7
    clear hO7
    go_wp2_with (at_builtin; refine ap_row (w0 := w) w.heap.size rfl (Operand.tmp 67) (Operand.tmp 68) rfl _ z7 ys B ys.length d rfl rfl ?d1 ?d2 ?d3 ?d4 ?d5 ?_)
    case d1 => exact HO7.out
    case d2 => exact Kd.C_below HD.out hB7
    case d3 => exact hB7
    case d4 => exact hB7.size
    case d5 => omega
    intro z8 A8 c8 w8 hz8 hc8 hO8 hB8 _
    have hz8l : z8.length ≤ 66544 := by rw [hz8.out, List.length_append]; omega
    have HT8 := Lib.hid (show tak z8 = (k, xs, xs.length + 8, 0) by rw [hz8.out]; exact HT.out)
    have HO8 := Lib.hid hO8
    clear hO8 HO7 hz8
    go_wp2_with fail
    refine (take_at _ _ _ _ _ HO8.out.reads.2.2 hc8 (by omega)).mono ?_
    rw [HT8.out]
    rintro e w9 ⟨A9, c9, rfl, hc9, hR9, hA9, hB9⟩
    dsimp only at hc9 hR9 ⊢
    have hB9' := below_step hB8 hB9
    have u1 := conv_str (c := c9) hR9
    have u2 := conv_str (c := c) (Kd.C_below HC.out hB9')
    have hzl : ((xs.length + 8 : Nat) : Int) = (z7.length : Int) := by rw [HSL.out]
    rw [hzl]
    clear hR9 hA9 hzl
    go_wp2_with (go_at_call 22; refine (lives3_walk _).mono ?_; rintro e w10 ⟨rfl, hb10⟩)
    all_goals go_ret
    all_goals exact ⟨rfl, below_step hB9' hb10⟩

set_option maxHeartbeats 1000000 in
theorem frameWraps_law (k : Int) (A : Option Addr) (c : Nat) (xs : List UInt8) (B : Option Addr) (d : Nat) (ys : List UInt8) (w : World) (hkw : (Lit.int .u8 k).wf = true) (hC : RdB w A xs.length xs) (hc : xs.length ≤ c) (_ : True) (hD : RdB w B ys.length ys) (hd : ys.length ≤ d) (_ : True) :
    Calls Try.prog 7 #[.int .u8 k, .slice A xs.length c, .slice B ys.length d] w fun e w' => e = .returned (.bool true) ∧ Below w.heap.size w w' := by
  obtain ⟨k, rfl⟩ := u8_byte hkw
  by_cases h5 : 66000 < xs.length
  · clear hC hD
    go_enter Try.func7, Try.ntmps7
    go_wp2_with (go_at_call 22; refine (lives3_walk _).mono ?_; rintro e w5 ⟨rfl, hb5⟩)
    go_ret
    exact ⟨rfl, hb5⟩
  by_cases h6 : 1000 < ys.length
  · clear hC hD
    go_enter Try.func7, Try.ntmps7
    go_wp2_with (go_at_call 22; refine (lives3_walk _).mono ?_; rintro e w5 ⟨rfl, hb5⟩)
    go_ret
    exact ⟨rfl, hb5⟩
  by_cases hk : k = 0
  · have hE : wrpE k xs = 2 := by simp [wrpE, hk]
    have hW := wrap_at A xs.length c k xs w hC
    have hb : wrpB k xs = [] := by simp [wrpB, hE]
    rw [hE, hb] at hW
    subst hk
    have HW := Lib.hid hW
    clear hW hE hb hC hD
    go_enter Try.func7, Try.ntmps7
    go_wp2_with fail
    refine (HW.out).mono ?_
    rintro e w1 ⟨A1, c1, rfl, hc1, hO1, hB1⟩
    clear hO1
    go_wp2_with (go_at_call 22; refine (lives3_walk _).mono ?_; rintro e w5 ⟨rfl, hb5⟩)
    go_ret
    exact ⟨rfl, below_step hB1 hb5⟩
  by_cases hl : 65536 < xs.length
  · have hE : wrpE k xs = 21 := by simp [wrpE, hk, hl]
    have ek : ((k.toNat : Int) == 0) = false := by
      rw [beq_eq_false_iff_ne]
      intro h
      exact hk (UInt8.toNat_inj.1 (by simp; omega))
    have hW := wrap_at A xs.length c k xs w hC
    have hb : wrpB k xs = [] := by simp [wrpB, hE]
    rw [hE, hb] at hW
    have HW := Lib.hid hW
    clear hW hE hb hC hD hk
    go_enter Try.func7, Try.ntmps7
    go_wp2_with fail
    refine (HW.out).mono ?_
    rintro e w1 ⟨A1, c1, rfl, hc1, hO1, hB1⟩
    clear hO1
    go_wp2_with (go_at_call 22; refine (lives3_walk _).mono ?_; rintro e w5 ⟨rfl, hb5⟩)
    go_ret
    exact ⟨rfl, below_step hB1 hb5⟩
  exact frameWraps_main k A c xs B d ys w hk hC hc hD hd (by omega) (by omega)
end Go.Proofs.Ytjbaodmjakeohaa
