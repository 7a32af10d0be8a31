/- FrameTorn: the walk. -/
import Derived.Test.YtjbaodmjakeohaaEnd
import Derived.Test.YtjbaodmjakeohaaFrameBurstsW
import Derived.Deep.RegionLaw
set_option linter.unusedVariables false
set_option linter.unusedSimpArgs false
namespace Go.Proofs.Ytjbaodmjakeohaa
open Go.RowKit Go.Proofs.YtjbaodmjakeohaaW.PrintWords Cf
attribute [local go_sem] str_beq str_bne

theorem u16_nat {s : Int} (hs : (Lit.int .u16 s).wf = true) : ∃ n : Nat, s = n ∧ n < 65536 := by
  have h1 : IntKind.u16.min = 0 := rfl
  have h2 : IntKind.u16.max = 65535 := rfl
  simp only [Lit.wf, Bool.and_eq_true, decide_eq_true_eq] at hs
  obtain ⟨n, rfl⟩ := Int.eq_ofNat_of_zero_le (show 0 ≤ s by omega)
  exact ⟨n, rfl, by omega⟩

set_option maxHeartbeats 2000000 in
set_option maxRecDepth 100000 in
theorem frameTorn_main (k : UInt8) (A : Option Addr) (c : Nat) (ys : List UInt8) (B : Option Addr) (d : Nat) (xs : List UInt8) (t : Nat) (w : World) (hk : k ≠ 0) (hC : RdB w A ys.length ys) (hc : ys.length ≤ c) (hD : RdB w B xs.length xs) (hd : xs.length ≤ d) (h5 : xs.length ≤ 1000) (h6 : ys.length ≤ 1000) (ht : t < 65536) :
    Calls Try.prog 11 #[.int .u8 k.toNat, .slice A ys.length c, .slice B xs.length d, .int .u16 t] w fun e w' => e = .returned (.bool true) ∧ Below w.heap.size w w' := by
  have ek : ((k.toNat : Int) == 0) = false := by
    rw [beq_eq_false_iff_ne]
    intro h
    exact hk (UInt8.toNat_inj.1 (by simp; omega))
  have hla := wrp_length 1 ys
  have hlb := wrp_length k xs
  have hWa := wrap_ok A c 1 ys w hC (by decide) (by omega)
  have hWb := fun w hC => wrap_ok B d k xs w hC hk (by omega)
  have hat : t % (wrp k xs).length < xs.length + 8 := by rw [hlb]; exact Nat.mod_lt _ (by omega)
  have htk := tak_torn k xs (t % (wrp k xs).length) hk (by omega) hat
  have hen := ends_torn k 1 xs ys (t % (wrp k xs).length) (by decide) (by omega) hk (by omega) hat
  generalize wrp 1 ys = za at *
  generalize wrp k xs = zb at *
  obtain ⟨a, ha⟩ : ∃ a, t % zb.length = a := ⟨_, rfl⟩
  have hai : (t : Int) % (zb.length : Int) = (a : Int) := by rw [← ha, Int.natCast_emod]
  rw [ha] at hat htk hen
  have haz : a < zb.length := by omega
  have hzb : 8 ≤ zb.length ∧ zb.length ≤ 1008 := by omega
  have hza : za.length ≤ 1008 := by omega
  have HLA := Lib.hid hla
  have HLB := Lib.hid hlb
  have HWA := Lib.hid hWa
  have HWB := Lib.hid hWb
  have HTK := Lib.hid htk
  have HEN := Lib.hid hen
  have HC := Lib.hid hC
  have HD := Lib.hid hD
  have HA := Lib.hid hai
  have hn0 : ((zb.length : Int) == 0) = false := by rw [beq_eq_false_iff_ne]; omega
  clear hC hD hla hlb hWa hWb htk hen hk hat ha hai
  obtain ⟨hz1, hz2⟩ := hzb
  go_enter Try.func11, Try.ntmps11
  go_wp2_with fail
  refine (HWA.out).mono ?_
  rintro e w1 ⟨A1, c1, rfl, hc1, hO1, hB1⟩
  have HO1 := Lib.hid hO1
  clear hO1
  go_wp2_with fail
  refine (HWB.out _ (Kd.C_below HD.out hB1)).mono ?_
  rintro e w2 ⟨A2, c2, rfl, hc2, hO2, hB2⟩
  have HO2 := Lib.hid hO2
  have hB2' := below_step hB1 hB2
  have e4 := ct_lo A2 zb.length c2 a (by omega) (by omega) hc2
  rw [Int.toNat_natCast] at e4
  clear hO2
  have hl4 : (zb.take a).length = a := by rw [List.length_take]; omega
  have hai := HA.out
  go_wp2_with fail
  have hR2 := rd_lo HO2.out.reads.2.2 a (by omega)
  rw [hl4] at hR2
  refine (take_at _ _ _ _ _ hR2 (by omega) (by omega)).mono ?_
  rw [HTK.out]
  rintro e w3 ⟨A5, c5, rfl, hc5, hR5, hA5, hB5⟩
  dsimp only at hc5 hR5 ⊢
  have hB3 := below_step hB2' hB5
  have HZA := Lib.hid (Kd.C_below (Kd.C_below HO1.out.reads.2.2 hB2) hB5)
  have HZB := Lib.hid (Kd.C_below hR2 hB5)
  clear hR2 hR5 hA5
  go_wp2
  go_region_law (first
    | (refine ap_row_step (w0 := w3) w3.heap.size rfl (Operand.tmp 70) (Operand.tmp 71) rfl _ [] za A1 za.length c1 rfl rfl (Kd.R_drew (OwB.lit w3 _ (Nat.le_refl _) [] _ rfl (by simp))) (Kd.C_drew (Kd.C_alloc HZA.out _)) (below_drew (below_alloc (Below.refl _ _) _)) (by simp) (by simp; omega) ?_; intro z7 A7 c7 w7 hz7 hc7 hO7 hB7 hg7; have HO7 := Lib.hid hO7; have hz7l : z7.length ≤ 1008 := (by rw [hz7.out]; simpa using hza); clear hg7 hO7)
    | (refine ap_row_step (w0 := w3) w3.heap.size rfl (Operand.tmp 72) (Operand.tmp 75) rfl _ z7 (zb.take a) A2 a c2 rfl rfl HO7.out (Kd.C_below HZB.out hB7) hB7 hB7.size (by omega) ?_; intro z8 A8 c8 w8 hz8 hc8 hO8 hB8 hg8; have HO8 := Lib.hid hO8; have hz8l : z8.length ≤ 3008 := (by rw [hz8.out, List.length_append, hl4]; omega); have HE8 := Lib.hid (show flen (frs z8) = za.length ∧ fer z8 = if a = 0 then 0 else 23 by rw [hz8.out, hz7.out, List.nil_append, HLA.out]; exact HEN.out); clear hg8 hO8)
    | (go_simp; go_at_call 30; refine (end_walk _ _ _ _ _ HO8.out.reads.2.2 hc8 (by omega)).mono ?_; rw [HE8.out.1, HE8.out.2]; rintro e w9 ⟨rfl, hB9⟩))
  all_goals
    have hB8' := below_step hB3 (below_step hB8 hB9)
    clear HO8 HE8 hB9 hB8 HO7 hB7 HZA HZB HO1 HO2 e4
    by_cases ha0 : a = 0
    · rw [if_pos ha0]
      subst ha0
      go_wp2_with (go_at_call 22; refine (lives3_walk _).mono ?_; rintro e w10 ⟨rfl, hb10⟩)
      go_ret
      exact ⟨rfl, below_step hB8' hb10⟩
    · rw [if_neg ha0]
      have hai0 : ((a : Int) == 0) = false := by rw [beq_eq_false_iff_ne]; omega
      go_wp2_with (go_at_call 22; refine (lives3_walk _).mono ?_; rintro e w10 ⟨rfl, hb10⟩)
      go_ret
      exact ⟨rfl, below_step hB8' hb10⟩

set_option maxHeartbeats 1000000 in
theorem frameTorn_law (k : Int) (A : Option Addr) (c : Nat) (ys : List UInt8) (B : Option Addr) (d : Nat) (xs : List UInt8) (t : Int) (w : World) (hkw : (Lit.int .u8 k).wf = true) (hC : RdB w A ys.length ys) (hc : ys.length ≤ c) (_ : True) (hD : RdB w B xs.length xs) (hd : xs.length ≤ d) (_ : True) (htw : (Lit.int .u16 t).wf = true) :
    Calls Try.prog 11 #[.int .u8 k, .slice A ys.length c, .slice B xs.length d, .int .u16 t] w fun e w' => e = .returned (.bool true) ∧ Below w.heap.size w w' := by
  obtain ⟨k, rfl⟩ := u8_byte hkw
  obtain ⟨t, rfl, ht⟩ := u16_nat htw
  by_cases h5 : 1000 < xs.length
  · clear hC hD
    go_enter Try.func11, Try.ntmps11
    go_wp2_with (go_at_call 22; refine (lives3_walk _).mono ?_; rintro e w5 ⟨rfl, hb5⟩)
    go_ret
    exact ⟨rfl, hb5⟩
  by_cases h6 : 1000 < ys.length
  · clear hC hD
    go_enter Try.func11, Try.ntmps11
    go_wp2_with (go_at_call 22; refine (lives3_walk _).mono ?_; rintro e w5 ⟨rfl, hb5⟩)
    go_ret
    exact ⟨rfl, hb5⟩
  by_cases hk : k = 0
  · have hWa := Lib.hid (wrap_ok A c 1 ys w hC (by decide) (by omega))
    have hE : wrpE k xs = 2 := by simp [wrpE, hk]
    have hb : wrpB k xs = [] := by simp [wrpB, hE]
    have hW := fun w hD => wrap_at B xs.length d k xs w hD
    rw [hE, hb] at hW
    subst hk
    have HW := Lib.hid hW
    have HD := Lib.hid hD
    clear hW hE hb hC hD
    generalize wrp 1 ys = za at *
    go_enter Try.func11, Try.ntmps11
    go_wp2_with fail
    refine (hWa.out).mono ?_
    rintro e w1 ⟨A1, c1, rfl, hc1, hO1, hB1⟩
    clear hO1
    go_wp2_with fail
    refine (HW.out _ (Kd.C_below HD.out hB1)).mono ?_
    rintro e w2 ⟨A2, c2, rfl, hc2, hO2, hB2⟩
    clear hO2
    go_wp2_with (go_at_call 22; refine (lives3_walk _).mono ?_; rintro e w5 ⟨rfl, hb5⟩)
    go_ret
    exact ⟨rfl, below_step (below_step hB1 hB2) hb5⟩
  exact frameTorn_main k A c ys B d xs t w hk hC hc hD hd (by omega) (by omega) ht
end Go.Proofs.Ytjbaodmjakeohaa
