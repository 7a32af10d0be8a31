/- CrcSums: the walk. -/
import Derived.Test.YtjbaodmjakeohaaRcr
set_option linter.unusedVariables false
set_option linter.unusedSimpArgs false
namespace Go.Proofs.Ytjbaodmjakeohaa
open Go.RowKit Go.Proofs.YtjbaodmjakeohaaW.PrintWords Cf
attribute [local go_sem] str_beq str_bne

theorem flat_take_le (ps : List (List UInt8)) (h : ∀ x ∈ ps, x.length ≤ 1000) (k : Nat) : (ps.take k).flatten.length ≤ 1000 * k := by
  induction k generalizing ps with
  | zero => simp
  | succ k ih =>
    cases ps with
    | nil => simp
    | cons x r =>
      have h1 := h x (by simp)
      have h2 := ih r (fun y hy => h y (by simp [hy]))
      simp only [List.take_succ_cons, List.flatten_cons, List.length_append]
      omega

set_option maxHeartbeats 2000000 in
theorem crcSums_walk (A : Option Addr) (c : Nat) (ps : List (List UInt8)) (s : Nat) (hs : s < 4294967296) (w : World) (hC : KBs.C w A ps.length ps) :
    Calls Try.prog 3 #[.slice A ps.length c, .int .u32 s] w fun e w' => e = .returned (.bool true) ∧ Below w.heap.size w w' := by
  have hm : ps.length ≤ 9223372036854775807 := Kd.C_max hC
  have HC := Lib.hid hC
  clear hC
  by_cases h50 : 50 < ps.length
  · go_enter Try.func3, Try.ntmps3
    go_wp2_with (go_at_call 12; refine (lives2_walk _).mono ?_; rintro e w3 ⟨rfl, hb3⟩)
    go_ret
    exact ⟨rfl, hb3⟩
  · go_enter Try.func3, Try.ntmps3
    go_wp2
    go_loopw [5, 6, 8, 16] (fun v o _ i wr => ∃ k o' : Nat, k ≤ ps.length ∧ i = .int .i64 k ∧ o = .int .u32 o' ∧ o' < 4294967296 ∧ OwB wr w.heap.size v (ps.take k).flatten ∧ (ps.take k).flatten.length ≤ 1000 * k ∧ Below w.heap.size w wr)
      (fun _ _ _ i _ => ps.length - (intOf i).toNat)
    case atStart => exact ⟨0, s, Nat.zero_le _, rfl, rfl, hs, OwB.nil _ _, by simp, Below.refl _ _⟩
    case round =>
      obtain ⟨k, o', hk, rfl, rfl, ho, hO, hle, hB⟩ := hrel
      obtain ⟨A5, c5, rfl, hc5, hR5⟩ := OwB.form hO
      have HO := Lib.hid hO
      have HR5 := Lib.hid hR5
      clear hO hR5
      by_cases hlt : k < ps.length
      · obtain ⟨ad, A', c', rfl, hcl0, hle2, hR⟩ := KBs_at HC.out k hlt
        have hcl := pw_cell_below hB hcl0
        clear hcl0
        have HR := Lib.hid hR
        have HT := Lib.hid (show (ps.take (k + 1)).flatten = (ps.take k).flatten ++ ps[k] by
          rw [List.take_succ_eq_append_getElem hlt, List.flatten_append]
          simp)
        clear hR
        generalize ps[k] = b at *
        generalize (ps.take k).flatten = xs at *
        by_cases hb : 1000 < b.length
        · go_wp2_with (go_at_call 12; refine (lives2_walk _).mono ?_; rintro e w3 ⟨rfl, hb3⟩)
          go_ret
          exact ⟨rfl, below_step hB hb3⟩
        · go_wp2_with (at_builtin; refine ap_row (w0 := w) w.heap.size rfl (Operand.tmp 24) (Operand.tmp 25) rfl _ xs b A' b.length c' rfl rfl ?c1 ?c2 ?c3 ?c4 ?c5 ?_)
          case c1 => exact HO.out
          case c2 => exact Kd.C_below HR.out hB
          case c3 => exact hB
          case c4 => exact hB.size
          case c5 => omega
          intro z1 A1 c1 w4 hz1 hc1 hO1 hB1 hg1
          have HO1 := Lib.hid hO1
          have HZ := Lib.hid hz1
          clear hO1 hz1 hg1 hcl
          go_wp2_with fail
          refine (on_walk o' ho _ _ _ _ (Kd.C_below HR.out hB1)).mono ?_
          rintro e w5 ⟨rfl, hb5⟩
          have hB5 := below_step hB1 hb5
          go_wp2_with fail
          refine (rcon_walk o' ho _ _ _ _ (Kd.C_below HR.out hB5)).mono ?_
          rintro e w6 ⟨rfl, rfl⟩
          go_wp2_with fail
          refine (on_walk o' ho _ _ _ _ (Kd.C_below HR.out hB5)).mono ?_
          rintro e w7 ⟨rfl, hb7⟩
          have hB7 := below_step hB5 hb7
          go_wp2
          go_roundw
          case rel => 
            have hlz : z1.length ≤ 1000 * (k + 1) := by
              rw [HZ.out, List.length_append]
              omega
            exact ⟨k + 1, crc (o' % 16777216) b, by omega, by go_num, rfl, by have := crc_lt (Nat.mod_lt o' (by decide : 0 < 16777216)) b; omega, by rw [HT.out, ← HZ.out]; exact Kd.R_below (Kd.R_below HO1.out hb5) hb7, by rw [HT.out, ← HZ.out]; exact hlz, hB7⟩
          case measure => simp [intOf]; omega
      · obtain rfl : k = ps.length := by omega
        have HF := Lib.hid (show ps.flatten = (ps.take ps.length).flatten by rw [List.take_length])
        generalize (ps.take ps.length).flatten = xs at *
        have hxl : xs.length ≤ 50000 := by omega
        go_wp2_with fail
        refine (sum_walk _ _ _ _ (Kd.C_below HC.out hB)).mono ?_
        rintro e w1 ⟨rfl, hb1⟩
        rw [HF.out]
        have hB1 := below_step hB hb1
        have HR1 := Lib.hid (Kd.C_below HR5.out hb1)
        go_wp2_with fail
        refine (rsum_walk _ _ _ _ HR1.out).mono ?_
        rintro e w2 ⟨rfl, rfl⟩
        go_wp2_with fail
        refine (fits_walk _ _ _ _ _ HR1.out hc5).mono ?_
        rintro e w3 ⟨rfl, hb3⟩
        have hB3 := below_step hB1 hb3
        have HR3 := Lib.hid (Kd.C_below HR1.out hb3)
        go_wp2_with fail
        refine (rsum_walk _ _ _ _ HR3.out).mono ?_
        rintro e w4 ⟨rfl, rfl⟩
        go_wp2_with fail
        refine (rsum_walk _ _ _ _ HR3.out).mono ?_
        rintro e w5 ⟨rfl, rfl⟩
        go_wp2_with fail
        refine (fits_walk _ _ _ _ _ HR3.out hc5).mono ?_
        rintro e w6 ⟨rfl, hb6⟩
        go_wp2_with fail
        refine (lives2_walk _).mono ?_
        rintro e w7 ⟨rfl, hb7⟩
        go_wp2
        go_ret
        exact ⟨rfl, below_step (below_step hB3 hb6) hb7⟩

theorem crcSums_law (A : Option Addr) (c : Nat) (ps : List (List UInt8)) (s : Int) (w : World) (hC : KBs.C w A ps.length ps) (_ : ps.length ≤ c) (_ : ∀ x ∈ ps, True) (hs : (Lit.int .u32 s).wf = true) :
    Calls Try.prog 3 #[.slice A ps.length c, .int .u32 s] w fun e w' => e = .returned (.bool true) ∧ Below w.heap.size w w' := by
  have h1 : IntKind.u32.min = 0 := rfl
  have h2 : IntKind.u32.max = 4294967295 := rfl
  simp only [Lit.wf, Bool.and_eq_true, decide_eq_true_eq] at hs
  obtain ⟨n, rfl⟩ := Int.eq_ofNat_of_zero_le (show 0 ≤ s by omega)
  exact crcSums_walk A c ps n (by omega) w hC
end Go.Proofs.Ytjbaodmjakeohaa
