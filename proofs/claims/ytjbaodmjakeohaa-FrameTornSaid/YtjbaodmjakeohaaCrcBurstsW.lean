/- CrcBursts: the walk. -/
import Derived.Test.YtjbaodmjakeohaaRcr
import Derived.Test.YtjbaodmjakeohaaRdk
set_option linter.unusedVariables false
set_option linter.unusedSimpArgs false
namespace Go.Proofs.Ytjbaodmjakeohaa
open Go.RowKit Go.Proofs.YtjbaodmjakeohaaW.PrintWords Cf
attribute [local go_sem] str_beq str_bne

theorem bit_and (t k : Nat) (ht : t < 4294967296) : bits .and .u32 ((t : Int) / 2 ^ k) 1 = ((t / 2 ^ k % 2 : Nat) : Int) := by
  have h1 : t / 2 ^ k < 4294967296 := Nat.lt_of_le_of_lt (Nat.div_le_self _ _) ht
  rw [show ((t : Int) / 2 ^ k) = ((t / 2 ^ k : Nat) : Int) by simp, show (1 : Int) = ((1 : Nat) : Int) from rfl, u32_and_nat _ _ h1 (by omega), nat_mask1]
theorem bit_yes {t k : Nat} (ht : t < 4294967296) (h : (bits .and .u32 ((t : Int) / 2 ^ k) 1 == 1) = true) : t / 2 ^ k % 2 = 1 := by
  rw [bit_and t k ht] at h
  simp only [beq_iff_eq] at h
  omega
theorem bit_no {t k : Nat} (ht : t < 4294967296) (h : (bits .and .u32 ((t : Int) / 2 ^ k) 1 == 1) = false) : ¬ t / 2 ^ k % 2 = 1 := by
  rw [bit_and t k ht] at h
  simp only [beq_eq_false_iff_ne, ne_eq] at h
  omega
theorem flip_byte (x : UInt8) (r : Nat) (hr : r < 8) : bits .xor .u8 (x.toNat : Int) (128 / 2 ^ r) = (((x ^^^ (128 : UInt8) >>> UInt8.ofNat r).toNat : Nat) : Int) := by
  have hx := x.toNat_lt
  have e : (128 : Int) / 2 ^ r = ((2 ^ (7 - r) : Nat) : Int) := by
    match r, hr with
    | 0, _ | 1, _ | 2, _ | 3, _ | 4, _ | 5, _ | 6, _ | 7, _ => rfl
  have h2 : 2 ^ (7 - r) < 256 := by
    have : 2 ^ (7 - r) ≤ 2 ^ 7 := Nat.pow_le_pow_right (by decide) (by omega)
    omega
  rw [e, u8_xor_nat _ _ (by omega) h2, UInt8.toNat_xor, shr_nat r hr]
theorem OwB.flp {w : World} {base g n c : Nat} {xs : List UInt8} (h : OwB w base (.slice (some ⟨g, 0, none⟩) n c) xs) (q : Nat) (hq : q / 8 < xs.length) :
    OwB (w.setCell ⟨g, q / 8, none⟩ (.int .u8 (bits .xor .u8 (xs[q / 8].toNat : Int) (128 / 2 ^ (q % 8))))).drew base (.slice (some ⟨g, 0, none⟩) n c) (flp xs q) := by
  rw [flip_byte _ _ (Nat.mod_lt _ (by decide))]
  have := Kd.R_drew (OwB.put h (q / 8) (xs[q / 8] ^^^ (128 : UInt8) >>> UInt8.ofNat (q % 8)))
  unfold Cf.flp
  rwa [show xs.getD (q / 8) 0 = xs[q / 8] by simp [List.getD_eq_getElem?_getD, hq]]

set_option maxHeartbeats 2000000 in
theorem crcBursts_main (A : Option Addr) (c : Nat) (xs : List UInt8) (p t : Nat) (w : World) (hC : RdB w A xs.length xs) (hc : xs.length ≤ c) (h5 : xs.length ≤ 500) (ht : t < 4294967296) (htm : t % 16777216 ≠ 0) (hp : p + 24 ≤ 8 * (sld xs).length) :
    Calls Try.prog 5 #[.slice A xs.length c, .int .i64 p, .int .u32 t] w fun e w' => e = .returned (.bool true) ∧ Below w.heap.size w w' := by
  have hsl := sld_length xs
  have hte : ((t : Int) % 16777216 == 0) = false := by simp; omega
  have HC := Lib.hid hC
  have HSL := Lib.hid hsl
  have HM := Lib.hid htm
  have hp2 : (p : Int) ≤ 8 * ((sld xs).length : Int) - 24 := by omega
  have h35 : (sld xs).length ≤ 503 := by omega
  clear hC hsl htm
  go_enter Try.func5, Try.ntmps5
  go_wp2_with fail
  refine (seal_walk _ _ _ _ HC.out hc (by omega)).mono ?_
  rintro e w1 ⟨A1, c1, rfl, hc1, hO1, hB1⟩
  have HO1 := Lib.hid hO1
  clear hO1
  go_wp2_with fail
  have hpos : 0 < (sld xs).length := by omega
  obtain ⟨g, rfl, hg⟩ := OwB.addr HO1.out hpos
  go_loopw [8, 33] (fun _ i wr => ∃ k : Nat, k ≤ 24 ∧ i = .int .i64 k ∧ OwB wr w.heap.size (.slice (some ⟨g, 0, none⟩) (sld xs).length c1) (burst t p (sld xs) k) ∧ Below w.heap.size w wr)
    (fun _ i _ => 24 - (intOf i).toNat)
  case atStart => exact ⟨0, by omega, rfl, HO1.out, hB1⟩
  case round =>
    clear HO1 hB1
    obtain ⟨k, hk, rfl, hO, hB⟩ := hrel
    have hbl := burst_length t p (sld xs) k
    by_cases hlt : k < 24
    · have hj : (p + k) / 8 < (burst t p (sld xs) k).length := by rw [hbl]; omega
      obtain ⟨hcl, hfz⟩ := OwB.cell hO _ hj
      have HBL := Lib.hid hbl
      have HO := Lib.hid hO
      clear hbl hO
      have HT := Lib.hid (show burst t p (sld xs) (k + 1) = if t / 2 ^ k % 2 = 1 then flp (burst t p (sld xs) k) (p + k) else burst t p (sld xs) k from rfl)
      generalize burst t p (sld xs) k = bs at *
      go_wp2
      · go_region
        go_wp2
        go_roundw
        case rel =>
          have ht1 : t / 2 ^ k % 2 = 1 := bit_yes ht (by assumption)
          refine ⟨k + 1, by omega, by go_num, ?_, below_drew (hB.setCell hg _)⟩
          rw [HT.out, if_pos ht1]
          exact OwB.flp HO.out (p + k) hj
        case measure => simp [intOf]; omega
      · have ht1 : ¬ t / 2 ^ k % 2 = 1 := bit_no ht (by assumption)
        refine ⟨⟨k + 1, by omega, by go_num, ?_, hB⟩, by simp [intOf]; omega⟩
        rw [HT.out, if_neg ht1]
        exact HO.out
    · obtain rfl : k = 24 := by omega
      have HN := Lib.hid (burst_crc xs t p HM.out hp)
      have hR := (OwB.reads hO).2.2
      have hcc := (OwB.reads hO).2.1
      rw [hbl] at hR
      have hob : opnB (burst t p (sld xs) 24) = false := by
        rw [← Bool.not_eq_true]
        exact fun h => HN.out (opn_crc h)
      have hol : opnL (burst t p (sld xs) 24) = [] := by simp [opnL, hob]
      clear hbl hO
      generalize burst t p (sld xs) 24 = bs at *
      have HR := Lib.hid hR
      have HOB := Lib.hid hob
      have HOL := Lib.hid hol
      clear hR hob hol
      go_wp2_with fail
      refine (open_at _ _ _ _ _ HR.out hcc (by omega)).mono ?_
      rw [HOB.out, HOL.out]
      rintro e w4 ⟨A4, c4, rfl, hc4, hO4, hB4⟩
      go_wp2_with (go_at_call 12; refine (lives2_walk _).mono ?_; rintro e w5 ⟨rfl, hb5⟩)
      go_ret
      exact ⟨rfl, below_step (below_step hB hB4) hb5⟩

set_option maxHeartbeats 1000000 in
theorem crcBursts_law (A : Option Addr) (c : Nat) (xs : List UInt8) (p t : Int) (w : World) (hC : RdB w A xs.length xs) (hc : xs.length ≤ c) (_ : True) (hp : (Lit.int .i64 p).wf = true) (htw : (Lit.int .u32 t).wf = true) :
    Calls Try.prog 5 #[.slice A xs.length c, .int .i64 p, .int .u32 t] w fun e w' => e = .returned (.bool true) ∧ Below w.heap.size w w' := by
  obtain ⟨t, rfl, ht⟩ := u32_nat htw
  by_cases h5 : 500 < xs.length
  · go_enter Try.func5, Try.ntmps5
    go_wp2_with (go_at_call 12; refine (lives2_walk _).mono ?_; rintro e w5 ⟨rfl, hb5⟩)
    go_ret
    exact ⟨rfl, hb5⟩
  by_cases h0 : t % 16777216 = 0
  · have hte : ((t : Int) % 16777216 == 0) = true := by simp; omega
    clear h0
    go_enter Try.func5, Try.ntmps5
    go_wp2_with (go_at_call 12; refine (lives2_walk _).mono ?_; rintro e w5 ⟨rfl, hb5⟩)
    go_ret
    exact ⟨rfl, hb5⟩
  have hte : ((t : Int) % 16777216 == 0) = false := by simp; omega
  have HC := Lib.hid hC
  have HM := Lib.hid h0
  have hsl := sld_length xs
  by_cases hr : 0 ≤ p ∧ p ≤ 8 * ((sld xs).length : Int) - 24
  · obtain ⟨p, rfl⟩ := Int.eq_ofNat_of_zero_le hr.1
    exact crcBursts_main A c xs p t w hC hc (by omega) ht h0 (by omega)
  · have HSL := Lib.hid hsl
    have h35 : (sld xs).length ≤ 503 := by omega
    clear hC hsl h0
    by_cases hn : p < 0
    · go_enter Try.func5, Try.ntmps5
      go_wp2_with fail
      refine (seal_walk _ _ _ _ HC.out hc (by omega)).mono ?_
      rintro e w1 ⟨A1, c1, rfl, hc1, hO1, hB1⟩
      clear hO1
      go_wp2_with (go_at_call 12; refine (lives2_walk _).mono ?_; rintro e w5 ⟨rfl, hb5⟩)
      go_ret
      exact ⟨rfl, below_step hB1 hb5⟩
    · have hgt : 8 * ((sld xs).length : Int) - 24 < p := by omega
      go_enter Try.func5, Try.ntmps5
      go_wp2_with fail
      refine (seal_walk _ _ _ _ HC.out hc (by omega)).mono ?_
      rintro e w1 ⟨A1, c1, rfl, hc1, hO1, hB1⟩
      clear hO1
      go_wp2_with (go_at_call 12; refine (lives2_walk _).mono ?_; rintro e w5 ⟨rfl, hb5⟩)
      go_ret
      exact ⟨rfl, below_step hB1 hb5⟩
end Go.Proofs.Ytjbaodmjakeohaa
