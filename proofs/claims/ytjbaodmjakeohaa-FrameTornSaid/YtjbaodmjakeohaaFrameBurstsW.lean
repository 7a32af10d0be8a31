/- FrameBursts: the walk. -/
import Derived.Test.YtjbaodmjakeohaaWho
import Derived.Test.YtjbaodmjakeohaaCrcBurstsW
set_option linter.unusedVariables false
set_option linter.unusedSimpArgs false
namespace Go.Proofs.Ytjbaodmjakeohaa
open Go.RowKit Go.Proofs.YtjbaodmjakeohaaW.PrintWords Cf
attribute [local go_sem] str_beq str_bne

theorem u8_byte {x : Int} (h : (Lit.int .u8 x).wf = true) : ∃ k : UInt8, x = (k.toNat : Int) := by
  have h2 : 0 ≤ x ∧ x < 256 := by
    have h1 : IntKind.u8.min = 0 := rfl
    have h2 : IntKind.u8.max = 255 := rfl
    simp only [Lit.wf, Bool.and_eq_true, decide_eq_true_eq] at h
    omega
  exact ⟨UInt8.ofNat x.toNat, by rw [UInt8.toNat_ofNat']; omega⟩
theorem tak_opnB {xs : List UInt8} (h : opnB xs = false) : wholeB xs = false := by
  cases hw : wholeB xs with
  | false => rfl
  | true =>
    simp only [wholeB, Bool.and_eq_true, beq_iff_eq] at hw
    obtain ⟨body, q1, q2, q3, q4, q5, q6, q7, q8, q9⟩ := tak_ok hw.1
    rw [← q6, hw.2, List.take_length, h] at q9
    cases q9

set_option maxHeartbeats 2000000 in
theorem frameBursts_main (k : UInt8) (A : Option Addr) (c : Nat) (xs : List UInt8) (p t : Nat) (w : World) (hk : k ≠ 0) (hC : RdB w A xs.length xs) (hc : xs.length ≤ c) (h5 : xs.length ≤ 300) (ht : t < 4294967296) (htm : t % 16777216 ≠ 0) (hp : p + 24 ≤ 8 * (wrp k xs).length) :
    Calls Try.prog 9 #[.int .u8 k.toNat, .slice A xs.length c, .int .i64 p, .int .u32 t] w fun e w' => e = .returned (.bool true) ∧ Below w.heap.size w w' := by
  have hsl := wrp_length k xs
  have hbc := fun h => burst_crc (hed k xs.length ++ xs) t p htm h
  have hW := wrap_ok A c k xs w hC hk (by omega)
  have hbl := fun j => burst_length t p (wrp k xs) j
  rw [← wrp] at hbc
  have hS : ∀ j, burst t p (wrp k xs) (j + 1) = if t / 2 ^ j % 2 = 1 then flp (burst t p (wrp k xs) j) (p + j) else burst t p (wrp k xs) j := fun j => rfl
  have hb0 : burst t p (wrp k xs) 0 = wrp k xs := rfl
  generalize wrp k xs = z at *
  have hte : ((t : Int) % 16777216 == 0) = false := by simp; omega
  have hN := hbc hp
  have HSL := Lib.hid hsl
  have HW := Lib.hid hW
  have HBL := Lib.hid hbl
  have HS := Lib.hid hS
  have HN := Lib.hid hN
  have H0 := Lib.hid hb0
  have hp2 : (p : Int) ≤ 8 * (z.length : Int) - 24 := by omega
  have h35 : z.length ≤ 308 := by omega
  have h36 : 8 ≤ z.length := by omega
  clear hC hsl htm hW hbl hbc hS hN hk hb0
  go_enter Try.func9, Try.ntmps9
  go_wp2_with fail
  refine (HW.out).mono ?_
  rintro e w1 ⟨A1, c1, rfl, hc1, hO1, hB1⟩
  have HO1 := Lib.hid hO1
  clear hO1
  go_wp2_with fail
  obtain ⟨g, rfl, hg⟩ := OwB.addr HO1.out (by omega)
  go_loopw [11, 45] (fun _ i wr => ∃ j : Nat, j ≤ 24 ∧ i = .int .i64 j ∧ OwB wr w.heap.size (.slice (some ⟨g, 0, none⟩) z.length c1) (burst t p z j) ∧ Below w.heap.size w wr)
    (fun _ i _ => 24 - (intOf i).toNat)
  case atStart => exact ⟨0, by omega, rfl, by rw [H0.out]; exact HO1.out, hB1⟩
  case round =>
    clear HO1 hB1
    obtain ⟨j, hj24, rfl, hO, hB⟩ := hrel
    have hbl := HBL.out j
    by_cases hlt : j < 24
    · have hj : (p + j) / 8 < (burst t p z j).length := by rw [hbl]; omega
      obtain ⟨hcl, hfz⟩ := OwB.cell hO _ hj
      have HBL := Lib.hid hbl
      have HO := Lib.hid hO
      clear hbl hO
      have HT := Lib.hid (HS.out j)
      generalize burst t p z j = bs at *
      go_wp2
      · go_region
        go_wp2
        go_roundw
        case rel =>
          have ht1 : t / 2 ^ j % 2 = 1 := bit_yes ht (by assumption)
          refine ⟨j + 1, by omega, by go_num, ?_, below_drew (hB.setCell hg _)⟩
          rw [HT.out, if_pos ht1]
          exact OwB.flp HO.out (p + j) hj
        case measure => simp [intOf]; omega
      · have ht1 : ¬ t / 2 ^ j % 2 = 1 := bit_no ht (by assumption)
        refine ⟨⟨j + 1, by omega, by go_num, ?_, hB⟩, by simp [intOf]; omega⟩
        rw [HT.out, if_neg ht1]
        exact HO.out
    · obtain rfl : j = 24 := by omega
      have hR := (OwB.reads hO).2.2
      have hcc := (OwB.reads hO).2.1
      rw [hbl] at hR
      have hob : opnB (burst t p z 24) = false := by
        rw [← Bool.not_eq_true]
        exact fun h => HN.out (opn_crc h)
      have hwb := tak_opnB hob
      have hwk : wholeK (burst t p z 24) = 0 := by rw [wholeK, if_neg (by simp [hwb])]
      have hwl : wholeL (burst t p z 24) = [] := by rw [wholeL, if_neg (by simp [hwb])]
      clear hbl hO HN hob HS
      generalize burst t p z 24 = bs at *
      have HR := Lib.hid hR
      have HOB := Lib.hid hwb
      have HOK := Lib.hid hwk
      have HOL := Lib.hid hwl
      clear hR hwb hwk hwl
      go_wp2_with fail
      refine (whole_at _ _ _ _ _ HR.out hcc (by omega)).mono ?_
      rw [HOB.out, HOK.out, HOL.out]
      rintro e w4 ⟨A4, c4, rfl, hc4, hO4, hB4⟩
      clear hO4
      go_wp2_with (go_at_call 22; refine (lives3_walk _).mono ?_; rintro e w5 ⟨rfl, hb5⟩)
      go_ret
      exact ⟨rfl, below_step (below_step hB hB4) hb5⟩

set_option maxHeartbeats 1000000 in
theorem frameBursts_law (k : Int) (A : Option Addr) (c : Nat) (xs : List UInt8) (p t : Int) (w : World) (hkw : (Lit.int .u8 k).wf = true) (hC : RdB w A xs.length xs) (hc : xs.length ≤ c) (_ : True) (hp : (Lit.int .i64 p).wf = true) (htw : (Lit.int .u32 t).wf = true) :
    Calls Try.prog 9 #[.int .u8 k, .slice A xs.length c, .int .i64 p, .int .u32 t] w fun e w' => e = .returned (.bool true) ∧ Below w.heap.size w w' := by
  obtain ⟨k, rfl⟩ := u8_byte hkw
  obtain ⟨t, rfl, ht⟩ := u32_nat htw
  by_cases h5 : 300 < xs.length
  · clear hC
    go_enter Try.func9, Try.ntmps9
    go_wp2_with (go_at_call 22; refine (lives3_walk _).mono ?_; rintro e w5 ⟨rfl, hb5⟩)
    go_ret
    exact ⟨rfl, hb5⟩
  by_cases h0 : t % 16777216 = 0
  · have hte : ((t : Int) % 16777216 == 0) = true := by simp; omega
    clear h0 hC
    go_enter Try.func9, Try.ntmps9
    go_wp2_with (go_at_call 22; refine (lives3_walk _).mono ?_; rintro e w5 ⟨rfl, hb5⟩)
    go_ret
    exact ⟨rfl, hb5⟩
  have hte : ((t : Int) % 16777216 == 0) = false := by simp; omega
  have hsl := wrp_length k xs
  by_cases hk : k = 0
  · have hE : wrpE k xs = 2 := by simp [wrpE, hk]
    have hW := wrap_at A xs.length c k xs w hC
    have hb : wrpB k xs = [] := by simp [wrpB, hE]
    rw [hE, hb] at hW
    have HW := Lib.hid hW
    clear hW hE hb hsl hC h0 hk
    go_enter Try.func9, Try.ntmps9
    go_wp2_with fail
    refine (HW.out).mono ?_
    rintro e w1 ⟨A1, c1, rfl, hc1, hO1, hB1⟩
    clear hO1
    go_wp2_with (go_at_call 22; refine (lives3_walk _).mono ?_; rintro e w5 ⟨rfl, hb5⟩)
    go_ret
    exact ⟨rfl, below_step hB1 hb5⟩
  by_cases hr : 0 ≤ p ∧ p ≤ 8 * ((wrp k xs).length : Int) - 24
  · obtain ⟨p, rfl⟩ := Int.eq_ofNat_of_zero_le hr.1
    exact frameBursts_main k A c xs p t w hk hC hc (by omega) ht h0 (by omega)
  · have HW := Lib.hid (wrap_ok A c k xs w hC hk (by omega))
    have h35 : (wrp k xs).length ≤ 308 := by omega
    have h36 : 8 ≤ (wrp k xs).length := by omega
    generalize wrp k xs = z at *
    clear hC hsl h0 hk
    by_cases hn : p < 0
    · go_enter Try.func9, Try.ntmps9
      go_wp2_with fail
      refine (HW.out).mono ?_
      rintro e w1 ⟨A1, c1, rfl, hc1, hO1, hB1⟩
      clear hO1
      go_wp2_with (go_at_call 22; refine (lives3_walk _).mono ?_; rintro e w5 ⟨rfl, hb5⟩)
      go_ret
      exact ⟨rfl, below_step hB1 hb5⟩
    · have hgt : 8 * (z.length : Int) - 24 < p := by omega
      go_enter Try.func9, Try.ntmps9
      go_wp2_with fail
      refine (HW.out).mono ?_
      rintro e w1 ⟨A1, c1, rfl, hc1, hO1, hB1⟩
      clear hO1
      go_wp2_with (go_at_call 22; refine (lives3_walk _).mono ?_; rintro e w5 ⟨rfl, hb5⟩)
      go_ret
      exact ⟨rfl, below_step hB1 hb5⟩
end Go.Proofs.Ytjbaodmjakeohaa
