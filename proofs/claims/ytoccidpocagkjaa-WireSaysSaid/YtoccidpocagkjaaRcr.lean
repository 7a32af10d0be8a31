/- The reference of crc24: each function by its contract. -/
import Derived.Test.YtoccidpocagkjaaCrc
set_option linter.unusedVariables false
set_option linter.unusedSimpArgs false
namespace Go.Proofs.Ytoccidpocagkjaa
open Go.RowKit Go.Proofs.YtoccidpocagkjaaW.PrintWords Cf

theorem rst_test (r cc k : Nat) : (((r : Int) / 8388608 % 2 != (cc : Int) / 2 ^ k % 2) = true ↔ r / 8388608 % 2 ≠ cc / 2 ^ k % 2) := by
  have e : (cc : Int) / 2 ^ k = ((cc / 2 ^ k : Nat) : Int) := by simp
  rw [e, bne_iff_ne]
  omega
theorem rst_yes {r cc k : Nat} (hr : r < 16777216) (h : ((r : Int) / 8388608 % 2 != (cc : Int) / 2 ^ k % 2) = true) : bits .xor .u32 ((r : Int) * 2 % 16777216) 8801531 = ((rst r (cc / 2 ^ k) : Nat) : Int) := by
  rw [rst_test] at h
  rw [show ((r : Int) * 2 % 16777216) = ((r * 2 % 16777216 : Nat) : Int) by omega, show (8801531 : Int) = ((8801531 : Nat) : Int) from rfl, u32_xor_nat _ _ (by omega) (by omega), rst, if_pos h]
theorem rst_no {r cc k : Nat} (h : ((r : Int) / 8388608 % 2 != (cc : Int) / 2 ^ k % 2) = false) : ((r : Int) * 2 % 16777216) = ((rst r (cc / 2 ^ k) : Nat) : Int) := by
  have h' : ¬ (r / 8388608 % 2 ≠ cc / 2 ^ k % 2) := fun e => by rw [← rst_test] at e; rw [e] at h; cases h
  rw [rst, if_neg h']
  omega

set_option maxHeartbeats 1000000 in
theorem rcon_walk (s : Nat) (hs : s < 4294967296) (A : Option Addr) (c : Nat) (xs : List UInt8) (w : World) (hC : RdB w A xs.length xs) :
    Calls Try.prog 92 #[.int .u32 s, .slice A xs.length c] w fun e w' => e = .returned (.int .u32 (crc (s % 16777216) xs)) ∧ w' = w := by
  have hm : xs.length ≤ 9223372036854775807 := Kd.C_max hC
  have HC := Lib.hid hC
  clear hC
  have hs0 : s % 16777216 < 16777216 := Nat.mod_lt _ (by decide)
  have em : ((s : Int) % 16777216) = ((s % 16777216 : Nat) : Int) := by omega
  generalize s % 16777216 = s0 at *
  go_enter Try.func92, Try.ntmps92
  go_wp2
  go_loop [0, 5, 6, 7] (fun r i _ _ => ∃ k : Nat, k ≤ xs.length ∧ i = .int .i64 k ∧ r = .int .u32 (crc s0 (xs.take k) : Nat))
    (fun _ i _ _ => xs.length - (intOf i).toNat)
  case atStart => exact ⟨0, Nat.zero_le _, rfl, by simp [crc, em]⟩
  case round =>
    obtain ⟨k, hk, rfl, rfl⟩ := hrel
    by_cases hlt : k < xs.length
    · obtain ⟨b, off, rfl, hcs⟩ := KB_cells HC.out (by omega)
      have hcl := hcs k hlt
      clear hcs
      have hl : crc s0 (xs.take k) < 16777216 := crc_lt hs0 _
      have hx : xs[k].toNat < 256 := xs[k].toNat_lt
      have HT := Lib.hid (show crc s0 (xs.take (k + 1)) = rbs xs[k].toNat (crc s0 (xs.take k)) 8 by
        rw [List.take_succ_eq_append_getElem hlt, crc_snoc, rbs_byt hl])
      generalize crc s0 (xs.take k) = s2 at *
      generalize xs[k].toNat = cc at *
      go_wp2
      go_loop [0, 6, 7] (fun r i _ => ∃ j : Nat, j ≤ 8 ∧ i = .int .i64 (7 - (j : Int)) ∧ r = .int .u32 (rbs cc s2 j : Nat))
        (fun _ i _ => (intOf i + 1).toNat)
      case atStart => exact ⟨0, by omega, rfl, rfl⟩
      case round =>
        obtain ⟨j, hj, rfl, rfl⟩ := hrel
        have hr : rbs cc s2 j < 16777216 := rbs_lt hl j
        by_cases hlt2 : j < 8
        · go_wp2
          · have ht : ((rbs cc s2 j : Int) / 8388608 % 2 != (cc : Int) / 2 ^ (7 - j) % 2) = true := by assumption
            refine ⟨⟨j + 1, by omega, by congr 1; omega, ?_⟩, by simp [intOf]; omega⟩
            rw [rst_yes hr ht]
            rfl
          · have ht : ((rbs cc s2 j : Int) / 8388608 % 2 != (cc : Int) / 2 ^ (7 - j) % 2) = false := by assumption
            refine ⟨⟨j + 1, by omega, by congr 1; omega, ?_⟩, by simp [intOf]; omega⟩
            rw [rst_no ht]
            rfl
        · obtain rfl : j = 8 := by omega
          go_wp2
          go_round
          case rel => exact ⟨k + 1, by omega, by go_num, by rw [HT.out]⟩
          case measure => simp [intOf]; omega
    · obtain rfl : k = xs.length := by omega
      rw [List.take_length]
      go_wp2
      go_ret
      exact ⟨rfl, rfl⟩
attribute [local go_sem] str_beq str_bne

theorem rsum_walk (A : Option Addr) (c : Nat) (xs : List UInt8) (w : World) (hC : RdB w A xs.length xs) :
    Calls Try.prog 85 #[.slice A xs.length c] w fun e w' => e = .returned (.int .u32 (crc 11994318 xs)) ∧ w' = w := by
  have HC := Lib.hid hC
  clear hC
  go_enter Try.func85, Try.ntmps85
  go_wp2_with (go_at_call 92; refine (rcon_walk 11994318 (by decide) _ _ _ _ HC.out).mono ?_; rintro e w3 ⟨rfl, rfl⟩)
  go_ret
  exact ⟨by simp, rfl⟩

set_option maxHeartbeats 1000000 in
theorem rseal_walk (A : Option Addr) (c : Nat) (xs : List UInt8) (w : World) (hC : RdB w A xs.length xs) (hl : xs.length + 3 ≤ 140737488355328) :
    Calls Try.prog 68 #[.slice A xs.length c] w fun e w' => ∃ A' c', e = .returned (.slice A' (sld xs).length c') ∧ (sld xs).length ≤ c' ∧ OwB w' w.heap.size (.slice A' (sld xs).length c') (sld xs) ∧ Below w.heap.size w w' := by
  have HC := Lib.hid hC
  clear hC
  have hlt : crc 11994318 xs < 16777216 := crc_lt (by decide) _
  have HS := Lib.hid (show sld xs = xs ++ sum3 (crc 11994318 xs) from rfl)
  go_enter Try.func68, Try.ntmps68
  go_wp2_with (first
    | (go_at_call 85; refine (rsum_walk _ _ _ _ HC.out).mono ?_; rintro e w3 ⟨rfl, rfl⟩)
    | (at_builtin; refine ap_row (w0 := w3) w3.heap.size rfl (Operand.tmp 6) (Operand.tmp 7) rfl _ [] xs A xs.length c rfl rfl ?c1 ?c2 ?c3 ?c4 ?c5 ?_))
  case c1 => exact OwB.lit w3 _ (Nat.le_refl _) [] _ rfl (by simp)
  case c2 => exact Kd.C_alloc HC.out _
  case c3 => exact below_alloc (Below.refl _ _) _
  case c4 => simp
  case c5 => simp; omega
  intro z1 A1 c1 w4 hz1 hc1 hO1 hB1 _
  obtain rfl : z1 = xs := hz1
  have HO1 := Lib.hid hO1
  clear hO1
  go_wp2_with (at_builtin; refine ap_row (w0 := w3) w3.heap.size rfl (Operand.tmp 8) (Operand.tmp 17) rfl _ z1 (sum3 (crc 11994318 z1)) (some ⟨w4.heap.size, 0, none⟩) 3 3 rfl rfl ?d1 ?d2 ?d3 ?d4 ?d5 ?_)
  case d1 => exact Kd.R_alloc HO1.out _
  case d2 => exact (OwB.lit w4 w4.heap.size (Nat.le_refl _) (sum3 (crc 11994318 z1)) _ (by rw [lit3 _ hlt]) (by simp [sum3])).reads.2.2
  case d3 => exact below_alloc hB1 _
  case d4 => have := hB1.size; simp; omega
  case d5 => simpa using hl
  intro z2 A2 c2 w5 hz2 hc2 hO2 hB2 _
  obtain rfl : z2 = sld z1 := hz2
  go_wp2
  go_ret
  exact ⟨A2, c2, rfl, hc2, hO2, hB2⟩

theorem rseal_at (A : Option Addr) (n c : Nat) (xs : List UInt8) (w : World) (hC : RdB w A n xs) (hl : n + 3 ≤ 140737488355328) :
    Calls Try.prog 68 #[.slice A n c] w fun e w' => ∃ A' c', e = .returned (.slice A' (sld xs).length c') ∧ (sld xs).length ≤ c' ∧ OwB w' w.heap.size (.slice A' (sld xs).length c') (sld xs) ∧ Below w.heap.size w w' := by
  obtain rfl : xs.length = n := hC.1
  exact rseal_walk A c xs w hC hl
theorem sum_at (A : Option Addr) (n c : Nat) (ps : List (List UInt8)) (w : World) (hC : KBs.C w A n ps) :
    Calls Try.prog 80 #[.slice A n c] w fun e w' => e = .returned (.int .u32 (crc 11994318 ps.flatten)) ∧ Below w.heap.size w w' := by
  obtain rfl : ps.length = n := hC.1
  exact sum_walk A c ps w hC
theorem sum_nil (w : World) : Calls Try.prog 80 #[.slice none 0 0] w fun e w' => e = .returned (.int .u32 11994318) ∧ Below w.heap.size w w' := sum_at none 0 0 [] w (Kd.C_nil _ _)
end Go.Proofs.Ytoccidpocagkjaa
