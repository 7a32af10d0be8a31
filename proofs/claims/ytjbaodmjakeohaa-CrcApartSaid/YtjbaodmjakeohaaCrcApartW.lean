/- CrcApart: the walk. -/
import Derived.Test.YtjbaodmjakeohaaRcr
import Derived.Test.YtjbaodmjakeohaaRdk
set_option linter.unusedVariables false
set_option linter.unusedSimpArgs false
namespace Go.Proofs.Ytjbaodmjakeohaa
open Go.RowKit Go.Proofs.YtjbaodmjakeohaaW.PrintWords Cf
attribute [local go_sem] str_beq str_bne

set_option maxHeartbeats 2000000 in
set_option maxRecDepth 100000 in
theorem crcApart_main (A : Option Addr) (c : Nat) (xs : List UInt8) (x : Int) (w : World) (hC : RdB w A xs.length xs) (hc : xs.length ≤ c) (h5 : xs.length ≤ 500) (x0 : 0 ≤ x) (x1 : x < 256) :
    Calls Try.prog 6 #[.slice A xs.length c, .int .u8 x] w fun e w' => e = .returned (.bool true) ∧ Below w.heap.size w w' := by
  obtain ⟨xb, hxb⟩ : ∃ b : UInt8, x = (b.toNat : Int) := ⟨UInt8.ofNat x.toNat, by simp [UInt8.toNat_ofNat']; omega⟩
  subst hxb
  have hsl := sld_length xs
  have HC := Lib.hid hC
  have HSL := Lib.hid hsl
  have h35 : (sld xs).length ≤ 503 := by omega
  clear hC hsl
  go_enter Try.func6, Try.ntmps6
  go_wp2_with (at_builtin; refine ap_row (w0 := w) w.heap.size rfl (Operand.tmp 15) (Operand.tmp 16) rfl _ [] xs A xs.length c rfl rfl ?c1 ?c2 ?c3 ?c4 ?c5 ?_)
  case c1 => exact OwB.lit w _ (Nat.le_refl _) [] _ rfl (by simp)
  case c2 => exact Kd.C_alloc HC.out _
  case c3 => exact below_alloc (Below.refl _ _) _
  case c4 => simp
  case c5 => simp; omega
  intro z1 A1 c1 w1 hz1 hc1 hO1 hB1 hg1
  obtain rfl : z1 = xs := hz1
  have HO1 := Lib.hid hO1
  clear hg1 hO1
  go_wp2_with fail
  refine (seal_walk _ _ _ _ HO1.out.reads.2.2 hc1 (by omega)).mono ?_
  rintro e w2 ⟨A2, c2, rfl, hc2, hO2, hB2⟩
  have HO2 := Lib.hid hO2
  clear hO2
  go_wp2_with fail
  refine (open_sld _ _ _ z1 _ HO2.out.reads.2.2 hc2 (by omega)).mono ?_
  rintro e w3 ⟨A3, c3, rfl, hc3, hO3, hB3⟩
  have HO3 := Lib.hid hO3
  clear hO3
  have hBz := below_step (below_step hB1 hB2) hB3
  have HP1 : Hid (OwB w3 w.heap.size (.slice A1 z1.length c1) z1) := Kd.R_below (Kd.R_below HO1.out hB2) hB3
  have HP2 : Hid (OwB w3 w1.heap.size (.slice A2 (sld z1).length c2) (sld z1)) := Kd.R_below HO2.out hB3
  have L1 : Hid (∀ g, A1 = some ⟨g, 0, none⟩ → g < w1.heap.size) := fun g h => Kd.R_lt HO1.out g (by rw [h]; rfl)
  have L2 : Hid (∀ g, A2 = some ⟨g, 0, none⟩ → g < w2.heap.size) := fun g h => Kd.R_lt HO2.out g (by rw [h]; rfl)
  have hs12 := hB2.size
  have hsb := hB1.size
  clear HO1 HO2 hB1 hB2 hB3
  go_wp2_with fail
  go_loopw [9, 27] (fun _ i wr => ∃ (k : Nat) (ys : List UInt8), k ≤ z1.length ∧ i = .int .i64 k ∧ ys.length = z1.length ∧ OwB wr w.heap.size (.slice A1 z1.length c1) ys ∧ OwB wr w1.heap.size (.slice A2 (sld z1).length c2) (sld z1) ∧ OwB wr w2.heap.size (.slice A3 z1.length c3) z1 ∧ Below w.heap.size w wr)
    (fun _ i _ => z1.length - (intOf i).toNat)
  case atStart => exact ⟨0, z1, by omega, rfl, rfl, HP1.out, HP2.out, HO3.out, hBz⟩
  case round =>
    clear HP1 HP2 HO3 hBz
    obtain ⟨k, ys, hk, rfl, hyl, hO1, hO2, hO3, hB⟩ := hrel
    by_cases hlt : k < z1.length
    · obtain ⟨g, rfl, hg⟩ := OwB.addr hO1 (by omega)
      have hgl := L1.out g rfl
      have hk2 : k < ys.length := by omega
      obtain ⟨hcl, hfz⟩ := OwB.cell hO1 k hk2
      have HO1 := Lib.hid hO1
      have HO2 := Lib.hid hO2
      have HO3 := Lib.hid hO3
      have HYL := Lib.hid hyl
      clear hO1 hO2 hO3 hyl
      go_wp2
      go_roundw
      case rel => exact ⟨k + 1, ys.set k xb, by omega, by go_num, by rw [List.length_set]; exact HYL.out, OwB.put HO1.out k xb, OwB.far HO2.out hgl _, OwB.far HO3.out (Nat.lt_of_lt_of_le hgl hs12) _, hB.setCell hg _⟩
      case measure => simp [intOf]; omega
    · clear hO1 hyl
      have HO2 := Lib.hid hO2
      have HO3 := Lib.hid hO3
      clear hO2 hO3
      go_wp2
      go_loopw [10, 37] (fun _ i wr => ∃ (k : Nat) (ys : List UInt8), k ≤ (sld z1).length ∧ i = .int .i64 k ∧ ys.length = (sld z1).length ∧ OwB wr w1.heap.size (.slice A2 (sld z1).length c2) ys ∧ OwB wr w2.heap.size (.slice A3 z1.length c3) z1 ∧ Below w.heap.size w wr)
        (fun _ i _ => (sld z1).length - (intOf i).toNat)
      case atStart => exact ⟨0, sld z1, by omega, rfl, rfl, HO2.out, HO3.out, hB⟩
      case round =>
        clear HO2 HO3 hB
        obtain ⟨k, ys, hk, rfl, hyl, hO2, hO3, hB⟩ := hrel
        by_cases hlt : k < (sld z1).length
        · obtain ⟨g, rfl, hg⟩ := OwB.addr hO2 (by omega)
          have hgl := L2.out g rfl
          have hk2 : k < ys.length := by omega
          obtain ⟨hcl, hfz⟩ := OwB.cell hO2 k hk2
          have HO2 := Lib.hid hO2
          have HO3 := Lib.hid hO3
          have HYL := Lib.hid hyl
          clear hO2 hO3 hyl
          go_wp2
          go_roundw
          case rel => exact ⟨k + 1, ys.set k xb, by omega, by go_num, by rw [List.length_set]; exact HYL.out, OwB.put HO2.out k xb, OwB.far HO3.out hgl _, hB.setCell (Nat.le_trans hsb hg) _⟩
          case measure => simp [intOf]; omega
        · have k1 := conv_str (c := c3) hO3.reads.2.2
          have k2 := conv_str (c := c) (Kd.C_below HC.out hB)
          clear hO2 hyl hO3
          go_wp2_with (go_at_call 12; refine (lives2_walk _).mono ?_; rintro e w5 ⟨rfl, hb5⟩)
          go_ret
          exact ⟨rfl, below_step hB hb5⟩

set_option maxHeartbeats 1000000 in
theorem crcApart_law (A : Option Addr) (c : Nat) (xs : List UInt8) (x : Int) (w : World) (hC : RdB w A xs.length xs) (hc : xs.length ≤ c) (_ : True) (hx : (Lit.int .u8 x).wf = true) :
    Calls Try.prog 6 #[.slice A xs.length c, .int .u8 x] w fun e w' => e = .returned (.bool true) ∧ Below w.heap.size w w' := by
  have h1 : IntKind.u8.min = 0 := rfl
  have h2 : IntKind.u8.max = 255 := rfl
  simp only [Lit.wf, Bool.and_eq_true, decide_eq_true_eq] at hx
  have x0 : 0 ≤ x := by omega
  have x1 : x < 256 := by omega
  clear hx h1 h2
  by_cases h5 : 500 < xs.length
  · clear hC
    go_enter Try.func6, Try.ntmps6
    go_wp2_with (go_at_call 12; refine (lives2_walk _).mono ?_; rintro e w5 ⟨rfl, hb5⟩)
    go_ret
    exact ⟨rfl, hb5⟩
  · exact crcApart_main A c xs x w hC hc (by omega) x0 x1
end Go.Proofs.Ytjbaodmjakeohaa
