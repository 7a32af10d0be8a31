/- segment: the chapter's example. -/
import Derived.Test.YtakneimkadjiiaaSln
import Derived.Test.YtakneimkadjiiaaSrd
import Derived.Test.YtakneimkadjiiaaNam
set_option linter.unusedVariables false
set_option linter.unusedSimpArgs false
namespace Go.Proofs.Ytakneimkadjiiaa
open Go.RowKit Go.Proofs.YtakneimkadjiiaaW.PrintWords Cf
attribute [local go_sem] str_beq str_bne

theorem segread_at (A : Option Addr) (n c : Nat) (xs : List UInt8) (w : World) (hC : RdB w A n xs) (hc : n ≤ c) (h3 : n ≤ 1000000000) :
    Calls Try.prog 8 #[.slice A n c] w fun e w' => ∃ A' c', e = .returned (.tuple #[.int .u64 ((segOf xs).first : Nat), .slice A' (segOf xs).l.length c', .int .i64 ((segOf xs).good : Nat)]) ∧ EntR w' w.heap.size (.slice A' (segOf xs).l.length c') (segOf xs).l ∧ Below w.heap.size w w' := by
  obtain rfl : xs.length = n := hC.1
  exact segread_walk A c xs w hC hc h3
theorem numB_small {n : Nat} (h : n < 18446744073709551616) : (numB n).length ≤ 9 := numB_len h
set_option maxRecDepth 100000 in
set_option maxHeartbeats 2000000 in
theorem lives24_walk (w : World) : Calls Try.prog 7 #[] w fun e w' => e = .returned (.bool true) ∧ Below w.heap.size w w' := by
  have hL := Lib.hid (segline_ok 5 ⟨1, 1, []⟩ none 0 w (by decide) (by decide) (RdB.nil _))
  have hH := Lib.hid (fun w => seghed_walk 5 w (by decide))
  have hseg : segOf (hedW 5 ++ linW 5 ⟨1, 1, []⟩) = ⟨5, [⟨1, 1, []⟩], (hedW 5).length + (linW 5 ⟨1, 1, []⟩).length⟩ := by
    have := segOf_lines 5 (by decide) (by decide) [⟨1, 1, []⟩] [] (by decide) (by decide)
    rw [frs_nil] at this
    simpa [linesW, segGo] using this
  have hh := wrp_length 1 (numB 5)
  have hl := linW_len 5 ⟨1, 1, []⟩
  have hl2 := linT_len 5 ⟨1, 1, []⟩ (by decide) (by decide)
  have hn5 := numB_len (show 5 < 18446744073709551616 by decide)
  have hh2 : (hedW 5).length = (numB 5).length + 8 := hh
  have HNM := Lib.hid (fun w => segname_walk 300 w (by decide))
  have hnm : nameL 300 = [76, 48, 48, 48, 48, 48, 48, 48, 48, 48, 48, 48, 48, 49, 50, 99] := by decide
  rw [hnm] at HNM
  have HSG := Lib.hid hseg
  have hgood : 0 < (hedW 5).length + (linW 5 ⟨1, 1, []⟩).length := by omega
  obtain ⟨g, hg⟩ : ∃ g, (hedW 5).length + (linW 5 ⟨1, 1, []⟩).length = g := ⟨_, rfl⟩
  rw [hg] at HSG hgood
  clear hg
  generalize hedW 5 = hd at *
  generalize linW 5 ⟨1, 1, []⟩ = ln at *
  have hll : ln.length ≤ 5000 := by omega
  have hdl : hd.length ≤ 5000 := by omega
  clear hseg hh hl hl2 hn5 hh2 hnm
  go_enter Try.func7, Try.ntmps7
  go_wp2_with fail
  refine (hL.out).mono ?_
  rintro e w1 ⟨A1, c1, rfl, hc1, hO1, hB1⟩
  have HO1 := Lib.hid hO1
  clear hO1
  go_wp2_with fail
  refine (hH.out _).mono ?_
  rintro e w2 ⟨A2, c2, rfl, hc2, hO2, hB2⟩
  have HO2 := Lib.hid hO2
  have HR1 := Lib.hid (Kd.C_below HO1.out.reads.2.2 hB2)
  have HB2 := Lib.hid (below_step hB1 hB2)
  have hsz := hB1.size
  have hsz2 := hB2.size
  clear hO2 hB2 hB1
  go_wp2_with (at_builtin; refine ap_row (w0 := w2) w1.heap.size rfl (Operand.tmp 12) (Operand.tmp 13) rfl _ hd ln A1 ln.length c1 rfl rfl ?c1 ?c2 ?c3 ?c4 ?c5 ?_)
  case c1 => exact HO2.out
  case c2 => exact HR1.out
  case c3 => exact Below.refl _ _
  case c4 => exact hsz2
  case c5 => omega
  intro zs A3 c3 w3 hz hc3 hO3 hB3 hg3
  have HR3 := Lib.hid hO3.rd
  have HB3 := Lib.hid (HB2.out.trans (hB3.mono hsz))
  have HZ := Lib.hid (show segOf zs = ⟨5, [⟨1, 1, []⟩], g⟩ by rw [hz.out]; exact HSG.out)
  have hzl : zs.length ≤ 1000000 := by rw [hz.out, List.length_append]; omega
  clear hO3 hB3 hg3
  go_wp2_with fail
  refine (segread_at A3 _ c3 zs w3 HR3.out hc3 (by omega)).mono ?_
  rw [HZ.out]
  dsimp only
  rintro e w4 ⟨A4, c4, rfl, hE4, hB4⟩
  have HB4 := Lib.hid (below_step HB3.out hB4)
  have e1 : ((str [76, 48, 48, 48, 48, 48, 48, 48, 48, 48, 48, 48, 48, 49, 50, 99]).toList == [76, 48, 48, 48, 48, 48, 48, 48, 48, 48, 48, 48, 48, 49, 50, 99]) = true := by rw [str_toList]; decide
  have hgi : (0 : Int) < (g : Int) := by omega
  clear hE4 hB4
  go_wp2_with fail
  refine (HNM.out _).mono ?_
  rintro e w5 ⟨rfl, hB5⟩
  have HB5 := Lib.hid (below_step HB4.out hB5)
  clear hB5
  go_wp2
  go_ret
  exact ⟨rfl, HB5.out⟩
end Go.Proofs.Ytakneimkadjiiaa
