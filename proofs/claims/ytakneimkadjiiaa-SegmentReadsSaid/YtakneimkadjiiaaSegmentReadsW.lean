/- SegmentReads: the walk. -/
import Derived.Test.YtakneimkadjiiaaLiv
import Derived.Test.YtakneimkadjiiaaRsr
import Derived.Test.YtakneimkadjiiaaRsm
import Derived.Test.YtakneimkadjiiaaRdk
set_option linter.unusedVariables false
set_option linter.unusedSimpArgs false
namespace Go.Proofs.Ytakneimkadjiiaa
open Go.RowKit Go.Proofs.YtakneimkadjiiaaW.PrintWords Cf
attribute [local go_sem] str_beq str_bne

set_option maxHeartbeats 2000000 in
theorem segmentReads_main (A : Option Addr) (c : Nat) (xs : List UInt8) (w : World) (hC : RdB w A xs.length xs) (hc : xs.length ≤ c) (h3 : xs.length ≤ 30000) :
    Calls Try.prog 3 #[.slice A xs.length c] w fun e w' => e = .returned (.bool true) ∧ Below w.heap.size w w' := by
  have HC := Lib.hid hC
  have HR := Lib.hid (fun w hC => segread_walk A c xs w hC hc (by omega))
  have HF := Lib.hid (fun w hC => rsegread_walk A c xs w hC hc (by omega))
  clear hC
  generalize segOf xs = s at *
  go_enter Try.func3, Try.ntmps3
  go_wp2_with fail
  refine (HR.out _ HC.out).mono ?_
  rintro e w1 ⟨A1, c1, rfl, hE1, hB1⟩
  have HE1 := Lib.hid hE1
  have HB1 := Lib.hid hB1
  clear hE1 hB1
  go_wp2_with fail
  refine (HF.out _ (Kd.C_below HC.out HB1.out)).mono ?_
  rintro e w2 ⟨A2, c2, rfl, hE2, hB2⟩
  have HB2 := Lib.hid (below_step HB1.out hB2)
  have HD := Lib.hid (rsame_walk A1 c1 s.l A2 c2 s.l w2 (HE1.out.below hB2).reads.2.2 hE2.reads.2.2)
  have hd : decide (s.l = s.l) = true := by simp
  have HDD := Lib.hid hd
  clear hE2 hB2 hd
  go_wp2_with fail
  refine (HD.out).mono ?_
  rw [HDD.out]
  rintro e w3 ⟨rfl, hB3⟩
  have HB3 := Lib.hid (below_step HB2.out hB3)
  clear hB3
  go_wp2_with (go_at_call 7; refine (lives24_walk _).mono ?_; rintro e w5 ⟨rfl, hb5⟩)
  go_ret
  exact ⟨rfl, below_step HB3.out hb5⟩

set_option maxHeartbeats 1000000 in
theorem segmentReads_law (A : Option Addr) (c : Nat) (xs : List UInt8) (w : World) (hC : RdB w A xs.length xs) (hc : xs.length ≤ c) (_ : True) :
    Calls Try.prog 3 #[.slice A xs.length c] w fun e w' => e = .returned (.bool true) ∧ Below w.heap.size w w' := by
  by_cases h3 : 30000 < xs.length
  · clear hC
    go_enter Try.func3, Try.ntmps3
    go_wp2_with (go_at_call 7; refine (lives24_walk _).mono ?_; rintro e w5 ⟨rfl, hb5⟩)
    go_ret
    exact ⟨rfl, hb5⟩
  exact segmentReads_main A c xs w hC hc (by omega)
end Go.Proofs.Ytakneimkadjiiaa
