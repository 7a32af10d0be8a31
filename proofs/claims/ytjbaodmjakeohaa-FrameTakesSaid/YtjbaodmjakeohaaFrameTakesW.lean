/- FrameTakes: the walk. -/
import Derived.Test.YtjbaodmjakeohaaWho
import Derived.Test.YtjbaodmjakeohaaRdk
set_option linter.unusedVariables false
set_option linter.unusedSimpArgs false
namespace Go.Proofs.Ytjbaodmjakeohaa
open Go.RowKit Go.Proofs.YtjbaodmjakeohaaW.PrintWords Cf
attribute [local go_sem] str_beq str_bne

set_option maxHeartbeats 2000000 in
theorem frameTakes_main (A : Option Addr) (c : Nat) (xs : List UInt8) (w : World) (hC : RdB w A xs.length xs) (hc : xs.length ≤ c) (h3 : xs.length ≤ 3000) :
    Calls Try.prog 8 #[.slice A xs.length c] w fun e w' => e = .returned (.bool true) ∧ Below w.heap.size w w' := by
  have hT := fun w hC => take_at A xs.length c xs w hC hc (by omega)
  have hR := fun w hC => rtake_at A xs.length c xs w hC hc
  have hW := fun w hC => whole_at A xs.length c xs w hC hc (by omega)
  have eK : wholeK xs = if wholeB xs then (tak xs).1 else 0 := rfl
  have eL : wholeL xs = if wholeB xs then (tak xs).2.1 else [] := rfl
  have eB : wholeB xs = ((tak xs).2.2.2 == 0 && (tak xs).2.2.1 == xs.length) := rfl
  generalize wholeK xs = kk at hW eK
  generalize wholeL xs = ll at hW eL
  generalize wholeB xs = bb at hW eK eL eB
  generalize tak xs = t at hT hR eK eL eB
  obtain ⟨k, bd, m, en⟩ := t
  dsimp only at eK eL eB hT hR
  have HT := Lib.hid hT
  have HR := Lib.hid hR
  have HW := Lib.hid hW
  have HC := Lib.hid hC
  clear hT hR hW hC
  by_cases hen : en = 0
  · by_cases hm : m = xs.length
    · have hb : bb = true := by rw [eB]; simp [hen, hm]
      rw [hb, if_pos rfl] at eK eL
      clear eB
      subst hb eK eL
      subst hen hm
      go_enter Try.func8, Try.ntmps8
      go_wp2_with fail
      refine (HT.out _ HC.out).mono ?_
      rintro e w1 ⟨A1, c1, rfl, hc1, hR1, hA1, hB1⟩
      have HR1 := Lib.hid hR1
      clear hR1 hA1
      go_wp2_with fail
      refine (HR.out _ (Kd.C_below HC.out hB1)).mono ?_
      rintro e w2 ⟨A2, c2, rfl, hc2, hR2, hA2, hB2⟩
      have HR2 := Lib.hid hR2
      have hB2' := below_step hB1 hB2
      have s1 := conv_str (c := c1) (Kd.C_below HR1.out hB2)
      have s2 := conv_str (c := c2) hR2
      clear hR2 hA2
      go_wp2_with fail
      refine (HW.out _ (Kd.C_below HC.out hB2')).mono ?_
      rintro e w3 ⟨A3, c3, rfl, hc3, hO3, hB3⟩
      have hB3' := below_step hB2' hB3
      have t2 := conv_str (c := c2) (Kd.C_below HR2.out hB3)
      have t3 := conv_str (c := c3) hO3.reads.2.2
      clear hO3 s1 s2
      go_wp2_with (go_at_call 22; refine (lives3_walk _).mono ?_; rintro e w5 ⟨rfl, hb5⟩)
      all_goals go_ret
      all_goals exact ⟨rfl, below_step hB3' hb5⟩
    · have hb : bb = false := by rw [eB]; simp [hm]
      rw [hb, if_neg (by decide)] at eK eL
      clear eB
      subst hb eK eL
      have hmi : ((m : Int) == (xs.length : Int)) = false := by simp; omega
      subst hen
      go_enter Try.func8, Try.ntmps8
      go_wp2_with fail
      refine (HT.out _ HC.out).mono ?_
      rintro e w1 ⟨A1, c1, rfl, hc1, hR1, hA1, hB1⟩
      have HR1 := Lib.hid hR1
      clear hR1 hA1
      go_wp2_with fail
      refine (HR.out _ (Kd.C_below HC.out hB1)).mono ?_
      rintro e w2 ⟨A2, c2, rfl, hc2, hR2, hA2, hB2⟩
      have HR2 := Lib.hid hR2
      have hB2' := below_step hB1 hB2
      have s1 := conv_str (c := c1) (Kd.C_below HR1.out hB2)
      have s2 := conv_str (c := c2) hR2
      clear hR2 hA2
      go_wp2_with fail
      refine (HW.out _ (Kd.C_below HC.out hB2')).mono ?_
      rintro e w3 ⟨A3, c3, rfl, hc3, hO3, hB3⟩
      have hB3' := below_step hB2' hB3
      clear hO3 s1 s2
      go_wp2_with (go_at_call 22; refine (lives3_walk _).mono ?_; rintro e w5 ⟨rfl, hb5⟩)
      all_goals go_ret
      all_goals exact ⟨rfl, below_step hB3' hb5⟩
  · have hb : bb = false := by rw [eB]; simp [hen]
    rw [hb, if_neg (by decide)] at eK eL
    clear eB
    subst hb eK eL
    have hni : ((en : Int) == 0) = false := by simp; omega
    go_enter Try.func8, Try.ntmps8
    go_wp2_with fail
    refine (HT.out _ HC.out).mono ?_
    rintro e w1 ⟨A1, c1, rfl, hc1, hR1, hA1, hB1⟩
    have HR1 := Lib.hid hR1
    clear hR1 hA1
    go_wp2_with fail
    refine (HR.out _ (Kd.C_below HC.out hB1)).mono ?_
    rintro e w2 ⟨A2, c2, rfl, hc2, hR2, hA2, hB2⟩
    have HR2 := Lib.hid hR2
    have hB2' := below_step hB1 hB2
    have s1 := conv_str (c := c1) (Kd.C_below HR1.out hB2)
    have s2 := conv_str (c := c2) hR2
    clear hR2 hA2
    go_wp2_with fail
    refine (HW.out _ (Kd.C_below HC.out hB2')).mono ?_
    rintro e w3 ⟨A3, c3, rfl, hc3, hO3, hB3⟩
    have hB3' := below_step hB2' hB3
    clear hO3 s1 s2
    go_wp2_with (go_at_call 22; refine (lives3_walk _).mono ?_; rintro e w5 ⟨rfl, hb5⟩)
    all_goals go_ret
    all_goals exact ⟨rfl, below_step hB3' hb5⟩

set_option maxHeartbeats 1000000 in
theorem frameTakes_law (A : Option Addr) (c : Nat) (xs : List UInt8) (w : World) (hC : RdB w A xs.length xs) (hc : xs.length ≤ c) (_ : True) :
    Calls Try.prog 8 #[.slice A xs.length c] w fun e w' => e = .returned (.bool true) ∧ Below w.heap.size w w' := by
  by_cases h3 : 3000 < xs.length
  · clear hC
    go_enter Try.func8, Try.ntmps8
    go_wp2_with (go_at_call 22; refine (lives3_walk _).mono ?_; rintro e w5 ⟨rfl, hb5⟩)
    go_ret
    exact ⟨rfl, hb5⟩
  exact frameTakes_main A c xs w hC hc (by omega)
end Go.Proofs.Ytjbaodmjakeohaa
