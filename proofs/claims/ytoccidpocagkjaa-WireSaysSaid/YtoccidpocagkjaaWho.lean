/- frame: Whole; the chapter's example. -/
import Derived.Test.YtoccidpocagkjaaRfr
set_option linter.unusedVariables false
set_option linter.unusedSimpArgs false
namespace Go.Proofs.Ytoccidpocagkjaa
open Go.RowKit Go.Proofs.YtoccidpocagkjaaW.PrintWords Cf
attribute [local go_sem] str_beq str_bne

/-- Are bytes one frame? -/
def wholeB (xs : List UInt8) : Bool := (tak xs).2.2.2 == 0 && (tak xs).2.2.1 == xs.length
def wholeK (xs : List UInt8) : UInt8 := if wholeB xs then (tak xs).1 else 0
def wholeL (xs : List UInt8) : List UInt8 := if wholeB xs then (tak xs).2.1 else []

set_option maxHeartbeats 2000000 in
theorem whole_at (A : Option Addr) (n c : Nat) (xs : List UInt8) (w : World) (hC : RdB w A n xs) (hc : n ≤ c) (hl : n ≤ 140737488355328) :
    Calls Try.prog 36 #[.slice A n c] w fun e w' => ∃ A' c', e = .returned (.tuple #[.int .u8 (wholeK xs).toNat, .slice A' (wholeL xs).length c', .bool (wholeB xs)]) ∧
      (wholeL xs).length ≤ c' ∧ OwB w' w.heap.size (.slice A' (wholeL xs).length c') (wholeL xs) ∧ Below w.heap.size w w' := by
  obtain rfl : xs.length = n := hC.1
  have HC := Lib.hid hC
  have hm := Kd.C_max hC
  clear hC
  by_cases h1 : (tak xs).2.2.2 = 0
  · obtain ⟨body, q1, q2, q3, q4, q5, q6, q7, _, _⟩ := tak_ok h1
    by_cases h2 : (tak xs).2.2.1 = xs.length
    · have hw : wholeB xs = true := by simp [wholeB, h1, h2]
      have hk : wholeK xs = (tak xs).1 := by rw [wholeK, if_pos hw]
      have hll : wholeL xs = body := by rw [wholeL, if_pos hw, q1]
      rw [hw, hk, hll]
      have HT := Lib.hid (show tak xs = ((tak xs).1, body, xs.length, 0) by rw [← q1, ← h2, ← h1])
      have hbl : body.length ≤ 65536 := q3
      generalize (tak xs).1 = k at *
      clear q1 q2 q3 q4 q5 q6 q7 h1 h2 hw hk hll
      go_enter Try.func36, Try.ntmps36
      go_wp2_with fail
      refine (take_at _ _ _ _ _ HC.out hc hl).mono ?_
      rw [HT.out]
      rintro e w1 ⟨A1, c1, rfl, hc1, hR1, hA1, hB1⟩
      dsimp only at hc1 hR1 ⊢
      have HR1 := Lib.hid hR1
      clear hR1 hA1
      go_wp2_with fail
      refine (clone_walk _ _ _ _ HR1.out hc1 (by omega)).mono ?_
      rintro e w2 ⟨A2, c2, rfl, hc2, hO2, hB2⟩
      go_wp2
      go_ret3
      exact ⟨A2, c2, rfl, hc2, hO2.lower hB1.size, below_step hB1 hB2⟩
    · have hw : wholeB xs = false := by simp [wholeB, h2]
      have hk : wholeK xs = 0 := by rw [wholeK, if_neg (by simp [hw])]
      have hll : wholeL xs = [] := by rw [wholeL, if_neg (by simp [hw])]
      rw [hw, hk, hll]
      have hne : (((tak xs).2.2.1 : Int) != (xs.length : Int)) = true := by simp; omega
      have HT := Lib.hid (show tak xs = ((tak xs).1, body, (tak xs).2.2.1, 0) by rw [← q1, ← h1])
      generalize (tak xs).1 = k at *
      generalize (tak xs).2.2.1 = m at *
      clear q1 q2 q3 q4 q5 q6 q7 h1 h2 hw hk hll
      go_enter Try.func36, Try.ntmps36
      go_wp2_with fail
      refine (take_at _ _ _ _ _ HC.out hc hl).mono ?_
      rw [HT.out]
      rintro e w1 ⟨A1, c1, rfl, hc1, hR1, hA1, hB1⟩
      dsimp only at hc1 hR1 ⊢
      clear hR1 hA1
      go_wp2
      go_ret3
      exact ⟨none, 0, rfl, Nat.le_refl _, OwB.nil _ _, hB1⟩
  · have hw : wholeB xs = false := by simp [wholeB, h1]
    have hk : wholeK xs = 0 := by rw [wholeK, if_neg (by simp [hw])]
    have hll : wholeL xs = [] := by rw [wholeL, if_neg (by simp [hw])]
    rw [hw, hk, hll]
    obtain ⟨k, bd, m, en, hT⟩ : ∃ k bd m en, tak xs = (k, bd, m, en) := ⟨_, _, _, _, rfl⟩
    rw [hT] at h1
    have hne : ((en : Int) != 0) = true := by simp; exact h1
    have HT := Lib.hid hT
    clear hT
    clear h1 hw hk hll
    go_enter Try.func36, Try.ntmps36
    go_wp2_with fail
    refine (take_at _ _ _ _ _ HC.out hc hl).mono ?_
    rw [HT.out]
    rintro e w1 ⟨A1, c1, rfl, hc1, hR1, hA1, hB1⟩
    dsimp only at hc1 hR1 ⊢
    clear hR1 hA1
    go_wp2
    all_goals go_ret3
    all_goals exact ⟨none, 0, rfl, Nat.le_refl _, OwB.nil _ _, hB1⟩

theorem tak_wrp' (k : UInt8) (xs : List UInt8) (hk : k ≠ 0) (h : xs.length ≤ 65536) : tak (wrp k xs) = (k, xs, xs.length + 8, 0) := by
  have := tak_wrp k xs [] hk h
  rwa [List.append_nil] at this
end Go.Proofs.Ytoccidpocagkjaa
