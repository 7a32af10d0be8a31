/- SegmentNames: the walk. -/
import Derived.Test.YtakneimkadjiiaaMnl
import Derived.Test.YtakneimkadjiiaaFst
import Derived.Test.YtakneimkadjiiaaLiv
import Derived.Test.YtakneimkadjiiaaRdk
set_option linter.unusedVariables false
set_option linter.unusedSimpArgs false
namespace Go.Proofs.Ytakneimkadjiiaa
open Go.RowKit Go.Proofs.YtakneimkadjiiaaW.PrintWords Cf
attribute [local go_sem] str_beq str_bne str_toList

theorem u64_nat {s : Int} (hs : (Lit.int .u64 s).wf = true) : ∃ n : Nat, s = n ∧ n < 18446744073709551616 := by
  have h1 : IntKind.u64.min = 0 := rfl
  have h2 : IntKind.u64.max = 18446744073709551615 := rfl
  simp only [Lit.wf, Bool.and_eq_true, decide_eq_true_eq] at hs
  obtain ⟨n, rfl⟩ := Int.eq_ofNat_of_zero_le (show 0 ≤ s by omega)
  exact ⟨n, rfl, by omega⟩
theorem str_of (s : ByteArray) : str s.data.toList = s := by
  apply ByteArray.ext
  simp [str]
set_option maxRecDepth 100000 in
set_option maxHeartbeats 4000000 in
theorem segmentNames_main (a b : Nat) (xs : List UInt8) (w : World) (ha : a < 18446744073709551616) (hb : b < 18446744073709551616) (hl : xs.length ≤ 100) :
    Calls Try.prog 5 #[.int .u64 a, .int .u64 b, .string (str xs)] w fun e w' => e = .returned (.bool true) ∧ Below w.heap.size w w' := by
  have hsz := str_size xs
  have HF := Lib.hid (fun w => segfirst_walk xs w (by omega))
  have HG := Lib.hid (fun w => reffirst_walk xs w (by omega))
  have HNA := Lib.hid (fun w => segname_walk a w ha)
  have HMA := Lib.hid (fun w => refname_walk a w ha)
  have HNB := Lib.hid (fun w => segname_walk b w hb)
  have hback := @nameL_firstL xs
  have hbd : (firstL xs).1 < 18446744073709551616 := by
    by_cases h1 : xs.length = 16
    · by_cases h2 : xs.getD 0 0 = 76
      · rw [firstL_eq h1 h2]
        cases hf : fstGo 0 (xs.drop 1) with
        | none => decide
        | some n =>
          have := fst_bound hf (by rw [List.length_drop]; omega)
          show n < _
          omega
      · unfold firstL
        rw [if_pos (.inr h2)]
        decide
    · unfold firstL
      rw [if_pos (.inl h1)]
      decide
  obtain ⟨n, ok, hp⟩ : ∃ n ok, firstL xs = (n, ok) := ⟨_, _, rfl⟩
  rw [hp] at HF HG hback hbd
  dsimp only at HF HG hback hbd
  have HNN := Lib.hid (fun w => segname_walk n w hbd)
  have HFA := Lib.hid (fun w => segfirst_walk (nameL a) w (by have := @nameL_len a; by_cases h : 1 ≤ a ∧ a < 1152921504606846976; rw [nameL_len h]; decide; rw [nameL_nil.2 h]; decide))
  have HBK := Lib.hid hback
  clear hp hback
  have hza := @nameL_nil a
  have hzb := @nameL_nil b
  have hla := @nameL_len a
  have hlt := @less_nameL a b
  have hff := @firstL_nameL a
  by_cases hA : 1 ≤ a ∧ a < 1152921504606846976
  · by_cases hB : 1 ≤ b ∧ b < 1152921504606846976
    · cases ok with
      | false =>
        have h2 : nameL a ≠ [] := fun e => hza.1 e hA
        have h3 : nameL b ≠ [] := fun e => hzb.1 e hB
        have q1 : (nameL a == []) = false := by rw [beq_eq_false_iff_ne]; exact h2
        have q2 : (nameL a).isEmpty = false := by rw [List.isEmpty_eq_false_iff]; exact h2
        have q3 : (nameL b == []) = false := by rw [beq_eq_false_iff_ne]; exact h3
        have q4 : (nameL b).isEmpty = false := by rw [List.isEmpty_eq_false_iff]; exact h3
        have q5 := hlt hA hB
        have q6 : (nameL a).length = 16 := hla hA
        have q7 := hff hA.1 hA.2
        rw [q7] at HFA
        dsimp only at HFA
        have q8 : (str (nameL a)).size = 16 := by rw [str_size, q6]
        have q9 : decide ((a : Int) < (b : Int)) = decide (a < b) := by
          rw [Bool.eq_iff_iff]
          simp
        generalize nameL a = za at *
        generalize nameL b = zb at *
        clear hza hzb hla hlt hff hA hB h2 h3 q6 q7
        go_enter Try.func5, Try.ntmps5
        go_wp2_with fail
        refine (HF.out _).mono ?_
        rintro e w1 ⟨rfl, hB1⟩
        have HB1 := Lib.hid (hB1)
        clear hB1
        go_wp2_with fail
        refine (HG.out _).mono ?_
        rintro e w2 ⟨rfl, hB2⟩
        have HB2 := Lib.hid (below_step HB1.out hB2)
        clear hB2
        go_wp2_with fail
        refine (HNA.out _).mono ?_
        rintro e w3 ⟨rfl, hB3⟩
        have HB3 := Lib.hid (below_step HB2.out hB3)
        clear hB3
        go_wp2_with fail
        refine (HMA.out _).mono ?_
        rintro e w4 ⟨rfl, hB4⟩
        have HB4 := Lib.hid (below_step HB3.out hB4)
        clear hB4
        go_wp2_with fail
        refine (HNA.out _).mono ?_
        rintro e w5 ⟨rfl, hB5⟩
        have HB5 := Lib.hid (below_step HB4.out hB5)
        clear hB5
        go_wp2_with fail
        refine (HNB.out _).mono ?_
        rintro e w6 ⟨rfl, hB6⟩
        have HB6 := Lib.hid (below_step HB5.out hB6)
        clear hB6
        go_wp2_with fail
        refine (HFA.out _).mono ?_
        rintro e w7 ⟨rfl, hB7⟩
        have HB7 := Lib.hid (below_step HB6.out hB7)
        clear hB7
        go_wp2_with (go_at_call 7; refine (lives24_walk _).mono ?_; rintro e w8 ⟨rfl, hb5⟩)
        go_ret
        exact ⟨rfl, below_step HB7.out hb5⟩
      | true =>
        have hxn := HBK.out rfl
        rw [hxn] at HNN
        clear hxn
        have h2 : nameL a ≠ [] := fun e => hza.1 e hA
        have h3 : nameL b ≠ [] := fun e => hzb.1 e hB
        have q1 : (nameL a == []) = false := by rw [beq_eq_false_iff_ne]; exact h2
        have q2 : (nameL a).isEmpty = false := by rw [List.isEmpty_eq_false_iff]; exact h2
        have q3 : (nameL b == []) = false := by rw [beq_eq_false_iff_ne]; exact h3
        have q4 : (nameL b).isEmpty = false := by rw [List.isEmpty_eq_false_iff]; exact h3
        have q5 := hlt hA hB
        have q6 : (nameL a).length = 16 := hla hA
        have q7 := hff hA.1 hA.2
        rw [q7] at HFA
        dsimp only at HFA
        have q8 : (str (nameL a)).size = 16 := by rw [str_size, q6]
        have q9 : decide ((a : Int) < (b : Int)) = decide (a < b) := by
          rw [Bool.eq_iff_iff]
          simp
        generalize nameL a = za at *
        generalize nameL b = zb at *
        clear hza hzb hla hlt hff hA hB h2 h3 q6 q7
        go_enter Try.func5, Try.ntmps5
        go_wp2_with fail
        refine (HF.out _).mono ?_
        rintro e w1 ⟨rfl, hB1⟩
        have HB1 := Lib.hid (hB1)
        clear hB1
        go_wp2_with fail
        refine (HG.out _).mono ?_
        rintro e w2 ⟨rfl, hB2⟩
        have HB2 := Lib.hid (below_step HB1.out hB2)
        clear hB2
        go_wp2_with fail
        refine (HNA.out _).mono ?_
        rintro e w3 ⟨rfl, hB3⟩
        have HB3 := Lib.hid (below_step HB2.out hB3)
        clear hB3
        go_wp2_with fail
        refine (HMA.out _).mono ?_
        rintro e w4 ⟨rfl, hB4⟩
        have HB4 := Lib.hid (below_step HB3.out hB4)
        clear hB4
        go_wp2_with fail
        refine (HNN.out _).mono ?_
        rintro e w5 ⟨rfl, hB5⟩
        have HB5 := Lib.hid (below_step HB4.out hB5)
        clear hB5
        go_wp2_with fail
        refine (HNA.out _).mono ?_
        rintro e w6 ⟨rfl, hB6⟩
        have HB6 := Lib.hid (below_step HB5.out hB6)
        clear hB6
        go_wp2_with fail
        refine (HNB.out _).mono ?_
        rintro e w7 ⟨rfl, hB7⟩
        have HB7 := Lib.hid (below_step HB6.out hB7)
        clear hB7
        go_wp2_with fail
        refine (HFA.out _).mono ?_
        rintro e w8 ⟨rfl, hB8⟩
        have HB8 := Lib.hid (below_step HB7.out hB8)
        clear hB8
        go_wp2_with (go_at_call 7; refine (lives24_walk _).mono ?_; rintro e w9 ⟨rfl, hb5⟩)
        go_ret
        exact ⟨rfl, below_step HB8.out hb5⟩
    · cases ok with
      | false =>
        have h := hzb.2 hB
        rw [h] at HNB
        have h2 : nameL a ≠ [] := fun e => hza.1 e hA
        have q1 : (nameL a == []) = false := by rw [beq_eq_false_iff_ne]; exact h2
        have q2 : (nameL a).isEmpty = false := by rw [List.isEmpty_eq_false_iff]; exact h2
        generalize nameL a = za at *
        clear hza hzb hla hlt hff h hA hB HFA h2
        go_enter Try.func5, Try.ntmps5
        go_wp2_with fail
        refine (HF.out _).mono ?_
        rintro e w1 ⟨rfl, hB1⟩
        have HB1 := Lib.hid (hB1)
        clear hB1
        go_wp2_with fail
        refine (HG.out _).mono ?_
        rintro e w2 ⟨rfl, hB2⟩
        have HB2 := Lib.hid (below_step HB1.out hB2)
        clear hB2
        go_wp2_with fail
        refine (HNA.out _).mono ?_
        rintro e w3 ⟨rfl, hB3⟩
        have HB3 := Lib.hid (below_step HB2.out hB3)
        clear hB3
        go_wp2_with fail
        refine (HMA.out _).mono ?_
        rintro e w4 ⟨rfl, hB4⟩
        have HB4 := Lib.hid (below_step HB3.out hB4)
        clear hB4
        go_wp2_with fail
        refine (HNA.out _).mono ?_
        rintro e w5 ⟨rfl, hB5⟩
        have HB5 := Lib.hid (below_step HB4.out hB5)
        clear hB5
        go_wp2_with fail
        refine (HNB.out _).mono ?_
        rintro e w6 ⟨rfl, hB6⟩
        have HB6 := Lib.hid (below_step HB5.out hB6)
        clear hB6
        go_wp2_with (go_at_call 7; refine (lives24_walk _).mono ?_; rintro e w7 ⟨rfl, hb5⟩)
        go_ret
        exact ⟨rfl, below_step HB6.out hb5⟩
      | true =>
        have hxn := HBK.out rfl
        rw [hxn] at HNN
        clear hxn
        have h := hzb.2 hB
        rw [h] at HNB
        have h2 : nameL a ≠ [] := fun e => hza.1 e hA
        have q1 : (nameL a == []) = false := by rw [beq_eq_false_iff_ne]; exact h2
        have q2 : (nameL a).isEmpty = false := by rw [List.isEmpty_eq_false_iff]; exact h2
        generalize nameL a = za at *
        clear hza hzb hla hlt hff h hA hB HFA h2
        go_enter Try.func5, Try.ntmps5
        go_wp2_with fail
        refine (HF.out _).mono ?_
        rintro e w1 ⟨rfl, hB1⟩
        have HB1 := Lib.hid (hB1)
        clear hB1
        go_wp2_with fail
        refine (HG.out _).mono ?_
        rintro e w2 ⟨rfl, hB2⟩
        have HB2 := Lib.hid (below_step HB1.out hB2)
        clear hB2
        go_wp2_with fail
        refine (HNA.out _).mono ?_
        rintro e w3 ⟨rfl, hB3⟩
        have HB3 := Lib.hid (below_step HB2.out hB3)
        clear hB3
        go_wp2_with fail
        refine (HMA.out _).mono ?_
        rintro e w4 ⟨rfl, hB4⟩
        have HB4 := Lib.hid (below_step HB3.out hB4)
        clear hB4
        go_wp2_with fail
        refine (HNN.out _).mono ?_
        rintro e w5 ⟨rfl, hB5⟩
        have HB5 := Lib.hid (below_step HB4.out hB5)
        clear hB5
        go_wp2_with fail
        refine (HNA.out _).mono ?_
        rintro e w6 ⟨rfl, hB6⟩
        have HB6 := Lib.hid (below_step HB5.out hB6)
        clear hB6
        go_wp2_with fail
        refine (HNB.out _).mono ?_
        rintro e w7 ⟨rfl, hB7⟩
        have HB7 := Lib.hid (below_step HB6.out hB7)
        clear hB7
        go_wp2_with (go_at_call 7; refine (lives24_walk _).mono ?_; rintro e w8 ⟨rfl, hb5⟩)
        go_ret
        exact ⟨rfl, below_step HB7.out hb5⟩
  · cases ok with
    | false =>
      have h := hza.2 hA
      rw [h] at HNA HMA
      clear hza hzb hla hlt hff h hA HFA
      go_enter Try.func5, Try.ntmps5
      go_wp2_with fail
      refine (HF.out _).mono ?_
      rintro e w1 ⟨rfl, hB1⟩
      have HB1 := Lib.hid (hB1)
      clear hB1
      go_wp2_with fail
      refine (HG.out _).mono ?_
      rintro e w2 ⟨rfl, hB2⟩
      have HB2 := Lib.hid (below_step HB1.out hB2)
      clear hB2
      go_wp2_with fail
      refine (HNA.out _).mono ?_
      rintro e w3 ⟨rfl, hB3⟩
      have HB3 := Lib.hid (below_step HB2.out hB3)
      clear hB3
      go_wp2_with fail
      refine (HMA.out _).mono ?_
      rintro e w4 ⟨rfl, hB4⟩
      have HB4 := Lib.hid (below_step HB3.out hB4)
      clear hB4
      go_wp2_with fail
      refine (HNA.out _).mono ?_
      rintro e w5 ⟨rfl, hB5⟩
      have HB5 := Lib.hid (below_step HB4.out hB5)
      clear hB5
      go_wp2_with fail
      refine (HNB.out _).mono ?_
      rintro e w6 ⟨rfl, hB6⟩
      have HB6 := Lib.hid (below_step HB5.out hB6)
      clear hB6
      go_wp2_with (go_at_call 7; refine (lives24_walk _).mono ?_; rintro e w7 ⟨rfl, hb5⟩)
      go_ret
      exact ⟨rfl, below_step HB6.out hb5⟩
    | true =>
      have hxn := HBK.out rfl
      rw [hxn] at HNN
      clear hxn
      have h := hza.2 hA
      rw [h] at HNA HMA
      clear hza hzb hla hlt hff h hA HFA
      go_enter Try.func5, Try.ntmps5
      go_wp2_with fail
      refine (HF.out _).mono ?_
      rintro e w1 ⟨rfl, hB1⟩
      have HB1 := Lib.hid (hB1)
      clear hB1
      go_wp2_with fail
      refine (HG.out _).mono ?_
      rintro e w2 ⟨rfl, hB2⟩
      have HB2 := Lib.hid (below_step HB1.out hB2)
      clear hB2
      go_wp2_with fail
      refine (HNA.out _).mono ?_
      rintro e w3 ⟨rfl, hB3⟩
      have HB3 := Lib.hid (below_step HB2.out hB3)
      clear hB3
      go_wp2_with fail
      refine (HMA.out _).mono ?_
      rintro e w4 ⟨rfl, hB4⟩
      have HB4 := Lib.hid (below_step HB3.out hB4)
      clear hB4
      go_wp2_with fail
      refine (HNN.out _).mono ?_
      rintro e w5 ⟨rfl, hB5⟩
      have HB5 := Lib.hid (below_step HB4.out hB5)
      clear hB5
      go_wp2_with fail
      refine (HNA.out _).mono ?_
      rintro e w6 ⟨rfl, hB6⟩
      have HB6 := Lib.hid (below_step HB5.out hB6)
      clear hB6
      go_wp2_with fail
      refine (HNB.out _).mono ?_
      rintro e w7 ⟨rfl, hB7⟩
      have HB7 := Lib.hid (below_step HB6.out hB7)
      clear hB7
      go_wp2_with (go_at_call 7; refine (lives24_walk _).mono ?_; rintro e w8 ⟨rfl, hb5⟩)
      go_ret
      exact ⟨rfl, below_step HB7.out hb5⟩
set_option maxHeartbeats 1000000 in
theorem segmentNames_law (a b : Int) (s : ByteArray) (w : World) (ha : (Lit.int .u64 a).wf = true) (hb : (Lit.int .u64 b).wf = true) (hs : s.size ≤ maxLen) :
    Calls Try.prog 5 #[.int .u64 a, .int .u64 b, .string s] w fun e w' => e = .returned (.bool true) ∧ Below w.heap.size w w' := by
  obtain ⟨a, rfl, la⟩ := u64_nat ha
  obtain ⟨b, rfl, lb⟩ := u64_nat hb
  obtain ⟨xs, rfl⟩ : ∃ xs, s = str xs := ⟨s.data.toList, (str_of s).symm⟩
  rw [str_size] at hs
  unfold maxLen at hs
  have hsz := str_size xs
  by_cases h3 : 100 < xs.length
  · go_enter Try.func5, Try.ntmps5
    go_wp2_with (go_at_call 7; refine (lives24_walk _).mono ?_; rintro e w5 ⟨rfl, hb5⟩)
    go_ret
    exact ⟨rfl, hb5⟩
  exact segmentNames_main a b xs w la lb (by omega)
end Go.Proofs.Ytakneimkadjiiaa
