/- frame.Each: what it goes over. -/
import Derived.Test.YtakneimkadjiiaaItr
import Derived.Test.YtakneimkadjiiaaMal
set_option linter.unusedVariables false
set_option linter.unusedSimpArgs false
namespace Go.Proofs.Ytakneimkadjiiaa
open Go.RowKit Go.Shelf Go.Proofs.YtakneimkadjiiaaW.PrintWords Cf
attribute [local go_sem] Oper.semAt_some str_beq str_bne

set_option maxRecDepth 100000 in
set_option maxHeartbeats 2000000 in
/-- The frames with which bytes begin, a round each: the body is new memory, or the call of Take's own. -/
theorem each_walk (l Bn : Nat) (A : Option Addr) (c : Nat) (xs : List UInt8) (hc : xs.length ≤ c) (hl : xs.length ≤ 140737488355328) (J Jx : List (UInt8 × List UInt8) → World → Prop)
    (hJR : ∀ pre W, J pre W → RdB W A xs.length xs) (hJB : ∀ pre W W', J pre W → Below W.heap.size W W' → J pre W')
    (hY : ∀ pre k bd A' c' rest W, J pre W → RdB W A' bd.length bd → bd.length ≤ c' → frs xs = pre ++ (k, bd) :: rest → YieldAt Fence.wide 1 Try.prog l #[.int .u8 (UInt8.toNat k), .slice A' bd.length c'] W fun e W' =>
      (e = .returned (.bool true) ∧ J (pre ++ [(k, bd)]) W') ∨ (e = .returned (.bool false) ∧ Jx (pre ++ [(k, bd)]) W'))
    (W : World) (hBn : W.cell? ⟨Bn, 0, none⟩ = some (.slice A xs.length c)) (h0 : J [] W) :
    Calls Try.prog 45 #[.func (.yield l) #[] #[], .pointer (some ⟨Bn, 0, none⟩)] W fun e W' => (∃ v, e = .returned v) ∧
      (J (frs xs) W' ∨ ∃ pre x rest, frs xs = pre ++ x :: rest ∧ Jx (pre ++ [x]) W') := by
  refine (callsIn_wide (n := 2)).1 ?_
  refine callsIn_of_wp Try.func45 rfl trivial ?_ rfl
  simp only [Try.ntmps45, List.size_toArray, List.length_cons, List.length_nil, Nat.reduceAdd, Nat.reduceSub, Array.replicate_succ, Array.replicate_zero, List.push_toArray, List.append_toArray, List.nil_append, List.cons_append]
  have HY := Lib.hid hY
  have HJR := Lib.hid hJR
  have HJB := Lib.hid hJB
  clear hY hJR hJB
  gi_wp2
  gi_loopw [3] (fun t wr => ∃ pre a A', t = .slice A' (xs.length - a) (c - a) ∧ Onto xs pre a ∧ J pre wr ∧ ∀ W, RdB W A xs.length xs → RdB W A' (xs.length - a) (xs.drop a))
    (fun t _ => match t with | .slice _ n _ => n | _ => 0)
  case atStart => exact ⟨[], 0, A, rfl, onto_start xs, h0, fun W h => by simpa using h⟩
  case round =>
    obtain ⟨pre, a, A', rfl, ho, hJ, hA⟩ := hrel
    have hR := Lib.hid (hA _ (HJR.out _ _ hJ))
    have hna : (xs.drop a).length = xs.length - a := List.length_drop ..
    by_cases hlt : a < xs.length
    · have HT := Lib.hid (take_at A' (xs.length - a) (c - a) (xs.drop a) wr hR.out (by omega) (by omega))
      have hp : (0 : Int) < ((xs.length - a : Nat) : Int) := by omega
      have hstep := fun ht => onto_step ho hlt ht
      have hst := Lib.hid (fun ht => (onto_stop ho hlt ht).1)
      generalize tak (xs.drop a) = tk at *
      obtain ⟨k, bd, m, en⟩ := tk
      dsimp only at HT hstep
      by_cases hen : en = 0
      · subst hen
        obtain ⟨ho2, hm, hma⟩ := hstep rfl
        have hfr := ho2.2.1
        rw [List.append_assoc] at hfr
        have HO2 := Lib.hid ho2
        have HM := Lib.hid hm
        clear ho2 hstep hR hm
        gi_wp2_with fail
        refine ⟨trivial, (callsIn_wide.2 HT.out).mono ?_⟩
        rintro e w2 ⟨A2, c2, rfl, hc2, hR2, hA2, hB2⟩
        dsimp only at hc2 hR2 ⊢
        have hJ2 := HJB.out _ _ _ hJ hB2
        obtain ⟨fn, tmps, assign, body, hy, hRd⟩ := HY.out pre k bd A2 c2 _ w2 hJ2 hR2 hc2 hfr
        have hyR := Lib.hid hRd
        clear hR2 hA2 hRd HT
        gi_wp2
        refine (hyR.out).mono ?_
        rintro e W3 (⟨rfl, hJ3⟩ | ⟨rfl, hJx3⟩)
        · have hm8 : 8 ≤ m := by have := HM.out; omega
          obtain ⟨A4, e4, hr4, -⟩ := ct_up' A' (xs.length - a) (c - a) m (by omega) (by omega) (by omega)
          rw [Int.toNat_natCast] at e4 hr4
          clear hy hyR
          gi_wp2
          go_roundw
          case rel =>
            refine ⟨_, a + m, A4, ?_, HO2.out, hJ3, ?_⟩
            · rw [Nat.sub_sub, Nat.sub_sub]
            · intro W hW
              have := hr4 W _ hna (hA W hW)
              rw [List.drop_drop, Nat.sub_sub] at this
              exact this
          case measure => dsimp only; omega
        · clear hy hyR
          gi_wp2
          refine bodyPost_ret (results_none rfl _ _ _) rfl ?_
          exact ⟨⟨_, rfl⟩, .inr ⟨pre, _, _, hfr, hJx3⟩⟩
      · have hne : ((en : Int) != 0) = true := by simp; exact hen
        clear hstep
        gi_wp2_with fail
        refine ⟨trivial, (callsIn_wide.2 HT.out).mono ?_⟩
        rintro e w2 ⟨A2, c2, rfl, hc2, hR2, hA2, hB2⟩
        have hJ2 := HJB.out _ _ _ hJ hB2
        clear hR2 hA2 HT
        gi_wp2
        refine ⟨fun _ h => (by cases h), ?_⟩
        gi_wp2
        refine bodyPost_ret (results_none rfl _ _ _) rfl ?_
        exact ⟨⟨_, rfl⟩, .inl (by rw [hst.out hen]; exact hJ2)⟩
    · have hge : xs.length - a = 0 := by omega
      have he := Lib.hid (onto_end ho (by omega)).1
      rw [hge] at *
      gi_wp2
      go_end0
      exact ⟨⟨_, rfl⟩, .inl (by rw [he.out]; exact hJ)⟩

/-- Each itself: the closure over a box that holds the bytes. -/
theorem each_make (A : Option Addr) (n c : Nat) (w : World) : Calls Try.prog 25 #[.slice A n c] w fun e w' => e = .returned (.func (.func 45) #[] #[.pointer (some ⟨w.heap.size, 0, none⟩)]) ∧ w' = w.alloc (.cells #[.slice A n c] 22) := by
  go_enter Try.func25, Try.ntmps25
  go_wp2
  go_ret
  exact ⟨rfl, rfl⟩
end Go.Proofs.Ytakneimkadjiiaa
