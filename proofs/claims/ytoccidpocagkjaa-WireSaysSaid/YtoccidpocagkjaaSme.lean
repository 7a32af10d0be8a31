/- segment.Same. -/
import Derived.Test.YtoccidpocagkjaaRsm
set_option linter.unusedVariables false
set_option linter.unusedSimpArgs false
namespace Go.Proofs.Ytoccidpocagkjaa
open Go.RowKit Go.Proofs.YtoccidpocagkjaaW.PrintWords Cf
attribute [local go_sem] str_beq str_bne

set_option maxHeartbeats 1000000 in
theorem bequal_walk (A B : Option Addr) (n m c d : Nat) (xs ys : List UInt8) (w : World) (hA : RdB w A n xs) (hB : RdB w B m ys) :
    Calls Try.prog 56 #[.slice A n c, .slice B m d] w fun e w' => e = .returned (.bool (xs == ys)) ∧ w' = w := by
  have s1 := conv_str (c := c) hA
  have s2 := conv_str (c := d) hB
  clear hA hB
  go_enter Try.func56, Try.ntmps56
  go_wp2
  go_ret
  exact ⟨rfl, rfl⟩
theorem ent_eq_dec (x y : Ent) : decide (x = y) = (decide (x.term = y.term) && decide (x.kind = y.kind) && (x.data == y.data)) := by
  rw [Bool.eq_iff_iff]
  simp [ent_ne, and_assoc]
set_option maxHeartbeats 2000000 in
theorem same1_walk (x y : Ent) (A B : Option Addr) (c d : Nat) (w : World) (hA : RdB w A x.data.length x.data) (hB : RdB w B y.data.length y.data) :
    Calls Try.prog 55 #[entV x A c, entV y B d] w fun e w' => e = .returned (.bool (decide (x = y))) ∧ Below w.heap.size w w' := by
  have hd := ent_eq_dec x y
  have hB2 : Below w.heap.size w ((w.alloc (.cells #[.int .u64 x.term, .int .i64 x.kind, .slice A x.data.length c] 50)).alloc (.cells #[.int .u64 y.term, .int .i64 y.kind, .slice B y.data.length d] 50)) := below_step (below_alloc (Below.refl _ w) _) (below_alloc (Below.refl _ _) _)
  have HB2 := Lib.hid hB2
  have HQ := Lib.hid (bequal_walk A B x.data.length y.data.length c d x.data y.data _ (Kd.C_below hA hB2) (Kd.C_below hB hB2))
  obtain ⟨t, k, xs⟩ := x
  obtain ⟨u, l, ys⟩ := y
  dsimp only at *
  clear hA hB hB2
  by_cases h1 : t = u
  · have g1 : ((t : Int) == (u : Int)) = true := by rw [beq_iff_eq]; omega
    by_cases h2 : k = l
    · have g2 : (k == l) = true := by rw [beq_iff_eq]; exact h2
      have HD := Lib.hid (show decide ((⟨t, k, xs⟩ : Ent) = ⟨u, l, ys⟩) = (xs == ys) by rw [hd]; simp [h1, h2])
      clear hd h1 h2
      go_enter Try.func55, Try.ntmps55
      go_wp2_with fail
      refine (HQ.out).mono ?_
      rintro e w1 ⟨rfl, rfl⟩
      go_wp2
      go_ret
      exact ⟨by rw [HD.out]; rfl, HB2.out⟩
    · have g2 : (k == l) = false := by rw [beq_eq_false_iff_ne]; exact h2
      have HD := Lib.hid (show decide ((⟨t, k, xs⟩ : Ent) = ⟨u, l, ys⟩) = false by rw [hd]; simp [h2])
      clear hd h1 h2
      go_enter Try.func55, Try.ntmps55
      go_wp2
      go_ret
      exact ⟨by rw [HD.out]; rfl, HB2.out⟩
  · have g1 : ((t : Int) == (u : Int)) = false := by rw [beq_eq_false_iff_ne]; omega
    have HD := Lib.hid (show decide ((⟨t, k, xs⟩ : Ent) = ⟨u, l, ys⟩) = false by rw [hd]; simp [h1])
    clear hd h1
    go_enter Try.func55, Try.ntmps55
    go_wp2
    go_ret
    exact ⟨by rw [HD.out]; rfl, HB2.out⟩
set_option maxHeartbeats 4000000 in
theorem eqfunc_walk (A : Option Addr) (c : Nat) (a : List Ent) (B : Option Addr) (d : Nat) (b : List Ent) (w : World) (hA : KE.C w A a.length a) (hB : KE.C w B b.length b) :
    Calls Try.prog 54 #[.slice A a.length c, .slice B b.length d, .func (.func 55) #[] #[]] w fun e w' => e = .returned (.bool (decide (a = b))) ∧ Below w.heap.size w w' := by
  have HA := Lib.hid hA
  have HB := Lib.hid hB
  have hm := Kd.C_max hA
  have hm2 := Kd.C_max hB
  clear hA hB
  by_cases hl : a.length = b.length
  · have HL := Lib.hid hl
    have hli : ((a.length : Int) != (b.length : Int)) = false := by rw [bne_eq_false_iff_eq]; omega
    clear hl
    go_enter Try.func54, Try.ntmps54
    go_wp2_with fail
    go_loopw [17] (fun i wr => ∃ k : Nat, i = .int .i64 k ∧ k ≤ a.length ∧ a.take k = b.take k ∧ Below w.heap.size w wr)
      (fun i _ => a.length - (intOf i).toNat)
    case atStart => exact ⟨0, rfl, Nat.zero_le _, rfl, Below.refl _ _⟩
    case round =>
      obtain ⟨k, rfl, hk, hpre, hB⟩ := hrel
      have HP := Lib.hid hpre
      have HBL := Lib.hid hB
      clear hpre hB
      by_cases hlt : k < a.length
      · have hlt2 : k < b.length := by have := HL.out; omega
        obtain ⟨bl, off, D, cd, rfl, p0, p1, p2, p3, p4⟩ := KE_at (Kd.C_below HA.out HBL.out) k hlt
        obtain ⟨bl2, off2, D2, cd2, rfl, q0, q1, q2, q3, q4⟩ := KE_at (Kd.C_below HB.out HBL.out) k hlt2
        have P4 := Lib.hid p4
        have Q4 := Lib.hid q4
        have hi1 : (k : Int) < (a.length : Int) := by omega
        have hi2 : (k : Int) < (b.length : Int) := by omega
        have hgo := Lib.hid (show a[k] = b[k] → a.take (k + 1) = b.take (k + 1) from fun e => by
          rw [List.take_succ_eq_append_getElem hlt, List.take_succ_eq_append_getElem hlt2, HP.out, e])
        have hno := Lib.hid (show ¬ a[k] = b[k] → decide (a = b) = false from fun e => by
          rw [decide_eq_false_iff_not]
          rintro rfl
          exact e rfl)
        generalize a[k] = x at *
        generalize b[k] = y at *
        clear p4 q4
        have hB1 : Below wr.heap.size wr (wr.alloc (.cells #[.int .u64 x.term, .int .i64 x.kind, .slice D x.data.length cd] 50)) := below_alloc (Below.refl _ _) _
        have q0 := pw_cell_below hB1 q0
        have q1 := pw_cell_below hB1 q1
        have q2 := pw_cell_below hB1 q2
        have hB2 : Below wr.heap.size wr ((wr.alloc (.cells #[.int .u64 x.term, .int .i64 x.kind, .slice D x.data.length cd] 50)).alloc (.cells #[.int .u64 y.term, .int .i64 y.kind, .slice D2 y.data.length cd2] 50)) := below_step hB1 (below_alloc (Below.refl _ _) _)
        clear hB1
        have HB2 := Lib.hid (below_step HBL.out hB2)
        have HS := Lib.hid (same1_walk x y D D2 cd cd2 _ (Kd.C_below P4.out hB2) (Kd.C_below Q4.out hB2))
        clear hB2
        by_cases he : x = y
        · have HE := Lib.hid (show decide (x = y) = true by simpa using he)
          have HG := Lib.hid (hgo.out he)
          clear he
          go_wp2_with fail
          refine (HS.out).mono ?_
          rw [HE.out]
          rintro e w2 ⟨rfl, hB3⟩
          have HB3 := Lib.hid (below_step HB2.out hB3)
          clear hB3
          go_wp2
          go_roundw
          case rel => exact ⟨k + 1, by go_num, by omega, HG.out, HB3.out⟩
          case measure => simp [intOf]; omega
        · have HE := Lib.hid (show decide (x = y) = false by simpa using he)
          have HG := Lib.hid (hno.out he)
          clear he
          go_wp2_with fail
          refine (HS.out).mono ?_
          rw [HE.out]
          rintro e w2 ⟨rfl, hB3⟩
          have HB3 := Lib.hid (below_step HB2.out hB3)
          clear hB3
          go_wp2
          go_ret
          exact ⟨by rw [HG.out]; rfl, HB3.out⟩
      · have hi1 : ¬ (k : Int) < (a.length : Int) := by omega
        have HN := Lib.hid (show decide (a = b) = true from by
          rw [decide_eq_true_iff]
          have h := HP.out
          rwa [List.take_of_length_le (by omega), List.take_of_length_le (by have := HL.out; omega)] at h)
        go_wp2
        go_ret
        exact ⟨by rw [HN.out]; rfl, HBL.out⟩
  · have hli : ((a.length : Int) != (b.length : Int)) = true := by rw [bne_iff_ne]; omega
    have HN := Lib.hid (show decide (a = b) = false from by
      rw [decide_eq_false_iff_not]
      rintro rfl
      exact hl rfl)
    clear hl
    go_enter Try.func54, Try.ntmps54
    go_wp2
    go_ret
    exact ⟨by rw [HN.out]; rfl, Below.refl _ _⟩
set_option maxHeartbeats 1000000 in
theorem segsame_walk (A : Option Addr) (n c : Nat) (a : List Ent) (B : Option Addr) (m d : Nat) (b : List Ent) (w : World) (hA : KE.C w A n a) (hB : KE.C w B m b) :
    Calls Try.prog 26 #[.slice A n c, .slice B m d] w fun e w' => e = .returned (.bool (decide (a = b))) ∧ Below w.heap.size w w' := by
  obtain rfl : a.length = n := hA.1
  obtain rfl : b.length = m := hB.1
  have HE := Lib.hid (eqfunc_walk A c a B d b w hA hB)
  clear hA hB
  go_enter Try.func26, Try.ntmps26
  go_wp2_with fail
  refine (HE.out).mono ?_
  rintro e w1 ⟨rfl, hB1⟩
  have HB1 := Lib.hid hB1
  clear hB1
  go_wp2
  go_ret
  exact ⟨rfl, HB1.out⟩
end Go.Proofs.Ytoccidpocagkjaa
