/- segment.line. -/
import Derived.Test.YtakneimkadjiiaaSgr
import Derived.Test.YtakneimkadjiiaaMsg2
set_option linter.unusedVariables false
set_option linter.unusedSimpArgs false
namespace Go.Proofs.Ytakneimkadjiiaa
open Go.RowKit Go.Proofs.YtakneimkadjiiaaW.PrintWords Cf
attribute [local go_sem] str_beq str_bne

theorem rtext_le (most : Nat) (s : RS) : (rtext most s).1.length ≤ most := by
  unfold rtext
  split
  · exact Nat.zero_le _
  · have := rnum_le most s
    unfold rraw
    split
    · exact Nat.zero_le _
    · dsimp only
      rw [List.length_take]
      omega
set_option maxHeartbeats 4000000 in
/-- segment.line: the entry in new memory; its data (if there is any) in the call's own. -/
theorem line_walk (k : UInt8) (i : Nat) (A : Option Addr) (n c : Nat) (xs : List UInt8) (w : World) (hC : RdB w A n xs) (hc : n ≤ c) (hi : i < 18446744073709551616) :
    Calls Try.prog 27 #[.int .u8 k.toNat, .slice A n c, .int .u64 i] w fun e w' => ∃ A' c', e = .returned (.tuple #[entV (linP xs).2.1 A' c', .bool (linB k xs i)]) ∧ (linP xs).2.1.data.length ≤ c' ∧ RdB w' A' (linP xs).2.1.data.length (linP xs).2.1.data ∧ (∀ ad, A' = some ad → w.heap.size ≤ ad.block) ∧ Below w.heap.size w w' := by
  obtain rfl : xs.length = n := hC.1
  have HC := Lib.hid hC
  clear hC
  have H1 := Lib.hid (fun g W h => rnum_walk (B := w.heap.size) g 18446744073709551615 (xs, false) W h (by decide))
  have H2 := Lib.hid (fun g W h => rnum_walk (B := w.heap.size) g 1152921504606846976 (rnum 18446744073709551615 (xs, false)).2 W h (by decide))
  have H3 := Lib.hid (fun g W h => rnum_walk (B := w.heap.size) g 3 (rnum 1152921504606846976 (rnum 18446744073709551615 (xs, false)).2).2 W h (by decide))
  have H4 := Lib.hid (fun g W h => rtext_walk (B := w.heap.size) g 4096 (rnum 3 (rnum 1152921504606846976 (rnum 18446744073709551615 (xs, false)).2).2).2 W h (by decide))
  have hlp : linP xs = ((rnum 18446744073709551615 (xs, false)).1, ⟨(rnum 1152921504606846976 (rnum 18446744073709551615 (xs, false)).2).1, ((rnum 3 (rnum 1152921504606846976 (rnum 18446744073709551615 (xs, false)).2).2).1 : Int), (rtext 4096 (rnum 3 (rnum 1152921504606846976 (rnum 18446744073709551615 (xs, false)).2).2).2).1⟩, (rtext 4096 (rnum 3 (rnum 1152921504606846976 (rnum 18446744073709551615 (xs, false)).2).2).2).2) := rfl
  have hlb : linB k xs i = ((k == 2) && rend (linP xs).2.2 && ((linP xs).1 == i) && soundB (linP xs).2.1) := rfl
  have hb1 := rnum_le 18446744073709551615 (xs, false)
  have hb2 := rnum_le 1152921504606846976 (rnum 18446744073709551615 (xs, false)).2
  have hb3 := rnum_le 3 (rnum 1152921504606846976 (rnum 18446744073709551615 (xs, false)).2).2
  have hb4 := rtext_le 4096 (rnum 3 (rnum 1152921504606846976 (rnum 18446744073709551615 (xs, false)).2).2).2
  generalize linB k xs i = ok at *
  generalize linP xs = lp at *
  generalize rtext 4096 (rnum 3 (rnum 1152921504606846976 (rnum 18446744073709551615 (xs, false)).2).2).2 = p4 at *
  generalize rnum 3 (rnum 1152921504606846976 (rnum 18446744073709551615 (xs, false)).2).2 = p3 at *
  generalize rnum 1152921504606846976 (rnum 18446744073709551615 (xs, false)).2 = p2 at *
  generalize rnum 18446744073709551615 (xs, false) = p1 at *
  obtain ⟨own, s1⟩ := p1
  obtain ⟨tm, s2⟩ := p2
  obtain ⟨kd, s3⟩ := p3
  obtain ⟨dt, s4⟩ := p4
  dsimp only at *
  subst hlp
  dsimp only at *
  have hkw : IntKind.i64.wrap (kd : Int) = (kd : Int) := IntWalk.i64_in _ (by omega)
  have HOK := Lib.hid hlb
  clear hlb
  go_enter Try.func27, Try.ntmps27
  go_wp2_with fail
  have hEb0 : Eb (w.alloc (.cells #[.int .u64 0, .int .i64 0, .slice none 0 0] 38)) w.heap.size (.int .u64 0) (.int .i64 0) (.slice none 0 0) := Eb.at (World.alloc_heap_new w _)
  have hB0 : Below w.heap.size w (w.alloc (.cells #[.int .u64 0, .int .i64 0, .slice none 0 0] 38)) := (Below.refl _ w).alloc (Nat.le_refl _) _
  have hsz : (w.alloc (.cells #[.int .u64 0, .int .i64 0, .slice none 0 0] 38)).heap.size = w.heap.size + 1 := World.size_alloc _ _
  generalize w.alloc (.cells #[.int .u64 0, .int .i64 0, .slice none 0 0] 38) = w0 at *
  have hA0 : 0 < xs.length → ∀ ad, A = some ad → ad.block < w.heap.size := fun hp => rd_lt HC.out hp
  refine (ropenb_walk (B := w.heap.size) _ _ _ _ _ (Kd.C_below HC.out hB0) hc hB0.size hA0).mono ?_
  rintro e w1 ⟨g, rfl, hg, hR1, hB1⟩
  have HS1 := Lib.hid (hEb0.below hB1)
  have HR1 := Lib.hid hR1
  have hge : w.heap.size < g := by omega
  have HB1 := Lib.hid (below_step hB0 hB1)
  clear hR1 hg hEb0 hsz hB0 hB1 hA0
  go_wp2_with fail
  refine (H1.out g _ HR1.out).mono ?_
  rintro e w2 ⟨rfl, hR2, hg2⟩
  have HS2 := Lib.hid (HS1.out.grown hg2 (by omega))
  have HR2 := Lib.hid hR2
  have HB2 := Lib.hid (HB1.out.grown hg2 HB1.out.size (fun j e2 => by cases e2; omega))
  clear hR2 hg2
  go_wp2_with fail
  refine (H2.out g _ HR2.out).mono ?_
  rintro e w3 ⟨rfl, hR3, hg3⟩
  have HS3 := Lib.hid (HS2.out.grown hg3 (by omega))
  have HR3 := Lib.hid hR3
  have HB3 := Lib.hid (HB2.out.grown hg3 HB2.out.size (fun j e2 => by cases e2; omega))
  clear hR3 hg3
  go_wp2_with fail
  refine (H3.out g _ HR3.out).mono ?_
  rintro e w4 ⟨rfl, hR4, hg4⟩
  have HS4 := Lib.hid (HS3.out.grown hg4 (by omega))
  have HR4 := Lib.hid hR4
  have HB4 := Lib.hid (HB3.out.grown hg4 HB3.out.size (fun j e2 => by cases e2; omega))
  clear hR4 hg4
  obtain ⟨⟨a0, a1, a2⟩, f0, f1, f2⟩ := HS4.out
  go_wp2_with fail
  have hS5 := (HS4.out.set0 (.int .u64 (tm : Int))).set1 (.int .i64 (kd : Int))
  have hR5 := (HR4.out.far (b := w.heap.size) (j := 0) (.int .u64 (tm : Int)) (by omega) (Nat.le_refl _)).far (b := w.heap.size) (j := 1) (.int .i64 (kd : Int)) (by omega) (Nat.le_refl _)
  have hB5 := (HB4.out.setCell (p := ⟨w.heap.size, 0, none⟩) (Nat.le_refl _) (.int .u64 (tm : Int))).setCell (p := ⟨w.heap.size, 1, none⟩) (Nat.le_refl _) (.int .i64 (kd : Int))
  generalize (w4.setCell ⟨w.heap.size, 0, none⟩ (.int .u64 (tm : Int))).setCell ⟨w.heap.size, 1, none⟩ (.int .i64 (kd : Int)) = w5 at *
  have HS5 := Lib.hid hS5
  have HR5 := Lib.hid hR5
  have HB5 := Lib.hid hB5
  clear hS5 hR5 hB5 a0 a1 a2 f0 f1 f2
  refine (H4.out g _ HR5.out).mono ?_
  rintro e w6 ⟨rfl, hR6, hg6⟩
  have HS6 := Lib.hid (HS5.out.grown hg6 (by omega))
  have HR6 := Lib.hid hR6
  have HB6 := Lib.hid (HB5.out.grown hg6 HB5.out.size (fun j e2 => by cases e2; omega))
  clear hR6 hg6
  obtain ⟨c7, e7, hr7, hb7, hc7⟩ := conv_bytes dt w6 (by omega)
  have HS7 := Lib.hid (HS6.out.below hb7)
  have HR7 := Lib.hid (HR6.out.below hb7)
  have HB7 := Lib.hid (below_step HB6.out hb7)
  have HD7 := Lib.hid hr7
  have hz6 : w.heap.size < w6.heap.size := HS6.out.lt
  obtain ⟨w7, hw7⟩ : ∃ w7, Lib.bytesWorld w6 5 (str dt) = w7 := ⟨_, rfl⟩
  rw [hw7] at e7
  rw [hw7] at HS7 HR7 HB7 HD7
  clear hr7 hb7 hw7
  obtain ⟨⟨a0, a1, a2⟩, f0, f1, f2⟩ := HS7.out
  go_wp2_with fail
  have hS8 := HS7.out.set2 (.slice (some ⟨w6.heap.size, 0, none⟩) dt.length c7)
  have hR8 := HR7.out.far (b := w.heap.size) (j := 2) (.slice (some ⟨w6.heap.size, 0, none⟩) dt.length c7) (by omega) (Nat.le_refl _)
  have hB8 := HB7.out.setCell (p := ⟨w.heap.size, 2, none⟩) (Nat.le_refl _) (.slice (some ⟨w6.heap.size, 0, none⟩) dt.length c7)
  have hD8 := HD7.out.grown (grown_set w7 w.heap.size 2 (.slice (some ⟨w6.heap.size, 0, none⟩) dt.length c7)) (fun _ ad e => by cases e; exact Nat.ne_of_gt hz6)
  generalize w7.setCell ⟨w.heap.size, 2, none⟩ (.slice (some ⟨w6.heap.size, 0, none⟩) dt.length c7) = w8 at *
  have HS8 := Lib.hid hS8
  have HR8 := Lib.hid hR8
  have HB8 := Lib.hid hB8
  have HD8 := Lib.hid hD8
  have hb0 : ∀ ad : Addr, some (⟨w6.heap.size, 0, none⟩ : Addr) = some ad → w.heap.size ≤ ad.block := fun ad e => by cases e; exact Nat.le_of_lt hz6
  have HB0 := Lib.hid hb0
  clear hS8 hR8 hB8 hD8 a0 a1 a2 f0 f1 f2 e7 hb0
  obtain ⟨⟨a0, a1, a2⟩, f0, f1, f2⟩ := HS8.out
  clear HS1 HS2 HS3 HS4 HS5 HS6 HS7 HR1 HR2 HR3 HR4 HR5 HR6 HR7 HB1 HB2 HB3 HB4 HB5 HB6 HB7 HD7 H1 H2 H3 H4 HC hge hb1 hb3 hc hkw
  have fin : ∀ w9, Eb w9 w.heap.size (Value.int .u64 tm) (Value.int .i64 kd) (.slice (some ⟨w6.heap.size, 0, none⟩) dt.length c7) → Below w.heap.size w w9 → RdB w9 (some ⟨w6.heap.size, 0, none⟩) dt.length dt →
      (Eb (((w9.setCell ⟨w.heap.size, 0, none⟩ (Value.int .u64 tm)).setCell ⟨w.heap.size, 1, none⟩ (Value.int .i64 kd)).setCell ⟨w.heap.size, 2, none⟩ (.slice (some ⟨w6.heap.size, 0, none⟩) dt.length c7)) w.heap.size (Value.int .u64 tm) (Value.int .i64 kd) (.slice (some ⟨w6.heap.size, 0, none⟩) dt.length c7) ∧ Below w.heap.size w (((w9.setCell ⟨w.heap.size, 0, none⟩ (Value.int .u64 tm)).setCell ⟨w.heap.size, 1, none⟩ (Value.int .i64 kd)).setCell ⟨w.heap.size, 2, none⟩ (.slice (some ⟨w6.heap.size, 0, none⟩) dt.length c7)) ∧ RdB (((w9.setCell ⟨w.heap.size, 0, none⟩ (Value.int .u64 tm)).setCell ⟨w.heap.size, 1, none⟩ (Value.int .i64 kd)).setCell ⟨w.heap.size, 2, none⟩ (.slice (some ⟨w6.heap.size, 0, none⟩) dt.length c7)) (some ⟨w6.heap.size, 0, none⟩) dt.length dt) := by
    intro w9 h1 h2 h3
    have hne : 0 < dt.length → ∀ ad : Addr, some (⟨w6.heap.size, 0, none⟩ : Addr) = some ad → ad.block ≠ w.heap.size := fun _ ad e => by cases e; exact Nat.ne_of_gt hz6
    exact ⟨((h1.set0 _).set1 _).set2 _, ((h2.setCell (p := ⟨w.heap.size, 0, none⟩) (Nat.le_refl _) _).setCell (p := ⟨w.heap.size, 1, none⟩) (Nat.le_refl _) _).setCell (p := ⟨w.heap.size, 2, none⟩) (Nat.le_refl _) _,
      ((h3.grown (grown_set _ _ 0 _) hne).grown (grown_set _ _ 1 _) hne).grown (grown_set _ _ 2 _) hne⟩
  have FIN := Lib.hid fin
  have HR9 := Lib.hid (HR8.out.below (below_drew (Below.refl _ _)))
  clear fin
  by_cases hk : k = 2
  · subst hk
    cases hr : rend s4 with
    | false =>
      have hok : ok = false := by rw [HOK.out, hr]; rfl
      have he : (if rend s4 = true then (0 : Int) else 20) = 20 := by rw [hr]; rfl
      have HE := Lib.hid he
      have HO := Lib.hid hok
      clear hok HOK hr he
      first
      | (go_region_with (first
        | (with_reducible go_at_call 49; refine (rend_walk _ _ _ HR9.out).mono ?_; rw [HE.out]; rintro e w9 ⟨rfl, rfl⟩)))
      | fail
      all_goals
        go_wp2
        obtain ⟨q1, q2, q3⟩ := FIN.out _ HS8.out HB8.out HD8.out
        obtain ⟨⟨b0, b1, b2⟩, -, -, -⟩ := q1
        refine bodyPost_ret (v := .tuple #[entV ⟨tm, kd, dt⟩ (some ⟨w6.heap.size, 0, none⟩) c7, .bool false]) (by simp [results, Try.results27, go_sem, b0, b1, b2]) rfl ?_
        rw [HO.out]
        exact ⟨_, _, rfl, hc7, Kd.C_drew q3, HB0.out, below_drew q2⟩
    | true =>
      have he : (if rend s4 = true then (0 : Int) else 20) = 0 := by rw [hr]; rfl
      have HE := Lib.hid he
      by_cases hoi : own = i
      · have hok : ok = soundB ⟨tm, kd, dt⟩ := by rw [HOK.out, hr, hoi]; simp
        have eoi : ((own : Int) == (i : Int)) = true := by rw [beq_iff_eq]; omega
        have HO := Lib.hid hok
        have HSD := Lib.hid (fun w => sound_walk ⟨tm, kd, dt⟩ (some ⟨w6.heap.size, 0, none⟩) c7 w (by dsimp only; omega))
        clear hok HOK hr he hoi
        first
        | (go_region_with (first
          | (with_reducible go_at_call 49; refine (rend_walk _ _ _ HR9.out).mono ?_; rw [HE.out]; rintro e w9 ⟨rfl, rfl⟩)
          | (go_at_call 23; refine (HSD.out _).mono ?_; rintro e w10 ⟨rfl, hB10⟩; have h10 := (HS8.out.below (below_drew (Below.refl _ _))).below hB10; have HS10 := Lib.hid h10; have HB10 := Lib.hid hB10; obtain ⟨⟨b0, b1, b2⟩, g0, g1, g2⟩ := h10; clear hB10)))
        | fail
        all_goals
          go_wp2
          obtain ⟨q1, q2, q3⟩ := FIN.out _ HS10.out (below_step (below_step HB8.out (below_drew (Below.refl _ _))) HB10.out) (Kd.C_below (Kd.C_drew HD8.out) HB10.out)
          obtain ⟨⟨e0, e1, e2⟩, -, -, -⟩ := q1
          refine bodyPost_ret (v := .tuple #[entV ⟨tm, kd, dt⟩ (some ⟨w6.heap.size, 0, none⟩) c7, .bool (soundB ⟨tm, kd, dt⟩)]) (by simp [results, Try.results27, go_sem, e0, e1, e2]) rfl ?_
          rw [HO.out]
          exact ⟨_, _, rfl, hc7, q3, HB0.out, q2⟩
      · have hok : ok = false := by rw [HOK.out]; simp [hoi]
        have eoi : ((own : Int) == (i : Int)) = false := by rw [beq_eq_false_iff_ne]; omega
        have HO := Lib.hid hok
        clear hok HOK hr he hoi
        first
        | (go_region_with (first
          | (with_reducible go_at_call 49; refine (rend_walk _ _ _ HR9.out).mono ?_; rw [HE.out]; rintro e w9 ⟨rfl, rfl⟩)))
        | fail
        all_goals
          go_wp2
          obtain ⟨q1, q2, q3⟩ := FIN.out _ HS8.out HB8.out HD8.out
          obtain ⟨⟨b0, b1, b2⟩, -, -, -⟩ := q1
          refine bodyPost_ret (v := .tuple #[entV ⟨tm, kd, dt⟩ (some ⟨w6.heap.size, 0, none⟩) c7, .bool false]) (by simp [results, Try.results27, go_sem, b0, b1, b2]) rfl ?_
          rw [HO.out]
          exact ⟨_, _, rfl, hc7, Kd.C_drew q3, HB0.out, below_drew q2⟩
  · have hok : ok = false := by
      rw [HOK.out]
      simp [hk]
    have ek : ((k.toNat : Int) == 2) = false := by
      rw [beq_eq_false_iff_ne]
      intro h
      refine hk (UInt8.toNat_inj.1 ?_)
      have : (2 : UInt8).toNat = 2 := rfl
      omega
    have HO := Lib.hid hok
    clear hok hk HOK
    go_region
    go_wp2
    obtain ⟨⟨⟨b0, b1, b2⟩, -, -, -⟩, q2, q3⟩ := FIN.out _ HS8.out HB8.out HD8.out
    refine bodyPost_ret (v := .tuple #[entV ⟨tm, kd, dt⟩ (some ⟨w6.heap.size, 0, none⟩) c7, .bool false]) (by simp [results, Try.results27, go_sem, b0, b1, b2]) rfl ?_
    rw [HO.out]
    exact ⟨_, _, rfl, hc7, Kd.C_drew q3, HB0.out, below_drew q2⟩
end Go.Proofs.Ytakneimkadjiiaa
