/- The reference's Same of snapshots; bytes as a row of members. -/
import Derived.Test.YtoccidpocagkjaaSwb
import Derived.Test.YtoccidpocagkjaaRrd
import Derived.Test.YtoccidpocagkjaaMwl
set_option linter.unusedVariables false
set_option linter.unusedSimpArgs false
namespace Go.Proofs.Ytoccidpocagkjaa
open Go.RowKit Go.Proofs.YtoccidpocagkjaaW.PrintWords Cf
attribute [local go_sem] str_beq str_bne

set_option maxRecDepth 100000 in
set_option maxHeartbeats 4000000 in
theorem rsnsame_walk (x y : Sn) (A : Option Addr) (a : Nat) (B : Option Addr) (b : Nat) (C : Option Addr) (c : Nat) (D : Option Addr) (d : Nat) (w : World) (h : SR w x A a B b) (k : SR w y C c D d) :
    Calls Try.prog 29 #[snV x A a B b, snV y C c D d] w fun e w' => e = .returned (.bool (decide (x = y))) ∧ Below w.heap.size w w' := by
  have hd := sn_eq_dec x y
  obtain ⟨i, t, ms, ds⟩ := x
  obtain ⟨i', t', ms', ds'⟩ := y
  have hB0 := below_alloc (Below.refl _ w) (.cells #[.int .u64 i, .int .u64 t, .slice A ms.length a, .slice B ds.length b] 27)
  have hB1 := below_step hB0 (below_alloc (Below.refl _ _) (.cells #[.int .u64 i', .int .u64 t', .slice C ms'.length c, .slice D ds'.length d] 27))
  have HB1 := Lib.hid hB1
  have HM := Lib.hid (Kd.C_below h.2.1 hB1)
  have HM' := Lib.hid (Kd.C_below k.2.1 hB1)
  have s1 := conv_str (c := b) (Kd.C_below h.2.2.2 hB1)
  have s2 := conv_str (c := d) (Kd.C_below k.2.2.2 hB1)
  have hm := Kd.C_max h.2.1
  have hm' := Kd.C_max k.2.1
  have hmd := Kd.C_max h.2.2.2
  have hmd' := Kd.C_max k.2.2.2
  clear h k hB1 hB0
  dsimp only at *
  have HD := Lib.hid hd
  clear hd
  by_cases g1 : i = i'
  rotate_left
  · have HE := Lib.hid (show decide ((⟨i, t, ms, ds⟩ : Sn) = ⟨i', t', ms', ds'⟩) = false by rw [HD.out, show ((i : Int) == (i' : Int)) = false by simp; omega]; rfl)
    have e1 : ((i : Int) != (i' : Int)) = true := by rw [bne_iff_ne]; omega
    clear g1
    rw [HE.out]
    go_enter Try.func29, Try.ntmps29
    go_wp2
    go_ret
    exact ⟨rfl, HB1.out⟩
  have e1 : ((i : Int) != (i' : Int)) = false := by rw [bne_eq_false_iff_eq]; omega
  have f1 : ((i : Int) == (i' : Int)) = true := by rw [beq_iff_eq]; omega
  by_cases g2 : t = t'
  rotate_left
  · have HE := Lib.hid (show decide ((⟨i, t, ms, ds⟩ : Sn) = ⟨i', t', ms', ds'⟩) = false by rw [HD.out, show ((t : Int) == (t' : Int)) = false by simp; omega, f1]; rfl)
    have e2 : ((t : Int) != (t' : Int)) = true := by rw [bne_iff_ne]; omega
    clear g1 g2 f1
    rw [HE.out]
    go_enter Try.func29, Try.ntmps29
    go_wp2
    go_ret
    exact ⟨rfl, HB1.out⟩
  have e2 : ((t : Int) != (t' : Int)) = false := by rw [bne_eq_false_iff_eq]; omega
  have f2 : ((t : Int) == (t' : Int)) = true := by rw [beq_iff_eq]; omega
  have HDD := Lib.hid (show decide ((⟨i, t, ms, ds⟩ : Sn) = ⟨i', t', ms', ds'⟩) = (decide (ms = ms') && (ds == ds')) by rw [HD.out, f1, f2]; rfl)
  clear g1 g2 f1 f2 HD
  rw [HDD.out]
  by_cases g3 : ms.length = ms'.length
  rotate_left
  · have HE := Lib.hid (show (decide (ms = ms') && (ds == ds')) = false by rw [show decide (ms = ms') = false by rw [decide_eq_false_iff_not]; rintro rfl; exact g3 rfl]; rfl)
    have e3 : ((ms.length : Int) != (ms'.length : Int)) = true := by rw [bne_iff_ne]; omega
    clear g3
    rw [HE.out]
    go_enter Try.func29, Try.ntmps29
    go_wp2
    go_ret
    exact ⟨rfl, HB1.out⟩
  have e3 : ((ms.length : Int) != (ms'.length : Int)) = false := by rw [bne_eq_false_iff_eq]; omega
  by_cases g4 : ds = ds'
  rotate_left
  · have e4 : (ds != ds') = true := by rw [bne_iff_ne]; exact g4
    have f4 : (ds == ds') = false := by rw [beq_eq_false_iff_ne]; exact g4
    have HE := Lib.hid (show (decide (ms = ms') && (ds == ds')) = false by rw [show (ds == ds') = false by rw [beq_eq_false_iff_ne]; exact g4]; simp)
    clear g3 g4
    rw [HE.out]
    go_enter Try.func29, Try.ntmps29
    go_wp2
    go_ret
    exact ⟨rfl, HB1.out⟩
  have e4 : (ds != ds') = false := by rw [bne_eq_false_iff_eq]; exact g4
  have f4 : (ds == ds') = true := by rw [beq_iff_eq]; exact g4
  have HE := Lib.hid (show (decide (ms = ms') && (ds == ds')) = decide (ms = ms') by rw [show (ds == ds') = true by rw [beq_iff_eq]; exact g4]; simp)
  have HL := Lib.hid g3
  clear g3 g4
  rw [HE.out]
  go_enter Try.func29, Try.ntmps29
  go_wp2_with fail
  clear s1 s2 e1 e2 e3 e4 f4
  have HK1 := Lib.hid (blk_below (World.alloc_heap_new w (.cells #[.int .u64 i, .int .u64 t, .slice A ms.length a, .slice B ds.length b] 27)) (below_alloc (Below.refl _ _) (.cells #[.int .u64 i', .int .u64 t', .slice C ms'.length c, .slice D ds'.length d] 27)))
  have hk2 := (World.alloc_heap_new (w.alloc (.cells #[.int .u64 i, .int .u64 t, .slice A ms.length a, .slice B ds.length b] 27)) (.cells #[.int .u64 i', .int .u64 t', .slice C ms'.length c, .slice D ds'.length d] 27))
  rw [World.size_alloc] at hk2
  have HK2 := Lib.hid hk2
  clear hk2
  generalize (w.alloc (.cells #[.int .u64 i, .int .u64 t, .slice A ms.length a, .slice B ds.length b] 27)).alloc (.cells #[.int .u64 i', .int .u64 t', .slice C ms'.length c, .slice D ds'.length d] 27) = w1 at *
  obtain ⟨b0, b1, b2, b3⟩ := blk4 HK1.out
  obtain ⟨c0, c1, c2, c3⟩ := blk4 HK2.out
  go_loopw [5] (fun j wr => ∃ k : Nat, j = .int .i64 k ∧ k ≤ ms.length ∧ ms.take k = ms'.take k ∧ ∃ n, wr = w1.drewN n)
    (fun j _ => ms.length - (intOf j).toNat)
  case atStart => exact ⟨0, rfl, Nat.zero_le _, rfl, 0, rfl⟩
  case round =>
    obtain ⟨k, rfl, hk, hpre, n, rfl⟩ := hrel
    have HP := Lib.hid hpre
    clear hpre
    by_cases hlt : k < ms.length
    · have hlt2 : k < ms'.length := by have := HL.out; omega
      obtain ⟨bl, off, rfl, hca⟩ := KI_cells HM.out (by omega)
      obtain ⟨bl2, off2, rfl, hcb⟩ := KI_cells HM'.out (by omega)
      have q0 := hca k hlt
      have q1 := hcb k hlt2
      have hi1 : (k : Int) < (ms.length : Int) := by omega
      have hi2 : (k : Int) < (ms'.length : Int) := by omega
      have hgo := Lib.hid (take_eq_step HP.out hlt hlt2)
      have hno := Lib.hid (show ¬ ms[k] = ms'[k] → decide (ms = ms') = false from fun e => by
        rw [decide_eq_false_iff_not]
        rintro rfl
        exact e rfl)
      clear hca hcb
      generalize ms[k] = x at *
      generalize ms'[k] = y at *
      by_cases h1 : x = y
      · have e1 : (x != y) = false := by rw [bne_eq_false_iff_eq]; exact h1
        have HG := Lib.hid (hgo.out h1)
        clear h1
        go_wp2
        go_quiet (fail)
        go_wp2
        exact ⟨⟨k + 1, by go_num, by omega, HG.out, _, rfl⟩, by simp [intOf]; omega⟩
      · have e1 : (x != y) = true := by rw [bne_iff_ne]; exact h1
        have HN := Lib.hid (hno.out h1)
        clear h1
        go_wp2
        go_quiet (fail)
        go_wp2
        go_ret
        exact ⟨by rw [HN.out]; rfl, below_step HB1.out (pw_below_drewN (pw_below_drewN (Below.refl _ _) _) _)⟩
    · have hi1 : ¬ (k : Int) < (ms.length : Int) := by omega
      have HN := Lib.hid (show decide (ms = ms') = true from by
        rw [decide_eq_true_iff]
        have h := HP.out
        rwa [List.take_of_length_le (by omega), List.take_of_length_le (by have := HL.out; omega)] at h)
      go_wp2
      go_ret
      exact ⟨by rw [HN.out]; rfl, below_step HB1.out (pw_below_drewN (Below.refl _ _) _)⟩

/-! ### Rows of members, read -/
theorem info_int : (Try.prog.info? 3).map (fun i => (i.zero, i.size, i.bytes)) = some (some (.int .i64 0), 1, 8) := by kernel_rfl
theorem KI_M (w : World) (base : Nat) (ok : Nat → Prop) (n : Int) : KI.M w base ok n [.int .i64 n] := rfl
set_option maxHeartbeats 4000000 in
theorem memof_walk (s : Nat) (w : World) (hs : s < 128) :
    Calls Try.prog 79 #[.int .u64 s] w fun e w' => ∃ (A : Option Addr) (n c : Nat), e = .returned (.slice A n c) ∧ Below w.heap.size w w' := by
  go_enter Try.func79, Try.ntmps79
  go_wp2_with fail
  go_loopw [2, 4] (fun v i wr => ∃ (k : Nat) (l : List Int), i = .int .i64 k ∧ k ≤ 7 ∧ l.length ≤ k ∧ Hid (KI.R 3 wr w.heap.size (fun _ => True) v l) ∧ Hid (Below w.heap.size w wr))
    (fun _ i _ => 7 - (intOf i).toNat)
  case atStart => exact ⟨0, [], rfl, by omega, Nat.le_refl _, Lib.hid (Kd.R_nil _ _ _ _ _), Lib.hid (Below.refl _ _)⟩
  case round =>
    obtain ⟨k, l, rfl, hk, hl, HR, HB⟩ := hrel
    obtain ⟨A, c, rfl⟩ := Kd.R_slice HR.out
    by_cases hlt : k < 7
    · have hi1 : (k : Int) < 7 := by omega
      have hlk : l.length < 8 := by omega
      go_wp2_with (at_builtin; refine Kd.R_append KI (w0 := w) w.heap.size rfl (Operand.tmp 12) (Operand.tmp 14) 24 3 (.int .i64 0) 8 rfl Try.underlying24 info_int rfl (by decide) (by decide) _ l (k : Int) [.int .i64 (k : Int)] (fun _ => True) (fun _ => False) rfl rfl (KI_M _ _ _ _) (fun _ h => h.elim) (fun _ _ => trivial) HR.out HB.out HB.out.size (by omega) ?_; intro v1 w1 hR1 hB1 hg1 hat1; (have HR1 := Lib.hid hR1); (have HB1 := Lib.hid hB1); clear hR1 hB1 hg1 hat1)
      · exact ⟨⟨k + 1, l ++ [(k : Int)], by go_num, by omega, by simp; omega, HR1, HB1⟩, by simp [intOf]; omega⟩
      · exact ⟨⟨k + 1, l, by go_num, by omega, by omega, HR, HB⟩, by simp [intOf]; omega⟩
    · have hi1 : ¬ (k : Int) < 7 := by omega
      go_wp2
      go_ret
      exact ⟨⟨A, _, c, rfl⟩, HB.out⟩
/-- Of a row only whether there is one matters. -/
def RowP (ok : Bool) (w : World) (e : Ending) (w' : World) : Prop := Below w.heap.size w w' ∧ ∃ (A : Option Addr) (n c : Nat), e = .returned (.tuple #[.slice A n c, .bool ok])
theorem memB_cases (xs : List UInt8) : memB xs = (rend (rnum 127 (xs, false)).2 && !((rnum 127 (xs, false)).1 == 0)) := rfl
set_option maxHeartbeats 4000000 in
theorem memread_walk (A : Option Addr) (n c : Nat) (xs : List UInt8) (w : World) (hC : RdB w A n xs) (hc : n ≤ c) :
    Calls Try.prog 49 #[.slice A n c] w (RowP (memB xs) w) := by
  have hle := rnum_le 127 (xs, false)
  have HN := Lib.hid (fun g W h => rnum_walk (B := w.heap.size) g 127 (xs, false) W h (by decide))
  have hv := memB_cases xs
  have HC := Lib.hid hC
  clear hC
  generalize memB xs = v at *
  generalize rnum 127 (xs, false) = p at *
  obtain ⟨m, s⟩ := p
  dsimp only at *
  cases hr : rend s with
  | false =>
    have HV := Lib.hid (show v = false by rw [hv, hr]; rfl)
    have HE := Lib.hid (show (if rend s = true then (0 : Int) else 20) = 20 by rw [hr]; rfl)
    clear hv hr
    go_enter Try.func49, Try.ntmps49
    go_wp2_with fail
    refine (ropenq_walk _ _ _ _ _ HC.out hc).mono ?_
    rintro e w1 ⟨g, rfl, hg, hR1, hB1⟩
    have HR1 := Lib.hid hR1
    have HG := Lib.hid hg
    clear hR1 hg
    go_wp2_with fail
    refine (HN.out g _ HR1.out).mono ?_
    rintro e w2 ⟨rfl, hR2, hg2⟩
    have HR2 := Lib.hid hR2
    have HB2 := Lib.hid (below_via hB1 HG.out hg2)
    clear hR2 hg2
    go_wp2_with fail
    refine (rend_walk _ _ _ HR2.out).mono ?_
    rw [HE.out]
    rintro e w3 ⟨rfl, rfl⟩
    go_wp2
    go_ret2
    exact ⟨HB2.out, none, 0, 0, by rw [HV.out]; rfl⟩
  | true =>
    have HE := Lib.hid (show (if rend s = true then (0 : Int) else 20) = 0 by rw [hr]; rfl)
    by_cases h0 : m = 0
    · have HV := Lib.hid (show v = false by rw [hv, h0]; simp)
      have e0 : ((m : Int) == 0) = true := by rw [beq_iff_eq]; omega
      clear hv hr h0
      go_enter Try.func49, Try.ntmps49
      go_wp2_with fail
      refine (ropenq_walk _ _ _ _ _ HC.out hc).mono ?_
      rintro e w1 ⟨g, rfl, hg, hR1, hB1⟩
      have HR1 := Lib.hid hR1
      have HG := Lib.hid hg
      clear hR1 hg
      go_wp2_with fail
      refine (HN.out g _ HR1.out).mono ?_
      rintro e w2 ⟨rfl, hR2, hg2⟩
      have HR2 := Lib.hid hR2
      have HB2 := Lib.hid (below_via hB1 HG.out hg2)
      clear hR2 hg2
      go_wp2_with fail
      refine (rend_walk _ _ _ HR2.out).mono ?_
      rw [HE.out]
      rintro e w3 ⟨rfl, rfl⟩
      go_wp2
      go_ret2
      exact ⟨HB2.out, none, 0, 0, by rw [HV.out]; rfl⟩
    · have HV := Lib.hid (show v = true by rw [hv, hr]; simp [h0])
      have e0 : ((m : Int) == 0) = false := by rw [beq_eq_false_iff_ne]; omega
      clear hv hr h0
      go_enter Try.func49, Try.ntmps49
      go_wp2_with fail
      refine (ropenq_walk _ _ _ _ _ HC.out hc).mono ?_
      rintro e w1 ⟨g, rfl, hg, hR1, hB1⟩
      have HR1 := Lib.hid hR1
      have HG := Lib.hid hg
      clear hR1 hg
      go_wp2_with fail
      refine (HN.out g _ HR1.out).mono ?_
      rintro e w2 ⟨rfl, hR2, hg2⟩
      have HR2 := Lib.hid hR2
      have HB2 := Lib.hid (below_via hB1 HG.out hg2)
      clear hR2 hg2
      go_wp2_with fail
      refine (rend_walk _ _ _ HR2.out).mono ?_
      rw [HE.out]
      rintro e w3 ⟨rfl, rfl⟩
      go_wp2_with fail
      refine (memof_walk m _ (by omega)).mono ?_
      rintro e w4 ⟨A4, n4, c4, rfl, hB4⟩
      have HB4 := Lib.hid (below_step HB2.out hB4)
      clear hB4
      go_wp2
      go_ret2
      exact ⟨HB4.out, A4, n4, c4, by rw [HV.out]; rfl⟩
theorem mkrd3 (w : World) (A : Option Addr) (c : Nat) (xs : List UInt8) (h : RdB w A xs.length xs) (hc : xs.length ≤ c) :
    Rs w.heap.size (w.alloc (.cells #[.slice A xs.length c, .bool false] 81)) w.heap.size (xs, false) :=
  Rs.at (World.alloc_heap_new w _) (Kd.C_alloc h _) hc (Nat.le_refl _) (fun hp => rd_lt h hp)
set_option maxHeartbeats 4000000 in
theorem rmemread_walk (A : Option Addr) (n c : Nat) (xs : List UInt8) (w : World) (hC : RdB w A n xs) (hc : n ≤ c) :
    Calls Try.prog 52 #[.slice A n c] w (RowP (memB xs) w) := by
  obtain rfl : xs.length = n := hC.1
  have hle := rnum_le 127 (xs, false)
  have HN := Lib.hid (fun g W h => fnum_walk (B := w.heap.size) g 127 (xs, false) W h (by decide))
  have hv := memB_cases xs
  have HS0 := Lib.hid (mkrd3 w A c xs hC hc)
  have HB0 := Lib.hid (below_alloc (Below.refl _ w) (.cells #[.slice A xs.length c, .bool false] 81))
  have HC := Lib.hid hC
  clear hC
  generalize memB xs = v at *
  generalize rnum 127 (xs, false) = p at *
  obtain ⟨m, s⟩ := p
  dsimp only at *
  cases hr : rend s with
  | false =>
    have HV := Lib.hid (show v = false by rw [hv, hr]; rfl)
    have HE := Lib.hid (show (if rend s = true then (0 : Int) else 20) = 20 by rw [hr]; rfl)
    clear hv hr
    go_enter Try.func52, Try.ntmps52
    go_wp2_with fail
    refine (HN.out w.heap.size _ HS0.out).mono ?_
    rintro e w2 ⟨rfl, hR2, hg2⟩
    have HR2 := Lib.hid hR2
    have HB2 := Lib.hid (below_via HB0.out rfl hg2)
    clear hR2 hg2
    go_wp2_with fail
    refine (fend_walk _ _ _ HR2.out).mono ?_
    rw [HE.out]
    rintro e w3 ⟨rfl, rfl⟩
    go_wp2
    go_ret2
    exact ⟨HB2.out, none, 0, 0, by rw [HV.out]; rfl⟩
  | true =>
    have HE := Lib.hid (show (if rend s = true then (0 : Int) else 20) = 0 by rw [hr]; rfl)
    by_cases h0 : m = 0
    · have HV := Lib.hid (show v = false by rw [hv, h0]; simp)
      have e0 : ((m : Int) == 0) = true := by rw [beq_iff_eq]; omega
      clear hv hr h0
      go_enter Try.func52, Try.ntmps52
      go_wp2_with fail
      refine (HN.out w.heap.size _ HS0.out).mono ?_
      rintro e w2 ⟨rfl, hR2, hg2⟩
      have HR2 := Lib.hid hR2
      have HB2 := Lib.hid (below_via HB0.out rfl hg2)
      clear hR2 hg2
      go_wp2_with fail
      refine (fend_walk _ _ _ HR2.out).mono ?_
      rw [HE.out]
      rintro e w3 ⟨rfl, rfl⟩
      go_wp2
      go_ret2
      exact ⟨HB2.out, none, 0, 0, by rw [HV.out]; rfl⟩
    · have HV := Lib.hid (show v = true by rw [hv, hr]; simp [h0])
      have e0 : ((m : Int) == 0) = false := by rw [beq_eq_false_iff_ne]; omega
      clear hv hr h0
      go_enter Try.func52, Try.ntmps52
      go_wp2_with fail
      refine (HN.out w.heap.size _ HS0.out).mono ?_
      rintro e w2 ⟨rfl, hR2, hg2⟩
      have HR2 := Lib.hid hR2
      have HB2 := Lib.hid (below_via HB0.out rfl hg2)
      clear hR2 hg2
      go_wp2_with fail
      refine (fend_walk _ _ _ HR2.out).mono ?_
      rw [HE.out]
      rintro e w3 ⟨rfl, rfl⟩
      go_wp2_with fail
      clear e0
      go_loopw [5, 6, 7] (fun x v i wr => ∃ (k q : Nat) (l : List Int), i = .int .i64 k ∧ k ≤ 7 ∧ l.length ≤ k ∧ x = .int .u64 q ∧ q ≤ 127 ∧ Hid (KI.R 3 wr w.heap.size (fun _ => True) v l) ∧ Hid (Below w.heap.size w wr))
        (fun _ _ i _ => 7 - (intOf i).toNat)
      case atStart => exact ⟨0, m, [], rfl, by omega, Nat.le_refl _, rfl, hle, Lib.hid (Kd.R_nil _ _ _ _ _), HB2⟩
      case round =>
        obtain ⟨k, q, l, rfl, hk, hl, rfl, hq, HR, HB⟩ := hrel
        obtain ⟨A, c, rfl⟩ := Kd.R_slice HR.out
        by_cases hlt : k < 7
        · have hi1 : (k : Int) < 7 := by omega
          have hlk : l.length < 8 := by omega
          go_wp2_with (at_builtin; refine Kd.R_append KI (w0 := w) w.heap.size rfl (Operand.tmp 27) (Operand.tmp 29) 24 3 (.int .i64 0) 8 rfl Try.underlying24 info_int rfl (by decide) (by decide) _ l (k : Int) [.int .i64 (k : Int)] (fun _ => True) (fun _ => False) rfl rfl (KI_M _ _ _ _) (fun _ h => h.elim) (fun _ _ => trivial) HR.out HB.out HB.out.size (by omega) ?_; intro v1 w5 hR1 hB1 hg1 hat1; (have HR1 := Lib.hid hR1); (have HB1 := Lib.hid hB1); clear hR1 hB1 hg1 hat1)
          · exact ⟨⟨k + 1, q / 2, l ++ [(k : Int)], by go_num, by omega, by simp; omega, by go_num, by omega, HR1, HB1⟩, by simp [intOf]; omega⟩
          · exact ⟨⟨k + 1, q / 2, l, by go_num, by omega, by omega, by go_num, by omega, HR, HB⟩, by simp [intOf]; omega⟩
        · have hi1 : ¬ (k : Int) < 7 := by omega
          go_wp2
          go_ret2
          exact ⟨HB.out, A, _, c, by rw [HV.out]; rfl⟩
end Go.Proofs.Ytoccidpocagkjaa
