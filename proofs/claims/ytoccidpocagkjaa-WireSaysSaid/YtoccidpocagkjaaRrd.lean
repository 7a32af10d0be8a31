/- The reference's Reader, by its contracts (a reader in memory: Rs, as quill's). -/
import Derived.Test.YtoccidpocagkjaaQrd
set_option linter.unusedVariables false
set_option linter.unusedSimpArgs false
namespace Go.Proofs.Ytoccidpocagkjaa
open Go.RowKit Go.Proofs.YtoccidpocagkjaaW.PrintWords Cf
attribute [local go_sem] str_beq str_bne
variable {B : Nat}

set_option maxHeartbeats 1000000 in
theorem ffail_walk (g : Nat) (s : RS) (W : World) (h : Rs B W g s) :
    Calls Try.prog 75 #[.pointer (some ⟨g, 0, none⟩)] W fun e W' => e = .returned (.tuple #[]) ∧ Rs B W' g ([], true) ∧ W.grownBy W' (some g) := by
  have H := Lib.hid h
  obtain ⟨A, c, h0, hR, hc, hne, h1, f0, f1⟩ := h
  clear hR
  go_enter Try.func75, Try.ntmps75
  go_wp2
  go_end0
  exact ⟨rfl, Rs.set1 (Rs.set0 (xs := []) H.out rfl (RdB.nil W) (Nat.le_refl _) (fun _ ad e => by cases e)) true, set_grown (grown_set W g 0 _) _⟩
set_option maxHeartbeats 1000000 in
theorem fend_walk (g : Nat) (s : RS) (W : World) (h : Rs B W g s) :
    Calls Try.prog 47 #[.pointer (some ⟨g, 0, none⟩)] W fun e W' => e = .returned (.int .i64 (if rend s then 0 else 20)) ∧ W' = W := by
  obtain ⟨A, c, h0, hR, hc, hne, h1, f0, f1⟩ := h
  obtain ⟨xs, b⟩ := s
  dsimp only at *
  clear hR
  cases b with
  | true =>
    have e : rend (xs, true) = false := rfl
    rw [e]
    go_enter Try.func47, Try.ntmps47
    go_wp2
    go_ret
    exact ⟨rfl, rfl⟩
  | false =>
    cases xs with
    | nil =>
      have e : rend (([] : List UInt8), false) = true := rfl
      rw [e]
      go_enter Try.func47, Try.ntmps47
      go_wp2
      go_ret
      exact ⟨rfl, rfl⟩
    | cons x xs =>
      have e : rend (x :: xs, false) = false := rfl
      rw [e]
      have hp : (0 : Int) < (xs.length : Int) + 1 := by omega
      go_enter Try.func47, Try.ntmps47
      go_wp2
      go_ret
      exact ⟨rfl, rfl⟩
set_option maxHeartbeats 1000000 in
theorem ffirst_nil (g : Nat) (b : Bool) (W : World) (h : Rs B W g ([], b)) :
    Calls Try.prog 73 #[.pointer (some ⟨g, 0, none⟩)] W fun e W' => e = .returned (.tuple #[.int .u8 0, .bool false]) ∧ W' = W := by
  obtain ⟨A, c, h0, hR, hc, hne, h1, f0, f1⟩ := h
  clear hR
  go_enter Try.func73, Try.ntmps73
  go_wp2
  go_ret2
  exact ⟨rfl, rfl⟩
set_option maxHeartbeats 1000000 in
theorem ffirst_cons (g : Nat) (x : UInt8) (r : List UInt8) (b : Bool) (W : World) (h : Rs B W g (x :: r, b)) :
    Calls Try.prog 73 #[.pointer (some ⟨g, 0, none⟩)] W fun e W' => e = .returned (.tuple #[.int .u8 x.toNat, .bool true]) ∧ Rs B W' g (r, b) ∧ W.grownBy W' (some g) := by
  have H := Lib.hid h
  obtain ⟨A, c, h0, hR, hc, hne, h1, f0, f1⟩ := h
  have hne := hne.2 (by simp)
  obtain ⟨bl, off, rfl, hcs⟩ := KB_cellsD hR (by simp)
  have k0 := hcs 0 (by simp)
  rw [Nat.add_zero] at k0
  simp only [List.getD_cons_zero] at k0
  have hx := x.toNat_lt
  simp only at hc h0 h1
  have hlp : ((r.length : Int) + 1 == 0) = false := by rw [beq_eq_false_iff_ne]; omega
  have i0 : (0 : Int) < (r.length : Int) + 1 := by omega
  obtain ⟨A4, e4, hr4, hn4⟩ := ct_upE (some ⟨bl, off, none⟩) (r.length + 1) c 1 (by omega) (by omega) (by simpa using hc)
  have hr5 := hr4 W (x :: r) (by simp) (by simpa using hR)
  rw [show (1 : Int).toNat = 1 from rfl, Nat.add_sub_cancel, List.drop_succ_cons, List.drop_zero] at hr5
  rw [show (1 : Int).toNat = 1 from rfl, Nat.add_sub_cancel] at e4
  have HR5 := Lib.hid hr5
  have HN4 := Lib.hid (hn4 B hne)
  have hcl : r.length ≤ c - 1 := by simp at hc; omega
  clear hr4 hr5 hn4 hcs hR
  go_enter Try.func73, Try.ntmps73
  go_wp2
  go_ret2
  exact ⟨rfl, Rs.set0 H.out rfl HR5.out hcl (fun _ => HN4.out), grown_set W g 0 _⟩
set_option maxHeartbeats 2000000 in
theorem fnumber_bad (g : Nat) (n : Nat) (s : RS) (W : World) (h : Rs B W g s) (hn : n < 256) (hb : numBad n s.1 = true) :
    Calls Try.prog 74 #[.pointer (some ⟨g, 0, none⟩), .int .i64 n] W fun e W' => e = .returned (.tuple #[.int .u64 0, .bool false]) ∧ W' = W := by
  obtain ⟨A, c, h0, hR, hc, hne, h1, f0, f1⟩ := h
  simp only [numBad, Bool.or_eq_true, Bool.and_eq_true, decide_eq_true_eq, beq_iff_eq] at hb
  by_cases h8 : 8 < n
  · have h8i : (8 : Int) < (n : Int) := by omega
    clear hb hR
    go_enter Try.func74, Try.ntmps74
    go_wp2
    go_ret2
    exact ⟨rfl, rfl⟩
  have h8i : ¬ (8 : Int) < (n : Int) := by omega
  by_cases hl2 : s.1.length < n
  · have hli : (s.1.length : Int) < (n : Int) := by omega
    clear hb hR
    go_enter Try.func74, Try.ntmps74
    go_wp2
    go_ret2
    exact ⟨rfl, rfl⟩
  have hli : ¬ (s.1.length : Int) < (n : Int) := by omega
  obtain ⟨hx0, hr0⟩ : 0 < n ∧ s.1.getD 0 0 = 0 := by
    rcases hb with (hb | hb) | hb
    · exact absurd hb h8
    · exact absurd hb hl2
    · exact hb
  obtain ⟨bl, off, rfl, hcs⟩ := KB_cellsD hR (by omega)
  have k0 := hcs 0 (by omega)
  rw [hr0, Nat.add_zero] at k0
  have i0 : (0 : Int) < (s.1.length : Int) := by omega
  have hni : (0 : Int) < (n : Int) := by omega
  clear hcs hR hr0
  go_enter Try.func74, Try.ntmps74
  go_wp2
  go_ret2
  exact ⟨rfl, rfl⟩

theorem add_u64 (n c : Nat) (hn : n < 72057594037927936) (hc : c < 256) : IntKind.u64.wrap (IntKind.u64.wrap ((n : Int) * 256) + (c : Int)) = ((n * 256 + c : Nat) : Int) ∧ IntKind.u64.wrap ((n : Int) * 256) = (n : Int) * 256 ∧ IntKind.u64.wrap (c : Int) = (c : Int) ∧ IntKind.u64.wrap ((n : Int) * 256 + (c : Int)) = ((n * 256 + c : Nat) : Int) := by
  have h1 : IntKind.u64.wrap ((n : Int) * 256) = (n : Int) * 256 := IntWalk.u64_in _ ⟨by omega, by omega⟩
  have h2 : IntKind.u64.wrap ((n : Int) * 256 + (c : Int)) = ((n * 256 + c : Nat) : Int) := by rw [IntWalk.u64_in _ ⟨by omega, by omega⟩]; omega
  exact ⟨by rw [h1]; exact h2, h1, IntWalk.u64_in _ ⟨by omega, by omega⟩, h2⟩
set_option maxHeartbeats 2000000 in
theorem fnumber_ok (g : Nat) (n : Nat) (s : RS) (W : World) (h : Rs B W g s) (hn : n < 256) (hb : numBad n s.1 = false) :
    Calls Try.prog 74 #[.pointer (some ⟨g, 0, none⟩), .int .i64 n] W fun e W' => e = .returned (.tuple #[.int .u64 (beN (s.1.take n)), .bool true]) ∧ Rs B W' g (s.1.drop n, s.2) ∧ W.grownBy W' (some g) := by
  have H := Lib.hid h
  obtain ⟨A, c, h0, hR, hc, hne, h1, f0, f1⟩ := h
  simp only [numBad, Bool.or_eq_false_iff, Bool.and_eq_false_iff, decide_eq_false_iff_not, beq_eq_false_iff_ne] at hb
  obtain ⟨⟨h8, hl2⟩, hr0⟩ := hb
  have h8i : ¬ (8 : Int) < (n : Int) := by omega
  have hli : ¬ (s.1.length : Int) < (n : Int) := by omega
  obtain ⟨A4, e4, hr4, hn4⟩ := ct_upE A s.1.length c n (by omega) (by omega) hc
  rw [Int.toNat_natCast] at e4 hr4
  have HR5 := Lib.hid (hr4 W s.1 rfl hR)
  have HN4 := Lib.hid (fun hp : 0 < s.1.length - n => hn4 B (hne.2 (by omega)))
  have HRX := Lib.hid hR
  clear hr4 hn4 hR
  by_cases hx0 : 0 < n
  · obtain ⟨bl, off, rfl, hcs⟩ := KB_cellsD HRX.out (by omega)
    have k0 := hcs 0 (by omega)
    rw [Nat.add_zero] at k0
    have hni : (0 : Int) < (n : Int) := by omega
    have i0 : (0 : Int) < (s.1.length : Int) := by omega
    have HCS := Lib.hid hcs
    clear hcs
    obtain ⟨y, hy⟩ : ∃ y, s.1.getD 0 0 = y := ⟨_, rfl⟩
    rw [hy] at hr0 k0
    have hr1 : ((y.toNat : Int) == 0) = false := by
      rw [beq_eq_false_iff_ne]
      intro e
      rcases hr0 with hr0 | hr0
      · exact hr0 hx0
      · refine hr0 (UInt8.toNat_inj.1 ?_)
        have : (0 : UInt8).toNat = 0 := rfl
        omega
    clear hy hr0
    go_enter Try.func74, Try.ntmps74
    go_wp2_with fail
    go_loopw [6, 7] (fun v i wr => wr = W ∧ ∃ k : Nat, k ≤ n ∧ i = .int .i64 k ∧ v = .int .u64 (beN (s.1.take k) : Nat))
      (fun _ i _ => n - (intOf i).toNat)
    case atStart => exact ⟨rfl, 0, by omega, rfl, rfl⟩
    case round =>
      obtain ⟨rfl, k, hkx, rfl, rfl⟩ := hrel
      by_cases hlt : k < n
      · have hki : (k : Int) < (n : Int) := by omega
        have hkl : (k : Int) < (s.1.length : Int) := by omega
        have hck := HCS.out k (by omega)
        have hbb := (s.1.getD k 0).toNat_lt
        have hst := beN_step s.1 k (by omega)
        obtain ⟨q1, q2, q3, q4⟩ := add_u64 (beN (s.1.take k)) (s.1.getD k 0).toNat (beN_take_lt s.1 k (by omega)) hbb
        rw [← hst] at q1 q4
        obtain ⟨v1, hv1⟩ : ∃ v1, beN (s.1.take (k + 1)) = v1 := ⟨_, rfl⟩
        rw [hv1] at q1 q4
        have HV := Lib.hid hv1
        clear hst hv1
        generalize (s.1.getD k 0) = yk at *
        generalize beN (s.1.take k) = v0 at *
        go_wp2
        exact ⟨⟨trivial, k + 1, by omega, by go_num, by rw [HV.out]⟩, by simp [intOf]; omega⟩
      · obtain rfl : k = n := by omega
        obtain ⟨v, hv⟩ : ∃ v, beN (s.1.take k) = v := ⟨_, rfl⟩
        rw [hv]
        have HV := Lib.hid hv
        clear hv
        go_wp2
        go_ret2
        rw [HV.out]
        exact ⟨rfl, Rs.set0 H.out List.length_drop HR5.out (by omega) HN4.out, grown_set wr g 0 _⟩
  · have hni : ¬ (0 : Int) < (n : Int) := by omega
    have hv : beN (s.1.take n) = 0 := by rw [show n = 0 by omega]; rfl
    rw [hv]
    clear hv hr0
    go_enter Try.func74, Try.ntmps74
    go_wp2_with fail
    go_loopw [6, 7] (fun v i wr => wr = W ∧ i = .int .i64 0 ∧ v = .int .u64 0)
      (fun _ i _ => 0)
    case atStart => exact ⟨rfl, rfl, rfl⟩
    case round =>
      obtain ⟨rfl, rfl, rfl⟩ := hrel
      go_wp2
      go_ret2
      exact ⟨rfl, Rs.set0 H.out List.length_drop HR5.out (by omega) HN4.out, grown_set wr g 0 _⟩
set_option maxHeartbeats 2000000 in
theorem fnum_walk (g most : Nat) (s : RS) (W : World) (h : Rs B W g s) (hm : most < 18446744073709551616) :
    Calls Try.prog 45 #[.pointer (some ⟨g, 0, none⟩), .int .u64 most] W fun e W' => e = .returned (.int .u64 (rnum most s).1) ∧ Rs B W' g (rnum most s).2 ∧ W.grownBy W' (some g) := by
  obtain ⟨xs, b⟩ := s
  cases xs with
  | nil =>
    have e : rnum most ([], b) = (0, [], true) := rfl
    rw [e]
    have H := Lib.hid h
    clear h
    go_enter Try.func45, Try.ntmps45
    go_wp2_with fail
    refine (ffirst_nil _ _ _ H.out).mono ?_
    rintro e w1 ⟨rfl, rfl⟩
    go_wp2_with fail
    refine (ffail_walk _ _ _ H.out).mono ?_
    rintro e w2 ⟨rfl, hR2, hg⟩
    have HR2 := Lib.hid hR2
    clear hR2
    go_wp2
    go_ret
    exact ⟨rfl, HR2.out, hg⟩
  | cons x r =>
    have hx := x.toNat_lt
    have hxw : IntKind.i64.wrap (x.toNat : Int) = (x.toNat : Int) := IntWalk.i64_in _ (by omega)
    have HF := Lib.hid (ffirst_cons g x r b W h)
    clear h
    cases hb : numBad x.toNat r with
    | true =>
      have e : rnum most (x :: r, b) = (0, [], true) := by simp only [rnum]; rw [if_pos hb]
      rw [e]
      have HB := Lib.hid hb
      clear hb
      go_enter Try.func45, Try.ntmps45
      go_wp2_with fail
      refine (HF.out).mono ?_
      rintro e w1 ⟨rfl, hR1, hg1⟩
      have H1 := Lib.hid hR1
      clear hR1
      go_wp2_with fail
      refine (fnumber_bad g x.toNat (r, b) _ H1.out (by omega) HB.out).mono ?_
      rintro e w2 ⟨rfl, rfl⟩
      go_wp2_with fail
      refine (ffail_walk _ _ _ H1.out).mono ?_
      rintro e w3 ⟨rfl, hR2, hg⟩
      have HR2 := Lib.hid hR2
      clear hR2
      go_wp2
      go_ret
      exact ⟨rfl, HR2.out, hg1.trans hg⟩
    | false =>
      have e : rnum most (x :: r, b) = if most < beN (r.take x.toNat) then (0, [], true) else (beN (r.take x.toNat), r.drop x.toNat, b) := by
        simp only [rnum]
        rw [if_neg (by rw [hb]; decide)]
      have HN := Lib.hid (fun w h => fnumber_ok (B := B) g x.toNat (r, b) w h (by omega) hb)
      clear hb
      have HE := Lib.hid e
      clear e
      dsimp only at HN
      generalize beN (r.take x.toNat) = v at *
      by_cases hmv : most < v
      · have hmi : ¬ (v : Int) ≤ (most : Int) := by omega
        go_enter Try.func45, Try.ntmps45
        go_wp2_with fail
        refine (HF.out).mono ?_
        rintro e w1 ⟨rfl, hR1, hg1⟩
        have H1 := Lib.hid hR1
        clear hR1
        go_wp2_with fail
        refine (HN.out _ H1.out).mono ?_
        rintro e w2 ⟨rfl, hR2, hg2⟩
        have H2 := Lib.hid hR2
        clear hR2
        go_wp2_with fail
        refine (ffail_walk _ _ _ H2.out).mono ?_
        rintro e w3 ⟨rfl, hR3, hg3⟩
        have HR3 := Lib.hid hR3
        clear hR3
        go_wp2
        go_ret
        rw [HE.out, if_pos hmv]
        exact ⟨rfl, HR3.out, (hg1.trans hg2).trans hg3⟩
      · have hmi : (v : Int) ≤ (most : Int) := by omega
        go_enter Try.func45, Try.ntmps45
        go_wp2_with fail
        refine (HF.out).mono ?_
        rintro e w1 ⟨rfl, hR1, hg1⟩
        have H1 := Lib.hid hR1
        clear hR1
        go_wp2_with fail
        refine (HN.out _ H1.out).mono ?_
        rintro e w2 ⟨rfl, hR2, hg2⟩
        have H2 := Lib.hid hR2
        clear hR2
        go_wp2
        go_ret
        rw [HE.out, if_neg hmv]
        exact ⟨rfl, H2.out, hg1.trans hg2⟩

set_option maxHeartbeats 2000000 in
theorem fraw_walk (g n : Nat) (s : RS) (W : World) (h : Rs B W g s) (hn : n ≤ 140737488355328) :
    Calls Try.prog 88 #[.pointer (some ⟨g, 0, none⟩), .int .i64 n] W fun e W' => ∃ A' c', e = .returned (.slice A' (rraw n s).1.length c') ∧ RdB W' A' (rraw n s).1.length (rraw n s).1 ∧ (rraw n s).1.length ≤ c' ∧ (∀ ad, A' = some ad → W.heap.size ≤ ad.block) ∧ Rs B W' g (rraw n s).2 ∧ W.grownBy W' (some g) := by
  have H := Lib.hid h
  obtain ⟨A, c, h0, hR, hc, hne, h1, f0, f1⟩ := h
  have HRX := Lib.hid hR
  have hmx := Kd.C_max hR
  clear hR
  by_cases hl : s.1.length < n
  · have e : rraw n s = ([], [], true) := by rw [rraw, if_pos hl]
    rw [e]
    have hli : (s.1.length : Int) < (n : Int) := by omega
    go_enter Try.func88, Try.ntmps88
    go_wp2_with fail
    refine (ffail_walk _ _ _ H.out).mono ?_
    rintro e w2 ⟨rfl, hR2, hg⟩
    have HR2 := Lib.hid hR2
    clear hR2
    go_wp2
    go_ret
    exact ⟨none, 0, rfl, RdB.nil _, Nat.le_refl _, (fun ad e => by cases e), HR2.out, hg⟩
  · have e : rraw n s = (s.1.take n, s.1.drop n, s.2) := by rw [rraw, if_neg hl]
    rw [e]
    have hli : ¬ (s.1.length : Int) < (n : Int) := by omega
    have e4 := ct_lo A s.1.length c n (by omega) (by omega) hc
    rw [Int.toNat_natCast] at e4
    obtain ⟨A5, e5, hr5, hn5⟩ := ct_upE A s.1.length c n (by omega) (by omega) hc
    rw [Int.toNat_natCast] at e5 hr5
    have htl : (s.1.take n).length = n := by rw [List.length_take]; omega
    have hr4 := rd_lo HRX.out n (by omega)
    rw [htl] at hr4
    have HR4 := Lib.hid hr4
    have HR5 := Lib.hid (hr5 W s.1 rfl HRX.out)
    have HN5 := Lib.hid (fun hp : 0 < s.1.length - n => hn5 B (hne.2 (by omega)))
    have hB0 : Below W.heap.size W (W.alloc (.cells #[] 5)) := (Below.refl _ W).alloc (Nat.le_refl _) _
    have HB0 := Lib.hid hB0
    have q0 := pw_cell_below hB0 h0
    clear hr5 hn5 hr4 hB0
    go_enter Try.func88, Try.ntmps88
    go_wp2_with (at_builtin; refine ap_row (w0 := W) W.heap.size rfl (Operand.tmp 19) (Operand.tmp 25) rfl _ [] (s.1.take n) A n c rfl rfl ?c1 ?c2 ?c3 ?c4 ?c5 ?_)
    case c1 => exact OwB.lit W _ (Nat.le_refl _) [] _ rfl (by simp)
    case c2 => exact Kd.C_below HR4.out HB0.out
    case c3 => exact HB0.out
    intro z A2 c2 w2 hz hc2 hO2 hB2 hg2
    have hzl : z.length = n := by rw [hz.out]; simpa using htl
    have HZ := hz
    rw [hzl] at hc2 hO2
    have H2 := Lib.hid (H.out.below hB2)
    have HO2 := Lib.hid hO2
    have p0 := pw_cell_below hB2 h0
    have p1 := (hB2.frozen (p := ⟨g, 0, none⟩) H.out.lt).trans f0
    have HR6 := Lib.hid (Kd.C_below HR5.out hB2)
    rw [hzl]
    clear hO2 hg2 hzl
    go_wp2
    go_ret
    have hba : ∀ ad, A2 = some ad → W.heap.size ≤ ad.block := OwB.base HO2.out
    refine ⟨A2, c2, by dsimp only; rw [htl]; rfl, ?_, by rw [htl]; exact hc2, hba, Rs.set0 H2.out List.length_drop HR6.out (by omega) HN5.out, set_grown (below_grown hB2) _⟩
    exact RdB.grown (by rw [htl, ← HZ.out]; exact HO2.out.rd) (grown_set w2 g 0 _) (fun _ ad e => by have h1 := hba ad e; have h2 := H.out.lt; omega)
set_option maxHeartbeats 2000000 in
theorem ftext_walk (g most : Nat) (s : RS) (W : World) (h : Rs B W g s) (hm : most ≤ 1000000000) :
    Calls Try.prog 77 #[.pointer (some ⟨g, 0, none⟩), .int .i64 most] W fun e W' => e = .returned (.string (str (rtext most s).1)) ∧ Rs B W' g (rtext most s).2 ∧ W.grownBy W' (some g) := by
  have HN := Lib.hid (fnum_walk g most s W h (by omega))
  have hle := rnum_le most s
  have ht : rtext most s = if (rnum most s).2.1.length < (rnum most s).1 then ([], [], true) else rraw (rnum most s).1 (rnum most s).2 := rfl
  generalize rtext most s = q at *
  generalize rnum most s = p at *
  obtain ⟨n, s2⟩ := p
  dsimp only at HN ht hle
  have hmi : ¬ (most : Int) < 0 := by omega
  have hmw : IntKind.u64.wrap (most : Int) = (most : Int) := IntWalk.u64_in _ ⟨by omega, by omega⟩
  have hnw : IntKind.i64.wrap (n : Int) = (n : Int) := IntWalk.i64_in _ (by omega)
  clear h
  by_cases hl : s2.1.length < n
  · rw [if_pos hl] at ht
    have HQ := Lib.hid ht
    clear ht
    have hlw : IntKind.u64.wrap (s2.1.length : Int) = (s2.1.length : Int) := IntWalk.u64_in _ ⟨by omega, by omega⟩
    have hli : (s2.1.length : Int) < (n : Int) := by omega
    go_enter Try.func77, Try.ntmps77
    go_wp2_with fail
    refine (HN.out).mono ?_
    rintro e w1 ⟨rfl, hR, hg⟩
    have HR := Lib.hid hR
    obtain ⟨A, c, h0, -⟩ := hR
    go_wp2_with fail
    refine (ffail_walk _ _ _ HR.out).mono ?_
    rintro e w3 ⟨rfl, hR3, hg3⟩
    have HR3 := Lib.hid hR3
    clear hR3
    go_wp2
    go_ret
    rw [HQ.out]
    exact ⟨rfl, HR3.out, hg.trans hg3⟩
  · rw [if_neg hl] at ht
    have HQ := Lib.hid ht
    clear ht
    go_enter Try.func77, Try.ntmps77
    go_wp2_with fail
    refine (HN.out).mono ?_
    rintro e w1 ⟨rfl, hR, hg⟩
    have HR := Lib.hid hR
    have hmx : s2.1.length ≤ 9223372036854775807 := by obtain ⟨A, c, _, h, _⟩ := hR; exact Kd.C_max h
    have hlw : IntKind.u64.wrap (s2.1.length : Int) = (s2.1.length : Int) := IntWalk.u64_in _ ⟨by omega, by omega⟩
    have hli : ¬ (s2.1.length : Int) < (n : Int) := by omega
    obtain ⟨A, c, h0, -⟩ := hR
    clear hmx
    go_wp2_with fail
    have hRW := fraw_walk g n s2 _ HR.out (by omega)
    rw [← HQ.out] at hRW
    refine hRW.mono ?_
    rintro e w3 ⟨A3, c3, rfl, hR3, hc3, hA3, hS3, hg3⟩
    have k3 := conv_str (c := c3) hR3
    have HS3 := Lib.hid hS3
    clear hR3 hS3 hRW
    go_wp2
    go_ret
    exact ⟨rfl, HS3.out, hg.trans hg3⟩
end Go.Proofs.Ytoccidpocagkjaa
