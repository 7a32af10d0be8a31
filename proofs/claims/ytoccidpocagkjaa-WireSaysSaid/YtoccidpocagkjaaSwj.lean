/- The reference's Same of messages. -/
import Derived.Test.YtoccidpocagkjaaSwd
import Derived.Deep.DeepCutAuto
set_option linter.unusedVariables false
set_option linter.unusedSimpArgs false
namespace Go.Proofs.Ytoccidpocagkjaa
open Go.RowKit Go.Proofs.YtoccidpocagkjaaW.PrintWords Cf
attribute [local go_sem] str_beq str_bne

theorem wm_eq_dec (x y : Wm) : decide (x = y) = ((x.kind == y.kind) && (x.frm == y.frm) && (x.dst == y.dst) && ((x.term : Int) == (y.term : Int)) && ((x.index : Int) == (y.index : Int)) && ((x.logTerm : Int) == (y.logTerm : Int)) && ((x.commit : Int) == (y.commit : Int)) && ((x.round : Int) == (y.round : Int)) &&
    (x.ok == y.ok) && (x.force == y.force) && decide (x.ents = y.ents) && decide (x.snap = y.snap)) := by
  rw [Bool.eq_iff_iff]
  obtain ⟨a0, a1, a2, a3, a4, a5, a6, a7, a8, a9, a10, a11⟩ := x
  obtain ⟨b0, b1, b2, b3, b4, b5, b6, b7, b8, b9, b10, b11⟩ := y
  simp only [Wm.mk.injEq, decide_eq_true_eq, Bool.and_eq_true, beq_iff_eq, and_assoc]
  rw [show a3 = b3 ↔ (a3 : Int) = (b3 : Int) by omega, show a4 = b4 ↔ (a4 : Int) = (b4 : Int) by omega, show a5 = b5 ↔ (a5 : Int) = (b5 : Int) by omega, show a6 = b6 ↔ (a6 : Int) = (b6 : Int) by omega, show a7 = b7 ↔ (a7 : Int) = (b7 : Int) by omega]
set_option maxRecDepth 100000 in
set_option maxHeartbeats 8000000 in
theorem rmsame_walk (m m' : Wm) (E : Option Addr) (e : Nat) (A : Option Addr) (a : Nat) (B : Option Addr) (b : Nat) (E' : Option Addr) (e' : Nat) (A' : Option Addr) (a' : Nat) (B' : Option Addr) (b' : Nat) (w : World) (h : MR w m E e A a B b) (h' : MR w m' E' e' A' a' B' b') :
    Calls Try.prog 12 #[msgV m E e A a B b, msgV m' E' e' A' a' B' b'] w fun e w' => e = .returned (.bool (decide (m = m'))) ∧ Below w.heap.size w w' := by
  have hd := wm_eq_dec m m'
  have HSE := Lib.hid (fun w' (hb : Below w.heap.size w w') => rsame_walk E e m.ents E' e' m'.ents w' (Kd.C_below h.2.1 hb) (Kd.C_below h'.2.1 hb))
  have HSS := Lib.hid (fun w' (hb : Below w.heap.size w w') => rsnsame_walk m.snap m'.snap A a B b A' a' B' b' w' (h.2.2.below hb) (h'.2.2.below hb))
  clear h h'
  generalize decide (m = m') = v at *
  generalize decide (m.ents = m'.ents) = ve at *
  generalize decide (m.snap = m'.snap) = vs at *
  obtain ⟨k, f, d, t, i, lt, c, r, ok, fo, es, ⟨si, st, sm, sd⟩⟩ := m
  obtain ⟨k', f', d', t', i', lt', c', r', ok', fo', es', ⟨si', st', sm', sd'⟩⟩ := m'
  have hb2 := below_step (below_alloc (Below.refl _ w) (.cells #[.int .i64 k, .int .i64 f, .int .i64 d, .int .u64 t, .int .u64 i, .int .u64 lt, .int .u64 c, .int .u64 r, .bool ok, .bool fo, .slice E es.length e, .int .u64 si, .int .u64 st, .slice A sm.length a, .slice B sd.length b] 33)) (below_alloc (Below.refl _ _) (.cells #[.int .i64 k', .int .i64 f', .int .i64 d', .int .u64 t', .int .u64 i', .int .u64 lt', .int .u64 c', .int .u64 r', .bool ok', .bool fo', .slice E' es'.length e', .int .u64 si', .int .u64 st', .slice A' sm'.length a', .slice B' sd'.length b'] 33))
  have hx := blk_below (World.alloc_heap_new w (.cells #[.int .i64 k, .int .i64 f, .int .i64 d, .int .u64 t, .int .u64 i, .int .u64 lt, .int .u64 c, .int .u64 r, .bool ok, .bool fo, .slice E es.length e, .int .u64 si, .int .u64 st, .slice A sm.length a, .slice B sd.length b] 33)) (below_alloc (Below.refl _ _) (.cells #[.int .i64 k', .int .i64 f', .int .i64 d', .int .u64 t', .int .u64 i', .int .u64 lt', .int .u64 c', .int .u64 r', .bool ok', .bool fo', .slice E' es'.length e', .int .u64 si', .int .u64 st', .slice A' sm'.length a', .slice B' sd'.length b'] 33))
  have hy := World.alloc_heap_new (w.alloc (.cells #[.int .i64 k, .int .i64 f, .int .i64 d, .int .u64 t, .int .u64 i, .int .u64 lt, .int .u64 c, .int .u64 r, .bool ok, .bool fo, .slice E es.length e, .int .u64 si, .int .u64 st, .slice A sm.length a, .slice B sd.length b] 33)) (.cells #[.int .i64 k', .int .i64 f', .int .i64 d', .int .u64 t', .int .u64 i', .int .u64 lt', .int .u64 c', .int .u64 r', .bool ok', .bool fo', .slice E' es'.length e', .int .u64 si', .int .u64 st', .slice A' sm'.length a', .slice B' sd'.length b'] 33)
  rw [World.size_alloc] at hy
  obtain ⟨w2, hw2⟩ : ∃ w2, ((w.alloc (.cells #[.int .i64 k, .int .i64 f, .int .i64 d, .int .u64 t, .int .u64 i, .int .u64 lt, .int .u64 c, .int .u64 r, .bool ok, .bool fo, .slice E es.length e, .int .u64 si, .int .u64 st, .slice A sm.length a, .slice B sd.length b] 33)).alloc (.cells #[.int .i64 k', .int .i64 f', .int .i64 d', .int .u64 t', .int .u64 i', .int .u64 lt', .int .u64 c', .int .u64 r', .bool ok', .bool fo', .slice E' es'.length e', .int .u64 si', .int .u64 st', .slice A' sm'.length a', .slice B' sd'.length b'] 33)) = w2 := ⟨_, rfl⟩
  rw [hw2] at hb2 hx hy
  obtain ⟨g1, hg1⟩ : ∃ g1, w.heap.size + 1 = g1 := ⟨_, rfl⟩
  obtain ⟨g0, hg0⟩ : ∃ g0, w.heap.size = g0 := ⟨_, rfl⟩
  rw [hg1] at hy
  rw [hg0] at hx
  have HW2 := Lib.hid hw2
  have HG1 := Lib.hid hg1
  have HG0 := Lib.hid hg0
  have HB2 := Lib.hid hb2
  have HX := Lib.hid hx
  have HY := Lib.hid hy
  clear hw2 hb2 hx hy hg1 hg0
  dsimp only at *
  have HV := Lib.hid hd
  clear hd
  cases q0 : (k == k') with
  | false =>
    have HNV := Lib.hid (show v = false by rw [HV.out, q0]; simp)
    go_enter Try.func12, Try.ntmps12
    simp only [List.append_eq, List.cons_append, List.nil_append]
    go_upto_region 1 with (fail)
    rw [HW2.out, HG1.out, HG0.out]
    obtain ⟨b0, b1, b2, b3, b4, b5, b6, b7, b8, b9, b10, b11, b12, b13, b14⟩ := blk15 HX.out
    obtain ⟨c0, c1, c2, c3, c4, c5, c6, c7, c8, c9, c10, c11, c12, c13, c14⟩ := blk15 HY.out
    go_wp2
    go_ret
    exact ⟨by rw [HNV.out]; rfl, HB2.out⟩
  | true =>
  cases q1 : (f == f') with
  | false =>
    have HNV := Lib.hid (show v = false by rw [HV.out, q1]; simp)
    go_enter Try.func12, Try.ntmps12
    simp only [List.append_eq, List.cons_append, List.nil_append]
    go_upto_region 1 with (fail)
    rw [HW2.out, HG1.out, HG0.out]
    obtain ⟨b0, b1, b2, b3, b4, b5, b6, b7, b8, b9, b10, b11, b12, b13, b14⟩ := blk15 HX.out
    obtain ⟨c0, c1, c2, c3, c4, c5, c6, c7, c8, c9, c10, c11, c12, c13, c14⟩ := blk15 HY.out
    go_wp2
    go_ret
    exact ⟨by rw [HNV.out]; rfl, HB2.out⟩
  | true =>
  cases q2 : (d == d') with
  | false =>
    have HNV := Lib.hid (show v = false by rw [HV.out, q2]; simp)
    go_enter Try.func12, Try.ntmps12
    simp only [List.append_eq, List.cons_append, List.nil_append]
    go_upto_region 1 with (fail)
    rw [HW2.out, HG1.out, HG0.out]
    obtain ⟨b0, b1, b2, b3, b4, b5, b6, b7, b8, b9, b10, b11, b12, b13, b14⟩ := blk15 HX.out
    obtain ⟨c0, c1, c2, c3, c4, c5, c6, c7, c8, c9, c10, c11, c12, c13, c14⟩ := blk15 HY.out
    go_wp2
    go_ret
    exact ⟨by rw [HNV.out]; rfl, HB2.out⟩
  | true =>
  cases q3 : ((t : Int) == (t' : Int)) with
  | false =>
    have HNV := Lib.hid (show v = false by rw [HV.out, q3]; simp)
    go_enter Try.func12, Try.ntmps12
    simp only [List.append_eq, List.cons_append, List.nil_append]
    go_upto_region 1 with (fail)
    rw [HW2.out, HG1.out, HG0.out]
    obtain ⟨b0, b1, b2, b3, b4, b5, b6, b7, b8, b9, b10, b11, b12, b13, b14⟩ := blk15 HX.out
    obtain ⟨c0, c1, c2, c3, c4, c5, c6, c7, c8, c9, c10, c11, c12, c13, c14⟩ := blk15 HY.out
    go_wp2
    go_ret
    exact ⟨by rw [HNV.out]; rfl, HB2.out⟩
  | true =>
  cases q4 : ((i : Int) == (i' : Int)) with
  | false =>
    have HNV := Lib.hid (show v = false by rw [HV.out, q4]; simp)
    go_enter Try.func12, Try.ntmps12
    simp only [List.append_eq, List.cons_append, List.nil_append]
    go_upto_region 1 with (fail)
    rw [HW2.out, HG1.out, HG0.out]
    obtain ⟨b0, b1, b2, b3, b4, b5, b6, b7, b8, b9, b10, b11, b12, b13, b14⟩ := blk15 HX.out
    obtain ⟨c0, c1, c2, c3, c4, c5, c6, c7, c8, c9, c10, c11, c12, c13, c14⟩ := blk15 HY.out
    go_wp2
    go_ret
    exact ⟨by rw [HNV.out]; rfl, HB2.out⟩
  | true =>
  cases q5 : ((lt : Int) == (lt' : Int)) with
  | false =>
    have HNV := Lib.hid (show v = false by rw [HV.out, q5]; simp)
    go_enter Try.func12, Try.ntmps12
    simp only [List.append_eq, List.cons_append, List.nil_append]
    go_upto_region 1 with (fail)
    rw [HW2.out, HG1.out, HG0.out]
    obtain ⟨b0, b1, b2, b3, b4, b5, b6, b7, b8, b9, b10, b11, b12, b13, b14⟩ := blk15 HX.out
    obtain ⟨c0, c1, c2, c3, c4, c5, c6, c7, c8, c9, c10, c11, c12, c13, c14⟩ := blk15 HY.out
    go_wp2
    go_ret
    exact ⟨by rw [HNV.out]; rfl, HB2.out⟩
  | true =>
  cases q6 : ((c : Int) == (c' : Int)) with
  | false =>
    have HNV := Lib.hid (show v = false by rw [HV.out, q6]; simp)
    go_enter Try.func12, Try.ntmps12
    simp only [List.append_eq, List.cons_append, List.nil_append]
    go_upto_region 1 with (fail)
    rw [HW2.out, HG1.out, HG0.out]
    obtain ⟨b0, b1, b2, b3, b4, b5, b6, b7, b8, b9, b10, b11, b12, b13, b14⟩ := blk15 HX.out
    obtain ⟨c0, c1, c2, c3, c4, c5, c6, c7, c8, c9, c10, c11, c12, c13, c14⟩ := blk15 HY.out
    go_wp2
    go_ret
    exact ⟨by rw [HNV.out]; rfl, HB2.out⟩
  | true =>
  cases q7 : ((r : Int) == (r' : Int)) with
  | false =>
    have HNV := Lib.hid (show v = false by rw [HV.out, q7]; simp)
    go_enter Try.func12, Try.ntmps12
    simp only [List.append_eq, List.cons_append, List.nil_append]
    go_upto_region 1 with (fail)
    rw [HW2.out, HG1.out, HG0.out]
    obtain ⟨b0, b1, b2, b3, b4, b5, b6, b7, b8, b9, b10, b11, b12, b13, b14⟩ := blk15 HX.out
    obtain ⟨c0, c1, c2, c3, c4, c5, c6, c7, c8, c9, c10, c11, c12, c13, c14⟩ := blk15 HY.out
    go_wp2
    go_ret
    exact ⟨by rw [HNV.out]; rfl, HB2.out⟩
  | true =>
  cases q8 : (ok == ok') with
  | false =>
    have HNV := Lib.hid (show v = false by rw [HV.out, q8]; simp)
    go_enter Try.func12, Try.ntmps12
    simp only [List.append_eq, List.cons_append, List.nil_append]
    go_upto_region 1 with (fail)
    rw [HW2.out, HG1.out, HG0.out]
    obtain ⟨b0, b1, b2, b3, b4, b5, b6, b7, b8, b9, b10, b11, b12, b13, b14⟩ := blk15 HX.out
    obtain ⟨c0, c1, c2, c3, c4, c5, c6, c7, c8, c9, c10, c11, c12, c13, c14⟩ := blk15 HY.out
    go_wp2
    go_ret
    exact ⟨by rw [HNV.out]; rfl, HB2.out⟩
  | true =>
  cases q9 : (fo == fo') with
  | false =>
    have HNV := Lib.hid (show v = false by rw [HV.out, q9]; simp)
    go_enter Try.func12, Try.ntmps12
    simp only [List.append_eq, List.cons_append, List.nil_append]
    go_upto_region 1 with (fail)
    rw [HW2.out, HG1.out, HG0.out]
    obtain ⟨b0, b1, b2, b3, b4, b5, b6, b7, b8, b9, b10, b11, b12, b13, b14⟩ := blk15 HX.out
    obtain ⟨c0, c1, c2, c3, c4, c5, c6, c7, c8, c9, c10, c11, c12, c13, c14⟩ := blk15 HY.out
    go_wp2
    go_ret
    exact ⟨by rw [HNV.out]; rfl, HB2.out⟩
  | true =>
  have HNV := Lib.hid (show v = (ve && vs) by rw [HV.out, q0, q1, q2, q3, q4, q5, q6, q7, q8, q9]; simp only [Bool.true_and])
  cases he : ve with
  | false =>
    have HE := Lib.hid he
    have HN2 := Lib.hid (show v = false by rw [HNV.out, he]; rfl)
    clear he
    go_enter Try.func12, Try.ntmps12
    simp only [List.append_eq, List.cons_append, List.nil_append]
    go_upto_region 1 with (fail)
    rw [HW2.out, HG1.out, HG0.out]
    obtain ⟨b0, b1, b2, b3, b4, b5, b6, b7, b8, b9, b10, b11, b12, b13, b14⟩ := blk15 HX.out
    obtain ⟨c0, c1, c2, c3, c4, c5, c6, c7, c8, c9, c10, c11, c12, c13, c14⟩ := blk15 HY.out
    go_wp2_with fail
    refine (HSE.out _ HB2.out).mono ?_
    rw [HE.out]
    rintro e1 w3 ⟨rfl, hb3⟩
    have HB3 := Lib.hid (below_step HB2.out hb3)
    clear hb3
    go_wp2
    go_ret
    exact ⟨by rw [HN2.out]; rfl, HB3.out⟩
  | true =>
    have HE := Lib.hid he
    have HN2 := Lib.hid (show v = vs by rw [HNV.out, he]; rfl)
    clear he
    go_enter Try.func12, Try.ntmps12
    simp only [List.append_eq, List.cons_append, List.nil_append]
    go_upto_region 1 with (fail)
    rw [HW2.out, HG1.out, HG0.out]
    obtain ⟨b0, b1, b2, b3, b4, b5, b6, b7, b8, b9, b10, b11, b12, b13, b14⟩ := blk15 HX.out
    obtain ⟨c0, c1, c2, c3, c4, c5, c6, c7, c8, c9, c10, c11, c12, c13, c14⟩ := blk15 HY.out
    go_wp2_with fail
    refine (HSE.out _ HB2.out).mono ?_
    rw [HE.out]
    rintro e1 w3 ⟨rfl, hb3⟩
    have HB3 := Lib.hid (below_step HB2.out hb3)
    clear b0 b1 b2 b3 b4 b5 b6 b7 b8 b9 b10 b11 b12 b13 b14 c0 c1 c2 c3 c4 c5 c6 c7 c8 c9 c10 c11 c12 c13 c14
    obtain ⟨b0, b1, b2, b3, b4, b5, b6, b7, b8, b9, b10, b11, b12, b13, b14⟩ := blk15 (blk_below HX.out hb3)
    obtain ⟨c0, c1, c2, c3, c4, c5, c6, c7, c8, c9, c10, c11, c12, c13, c14⟩ := blk15 (blk_below HY.out hb3)
    clear hb3
    go_wp2_with fail
    refine (HSS.out _ HB3.out).mono ?_
    rintro e1 w4 ⟨rfl, hb4⟩
    have HB4 := Lib.hid (below_step HB3.out hb4)
    clear hb4
    go_wp2
    go_ret
    exact ⟨by rw [HN2.out]; rfl, HB4.out⟩
end Go.Proofs.Ytoccidpocagkjaa
