/- wire: spare, the other kinds. -/
import Derived.Test.YtoccidpocagkjaaSwe
import Derived.Deep.DeepCutAuto
set_option linter.unusedVariables false
set_option linter.unusedSimpArgs false
namespace Go.Proofs.Ytoccidpocagkjaa
open Go.RowKit Go.Proofs.YtoccidpocagkjaaW.PrintWords Cf
attribute [local go_sem] str_beq str_bne

set_option maxRecDepth 100000 in
set_option maxHeartbeats 4000000 in
theorem spare_5 (m : Wm) (E : Option Addr) (e : Nat) (A : Option Addr) (a : Nat) (B : Option Addr) (b : Nat) (w : World) (h : MR w m E e A a B b) (hk : m.kind = 5) :
    Calls Try.prog 20 #[msgV m E e A a B b] w fun e w' => e = .returned (.bool (spareB m)) ∧ Below w.heap.size w w' := by
  have hmx := Kd.C_max h.2.1
  obtain ⟨k, f, d, t, i, lt, c, r, ok, fo, es, ⟨si, st, sm, sd⟩⟩ := m
  have hB1 := below_alloc (Below.refl _ w) (.cells #[.int .i64 k, .int .i64 f, .int .i64 d, .int .u64 t, .int .u64 i, .int .u64 lt, .int .u64 c, .int .u64 r, .bool ok, .bool fo, .slice E es.length e, .int .u64 si, .int .u64 st, .slice A sm.length a, .slice B sd.length b] 29)
  have HB1 := Lib.hid hB1
  have HK := Lib.hid (World.alloc_heap_new w (.cells #[.int .i64 k, .int .i64 f, .int .i64 d, .int .u64 t, .int .u64 i, .int .u64 lt, .int .u64 c, .int .u64 r, .bool ok, .bool fo, .slice E es.length e, .int .u64 si, .int .u64 st, .slice A sm.length a, .slice B sd.length b] 29))
  have HM := Lib.hid (h.below hB1)
  have HM0 := Lib.hid h
  clear h hB1
  dsimp only at *
  subst hk
  have hb2 := below_step HB1.out (below_alloc (Below.refl _ _) (.cells #[.bool false, .bool false, .bool false, .bool false, .bool false, .bool false, .bool false] 88))
  have hx := blk_below HK.out (below_alloc (Below.refl _ _) (.cells #[.bool false, .bool false, .bool false, .bool false, .bool false, .bool false, .bool false] 88))
  have hy := World.alloc_heap_new (w.alloc (.cells #[.int .i64 5, .int .i64 f, .int .i64 d, .int .u64 t, .int .u64 i, .int .u64 lt, .int .u64 c, .int .u64 r, .bool ok, .bool fo, .slice E es.length e, .int .u64 si, .int .u64 st, .slice A sm.length a, .slice B sd.length b] 29)) (.cells #[.bool false, .bool false, .bool false, .bool false, .bool false, .bool false, .bool false] 88)
  rw [World.size_alloc] at hy
  obtain ⟨w2, hw2⟩ : ∃ w2, ((w.alloc (.cells #[.int .i64 5, .int .i64 f, .int .i64 d, .int .u64 t, .int .u64 i, .int .u64 lt, .int .u64 c, .int .u64 r, .bool ok, .bool fo, .slice E es.length e, .int .u64 si, .int .u64 st, .slice A sm.length a, .slice B sd.length b] 29)).alloc (.cells #[.bool false, .bool false, .bool false, .bool false, .bool false, .bool false, .bool false] 88)) = w2 := ⟨_, rfl⟩
  rw [hw2] at hb2 hx hy
  obtain ⟨g1, hg1⟩ : ∃ g1, w.heap.size + 1 = g1 := ⟨_, rfl⟩
  obtain ⟨g0, hg0⟩ : ∃ g0, w.heap.size = g0 := ⟨_, rfl⟩
  rw [hg1] at hy
  rw [hg0] at hx
  have hne : g1 ≠ g0 := by omega
  have hle : w.heap.size ≤ g1 := by omega
  have HW2 := Lib.hid hw2
  have HG1 := Lib.hid hg1
  have HG0 := Lib.hid hg0
  have HB2 := Lib.hid hb2
  have HX := Lib.hid hx
  have HY := Lib.hid hy
  clear hw2 hb2 hx hy HK HB1 HM hg1 hg0
  cases ok with
  | true =>
    have HN := Lib.hid (show spareB ⟨5, f, d, t, i, lt, c, r, true, fo, es, ⟨si, st, sm, sd⟩⟩ = false by simp [spareB, hasIndex, hasPlace, hasRound, hasOk])
    go_enter Try.func20, Try.ntmps20
    simp only [List.append_eq, List.cons_append, List.nil_append]
    go_upto_region 3 with (fail)
    rw [HW2.out, HG1.out, HG0.out]
    obtain ⟨b0, b1, b2, b3, b4, b5, b6, b7, b8, b9, b10, b11, b12, b13, b14⟩ := blk15 HX.out
    obtain ⟨⟨c0, c1, c2, c3, c4, c5, c6⟩, f0, f1, f2, f3, f4, f5, f6⟩ := blk7 HY.out
    go_wp2
    go_ret
    exact ⟨by rw [HN.out]; rfl, by ((repeat (refine bset ?_ hle)); exact HB2.out)⟩
  | false =>
  cases fo with
  | true =>
    have HN := Lib.hid (show spareB ⟨5, f, d, t, i, lt, c, r, false, true, es, ⟨si, st, sm, sd⟩⟩ = false by simp [spareB, hasIndex, hasPlace, hasRound, hasOk])
    go_enter Try.func20, Try.ntmps20
    simp only [List.append_eq, List.cons_append, List.nil_append]
    go_upto_region 3 with (fail)
    rw [HW2.out, HG1.out, HG0.out]
    obtain ⟨b0, b1, b2, b3, b4, b5, b6, b7, b8, b9, b10, b11, b12, b13, b14⟩ := blk15 HX.out
    obtain ⟨⟨c0, c1, c2, c3, c4, c5, c6⟩, f0, f1, f2, f3, f4, f5, f6⟩ := blk7 HY.out
    go_wp2
    go_ret
    exact ⟨by rw [HN.out]; rfl, by ((repeat (refine bset ?_ hle)); exact HB2.out)⟩
  | false =>
  have HN := Lib.hid (show spareB ⟨5, f, d, t, i, lt, c, r, false, false, es, ⟨si, st, sm, sd⟩⟩ = decide ((⟨si, st, sm, sd⟩ : Sn) = sn0) by simp only [spareB]; simp [spareB, hasIndex, hasPlace, hasRound, hasOk])
  have HS := Lib.hid (fun w' hb => snsame_walk ⟨si, st, sm, sd⟩ sn0 A a B b none 0 none 0 w' (SR.below HM0.out.2.2 hb) (SR.zero _))
  go_enter Try.func20, Try.ntmps20
  simp only [List.append_eq, List.cons_append, List.nil_append]
  go_upto_region 3 with (fail)
  rw [HW2.out, HG1.out, HG0.out]
  obtain ⟨b0, b1, b2, b3, b4, b5, b6, b7, b8, b9, b10, b11, b12, b13, b14⟩ := blk15 HX.out
  obtain ⟨⟨c0, c1, c2, c3, c4, c5, c6⟩, f0, f1, f2, f3, f4, f5, f6⟩ := blk7 HY.out
  go_wp2_with fail
  refine (HS.out _ ?_).mono ?_
  · repeat (refine bset ?_ hle)
    exact HB2.out
  rintro e w3 ⟨rfl, hb3⟩
  have HB3 := Lib.hid hb3
  clear hb3
  go_wp2
  go_ret
  refine ⟨by rw [HN.out]; rfl, below_step ?_ HB3.out⟩
  repeat (refine bset ?_ hle)
  exact HB2.out
set_option maxRecDepth 100000 in
set_option maxHeartbeats 4000000 in
theorem spare_6 (m : Wm) (E : Option Addr) (e : Nat) (A : Option Addr) (a : Nat) (B : Option Addr) (b : Nat) (w : World) (h : MR w m E e A a B b) (hk : m.kind = 6) :
    Calls Try.prog 20 #[msgV m E e A a B b] w fun e w' => e = .returned (.bool (spareB m)) ∧ Below w.heap.size w w' := by
  have hmx := Kd.C_max h.2.1
  obtain ⟨k, f, d, t, i, lt, c, r, ok, fo, es, ⟨si, st, sm, sd⟩⟩ := m
  have hB1 := below_alloc (Below.refl _ w) (.cells #[.int .i64 k, .int .i64 f, .int .i64 d, .int .u64 t, .int .u64 i, .int .u64 lt, .int .u64 c, .int .u64 r, .bool ok, .bool fo, .slice E es.length e, .int .u64 si, .int .u64 st, .slice A sm.length a, .slice B sd.length b] 29)
  have HB1 := Lib.hid hB1
  have HK := Lib.hid (World.alloc_heap_new w (.cells #[.int .i64 k, .int .i64 f, .int .i64 d, .int .u64 t, .int .u64 i, .int .u64 lt, .int .u64 c, .int .u64 r, .bool ok, .bool fo, .slice E es.length e, .int .u64 si, .int .u64 st, .slice A sm.length a, .slice B sd.length b] 29))
  have HM := Lib.hid (h.below hB1)
  have HM0 := Lib.hid h
  clear h hB1
  dsimp only at *
  subst hk
  have hb2 := below_step HB1.out (below_alloc (Below.refl _ _) (.cells #[.bool false, .bool false, .bool false, .bool false, .bool false, .bool false, .bool false] 88))
  have hx := blk_below HK.out (below_alloc (Below.refl _ _) (.cells #[.bool false, .bool false, .bool false, .bool false, .bool false, .bool false, .bool false] 88))
  have hy := World.alloc_heap_new (w.alloc (.cells #[.int .i64 6, .int .i64 f, .int .i64 d, .int .u64 t, .int .u64 i, .int .u64 lt, .int .u64 c, .int .u64 r, .bool ok, .bool fo, .slice E es.length e, .int .u64 si, .int .u64 st, .slice A sm.length a, .slice B sd.length b] 29)) (.cells #[.bool false, .bool false, .bool false, .bool false, .bool false, .bool false, .bool false] 88)
  rw [World.size_alloc] at hy
  obtain ⟨w2, hw2⟩ : ∃ w2, ((w.alloc (.cells #[.int .i64 6, .int .i64 f, .int .i64 d, .int .u64 t, .int .u64 i, .int .u64 lt, .int .u64 c, .int .u64 r, .bool ok, .bool fo, .slice E es.length e, .int .u64 si, .int .u64 st, .slice A sm.length a, .slice B sd.length b] 29)).alloc (.cells #[.bool false, .bool false, .bool false, .bool false, .bool false, .bool false, .bool false] 88)) = w2 := ⟨_, rfl⟩
  rw [hw2] at hb2 hx hy
  obtain ⟨g1, hg1⟩ : ∃ g1, w.heap.size + 1 = g1 := ⟨_, rfl⟩
  obtain ⟨g0, hg0⟩ : ∃ g0, w.heap.size = g0 := ⟨_, rfl⟩
  rw [hg1] at hy
  rw [hg0] at hx
  have hne : g1 ≠ g0 := by omega
  have hle : w.heap.size ≤ g1 := by omega
  have HW2 := Lib.hid hw2
  have HG1 := Lib.hid hg1
  have HG0 := Lib.hid hg0
  have HB2 := Lib.hid hb2
  have HX := Lib.hid hx
  have HY := Lib.hid hy
  clear hw2 hb2 hx hy HK HB1 HM hg1 hg0
  by_cases g_place : lt = 0
  rotate_left
  · have HN := Lib.hid (show spareB ⟨6, f, d, t, i, lt, c, r, ok, fo, es, ⟨si, st, sm, sd⟩⟩ = false by simp [spareB, hasIndex, hasPlace, hasRound, hasOk, g_place])
    have e_place : ((lt : Int) == 0) = false := by rw [beq_eq_false_iff_ne]; omega
    clear g_place
    go_enter Try.func20, Try.ntmps20
    simp only [List.append_eq, List.cons_append, List.nil_append]
    go_upto_region 3 with (fail)
    rw [HW2.out, HG1.out, HG0.out]
    obtain ⟨b0, b1, b2, b3, b4, b5, b6, b7, b8, b9, b10, b11, b12, b13, b14⟩ := blk15 HX.out
    obtain ⟨⟨c0, c1, c2, c3, c4, c5, c6⟩, f0, f1, f2, f3, f4, f5, f6⟩ := blk7 HY.out
    go_wp2
    go_ret
    exact ⟨by rw [HN.out]; rfl, by ((repeat (refine bset ?_ hle)); exact HB2.out)⟩
  have e_place : ((lt : Int) == 0) = true := by rw [beq_iff_eq]; omega
  by_cases g_commit : c = 0
  rotate_left
  · have HN := Lib.hid (show spareB ⟨6, f, d, t, i, lt, c, r, ok, fo, es, ⟨si, st, sm, sd⟩⟩ = false by simp [spareB, hasIndex, hasPlace, hasRound, hasOk, g_commit])
    have e_commit : ((c : Int) == 0) = false := by rw [beq_eq_false_iff_ne]; omega
    clear g_place g_commit
    go_enter Try.func20, Try.ntmps20
    simp only [List.append_eq, List.cons_append, List.nil_append]
    go_upto_region 3 with (fail)
    rw [HW2.out, HG1.out, HG0.out]
    obtain ⟨b0, b1, b2, b3, b4, b5, b6, b7, b8, b9, b10, b11, b12, b13, b14⟩ := blk15 HX.out
    obtain ⟨⟨c0, c1, c2, c3, c4, c5, c6⟩, f0, f1, f2, f3, f4, f5, f6⟩ := blk7 HY.out
    go_wp2
    go_ret
    exact ⟨by rw [HN.out]; rfl, by ((repeat (refine bset ?_ hle)); exact HB2.out)⟩
  have e_commit : ((c : Int) == 0) = true := by rw [beq_iff_eq]; omega
  cases fo with
  | true =>
    have HN := Lib.hid (show spareB ⟨6, f, d, t, i, lt, c, r, ok, true, es, ⟨si, st, sm, sd⟩⟩ = false by simp [spareB, hasIndex, hasPlace, hasRound, hasOk])
    clear g_place g_commit
    go_enter Try.func20, Try.ntmps20
    simp only [List.append_eq, List.cons_append, List.nil_append]
    go_upto_region 3 with (fail)
    rw [HW2.out, HG1.out, HG0.out]
    obtain ⟨b0, b1, b2, b3, b4, b5, b6, b7, b8, b9, b10, b11, b12, b13, b14⟩ := blk15 HX.out
    obtain ⟨⟨c0, c1, c2, c3, c4, c5, c6⟩, f0, f1, f2, f3, f4, f5, f6⟩ := blk7 HY.out
    go_wp2
    go_ret
    exact ⟨by rw [HN.out]; rfl, by ((repeat (refine bset ?_ hle)); exact HB2.out)⟩
  | false =>
  by_cases g_ents : es.length = 0
  rotate_left
  · have HN := Lib.hid (show spareB ⟨6, f, d, t, i, lt, c, r, ok, false, es, ⟨si, st, sm, sd⟩⟩ = false by simp only [spareB]; rw [show (es.length == 0) = false by rw [beq_eq_false_iff_ne]; exact g_ents]; simp)
    have e_ents : ((es.length : Int) == 0) = false := by rw [beq_eq_false_iff_ne]; omega
    clear g_place g_commit g_ents
    go_enter Try.func20, Try.ntmps20
    simp only [List.append_eq, List.cons_append, List.nil_append]
    go_upto_region 3 with (fail)
    rw [HW2.out, HG1.out, HG0.out]
    obtain ⟨b0, b1, b2, b3, b4, b5, b6, b7, b8, b9, b10, b11, b12, b13, b14⟩ := blk15 HX.out
    obtain ⟨⟨c0, c1, c2, c3, c4, c5, c6⟩, f0, f1, f2, f3, f4, f5, f6⟩ := blk7 HY.out
    go_wp2
    go_ret
    exact ⟨by rw [HN.out]; rfl, by ((repeat (refine bset ?_ hle)); exact HB2.out)⟩
  have e_ents : ((es.length : Int) == 0) = true := by rw [beq_iff_eq]; omega
  have HN := Lib.hid (show spareB ⟨6, f, d, t, i, lt, c, r, ok, false, es, ⟨si, st, sm, sd⟩⟩ = decide ((⟨si, st, sm, sd⟩ : Sn) = sn0) by simp only [spareB]; rw [show (es.length == 0) = true by rw [beq_iff_eq]; exact g_ents]; simp [spareB, hasIndex, hasPlace, hasRound, hasOk, g_place, g_commit])
  have HS := Lib.hid (fun w' hb => snsame_walk ⟨si, st, sm, sd⟩ sn0 A a B b none 0 none 0 w' (SR.below HM0.out.2.2 hb) (SR.zero _))
  clear g_place g_commit g_ents
  go_enter Try.func20, Try.ntmps20
  simp only [List.append_eq, List.cons_append, List.nil_append]
  go_upto_region 3 with (fail)
  rw [HW2.out, HG1.out, HG0.out]
  obtain ⟨b0, b1, b2, b3, b4, b5, b6, b7, b8, b9, b10, b11, b12, b13, b14⟩ := blk15 HX.out
  obtain ⟨⟨c0, c1, c2, c3, c4, c5, c6⟩, f0, f1, f2, f3, f4, f5, f6⟩ := blk7 HY.out
  go_wp2_with fail
  refine (HS.out _ ?_).mono ?_
  · repeat (refine bset ?_ hle)
    exact HB2.out
  rintro e w3 ⟨rfl, hb3⟩
  have HB3 := Lib.hid hb3
  clear hb3
  go_wp2
  go_ret
  refine ⟨by rw [HN.out]; rfl, below_step ?_ HB3.out⟩
  repeat (refine bset ?_ hle)
  exact HB2.out
set_option maxRecDepth 100000 in
set_option maxHeartbeats 4000000 in
theorem spare_7 (m : Wm) (E : Option Addr) (e : Nat) (A : Option Addr) (a : Nat) (B : Option Addr) (b : Nat) (w : World) (h : MR w m E e A a B b) (hk : m.kind = 7) :
    Calls Try.prog 20 #[msgV m E e A a B b] w fun e w' => e = .returned (.bool (spareB m)) ∧ Below w.heap.size w w' := by
  have hmx := Kd.C_max h.2.1
  obtain ⟨k, f, d, t, i, lt, c, r, ok, fo, es, ⟨si, st, sm, sd⟩⟩ := m
  have hB1 := below_alloc (Below.refl _ w) (.cells #[.int .i64 k, .int .i64 f, .int .i64 d, .int .u64 t, .int .u64 i, .int .u64 lt, .int .u64 c, .int .u64 r, .bool ok, .bool fo, .slice E es.length e, .int .u64 si, .int .u64 st, .slice A sm.length a, .slice B sd.length b] 29)
  have HB1 := Lib.hid hB1
  have HK := Lib.hid (World.alloc_heap_new w (.cells #[.int .i64 k, .int .i64 f, .int .i64 d, .int .u64 t, .int .u64 i, .int .u64 lt, .int .u64 c, .int .u64 r, .bool ok, .bool fo, .slice E es.length e, .int .u64 si, .int .u64 st, .slice A sm.length a, .slice B sd.length b] 29))
  have HM := Lib.hid (h.below hB1)
  have HM0 := Lib.hid h
  clear h hB1
  dsimp only at *
  subst hk
  have hb2 := below_step HB1.out (below_alloc (Below.refl _ _) (.cells #[.bool false, .bool false, .bool false, .bool false, .bool false, .bool false, .bool false] 88))
  have hx := blk_below HK.out (below_alloc (Below.refl _ _) (.cells #[.bool false, .bool false, .bool false, .bool false, .bool false, .bool false, .bool false] 88))
  have hy := World.alloc_heap_new (w.alloc (.cells #[.int .i64 7, .int .i64 f, .int .i64 d, .int .u64 t, .int .u64 i, .int .u64 lt, .int .u64 c, .int .u64 r, .bool ok, .bool fo, .slice E es.length e, .int .u64 si, .int .u64 st, .slice A sm.length a, .slice B sd.length b] 29)) (.cells #[.bool false, .bool false, .bool false, .bool false, .bool false, .bool false, .bool false] 88)
  rw [World.size_alloc] at hy
  obtain ⟨w2, hw2⟩ : ∃ w2, ((w.alloc (.cells #[.int .i64 7, .int .i64 f, .int .i64 d, .int .u64 t, .int .u64 i, .int .u64 lt, .int .u64 c, .int .u64 r, .bool ok, .bool fo, .slice E es.length e, .int .u64 si, .int .u64 st, .slice A sm.length a, .slice B sd.length b] 29)).alloc (.cells #[.bool false, .bool false, .bool false, .bool false, .bool false, .bool false, .bool false] 88)) = w2 := ⟨_, rfl⟩
  rw [hw2] at hb2 hx hy
  obtain ⟨g1, hg1⟩ : ∃ g1, w.heap.size + 1 = g1 := ⟨_, rfl⟩
  obtain ⟨g0, hg0⟩ : ∃ g0, w.heap.size = g0 := ⟨_, rfl⟩
  rw [hg1] at hy
  rw [hg0] at hx
  have hne : g1 ≠ g0 := by omega
  have hle : w.heap.size ≤ g1 := by omega
  have HW2 := Lib.hid hw2
  have HG1 := Lib.hid hg1
  have HG0 := Lib.hid hg0
  have HB2 := Lib.hid hb2
  have HX := Lib.hid hx
  have HY := Lib.hid hy
  clear hw2 hb2 hx hy HK HB1 HM hg1 hg0
  by_cases g_index : i = 0
  rotate_left
  · have HN := Lib.hid (show spareB ⟨7, f, d, t, i, lt, c, r, ok, fo, es, ⟨si, st, sm, sd⟩⟩ = false by simp [spareB, hasIndex, hasPlace, hasRound, hasOk, g_index])
    have e_index : ((i : Int) == 0) = false := by rw [beq_eq_false_iff_ne]; omega
    clear g_index
    go_enter Try.func20, Try.ntmps20
    simp only [List.append_eq, List.cons_append, List.nil_append]
    go_upto_region 3 with (fail)
    rw [HW2.out, HG1.out, HG0.out]
    obtain ⟨b0, b1, b2, b3, b4, b5, b6, b7, b8, b9, b10, b11, b12, b13, b14⟩ := blk15 HX.out
    obtain ⟨⟨c0, c1, c2, c3, c4, c5, c6⟩, f0, f1, f2, f3, f4, f5, f6⟩ := blk7 HY.out
    go_wp2
    go_ret
    exact ⟨by rw [HN.out]; rfl, by ((repeat (refine bset ?_ hle)); exact HB2.out)⟩
  have e_index : ((i : Int) == 0) = true := by rw [beq_iff_eq]; omega
  by_cases g_place : lt = 0
  rotate_left
  · have HN := Lib.hid (show spareB ⟨7, f, d, t, i, lt, c, r, ok, fo, es, ⟨si, st, sm, sd⟩⟩ = false by simp [spareB, hasIndex, hasPlace, hasRound, hasOk, g_place])
    have e_place : ((lt : Int) == 0) = false := by rw [beq_eq_false_iff_ne]; omega
    clear g_index g_place
    go_enter Try.func20, Try.ntmps20
    simp only [List.append_eq, List.cons_append, List.nil_append]
    go_upto_region 3 with (fail)
    rw [HW2.out, HG1.out, HG0.out]
    obtain ⟨b0, b1, b2, b3, b4, b5, b6, b7, b8, b9, b10, b11, b12, b13, b14⟩ := blk15 HX.out
    obtain ⟨⟨c0, c1, c2, c3, c4, c5, c6⟩, f0, f1, f2, f3, f4, f5, f6⟩ := blk7 HY.out
    go_wp2
    go_ret
    exact ⟨by rw [HN.out]; rfl, by ((repeat (refine bset ?_ hle)); exact HB2.out)⟩
  have e_place : ((lt : Int) == 0) = true := by rw [beq_iff_eq]; omega
  by_cases g_commit : c = 0
  rotate_left
  · have HN := Lib.hid (show spareB ⟨7, f, d, t, i, lt, c, r, ok, fo, es, ⟨si, st, sm, sd⟩⟩ = false by simp [spareB, hasIndex, hasPlace, hasRound, hasOk, g_commit])
    have e_commit : ((c : Int) == 0) = false := by rw [beq_eq_false_iff_ne]; omega
    clear g_index g_place g_commit
    go_enter Try.func20, Try.ntmps20
    simp only [List.append_eq, List.cons_append, List.nil_append]
    go_upto_region 3 with (fail)
    rw [HW2.out, HG1.out, HG0.out]
    obtain ⟨b0, b1, b2, b3, b4, b5, b6, b7, b8, b9, b10, b11, b12, b13, b14⟩ := blk15 HX.out
    obtain ⟨⟨c0, c1, c2, c3, c4, c5, c6⟩, f0, f1, f2, f3, f4, f5, f6⟩ := blk7 HY.out
    go_wp2
    go_ret
    exact ⟨by rw [HN.out]; rfl, by ((repeat (refine bset ?_ hle)); exact HB2.out)⟩
  have e_commit : ((c : Int) == 0) = true := by rw [beq_iff_eq]; omega
  cases ok with
  | true =>
    have HN := Lib.hid (show spareB ⟨7, f, d, t, i, lt, c, r, true, fo, es, ⟨si, st, sm, sd⟩⟩ = false by simp [spareB, hasIndex, hasPlace, hasRound, hasOk])
    clear g_index g_place g_commit
    go_enter Try.func20, Try.ntmps20
    simp only [List.append_eq, List.cons_append, List.nil_append]
    go_upto_region 3 with (fail)
    rw [HW2.out, HG1.out, HG0.out]
    obtain ⟨b0, b1, b2, b3, b4, b5, b6, b7, b8, b9, b10, b11, b12, b13, b14⟩ := blk15 HX.out
    obtain ⟨⟨c0, c1, c2, c3, c4, c5, c6⟩, f0, f1, f2, f3, f4, f5, f6⟩ := blk7 HY.out
    go_wp2
    go_ret
    exact ⟨by rw [HN.out]; rfl, by ((repeat (refine bset ?_ hle)); exact HB2.out)⟩
  | false =>
  cases fo with
  | true =>
    have HN := Lib.hid (show spareB ⟨7, f, d, t, i, lt, c, r, false, true, es, ⟨si, st, sm, sd⟩⟩ = false by simp [spareB, hasIndex, hasPlace, hasRound, hasOk])
    clear g_index g_place g_commit
    go_enter Try.func20, Try.ntmps20
    simp only [List.append_eq, List.cons_append, List.nil_append]
    go_upto_region 3 with (fail)
    rw [HW2.out, HG1.out, HG0.out]
    obtain ⟨b0, b1, b2, b3, b4, b5, b6, b7, b8, b9, b10, b11, b12, b13, b14⟩ := blk15 HX.out
    obtain ⟨⟨c0, c1, c2, c3, c4, c5, c6⟩, f0, f1, f2, f3, f4, f5, f6⟩ := blk7 HY.out
    go_wp2
    go_ret
    exact ⟨by rw [HN.out]; rfl, by ((repeat (refine bset ?_ hle)); exact HB2.out)⟩
  | false =>
  by_cases g_ents : es.length = 0
  rotate_left
  · have HN := Lib.hid (show spareB ⟨7, f, d, t, i, lt, c, r, false, false, es, ⟨si, st, sm, sd⟩⟩ = false by simp only [spareB]; rw [show (es.length == 0) = false by rw [beq_eq_false_iff_ne]; exact g_ents]; simp)
    have e_ents : ((es.length : Int) == 0) = false := by rw [beq_eq_false_iff_ne]; omega
    clear g_index g_place g_commit g_ents
    go_enter Try.func20, Try.ntmps20
    simp only [List.append_eq, List.cons_append, List.nil_append]
    go_upto_region 3 with (fail)
    rw [HW2.out, HG1.out, HG0.out]
    obtain ⟨b0, b1, b2, b3, b4, b5, b6, b7, b8, b9, b10, b11, b12, b13, b14⟩ := blk15 HX.out
    obtain ⟨⟨c0, c1, c2, c3, c4, c5, c6⟩, f0, f1, f2, f3, f4, f5, f6⟩ := blk7 HY.out
    go_wp2
    go_ret
    exact ⟨by rw [HN.out]; rfl, by ((repeat (refine bset ?_ hle)); exact HB2.out)⟩
  have e_ents : ((es.length : Int) == 0) = true := by rw [beq_iff_eq]; omega
  have HN := Lib.hid (show spareB ⟨7, f, d, t, i, lt, c, r, false, false, es, ⟨si, st, sm, sd⟩⟩ = true by simp only [spareB]; rw [show (es.length == 0) = true by rw [beq_iff_eq]; exact g_ents]; simp [spareB, hasIndex, hasPlace, hasRound, hasOk, g_index, g_place, g_commit])
  clear g_index g_place g_commit g_ents
  go_enter Try.func20, Try.ntmps20
  simp only [List.append_eq, List.cons_append, List.nil_append]
  go_upto_region 3 with (fail)
  rw [HW2.out, HG1.out, HG0.out]
  obtain ⟨b0, b1, b2, b3, b4, b5, b6, b7, b8, b9, b10, b11, b12, b13, b14⟩ := blk15 HX.out
  obtain ⟨⟨c0, c1, c2, c3, c4, c5, c6⟩, f0, f1, f2, f3, f4, f5, f6⟩ := blk7 HY.out
  go_wp2
  go_ret
  exact ⟨by rw [HN.out]; rfl, by ((repeat (refine bset ?_ hle)); exact HB2.out)⟩
set_option maxRecDepth 100000 in
set_option maxHeartbeats 4000000 in
theorem spare_8 (m : Wm) (E : Option Addr) (e : Nat) (A : Option Addr) (a : Nat) (B : Option Addr) (b : Nat) (w : World) (h : MR w m E e A a B b) (hk : m.kind = 8) :
    Calls Try.prog 20 #[msgV m E e A a B b] w fun e w' => e = .returned (.bool (spareB m)) ∧ Below w.heap.size w w' := by
  have hmx := Kd.C_max h.2.1
  obtain ⟨k, f, d, t, i, lt, c, r, ok, fo, es, ⟨si, st, sm, sd⟩⟩ := m
  have hB1 := below_alloc (Below.refl _ w) (.cells #[.int .i64 k, .int .i64 f, .int .i64 d, .int .u64 t, .int .u64 i, .int .u64 lt, .int .u64 c, .int .u64 r, .bool ok, .bool fo, .slice E es.length e, .int .u64 si, .int .u64 st, .slice A sm.length a, .slice B sd.length b] 29)
  have HB1 := Lib.hid hB1
  have HK := Lib.hid (World.alloc_heap_new w (.cells #[.int .i64 k, .int .i64 f, .int .i64 d, .int .u64 t, .int .u64 i, .int .u64 lt, .int .u64 c, .int .u64 r, .bool ok, .bool fo, .slice E es.length e, .int .u64 si, .int .u64 st, .slice A sm.length a, .slice B sd.length b] 29))
  have HM := Lib.hid (h.below hB1)
  have HM0 := Lib.hid h
  clear h hB1
  dsimp only at *
  subst hk
  have hb2 := below_step HB1.out (below_alloc (Below.refl _ _) (.cells #[.bool false, .bool false, .bool false, .bool false, .bool false, .bool false, .bool false] 88))
  have hx := blk_below HK.out (below_alloc (Below.refl _ _) (.cells #[.bool false, .bool false, .bool false, .bool false, .bool false, .bool false, .bool false] 88))
  have hy := World.alloc_heap_new (w.alloc (.cells #[.int .i64 8, .int .i64 f, .int .i64 d, .int .u64 t, .int .u64 i, .int .u64 lt, .int .u64 c, .int .u64 r, .bool ok, .bool fo, .slice E es.length e, .int .u64 si, .int .u64 st, .slice A sm.length a, .slice B sd.length b] 29)) (.cells #[.bool false, .bool false, .bool false, .bool false, .bool false, .bool false, .bool false] 88)
  rw [World.size_alloc] at hy
  obtain ⟨w2, hw2⟩ : ∃ w2, ((w.alloc (.cells #[.int .i64 8, .int .i64 f, .int .i64 d, .int .u64 t, .int .u64 i, .int .u64 lt, .int .u64 c, .int .u64 r, .bool ok, .bool fo, .slice E es.length e, .int .u64 si, .int .u64 st, .slice A sm.length a, .slice B sd.length b] 29)).alloc (.cells #[.bool false, .bool false, .bool false, .bool false, .bool false, .bool false, .bool false] 88)) = w2 := ⟨_, rfl⟩
  rw [hw2] at hb2 hx hy
  obtain ⟨g1, hg1⟩ : ∃ g1, w.heap.size + 1 = g1 := ⟨_, rfl⟩
  obtain ⟨g0, hg0⟩ : ∃ g0, w.heap.size = g0 := ⟨_, rfl⟩
  rw [hg1] at hy
  rw [hg0] at hx
  have hne : g1 ≠ g0 := by omega
  have hle : w.heap.size ≤ g1 := by omega
  have HW2 := Lib.hid hw2
  have HG1 := Lib.hid hg1
  have HG0 := Lib.hid hg0
  have HB2 := Lib.hid hb2
  have HX := Lib.hid hx
  have HY := Lib.hid hy
  clear hw2 hb2 hx hy HK HB1 HM hg1 hg0
  by_cases g_index : i = 0
  rotate_left
  · have HN := Lib.hid (show spareB ⟨8, f, d, t, i, lt, c, r, ok, fo, es, ⟨si, st, sm, sd⟩⟩ = false by simp [spareB, hasIndex, hasPlace, hasRound, hasOk, g_index])
    have e_index : ((i : Int) == 0) = false := by rw [beq_eq_false_iff_ne]; omega
    clear g_index
    go_enter Try.func20, Try.ntmps20
    simp only [List.append_eq, List.cons_append, List.nil_append]
    go_upto_region 3 with (fail)
    rw [HW2.out, HG1.out, HG0.out]
    obtain ⟨b0, b1, b2, b3, b4, b5, b6, b7, b8, b9, b10, b11, b12, b13, b14⟩ := blk15 HX.out
    obtain ⟨⟨c0, c1, c2, c3, c4, c5, c6⟩, f0, f1, f2, f3, f4, f5, f6⟩ := blk7 HY.out
    go_wp2
    go_ret
    exact ⟨by rw [HN.out]; rfl, by ((repeat (refine bset ?_ hle)); exact HB2.out)⟩
  have e_index : ((i : Int) == 0) = true := by rw [beq_iff_eq]; omega
  by_cases g_place : lt = 0
  rotate_left
  · have HN := Lib.hid (show spareB ⟨8, f, d, t, i, lt, c, r, ok, fo, es, ⟨si, st, sm, sd⟩⟩ = false by simp [spareB, hasIndex, hasPlace, hasRound, hasOk, g_place])
    have e_place : ((lt : Int) == 0) = false := by rw [beq_eq_false_iff_ne]; omega
    clear g_index g_place
    go_enter Try.func20, Try.ntmps20
    simp only [List.append_eq, List.cons_append, List.nil_append]
    go_upto_region 3 with (fail)
    rw [HW2.out, HG1.out, HG0.out]
    obtain ⟨b0, b1, b2, b3, b4, b5, b6, b7, b8, b9, b10, b11, b12, b13, b14⟩ := blk15 HX.out
    obtain ⟨⟨c0, c1, c2, c3, c4, c5, c6⟩, f0, f1, f2, f3, f4, f5, f6⟩ := blk7 HY.out
    go_wp2
    go_ret
    exact ⟨by rw [HN.out]; rfl, by ((repeat (refine bset ?_ hle)); exact HB2.out)⟩
  have e_place : ((lt : Int) == 0) = true := by rw [beq_iff_eq]; omega
  by_cases g_commit : c = 0
  rotate_left
  · have HN := Lib.hid (show spareB ⟨8, f, d, t, i, lt, c, r, ok, fo, es, ⟨si, st, sm, sd⟩⟩ = false by simp [spareB, hasIndex, hasPlace, hasRound, hasOk, g_commit])
    have e_commit : ((c : Int) == 0) = false := by rw [beq_eq_false_iff_ne]; omega
    clear g_index g_place g_commit
    go_enter Try.func20, Try.ntmps20
    simp only [List.append_eq, List.cons_append, List.nil_append]
    go_upto_region 3 with (fail)
    rw [HW2.out, HG1.out, HG0.out]
    obtain ⟨b0, b1, b2, b3, b4, b5, b6, b7, b8, b9, b10, b11, b12, b13, b14⟩ := blk15 HX.out
    obtain ⟨⟨c0, c1, c2, c3, c4, c5, c6⟩, f0, f1, f2, f3, f4, f5, f6⟩ := blk7 HY.out
    go_wp2
    go_ret
    exact ⟨by rw [HN.out]; rfl, by ((repeat (refine bset ?_ hle)); exact HB2.out)⟩
  have e_commit : ((c : Int) == 0) = true := by rw [beq_iff_eq]; omega
  by_cases g_round : r = 0
  rotate_left
  · have HN := Lib.hid (show spareB ⟨8, f, d, t, i, lt, c, r, ok, fo, es, ⟨si, st, sm, sd⟩⟩ = false by simp [spareB, hasIndex, hasPlace, hasRound, hasOk, g_round])
    have e_round : ((r : Int) == 0) = false := by rw [beq_eq_false_iff_ne]; omega
    clear g_index g_place g_commit g_round
    go_enter Try.func20, Try.ntmps20
    simp only [List.append_eq, List.cons_append, List.nil_append]
    go_upto_region 3 with (fail)
    rw [HW2.out, HG1.out, HG0.out]
    obtain ⟨b0, b1, b2, b3, b4, b5, b6, b7, b8, b9, b10, b11, b12, b13, b14⟩ := blk15 HX.out
    obtain ⟨⟨c0, c1, c2, c3, c4, c5, c6⟩, f0, f1, f2, f3, f4, f5, f6⟩ := blk7 HY.out
    go_wp2
    go_ret
    exact ⟨by rw [HN.out]; rfl, by ((repeat (refine bset ?_ hle)); exact HB2.out)⟩
  have e_round : ((r : Int) == 0) = true := by rw [beq_iff_eq]; omega
  cases ok with
  | true =>
    have HN := Lib.hid (show spareB ⟨8, f, d, t, i, lt, c, r, true, fo, es, ⟨si, st, sm, sd⟩⟩ = false by simp [spareB, hasIndex, hasPlace, hasRound, hasOk])
    clear g_index g_place g_commit g_round
    go_enter Try.func20, Try.ntmps20
    simp only [List.append_eq, List.cons_append, List.nil_append]
    go_upto_region 3 with (fail)
    rw [HW2.out, HG1.out, HG0.out]
    obtain ⟨b0, b1, b2, b3, b4, b5, b6, b7, b8, b9, b10, b11, b12, b13, b14⟩ := blk15 HX.out
    obtain ⟨⟨c0, c1, c2, c3, c4, c5, c6⟩, f0, f1, f2, f3, f4, f5, f6⟩ := blk7 HY.out
    go_wp2
    go_ret
    exact ⟨by rw [HN.out]; rfl, by ((repeat (refine bset ?_ hle)); exact HB2.out)⟩
  | false =>
  cases fo with
  | true =>
    have HN := Lib.hid (show spareB ⟨8, f, d, t, i, lt, c, r, false, true, es, ⟨si, st, sm, sd⟩⟩ = false by simp [spareB, hasIndex, hasPlace, hasRound, hasOk])
    clear g_index g_place g_commit g_round
    go_enter Try.func20, Try.ntmps20
    simp only [List.append_eq, List.cons_append, List.nil_append]
    go_upto_region 3 with (fail)
    rw [HW2.out, HG1.out, HG0.out]
    obtain ⟨b0, b1, b2, b3, b4, b5, b6, b7, b8, b9, b10, b11, b12, b13, b14⟩ := blk15 HX.out
    obtain ⟨⟨c0, c1, c2, c3, c4, c5, c6⟩, f0, f1, f2, f3, f4, f5, f6⟩ := blk7 HY.out
    go_wp2
    go_ret
    exact ⟨by rw [HN.out]; rfl, by ((repeat (refine bset ?_ hle)); exact HB2.out)⟩
  | false =>
  by_cases g_ents : es.length = 0
  rotate_left
  · have HN := Lib.hid (show spareB ⟨8, f, d, t, i, lt, c, r, false, false, es, ⟨si, st, sm, sd⟩⟩ = false by simp only [spareB]; rw [show (es.length == 0) = false by rw [beq_eq_false_iff_ne]; exact g_ents]; simp)
    have e_ents : ((es.length : Int) == 0) = false := by rw [beq_eq_false_iff_ne]; omega
    clear g_index g_place g_commit g_round g_ents
    go_enter Try.func20, Try.ntmps20
    simp only [List.append_eq, List.cons_append, List.nil_append]
    go_upto_region 3 with (fail)
    rw [HW2.out, HG1.out, HG0.out]
    obtain ⟨b0, b1, b2, b3, b4, b5, b6, b7, b8, b9, b10, b11, b12, b13, b14⟩ := blk15 HX.out
    obtain ⟨⟨c0, c1, c2, c3, c4, c5, c6⟩, f0, f1, f2, f3, f4, f5, f6⟩ := blk7 HY.out
    go_wp2
    go_ret
    exact ⟨by rw [HN.out]; rfl, by ((repeat (refine bset ?_ hle)); exact HB2.out)⟩
  have e_ents : ((es.length : Int) == 0) = true := by rw [beq_iff_eq]; omega
  have HN := Lib.hid (show spareB ⟨8, f, d, t, i, lt, c, r, false, false, es, ⟨si, st, sm, sd⟩⟩ = decide ((⟨si, st, sm, sd⟩ : Sn) = sn0) by simp only [spareB]; rw [show (es.length == 0) = true by rw [beq_iff_eq]; exact g_ents]; simp [spareB, hasIndex, hasPlace, hasRound, hasOk, g_index, g_place, g_commit, g_round])
  have HS := Lib.hid (fun w' hb => snsame_walk ⟨si, st, sm, sd⟩ sn0 A a B b none 0 none 0 w' (SR.below HM0.out.2.2 hb) (SR.zero _))
  clear g_index g_place g_commit g_round g_ents
  go_enter Try.func20, Try.ntmps20
  simp only [List.append_eq, List.cons_append, List.nil_append]
  go_upto_region 3 with (fail)
  rw [HW2.out, HG1.out, HG0.out]
  obtain ⟨b0, b1, b2, b3, b4, b5, b6, b7, b8, b9, b10, b11, b12, b13, b14⟩ := blk15 HX.out
  obtain ⟨⟨c0, c1, c2, c3, c4, c5, c6⟩, f0, f1, f2, f3, f4, f5, f6⟩ := blk7 HY.out
  go_wp2_with fail
  refine (HS.out _ ?_).mono ?_
  · repeat (refine bset ?_ hle)
    exact HB2.out
  rintro e w3 ⟨rfl, hb3⟩
  have HB3 := Lib.hid hb3
  clear hb3
  go_wp2
  go_ret
  refine ⟨by rw [HN.out]; rfl, below_step ?_ HB3.out⟩
  repeat (refine bset ?_ hle)
  exact HB2.out
theorem spare_walk (m : Wm) (E : Option Addr) (e : Nat) (A : Option Addr) (a : Nat) (B : Option Addr) (b : Nat) (w : World) (h : MR w m E e A a B b) (hk : 1 ≤ m.kind ∧ m.kind ≤ 8) :
    Calls Try.prog 20 #[msgV m E e A a B b] w fun e w' => e = .returned (.bool (spareB m)) ∧ Below w.heap.size w w' := by
  have h8 : m.kind = 1 ∨ m.kind = 2 ∨ m.kind = 3 ∨ m.kind = 4 ∨ m.kind = 5 ∨ m.kind = 6 ∨ m.kind = 7 ∨ m.kind = 8 := by omega
  rcases h8 with h8 | h8 | h8 | h8 | h8 | h8 | h8 | h8
  · exact spare_1 m E e A a B b w h h8
  · exact spare_2 m E e A a B b w h h8
  · exact spare_3 m E e A a B b w h h8
  · exact spare_4 m E e A a B b w h h8
  · exact spare_5 m E e A a B b w h h8
  · exact spare_6 m E e A a B b w h h8
  · exact spare_7 m E e A a B b w h h8
  · exact spare_8 m E e A a B b w h h8
end Go.Proofs.Ytoccidpocagkjaa
