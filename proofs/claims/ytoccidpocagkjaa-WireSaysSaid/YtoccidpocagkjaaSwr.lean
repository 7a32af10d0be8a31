/- WireSays: the walk where a message is not light. -/
import Derived.Test.YtoccidpocagkjaaSwp
import Derived.Test.YtoccidpocagkjaaSwk
import Derived.Test.YtoccidpocagkjaaSwq
import Derived.Deep.QuietTactic
import Derived.BigQuiet
set_option linter.unusedVariables false
set_option linter.unusedSimpArgs false
namespace Go.Proofs.Ytoccidpocagkjaa
open Go.RowKit Go.Proofs.YtoccidpocagkjaaW.PrintWords Cf
attribute [local go_sem] str_beq str_bne

set_option maxRecDepth 100000 in
set_option maxHeartbeats 8000000 in
theorem says_1 (m m' : Wm) (E : Option Addr) (e : Nat) (A : Option Addr) (a : Nat) (B : Option Addr) (b : Nat) (E' : Option Addr) (e' : Nat) (A' : Option Addr) (a' : Nat) (B' : Option Addr) (b' : Nat) (w : World) (h : MR w m E e A a B b) (h' : MR w m' E' e' A' a' B' b') (ho : msgOk m) (ho' : msgOk m') (hl : lightW m = false) :
    Calls Try.prog 3 #[msgV m E e A a B b, msgV m' E' e' A' a' B' b'] w fun e w' => e = .returned (.bool true) ∧ Below w.heap.size w w' := by
  have HL1 := Lib.hid (fun w' (hb : Below w.heap.size w w') => light30_walk m E e A a B b w' (h.below hb))
  rw [hl] at HL1
  clear h h' ho ho' hl
  obtain ⟨k, f, d, t, i, lt, c, r, ok, fo, es, ⟨si, st, sm, sd⟩⟩ := m
  obtain ⟨k', f', d', t', i', lt', c', r', ok', fo', es', ⟨si', st', sm', sd'⟩⟩ := m'
  have hb2 := below_step (below_alloc (Below.refl _ w) (.cells #[.int .i64 k, .int .i64 f, .int .i64 d, .int .u64 t, .int .u64 i, .int .u64 lt, .int .u64 c, .int .u64 r, .bool ok, .bool fo, .slice E es.length e, .int .u64 si, .int .u64 st, .slice A sm.length a, .slice B sd.length b] 29)) (below_alloc (Below.refl _ _) (.cells #[.int .i64 k', .int .i64 f', .int .i64 d', .int .u64 t', .int .u64 i', .int .u64 lt', .int .u64 c', .int .u64 r', .bool ok', .bool fo', .slice E' es'.length e', .int .u64 si', .int .u64 st', .slice A' sm'.length a', .slice B' sd'.length b'] 29))
  have hx := blk_below (World.alloc_heap_new w (.cells #[.int .i64 k, .int .i64 f, .int .i64 d, .int .u64 t, .int .u64 i, .int .u64 lt, .int .u64 c, .int .u64 r, .bool ok, .bool fo, .slice E es.length e, .int .u64 si, .int .u64 st, .slice A sm.length a, .slice B sd.length b] 29)) (below_alloc (Below.refl _ _) (.cells #[.int .i64 k', .int .i64 f', .int .i64 d', .int .u64 t', .int .u64 i', .int .u64 lt', .int .u64 c', .int .u64 r', .bool ok', .bool fo', .slice E' es'.length e', .int .u64 si', .int .u64 st', .slice A' sm'.length a', .slice B' sd'.length b'] 29))
  have hy := World.alloc_heap_new (w.alloc (.cells #[.int .i64 k, .int .i64 f, .int .i64 d, .int .u64 t, .int .u64 i, .int .u64 lt, .int .u64 c, .int .u64 r, .bool ok, .bool fo, .slice E es.length e, .int .u64 si, .int .u64 st, .slice A sm.length a, .slice B sd.length b] 29)) (.cells #[.int .i64 k', .int .i64 f', .int .i64 d', .int .u64 t', .int .u64 i', .int .u64 lt', .int .u64 c', .int .u64 r', .bool ok', .bool fo', .slice E' es'.length e', .int .u64 si', .int .u64 st', .slice A' sm'.length a', .slice B' sd'.length b'] 29)
  rw [World.size_alloc] at hy
  obtain ⟨w2, hw2⟩ : ∃ w2, ((w.alloc (.cells #[.int .i64 k, .int .i64 f, .int .i64 d, .int .u64 t, .int .u64 i, .int .u64 lt, .int .u64 c, .int .u64 r, .bool ok, .bool fo, .slice E es.length e, .int .u64 si, .int .u64 st, .slice A sm.length a, .slice B sd.length b] 29)).alloc (.cells #[.int .i64 k', .int .i64 f', .int .i64 d', .int .u64 t', .int .u64 i', .int .u64 lt', .int .u64 c', .int .u64 r', .bool ok', .bool fo', .slice E' es'.length e', .int .u64 si', .int .u64 st', .slice A' sm'.length a', .slice B' sd'.length b'] 29)) = w2 := ⟨_, rfl⟩
  rw [hw2] at hb2 hx hy
  obtain ⟨g1, hg1⟩ : ∃ g1, w.heap.size + 1 = g1 := ⟨_, rfl⟩
  obtain ⟨g0, hg0⟩ : ∃ g0, w.heap.size = g0 := ⟨_, rfl⟩
  rw [hg1] at hy
  rw [hg0] at hx
  have HW2 := Lib.hid hw2
  have HG1 := Lib.hid hg1
  have HG0 := Lib.hid hg0
  have HB2 := Lib.hid hb2
  have HX := Lib.hid hx
  have HY := Lib.hid hy
  clear hw2 hb2 hx hy hg1 hg0
  try dsimp only at *
  go_enter Try.func3, Try.ntmps3
  go_upto_region 1 with (fail)
  rw [HW2.out, HG1.out, HG0.out]
  obtain ⟨b0, b1, b2, b3, b4, b5, b6, b7, b8, b9, b10, b11, b12, b13, b14⟩ := blk15 HX.out
  obtain ⟨c0, c1, c2, c3, c4, c5, c6, c7, c8, c9, c10, c11, c12, c13, c14⟩ := blk15 HY.out
  go_wp2_with fail
  refine (HL1.out _ HB2.out).mono ?_
  rintro e1 w3 ⟨rfl, hb3⟩
  have HB3 := Lib.hid (below_step HB2.out hb3)
  clear hb3
  go_wp2_with fail
  refine (lives30_walk _).mono ?_
  rintro e1 w5 ⟨rfl, hb5⟩
  have HB5 := Lib.hid (below_step HB3.out hb5)
  clear hb5
  go_wp2
  go_ret
  exact ⟨rfl, HB5.out⟩
set_option maxRecDepth 100000 in
set_option maxHeartbeats 8000000 in
theorem says_2 (m m' : Wm) (E : Option Addr) (e : Nat) (A : Option Addr) (a : Nat) (B : Option Addr) (b : Nat) (E' : Option Addr) (e' : Nat) (A' : Option Addr) (a' : Nat) (B' : Option Addr) (b' : Nat) (w : World) (h : MR w m E e A a B b) (h' : MR w m' E' e' A' a' B' b') (ho : msgOk m) (ho' : msgOk m') (hl : lightW m = true) (hl' : lightW m' = false) :
    Calls Try.prog 3 #[msgV m E e A a B b, msgV m' E' e' A' a' B' b'] w fun e w' => e = .returned (.bool true) ∧ Below w.heap.size w w' := by
  have HL1 := Lib.hid (fun w' (hb : Below w.heap.size w w') => light30_walk m E e A a B b w' (h.below hb))
  have HL2 := Lib.hid (fun w' (hb : Below w.heap.size w w') => light30_walk m' E' e' A' a' B' b' w' (h'.below hb))
  rw [hl] at HL1
  rw [hl'] at HL2
  clear h h' ho ho' hl hl'
  obtain ⟨k, f, d, t, i, lt, c, r, ok, fo, es, ⟨si, st, sm, sd⟩⟩ := m
  obtain ⟨k', f', d', t', i', lt', c', r', ok', fo', es', ⟨si', st', sm', sd'⟩⟩ := m'
  have hb2 := below_step (below_alloc (Below.refl _ w) (.cells #[.int .i64 k, .int .i64 f, .int .i64 d, .int .u64 t, .int .u64 i, .int .u64 lt, .int .u64 c, .int .u64 r, .bool ok, .bool fo, .slice E es.length e, .int .u64 si, .int .u64 st, .slice A sm.length a, .slice B sd.length b] 29)) (below_alloc (Below.refl _ _) (.cells #[.int .i64 k', .int .i64 f', .int .i64 d', .int .u64 t', .int .u64 i', .int .u64 lt', .int .u64 c', .int .u64 r', .bool ok', .bool fo', .slice E' es'.length e', .int .u64 si', .int .u64 st', .slice A' sm'.length a', .slice B' sd'.length b'] 29))
  have hx := blk_below (World.alloc_heap_new w (.cells #[.int .i64 k, .int .i64 f, .int .i64 d, .int .u64 t, .int .u64 i, .int .u64 lt, .int .u64 c, .int .u64 r, .bool ok, .bool fo, .slice E es.length e, .int .u64 si, .int .u64 st, .slice A sm.length a, .slice B sd.length b] 29)) (below_alloc (Below.refl _ _) (.cells #[.int .i64 k', .int .i64 f', .int .i64 d', .int .u64 t', .int .u64 i', .int .u64 lt', .int .u64 c', .int .u64 r', .bool ok', .bool fo', .slice E' es'.length e', .int .u64 si', .int .u64 st', .slice A' sm'.length a', .slice B' sd'.length b'] 29))
  have hy := World.alloc_heap_new (w.alloc (.cells #[.int .i64 k, .int .i64 f, .int .i64 d, .int .u64 t, .int .u64 i, .int .u64 lt, .int .u64 c, .int .u64 r, .bool ok, .bool fo, .slice E es.length e, .int .u64 si, .int .u64 st, .slice A sm.length a, .slice B sd.length b] 29)) (.cells #[.int .i64 k', .int .i64 f', .int .i64 d', .int .u64 t', .int .u64 i', .int .u64 lt', .int .u64 c', .int .u64 r', .bool ok', .bool fo', .slice E' es'.length e', .int .u64 si', .int .u64 st', .slice A' sm'.length a', .slice B' sd'.length b'] 29)
  rw [World.size_alloc] at hy
  obtain ⟨w2, hw2⟩ : ∃ w2, ((w.alloc (.cells #[.int .i64 k, .int .i64 f, .int .i64 d, .int .u64 t, .int .u64 i, .int .u64 lt, .int .u64 c, .int .u64 r, .bool ok, .bool fo, .slice E es.length e, .int .u64 si, .int .u64 st, .slice A sm.length a, .slice B sd.length b] 29)).alloc (.cells #[.int .i64 k', .int .i64 f', .int .i64 d', .int .u64 t', .int .u64 i', .int .u64 lt', .int .u64 c', .int .u64 r', .bool ok', .bool fo', .slice E' es'.length e', .int .u64 si', .int .u64 st', .slice A' sm'.length a', .slice B' sd'.length b'] 29)) = w2 := ⟨_, rfl⟩
  rw [hw2] at hb2 hx hy
  obtain ⟨g1, hg1⟩ : ∃ g1, w.heap.size + 1 = g1 := ⟨_, rfl⟩
  obtain ⟨g0, hg0⟩ : ∃ g0, w.heap.size = g0 := ⟨_, rfl⟩
  rw [hg1] at hy
  rw [hg0] at hx
  have HW2 := Lib.hid hw2
  have HG1 := Lib.hid hg1
  have HG0 := Lib.hid hg0
  have HB2 := Lib.hid hb2
  have HX := Lib.hid hx
  have HY := Lib.hid hy
  clear hw2 hb2 hx hy hg1 hg0
  try dsimp only at *
  go_enter Try.func3, Try.ntmps3
  go_upto_region 1 with (fail)
  rw [HW2.out, HG1.out, HG0.out]
  obtain ⟨b0, b1, b2, b3, b4, b5, b6, b7, b8, b9, b10, b11, b12, b13, b14⟩ := blk15 HX.out
  obtain ⟨c0, c1, c2, c3, c4, c5, c6, c7, c8, c9, c10, c11, c12, c13, c14⟩ := blk15 HY.out
  go_wp2_with fail
  refine (HL1.out _ HB2.out).mono ?_
  rintro e1 w3 ⟨rfl, hb3⟩
  have HB3 := Lib.hid (below_step HB2.out hb3)
  have HX3 := Lib.hid (blk_below HX.out hb3)
  have HY3 := Lib.hid (blk_below HY.out hb3)
  clear hb3 b0 b1 b2 b3 b4 b5 b6 b7 b8 b9 b10 b11 b12 b13 b14 c0 c1 c2 c3 c4 c5 c6 c7 c8 c9 c10 c11 c12 c13 c14
  obtain ⟨b0, b1, b2, b3, b4, b5, b6, b7, b8, b9, b10, b11, b12, b13, b14⟩ := blk15 HX3.out
  obtain ⟨c0, c1, c2, c3, c4, c5, c6, c7, c8, c9, c10, c11, c12, c13, c14⟩ := blk15 HY3.out
  go_wp2_with fail
  refine (HL2.out _ HB3.out).mono ?_
  rintro e1 w4 ⟨rfl, hb4⟩
  have HB3 := Lib.hid (below_step HB3.out hb4)
  clear hb4
  go_wp2_with fail
  refine (lives30_walk _).mono ?_
  rintro e1 w5 ⟨rfl, hb5⟩
  have HB5 := Lib.hid (below_step HB3.out hb5)
  clear hb5
  go_wp2
  go_ret
  exact ⟨rfl, HB5.out⟩
end Go.Proofs.Ytoccidpocagkjaa
