/- The reference's Plain, the other kinds. -/
import Derived.Test.YtoccidpocagkjaaSwh
set_option linter.unusedVariables false
set_option linter.unusedSimpArgs false
namespace Go.Proofs.Ytoccidpocagkjaa
open Go.RowKit Go.Proofs.YtoccidpocagkjaaW.PrintWords Cf
attribute [local go_sem] str_beq str_bne

set_option maxRecDepth 100000 in
set_option maxHeartbeats 4000000 in
theorem rplain_5 (m : Wm) (E : Option Addr) (e : Nat) (A : Option Addr) (a : Nat) (B : Option Addr) (b : Nat) (w : World) (h : MR w m E e A a B b) (hk : m.kind = 5) :
    Calls Try.prog 23 #[msgV m E e A a B b] w (PlainP m w) := by
  obtain ⟨k, f, d, t, i, lt, c, r, ok, fo, es, ⟨si, st, sm, sd⟩⟩ := m
  have hB1 := below_alloc (Below.refl _ w) (.cells #[.int .i64 k, .int .i64 f, .int .i64 d, .int .u64 t, .int .u64 i, .int .u64 lt, .int .u64 c, .int .u64 r, .bool ok, .bool fo, .slice E es.length e, .int .u64 si, .int .u64 st, .slice A sm.length a, .slice B sd.length b] 33)
  have HB1 := Lib.hid hB1
  have HK := Lib.hid (World.alloc_heap_new w (.cells #[.int .i64 k, .int .i64 f, .int .i64 d, .int .u64 t, .int .u64 i, .int .u64 lt, .int .u64 c, .int .u64 r, .bool ok, .bool fo, .slice E es.length e, .int .u64 si, .int .u64 st, .slice A sm.length a, .slice B sd.length b] 33))
  have HM := Lib.hid (h.below hB1)
  have HM0 := Lib.hid h
  clear h hB1
  dsimp only at *
  subst hk
  have HP := Lib.hid (show plainW ⟨5, f, d, t, i, lt, c, r, ok, fo, es, ⟨si, st, sm, sd⟩⟩ = ⟨5, f, d, t, i, lt, c, r, false, false, es, sn0⟩ by simp [plainW, hasIndex, hasPlace, hasRound, hasOk])
  have HZ := Lib.hid (show MR w ⟨5, f, d, t, i, lt, c, r, false, false, es, sn0⟩ E e none 0 none 0 from ⟨HM0.out.1, HM0.out.2.1, SR.zero w⟩)
  unfold PlainP
  rw [HP.out]
  go_enter Try.func23, Try.ntmps23
  go_wp2
  have hb := below_step (below_step (below_alloc (Below.refl _ w) (.cells #[.int .i64 5, .int .i64 f, .int .i64 d, .int .u64 t, .int .u64 i, .int .u64 lt, .int .u64 c, .int .u64 r, .bool ok, .bool fo, .slice E es.length e, .int .u64 si, .int .u64 st, .slice A sm.length a, .slice B sd.length b] 33)) (below_alloc (Below.refl _ _) (.cells #[.int .i64 5, .int .i64 f, .int .i64 d, .int .u64 t, .int .u64 i, .int .u64 lt, .int .u64 c, .int .u64 r, .bool false, .bool false, .slice E es.length e, .int .u64 0, .int .u64 0, .slice none 0 0, .slice none 0 0] 33))) (below_alloc (Below.refl _ _) (.cells #[.int .i64 5, .int .i64 f, .int .i64 d, .int .u64 t, .int .u64 i, .int .u64 lt, .int .u64 c, .int .u64 r, .bool false, .bool false, .slice E es.length e, .int .u64 0, .int .u64 0, .slice none 0 0, .slice none 0 0] 33))
  refine bodyPost_ret (v := msgV ⟨5, f, d, t, i, lt, c, r, false, false, es, sn0⟩ E e none 0 none 0) (by simp [results, Try.results23, go_sem, sn0]) rfl ?_
  exact ⟨hb, _, _, _, _, _, _, rfl, HZ.out.below hb⟩
set_option maxRecDepth 100000 in
set_option maxHeartbeats 4000000 in
theorem rplain_6 (m : Wm) (E : Option Addr) (e : Nat) (A : Option Addr) (a : Nat) (B : Option Addr) (b : Nat) (w : World) (h : MR w m E e A a B b) (hk : m.kind = 6) :
    Calls Try.prog 23 #[msgV m E e A a B b] w (PlainP m w) := by
  obtain ⟨k, f, d, t, i, lt, c, r, ok, fo, es, ⟨si, st, sm, sd⟩⟩ := m
  have hB1 := below_alloc (Below.refl _ w) (.cells #[.int .i64 k, .int .i64 f, .int .i64 d, .int .u64 t, .int .u64 i, .int .u64 lt, .int .u64 c, .int .u64 r, .bool ok, .bool fo, .slice E es.length e, .int .u64 si, .int .u64 st, .slice A sm.length a, .slice B sd.length b] 33)
  have HB1 := Lib.hid hB1
  have HK := Lib.hid (World.alloc_heap_new w (.cells #[.int .i64 k, .int .i64 f, .int .i64 d, .int .u64 t, .int .u64 i, .int .u64 lt, .int .u64 c, .int .u64 r, .bool ok, .bool fo, .slice E es.length e, .int .u64 si, .int .u64 st, .slice A sm.length a, .slice B sd.length b] 33))
  have HM := Lib.hid (h.below hB1)
  have HM0 := Lib.hid h
  clear h hB1
  dsimp only at *
  subst hk
  have HP := Lib.hid (show plainW ⟨6, f, d, t, i, lt, c, r, ok, fo, es, ⟨si, st, sm, sd⟩⟩ = ⟨6, f, d, t, i, 0, 0, r, ok, false, [], sn0⟩ by simp [plainW, hasIndex, hasPlace, hasRound, hasOk])
  have HZ := Lib.hid (show MR w ⟨6, f, d, t, i, 0, 0, r, ok, false, [], sn0⟩ none 0 none 0 none 0 from ⟨Nat.le_refl _, Kd.C_nil _ _, SR.zero w⟩)
  unfold PlainP
  rw [HP.out]
  go_enter Try.func23, Try.ntmps23
  go_wp2
  have hb := below_step (below_step (below_alloc (Below.refl _ w) (.cells #[.int .i64 6, .int .i64 f, .int .i64 d, .int .u64 t, .int .u64 i, .int .u64 lt, .int .u64 c, .int .u64 r, .bool ok, .bool fo, .slice E es.length e, .int .u64 si, .int .u64 st, .slice A sm.length a, .slice B sd.length b] 33)) (below_alloc (Below.refl _ _) (.cells #[.int .i64 6, .int .i64 f, .int .i64 d, .int .u64 t, .int .u64 i, .int .u64 0, .int .u64 0, .int .u64 r, .bool ok, .bool false, .slice none 0 0, .int .u64 0, .int .u64 0, .slice none 0 0, .slice none 0 0] 33))) (below_alloc (Below.refl _ _) (.cells #[.int .i64 6, .int .i64 f, .int .i64 d, .int .u64 t, .int .u64 i, .int .u64 0, .int .u64 0, .int .u64 r, .bool ok, .bool false, .slice none 0 0, .int .u64 0, .int .u64 0, .slice none 0 0, .slice none 0 0] 33))
  refine bodyPost_ret (v := msgV ⟨6, f, d, t, i, 0, 0, r, ok, false, [], sn0⟩ none 0 none 0 none 0) (by simp [results, Try.results23, go_sem, sn0]) rfl ?_
  exact ⟨hb, _, _, _, _, _, _, rfl, HZ.out.below hb⟩
set_option maxRecDepth 100000 in
set_option maxHeartbeats 4000000 in
theorem rplain_7 (m : Wm) (E : Option Addr) (e : Nat) (A : Option Addr) (a : Nat) (B : Option Addr) (b : Nat) (w : World) (h : MR w m E e A a B b) (hk : m.kind = 7) :
    Calls Try.prog 23 #[msgV m E e A a B b] w (PlainP m w) := by
  obtain ⟨k, f, d, t, i, lt, c, r, ok, fo, es, ⟨si, st, sm, sd⟩⟩ := m
  have hB1 := below_alloc (Below.refl _ w) (.cells #[.int .i64 k, .int .i64 f, .int .i64 d, .int .u64 t, .int .u64 i, .int .u64 lt, .int .u64 c, .int .u64 r, .bool ok, .bool fo, .slice E es.length e, .int .u64 si, .int .u64 st, .slice A sm.length a, .slice B sd.length b] 33)
  have HB1 := Lib.hid hB1
  have HK := Lib.hid (World.alloc_heap_new w (.cells #[.int .i64 k, .int .i64 f, .int .i64 d, .int .u64 t, .int .u64 i, .int .u64 lt, .int .u64 c, .int .u64 r, .bool ok, .bool fo, .slice E es.length e, .int .u64 si, .int .u64 st, .slice A sm.length a, .slice B sd.length b] 33))
  have HM := Lib.hid (h.below hB1)
  have HM0 := Lib.hid h
  clear h hB1
  dsimp only at *
  subst hk
  have HP := Lib.hid (show plainW ⟨7, f, d, t, i, lt, c, r, ok, fo, es, ⟨si, st, sm, sd⟩⟩ = ⟨7, f, d, t, 0, 0, 0, r, false, false, [], ⟨si, st, sm, sd⟩⟩ by simp [plainW, hasIndex, hasPlace, hasRound, hasOk])
  have HZ := Lib.hid (show MR w ⟨7, f, d, t, 0, 0, 0, r, false, false, [], ⟨si, st, sm, sd⟩⟩ none 0 A a B b from ⟨Nat.le_refl _, Kd.C_nil _ _, HM0.out.2.2⟩)
  unfold PlainP
  rw [HP.out]
  go_enter Try.func23, Try.ntmps23
  go_wp2
  have hb := below_step (below_step (below_alloc (Below.refl _ w) (.cells #[.int .i64 7, .int .i64 f, .int .i64 d, .int .u64 t, .int .u64 i, .int .u64 lt, .int .u64 c, .int .u64 r, .bool ok, .bool fo, .slice E es.length e, .int .u64 si, .int .u64 st, .slice A sm.length a, .slice B sd.length b] 33)) (below_alloc (Below.refl _ _) (.cells #[.int .i64 7, .int .i64 f, .int .i64 d, .int .u64 t, .int .u64 0, .int .u64 0, .int .u64 0, .int .u64 r, .bool false, .bool false, .slice none 0 0, .int .u64 si, .int .u64 st, .slice A sm.length a, .slice B sd.length b] 33))) (below_alloc (Below.refl _ _) (.cells #[.int .i64 7, .int .i64 f, .int .i64 d, .int .u64 t, .int .u64 0, .int .u64 0, .int .u64 0, .int .u64 r, .bool false, .bool false, .slice none 0 0, .int .u64 si, .int .u64 st, .slice A sm.length a, .slice B sd.length b] 33))
  refine bodyPost_ret (v := msgV ⟨7, f, d, t, 0, 0, 0, r, false, false, [], ⟨si, st, sm, sd⟩⟩ none 0 A a B b) (by simp [results, Try.results23, go_sem, sn0]) rfl ?_
  exact ⟨hb, _, _, _, _, _, _, rfl, HZ.out.below hb⟩
set_option maxRecDepth 100000 in
set_option maxHeartbeats 4000000 in
theorem rplain_8 (m : Wm) (E : Option Addr) (e : Nat) (A : Option Addr) (a : Nat) (B : Option Addr) (b : Nat) (w : World) (h : MR w m E e A a B b) (hk : m.kind = 8) :
    Calls Try.prog 23 #[msgV m E e A a B b] w (PlainP m w) := by
  obtain ⟨k, f, d, t, i, lt, c, r, ok, fo, es, ⟨si, st, sm, sd⟩⟩ := m
  have hB1 := below_alloc (Below.refl _ w) (.cells #[.int .i64 k, .int .i64 f, .int .i64 d, .int .u64 t, .int .u64 i, .int .u64 lt, .int .u64 c, .int .u64 r, .bool ok, .bool fo, .slice E es.length e, .int .u64 si, .int .u64 st, .slice A sm.length a, .slice B sd.length b] 33)
  have HB1 := Lib.hid hB1
  have HK := Lib.hid (World.alloc_heap_new w (.cells #[.int .i64 k, .int .i64 f, .int .i64 d, .int .u64 t, .int .u64 i, .int .u64 lt, .int .u64 c, .int .u64 r, .bool ok, .bool fo, .slice E es.length e, .int .u64 si, .int .u64 st, .slice A sm.length a, .slice B sd.length b] 33))
  have HM := Lib.hid (h.below hB1)
  have HM0 := Lib.hid h
  clear h hB1
  dsimp only at *
  subst hk
  have HP := Lib.hid (show plainW ⟨8, f, d, t, i, lt, c, r, ok, fo, es, ⟨si, st, sm, sd⟩⟩ = ⟨8, f, d, t, 0, 0, 0, 0, false, false, [], sn0⟩ by simp [plainW, hasIndex, hasPlace, hasRound, hasOk])
  have HZ := Lib.hid (show MR w ⟨8, f, d, t, 0, 0, 0, 0, false, false, [], sn0⟩ none 0 none 0 none 0 from ⟨Nat.le_refl _, Kd.C_nil _ _, SR.zero w⟩)
  unfold PlainP
  rw [HP.out]
  go_enter Try.func23, Try.ntmps23
  go_wp2
  have hb := below_step (below_step (below_alloc (Below.refl _ w) (.cells #[.int .i64 8, .int .i64 f, .int .i64 d, .int .u64 t, .int .u64 i, .int .u64 lt, .int .u64 c, .int .u64 r, .bool ok, .bool fo, .slice E es.length e, .int .u64 si, .int .u64 st, .slice A sm.length a, .slice B sd.length b] 33)) (below_alloc (Below.refl _ _) (.cells #[.int .i64 8, .int .i64 f, .int .i64 d, .int .u64 t, .int .u64 0, .int .u64 0, .int .u64 0, .int .u64 0, .bool false, .bool false, .slice none 0 0, .int .u64 0, .int .u64 0, .slice none 0 0, .slice none 0 0] 33))) (below_alloc (Below.refl _ _) (.cells #[.int .i64 8, .int .i64 f, .int .i64 d, .int .u64 t, .int .u64 0, .int .u64 0, .int .u64 0, .int .u64 0, .bool false, .bool false, .slice none 0 0, .int .u64 0, .int .u64 0, .slice none 0 0, .slice none 0 0] 33))
  refine bodyPost_ret (v := msgV ⟨8, f, d, t, 0, 0, 0, 0, false, false, [], sn0⟩ none 0 none 0 none 0) (by simp [results, Try.results23, go_sem, sn0]) rfl ?_
  exact ⟨hb, _, _, _, _, _, _, rfl, HZ.out.below hb⟩
set_option maxRecDepth 100000 in
set_option maxHeartbeats 4000000 in
theorem rplain_0 (m : Wm) (E : Option Addr) (e : Nat) (A : Option Addr) (a : Nat) (B : Option Addr) (b : Nat) (w : World) (h : MR w m E e A a B b) (hk : m.kind < 1 ∨ 8 < m.kind) :
    Calls Try.prog 23 #[msgV m E e A a B b] w (PlainP m w) := by
  obtain ⟨k, f, d, t, i, lt, c, r, ok, fo, es, ⟨si, st, sm, sd⟩⟩ := m
  have hB1 := below_alloc (Below.refl _ w) (.cells #[.int .i64 k, .int .i64 f, .int .i64 d, .int .u64 t, .int .u64 i, .int .u64 lt, .int .u64 c, .int .u64 r, .bool ok, .bool fo, .slice E es.length e, .int .u64 si, .int .u64 st, .slice A sm.length a, .slice B sd.length b] 33)
  have HB1 := Lib.hid hB1
  have HK := Lib.hid (World.alloc_heap_new w (.cells #[.int .i64 k, .int .i64 f, .int .i64 d, .int .u64 t, .int .u64 i, .int .u64 lt, .int .u64 c, .int .u64 r, .bool ok, .bool fo, .slice E es.length e, .int .u64 si, .int .u64 st, .slice A sm.length a, .slice B sd.length b] 33))
  have HM := Lib.hid (h.below hB1)
  have HM0 := Lib.hid h
  clear h hB1
  dsimp only at *
  have k1 : (k == 1) = false := by rw [beq_eq_false_iff_ne]; omega
  have k2 : (k == 2) = false := by rw [beq_eq_false_iff_ne]; omega
  have k3 : (k == 3) = false := by rw [beq_eq_false_iff_ne]; omega
  have k4 : (k == 4) = false := by rw [beq_eq_false_iff_ne]; omega
  have k5 : (k == 5) = false := by rw [beq_eq_false_iff_ne]; omega
  have k6 : (k == 6) = false := by rw [beq_eq_false_iff_ne]; omega
  have k7 : (k == 7) = false := by rw [beq_eq_false_iff_ne]; omega
  clear hk
  have HP := Lib.hid (show plainW ⟨k, f, d, t, i, lt, c, r, ok, fo, es, ⟨si, st, sm, sd⟩⟩ = ⟨k, f, d, t, 0, 0, 0, 0, false, false, [], sn0⟩ by simp [plainW, hasIndex, hasPlace, hasRound, hasOk, beq_eq_false_iff_ne.1 k1, beq_eq_false_iff_ne.1 k2, beq_eq_false_iff_ne.1 k3, beq_eq_false_iff_ne.1 k4, beq_eq_false_iff_ne.1 k5, beq_eq_false_iff_ne.1 k6, beq_eq_false_iff_ne.1 k7])
  have HZ := Lib.hid (show MR w ⟨k, f, d, t, 0, 0, 0, 0, false, false, [], sn0⟩ none 0 none 0 none 0 from ⟨Nat.le_refl _, Kd.C_nil _ _, SR.zero w⟩)
  unfold PlainP
  rw [HP.out]
  go_enter Try.func23, Try.ntmps23
  go_wp2
  have hb := below_step (below_step (below_alloc (Below.refl _ w) (.cells #[.int .i64 k, .int .i64 f, .int .i64 d, .int .u64 t, .int .u64 i, .int .u64 lt, .int .u64 c, .int .u64 r, .bool ok, .bool fo, .slice E es.length e, .int .u64 si, .int .u64 st, .slice A sm.length a, .slice B sd.length b] 33)) (below_alloc (Below.refl _ _) (.cells #[.int .i64 k, .int .i64 f, .int .i64 d, .int .u64 t, .int .u64 0, .int .u64 0, .int .u64 0, .int .u64 0, .bool false, .bool false, .slice none 0 0, .int .u64 0, .int .u64 0, .slice none 0 0, .slice none 0 0] 33))) (below_alloc (Below.refl _ _) (.cells #[.int .i64 k, .int .i64 f, .int .i64 d, .int .u64 t, .int .u64 0, .int .u64 0, .int .u64 0, .int .u64 0, .bool false, .bool false, .slice none 0 0, .int .u64 0, .int .u64 0, .slice none 0 0, .slice none 0 0] 33))
  refine bodyPost_ret (v := msgV ⟨k, f, d, t, 0, 0, 0, 0, false, false, [], sn0⟩ none 0 none 0 none 0) (by simp [results, Try.results23, go_sem, sn0]) rfl ?_
  exact ⟨hb, _, _, _, _, _, _, rfl, HZ.out.below hb⟩
theorem rplain_walk (m : Wm) (E : Option Addr) (e : Nat) (A : Option Addr) (a : Nat) (B : Option Addr) (b : Nat) (w : World) (h : MR w m E e A a B b) :
    Calls Try.prog 23 #[msgV m E e A a B b] w (PlainP m w) := by
  have h8 : m.kind = 1 ∨ m.kind = 2 ∨ m.kind = 3 ∨ m.kind = 4 ∨ m.kind = 5 ∨ m.kind = 6 ∨ m.kind = 7 ∨ m.kind = 8 ∨ (m.kind < 1 ∨ 8 < m.kind) := by omega
  rcases h8 with h8 | h8 | h8 | h8 | h8 | h8 | h8 | h8 | h8
  · exact rplain_1 m E e A a B b w h h8
  · exact rplain_2 m E e A a B b w h h8
  · exact rplain_3 m E e A a B b w h h8
  · exact rplain_4 m E e A a B b w h h8
  · exact rplain_5 m E e A a B b w h h8
  · exact rplain_6 m E e A a B b w h h8
  · exact rplain_7 m E e A a B b w h h8
  · exact rplain_8 m E e A a B b w h h8
  · exact rplain_0 m E e A a B b w h h8
end Go.Proofs.Ytoccidpocagkjaa
