/- WireSays: the walk, both light (ft). -/
import Derived.Test.YtoccidpocagkjaaSwp
import Derived.Test.YtoccidpocagkjaaSwk
import Derived.Test.YtoccidpocagkjaaSwq
import Derived.Deep.QuietTactic
import Derived.BigQuiet
set_option linter.unusedVariables false
set_option linter.unusedSimpArgs false
namespace Go.Proofs.Ytoccidpocagkjaa
open Go.RowKit Go.Proofs.YtoccidpocagkjaaW.PrintWords Cf
attribute [local go_sem] str_beq str_bne

theorem region_quiet_ft {P : Program} {C : World → Prop} {id : Nat} {Q : Exit → Act → World → Prop} {a : Act} {w : World} {l : List Oper} (hm : P.follows .mixedOrders = true) (hB : Region.lexB .any l.toArray = true) (hC : C { w with drawn := w.drawn + 1 })
    (h : wpQuiet P l.toArray C (fun a' => ∀ w', C w' → Q .normal a' w') l a) : (Code.region id l.toArray true).wp P Q a w :=
  wp_region_quiet hm hB hC (by simpa using h)
set_option maxRecDepth 100000 in
set_option maxHeartbeats 8000000 in
theorem says_3ft (m m' : Wm) (E : Option Addr) (e : Nat) (A : Option Addr) (a : Nat) (B : Option Addr) (b : Nat) (E' : Option Addr) (e' : Nat) (A' : Option Addr) (a' : Nat) (B' : Option Addr) (b' : Nat) (w : World) (h : MR w m E e A a B b) (h' : MR w m' E' e' A' a' B' b') (ho : msgOk m) (ho' : msgOk m') (hl : lightW m = true) (hl' : lightW m' = true) (vs : soundW m = false) (vm : decide (m = m') = true) :
    Calls Try.prog 3 #[msgV m E e A a B b, msgV m' E' e' A' a' B' b'] w fun e w' => e = .returned (.bool true) ∧ Below w.heap.size w w' := by
  have HL1 := Lib.hid (fun w' (hb : Below w.heap.size w w') => light30_walk m E e A a B b w' (h.below hb))
  have HL2 := Lib.hid (fun w' (hb : Below w.heap.size w w') => light30_walk m' E' e' A' a' B' b' w' (h'.below hb))
  rw [hl] at HL1
  rw [hl'] at HL2
  have HS0 := Lib.hid (fun w' (hb : Below w.heap.size w w') => soundP_walk m E e A a B b w' (h.below hb) ho)
  have HR0 := Lib.hid (fun w' (hb : Below w.heap.size w w') => soundW_walk m E e A a B b w' (h.below hb) ho)
  have HM0 := Lib.hid (fun w' (hb : Below w.heap.size w w') => msame_walk m m' E e A a B b E' e' A' a' B' b' w' (h.below hb) (h'.below hb))
  have HN0 := Lib.hid (fun w' (hb : Below w.heap.size w w') => rmsame_walk m m' E e A a B b E' e' A' a' B' b' w' (h.below hb) (h'.below hb))
  have HO0 := Lib.hid (fun w' (hb : Below w.heap.size w w') => msame_walk m m E e A a B b E e A a B b w' (h.below hb) (h.below hb))
  rw [soundP_eq] at HS0
  rw [show decide (m = m) = true by simp] at HO0
  rw [vs] at HS0 HR0
  rw [vm] at HM0 HN0
  clear h h' ho ho' hl hl' vs vm
  obtain ⟨k, f, d, t, i, lt, c, r, ok, fo, es, ⟨si, st, sm, sd⟩⟩ := m
  obtain ⟨k', f', d', t', i', lt', c', r', ok', fo', es', ⟨si', st', sm', sd'⟩⟩ := m'
  have hb2 := below_step (below_alloc (Below.refl _ w) (.cells #[.int .i64 k, .int .i64 f, .int .i64 d, .int .u64 t, .int .u64 i, .int .u64 lt, .int .u64 c, .int .u64 r, .bool ok, .bool fo, .slice E es.length e, .int .u64 si, .int .u64 st, .slice A sm.length a, .slice B sd.length b] 29)) (below_alloc (Below.refl _ _) (.cells #[.int .i64 k', .int .i64 f', .int .i64 d', .int .u64 t', .int .u64 i', .int .u64 lt', .int .u64 c', .int .u64 r', .bool ok', .bool fo', .slice E' es'.length e', .int .u64 si', .int .u64 st', .slice A' sm'.length a', .slice B' sd'.length b'] 29))
  have hx := blk_below (World.alloc_heap_new w (.cells #[.int .i64 k, .int .i64 f, .int .i64 d, .int .u64 t, .int .u64 i, .int .u64 lt, .int .u64 c, .int .u64 r, .bool ok, .bool fo, .slice E es.length e, .int .u64 si, .int .u64 st, .slice A sm.length a, .slice B sd.length b] 29)) (below_alloc (Below.refl _ _) (.cells #[.int .i64 k', .int .i64 f', .int .i64 d', .int .u64 t', .int .u64 i', .int .u64 lt', .int .u64 c', .int .u64 r', .bool ok', .bool fo', .slice E' es'.length e', .int .u64 si', .int .u64 st', .slice A' sm'.length a', .slice B' sd'.length b'] 29))
  have hy := World.alloc_heap_new (w.alloc (.cells #[.int .i64 k, .int .i64 f, .int .i64 d, .int .u64 t, .int .u64 i, .int .u64 lt, .int .u64 c, .int .u64 r, .bool ok, .bool fo, .slice E es.length e, .int .u64 si, .int .u64 st, .slice A sm.length a, .slice B sd.length b] 29)) (.cells #[.int .i64 k', .int .i64 f', .int .i64 d', .int .u64 t', .int .u64 i', .int .u64 lt', .int .u64 c', .int .u64 r', .bool ok', .bool fo', .slice E' es'.length e', .int .u64 si', .int .u64 st', .slice A' sm'.length a', .slice B' sd'.length b'] 29)
  rw [World.size_alloc] at hy
  obtain ⟨w2, hw2⟩ : ∃ w2, ((w.alloc (.cells #[.int .i64 k, .int .i64 f, .int .i64 d, .int .u64 t, .int .u64 i, .int .u64 lt, .int .u64 c, .int .u64 r, .bool ok, .bool fo, .slice E es.length e, .int .u64 si, .int .u64 st, .slice A sm.length a, .slice B sd.length b] 29)).alloc (.cells #[.int .i64 k', .int .i64 f', .int .i64 d', .int .u64 t', .int .u64 i', .int .u64 lt', .int .u64 c', .int .u64 r', .bool ok', .bool fo', .slice E' es'.length e', .int .u64 si', .int .u64 st', .slice A' sm'.length a', .slice B' sd'.length b'] 29)) = w2 := ⟨_, rfl⟩
  rw [hw2] at hb2 hx hy
  obtain ⟨g1, hg1⟩ : ∃ g1, w.heap.size + 1 = g1 := ⟨_, rfl⟩
  obtain ⟨g0, hg0⟩ : ∃ g0, w.heap.size = g0 := ⟨_, rfl⟩
  rw [hg1] at hy
  rw [hg0] at hx
  have HW2 := Lib.hid hw2
  have HG1 := Lib.hid hg1
  have HG0 := Lib.hid hg0
  have HB2 := Lib.hid hb2
  have HX := Lib.hid hx
  have HY := Lib.hid hy
  clear hw2 hb2 hx hy hg1 hg0
  try dsimp only at *
  go_enter Try.func3, Try.ntmps3
  go_upto_region 1 with (fail)
  rw [HW2.out, HG1.out, HG0.out]
  obtain ⟨b0, b1, b2, b3, b4, b5, b6, b7, b8, b9, b10, b11, b12, b13, b14⟩ := blk15 HX.out
  obtain ⟨c0, c1, c2, c3, c4, c5, c6, c7, c8, c9, c10, c11, c12, c13, c14⟩ := blk15 HY.out
  go_wp2_with fail
  refine (HL1.out _ HB2.out).mono ?_
  rintro e1 w3 ⟨rfl, hb3⟩
  have HB3 := Lib.hid (below_step HB2.out hb3)
  have HX3 := Lib.hid (blk_below HX.out hb3)
  have HY3 := Lib.hid (blk_below HY.out hb3)
  clear hb3 b0 b1 b2 b3 b4 b5 b6 b7 b8 b9 b10 b11 b12 b13 b14 c0 c1 c2 c3 c4 c5 c6 c7 c8 c9 c10 c11 c12 c13 c14
  obtain ⟨b0, b1, b2, b3, b4, b5, b6, b7, b8, b9, b10, b11, b12, b13, b14⟩ := blk15 HX3.out
  obtain ⟨c0, c1, c2, c3, c4, c5, c6, c7, c8, c9, c10, c11, c12, c13, c14⟩ := blk15 HY3.out
  go_wp2_with fail
  refine (HL2.out _ HB3.out).mono ?_
  rintro e1 w4 ⟨rfl, hb4⟩
  have HB4 := Lib.hid (below_step HB3.out hb4)
  have HX4 := Lib.hid (blk_below HX3.out hb4)
  have HY4 := Lib.hid (blk_below HY3.out hb4)
  clear hb4 b0 b1 b2 b3 b4 b5 b6 b7 b8 b9 b10 b11 b12 b13 b14 c0 c1 c2 c3 c4 c5 c6 c7 c8 c9 c10 c11 c12 c13 c14
  go_wp2_with fail
  obtain ⟨ι, hne, G, hG, hS⟩ : ∃ (ι : Type) (_ : Nonempty ι) (G : ι → World), (∀ n, Below w4.heap.size w4 (G n)) ∧ ∀ W, Below w4.heap.size w4 W → ∃ n, W = G n := ⟨{W // Below w4.heap.size w4 W}, ⟨⟨w4, Below.refl _ _⟩⟩, Subtype.val, fun n => n.2, fun W h => ⟨⟨W, h⟩, rfl⟩⟩
  have hbx := fun n => blk15 (blk_below HX4.out (hG n))
  have hcx := fun n => blk15 (blk_below HY4.out (hG n))
  simp only [forall_and] at hbx hcx
  obtain ⟨b0, b1, b2, b3, b4, b5, b6, b7, b8, b9, b10, b11, b12, b13, b14⟩ := hbx
  obtain ⟨c0, c1, c2, c3, c4, c5, c6, c7, c8, c9, c10, c11, c12, c13, c14⟩ := hcx
  have hGB := fun n => below_step HB4.out (hG n)
  have HGB := Lib.hid hGB
  clear hGB
  as_aux_lemma =>
    refine region_quiet_ft (C := (fun W => ∃ n, W = G n)) (by kernel_rfl) (by kernel_rfl) (hS _ (below_drew (Below.refl _ _))) ?_
    (go_big_quiet_step ((first
    | (go_at_call 9; refine (HS0.out _ (HGB.out _)).mono ?_; rintro e1 w6 ⟨rfl, hb⟩; exact ⟨rfl, hS _ (below_step (hG _) hb)⟩)
    | (go_at_call 10; refine (HR0.out _ (HGB.out _)).mono ?_; rintro e1 w6 ⟨rfl, hb⟩; exact ⟨rfl, hS _ (below_step (hG _) hb)⟩)
    | (go_at_call_of 11 E'; refine (HM0.out _ (HGB.out _)).mono ?_; rintro e1 w6 ⟨rfl, hb⟩; exact ⟨rfl, hS _ (below_step (hG _) hb)⟩)
    | (go_at_call 12; refine (HN0.out _ (HGB.out _)).mono ?_; rintro e1 w6 ⟨rfl, hb⟩; exact ⟨rfl, hS _ (below_step (hG _) hb)⟩)
    | (go_at_call 11; refine (HO0.out _ (HGB.out _)).mono ?_; rintro e1 w6 ⟨rfl, hb⟩; exact ⟨rfl, hS _ (below_step (hG _) hb)⟩)
    | (go_at_call 8; refine (lives30_walk _).mono ?_; rintro e1 w6 ⟨rfl, hb⟩; exact ⟨rfl, hS _ (below_step (hG _) hb)⟩))))
    (go_big_quiet_step ((first
    | (go_at_call 9; refine (HS0.out _ (HGB.out _)).mono ?_; rintro e1 w6 ⟨rfl, hb⟩; exact ⟨rfl, hS _ (below_step (hG _) hb)⟩)
    | (go_at_call 10; refine (HR0.out _ (HGB.out _)).mono ?_; rintro e1 w6 ⟨rfl, hb⟩; exact ⟨rfl, hS _ (below_step (hG _) hb)⟩)
    | (go_at_call_of 11 E'; refine (HM0.out _ (HGB.out _)).mono ?_; rintro e1 w6 ⟨rfl, hb⟩; exact ⟨rfl, hS _ (below_step (hG _) hb)⟩)
    | (go_at_call 12; refine (HN0.out _ (HGB.out _)).mono ?_; rintro e1 w6 ⟨rfl, hb⟩; exact ⟨rfl, hS _ (below_step (hG _) hb)⟩)
    | (go_at_call 11; refine (HO0.out _ (HGB.out _)).mono ?_; rintro e1 w6 ⟨rfl, hb⟩; exact ⟨rfl, hS _ (below_step (hG _) hb)⟩)
    | (go_at_call 8; refine (lives30_walk _).mono ?_; rintro e1 w6 ⟨rfl, hb⟩; exact ⟨rfl, hS _ (below_step (hG _) hb)⟩))))
    (go_big_quiet_step ((first
    | (go_at_call 9; refine (HS0.out _ (HGB.out _)).mono ?_; rintro e1 w6 ⟨rfl, hb⟩; exact ⟨rfl, hS _ (below_step (hG _) hb)⟩)
    | (go_at_call 10; refine (HR0.out _ (HGB.out _)).mono ?_; rintro e1 w6 ⟨rfl, hb⟩; exact ⟨rfl, hS _ (below_step (hG _) hb)⟩)
    | (go_at_call_of 11 E'; refine (HM0.out _ (HGB.out _)).mono ?_; rintro e1 w6 ⟨rfl, hb⟩; exact ⟨rfl, hS _ (below_step (hG _) hb)⟩)
    | (go_at_call 12; refine (HN0.out _ (HGB.out _)).mono ?_; rintro e1 w6 ⟨rfl, hb⟩; exact ⟨rfl, hS _ (below_step (hG _) hb)⟩)
    | (go_at_call 11; refine (HO0.out _ (HGB.out _)).mono ?_; rintro e1 w6 ⟨rfl, hb⟩; exact ⟨rfl, hS _ (below_step (hG _) hb)⟩)
    | (go_at_call 8; refine (lives30_walk _).mono ?_; rintro e1 w6 ⟨rfl, hb⟩; exact ⟨rfl, hS _ (below_step (hG _) hb)⟩))))
    (go_big_quiet_step ((first
    | (go_at_call 9; refine (HS0.out _ (HGB.out _)).mono ?_; rintro e1 w6 ⟨rfl, hb⟩; exact ⟨rfl, hS _ (below_step (hG _) hb)⟩)
    | (go_at_call 10; refine (HR0.out _ (HGB.out _)).mono ?_; rintro e1 w6 ⟨rfl, hb⟩; exact ⟨rfl, hS _ (below_step (hG _) hb)⟩)
    | (go_at_call_of 11 E'; refine (HM0.out _ (HGB.out _)).mono ?_; rintro e1 w6 ⟨rfl, hb⟩; exact ⟨rfl, hS _ (below_step (hG _) hb)⟩)
    | (go_at_call 12; refine (HN0.out _ (HGB.out _)).mono ?_; rintro e1 w6 ⟨rfl, hb⟩; exact ⟨rfl, hS _ (below_step (hG _) hb)⟩)
    | (go_at_call 11; refine (HO0.out _ (HGB.out _)).mono ?_; rintro e1 w6 ⟨rfl, hb⟩; exact ⟨rfl, hS _ (below_step (hG _) hb)⟩)
    | (go_at_call 8; refine (lives30_walk _).mono ?_; rintro e1 w6 ⟨rfl, hb⟩; exact ⟨rfl, hS _ (below_step (hG _) hb)⟩))))
    (go_big_quiet_step ((first
    | (go_at_call 9; refine (HS0.out _ (HGB.out _)).mono ?_; rintro e1 w6 ⟨rfl, hb⟩; exact ⟨rfl, hS _ (below_step (hG _) hb)⟩)
    | (go_at_call 10; refine (HR0.out _ (HGB.out _)).mono ?_; rintro e1 w6 ⟨rfl, hb⟩; exact ⟨rfl, hS _ (below_step (hG _) hb)⟩)
    | (go_at_call_of 11 E'; refine (HM0.out _ (HGB.out _)).mono ?_; rintro e1 w6 ⟨rfl, hb⟩; exact ⟨rfl, hS _ (below_step (hG _) hb)⟩)
    | (go_at_call 12; refine (HN0.out _ (HGB.out _)).mono ?_; rintro e1 w6 ⟨rfl, hb⟩; exact ⟨rfl, hS _ (below_step (hG _) hb)⟩)
    | (go_at_call 11; refine (HO0.out _ (HGB.out _)).mono ?_; rintro e1 w6 ⟨rfl, hb⟩; exact ⟨rfl, hS _ (below_step (hG _) hb)⟩)
    | (go_at_call 8; refine (lives30_walk _).mono ?_; rintro e1 w6 ⟨rfl, hb⟩; exact ⟨rfl, hS _ (below_step (hG _) hb)⟩))))
    as_aux_lemma =>
      (go_big_quiet_step ((first
    | (go_at_call 9; refine (HS0.out _ (HGB.out _)).mono ?_; rintro e1 w6 ⟨rfl, hb⟩; exact ⟨rfl, hS _ (below_step (hG _) hb)⟩)
    | (go_at_call 10; refine (HR0.out _ (HGB.out _)).mono ?_; rintro e1 w6 ⟨rfl, hb⟩; exact ⟨rfl, hS _ (below_step (hG _) hb)⟩)
    | (go_at_call_of 11 E'; refine (HM0.out _ (HGB.out _)).mono ?_; rintro e1 w6 ⟨rfl, hb⟩; exact ⟨rfl, hS _ (below_step (hG _) hb)⟩)
    | (go_at_call 12; refine (HN0.out _ (HGB.out _)).mono ?_; rintro e1 w6 ⟨rfl, hb⟩; exact ⟨rfl, hS _ (below_step (hG _) hb)⟩)
    | (go_at_call 11; refine (HO0.out _ (HGB.out _)).mono ?_; rintro e1 w6 ⟨rfl, hb⟩; exact ⟨rfl, hS _ (below_step (hG _) hb)⟩)
    | (go_at_call 8; refine (lives30_walk _).mono ?_; rintro e1 w6 ⟨rfl, hb⟩; exact ⟨rfl, hS _ (below_step (hG _) hb)⟩))))
      (go_big_quiet_step ((first
    | (go_at_call 9; refine (HS0.out _ (HGB.out _)).mono ?_; rintro e1 w6 ⟨rfl, hb⟩; exact ⟨rfl, hS _ (below_step (hG _) hb)⟩)
    | (go_at_call 10; refine (HR0.out _ (HGB.out _)).mono ?_; rintro e1 w6 ⟨rfl, hb⟩; exact ⟨rfl, hS _ (below_step (hG _) hb)⟩)
    | (go_at_call_of 11 E'; refine (HM0.out _ (HGB.out _)).mono ?_; rintro e1 w6 ⟨rfl, hb⟩; exact ⟨rfl, hS _ (below_step (hG _) hb)⟩)
    | (go_at_call 12; refine (HN0.out _ (HGB.out _)).mono ?_; rintro e1 w6 ⟨rfl, hb⟩; exact ⟨rfl, hS _ (below_step (hG _) hb)⟩)
    | (go_at_call 11; refine (HO0.out _ (HGB.out _)).mono ?_; rintro e1 w6 ⟨rfl, hb⟩; exact ⟨rfl, hS _ (below_step (hG _) hb)⟩)
    | (go_at_call 8; refine (lives30_walk _).mono ?_; rintro e1 w6 ⟨rfl, hb⟩; exact ⟨rfl, hS _ (below_step (hG _) hb)⟩))))
      (go_big_quiet_step ((first
    | (go_at_call 9; refine (HS0.out _ (HGB.out _)).mono ?_; rintro e1 w6 ⟨rfl, hb⟩; exact ⟨rfl, hS _ (below_step (hG _) hb)⟩)
    | (go_at_call 10; refine (HR0.out _ (HGB.out _)).mono ?_; rintro e1 w6 ⟨rfl, hb⟩; exact ⟨rfl, hS _ (below_step (hG _) hb)⟩)
    | (go_at_call_of 11 E'; refine (HM0.out _ (HGB.out _)).mono ?_; rintro e1 w6 ⟨rfl, hb⟩; exact ⟨rfl, hS _ (below_step (hG _) hb)⟩)
    | (go_at_call 12; refine (HN0.out _ (HGB.out _)).mono ?_; rintro e1 w6 ⟨rfl, hb⟩; exact ⟨rfl, hS _ (below_step (hG _) hb)⟩)
    | (go_at_call 11; refine (HO0.out _ (HGB.out _)).mono ?_; rintro e1 w6 ⟨rfl, hb⟩; exact ⟨rfl, hS _ (below_step (hG _) hb)⟩)
    | (go_at_call 8; refine (lives30_walk _).mono ?_; rintro e1 w6 ⟨rfl, hb⟩; exact ⟨rfl, hS _ (below_step (hG _) hb)⟩))))
      (go_big_quiet_step ((first
    | (go_at_call 9; refine (HS0.out _ (HGB.out _)).mono ?_; rintro e1 w6 ⟨rfl, hb⟩; exact ⟨rfl, hS _ (below_step (hG _) hb)⟩)
    | (go_at_call 10; refine (HR0.out _ (HGB.out _)).mono ?_; rintro e1 w6 ⟨rfl, hb⟩; exact ⟨rfl, hS _ (below_step (hG _) hb)⟩)
    | (go_at_call_of 11 E'; refine (HM0.out _ (HGB.out _)).mono ?_; rintro e1 w6 ⟨rfl, hb⟩; exact ⟨rfl, hS _ (below_step (hG _) hb)⟩)
    | (go_at_call 12; refine (HN0.out _ (HGB.out _)).mono ?_; rintro e1 w6 ⟨rfl, hb⟩; exact ⟨rfl, hS _ (below_step (hG _) hb)⟩)
    | (go_at_call 11; refine (HO0.out _ (HGB.out _)).mono ?_; rintro e1 w6 ⟨rfl, hb⟩; exact ⟨rfl, hS _ (below_step (hG _) hb)⟩)
    | (go_at_call 8; refine (lives30_walk _).mono ?_; rintro e1 w6 ⟨rfl, hb⟩; exact ⟨rfl, hS _ (below_step (hG _) hb)⟩))))
      (go_big_quiet_step ((first
    | (go_at_call 9; refine (HS0.out _ (HGB.out _)).mono ?_; rintro e1 w6 ⟨rfl, hb⟩; exact ⟨rfl, hS _ (below_step (hG _) hb)⟩)
    | (go_at_call 10; refine (HR0.out _ (HGB.out _)).mono ?_; rintro e1 w6 ⟨rfl, hb⟩; exact ⟨rfl, hS _ (below_step (hG _) hb)⟩)
    | (go_at_call_of 11 E'; refine (HM0.out _ (HGB.out _)).mono ?_; rintro e1 w6 ⟨rfl, hb⟩; exact ⟨rfl, hS _ (below_step (hG _) hb)⟩)
    | (go_at_call 12; refine (HN0.out _ (HGB.out _)).mono ?_; rintro e1 w6 ⟨rfl, hb⟩; exact ⟨rfl, hS _ (below_step (hG _) hb)⟩)
    | (go_at_call 11; refine (HO0.out _ (HGB.out _)).mono ?_; rintro e1 w6 ⟨rfl, hb⟩; exact ⟨rfl, hS _ (below_step (hG _) hb)⟩)
    | (go_at_call 8; refine (lives30_walk _).mono ?_; rintro e1 w6 ⟨rfl, hb⟩; exact ⟨rfl, hS _ (below_step (hG _) hb)⟩))))
      as_aux_lemma =>
        (go_big_quiet_step ((first
    | (go_at_call 9; refine (HS0.out _ (HGB.out _)).mono ?_; rintro e1 w6 ⟨rfl, hb⟩; exact ⟨rfl, hS _ (below_step (hG _) hb)⟩)
    | (go_at_call 10; refine (HR0.out _ (HGB.out _)).mono ?_; rintro e1 w6 ⟨rfl, hb⟩; exact ⟨rfl, hS _ (below_step (hG _) hb)⟩)
    | (go_at_call_of 11 E'; refine (HM0.out _ (HGB.out _)).mono ?_; rintro e1 w6 ⟨rfl, hb⟩; exact ⟨rfl, hS _ (below_step (hG _) hb)⟩)
    | (go_at_call 12; refine (HN0.out _ (HGB.out _)).mono ?_; rintro e1 w6 ⟨rfl, hb⟩; exact ⟨rfl, hS _ (below_step (hG _) hb)⟩)
    | (go_at_call 11; refine (HO0.out _ (HGB.out _)).mono ?_; rintro e1 w6 ⟨rfl, hb⟩; exact ⟨rfl, hS _ (below_step (hG _) hb)⟩)
    | (go_at_call 8; refine (lives30_walk _).mono ?_; rintro e1 w6 ⟨rfl, hb⟩; exact ⟨rfl, hS _ (below_step (hG _) hb)⟩))))
        (go_big_quiet_step ((first
    | (go_at_call 9; refine (HS0.out _ (HGB.out _)).mono ?_; rintro e1 w6 ⟨rfl, hb⟩; exact ⟨rfl, hS _ (below_step (hG _) hb)⟩)
    | (go_at_call 10; refine (HR0.out _ (HGB.out _)).mono ?_; rintro e1 w6 ⟨rfl, hb⟩; exact ⟨rfl, hS _ (below_step (hG _) hb)⟩)
    | (go_at_call_of 11 E'; refine (HM0.out _ (HGB.out _)).mono ?_; rintro e1 w6 ⟨rfl, hb⟩; exact ⟨rfl, hS _ (below_step (hG _) hb)⟩)
    | (go_at_call 12; refine (HN0.out _ (HGB.out _)).mono ?_; rintro e1 w6 ⟨rfl, hb⟩; exact ⟨rfl, hS _ (below_step (hG _) hb)⟩)
    | (go_at_call 11; refine (HO0.out _ (HGB.out _)).mono ?_; rintro e1 w6 ⟨rfl, hb⟩; exact ⟨rfl, hS _ (below_step (hG _) hb)⟩)
    | (go_at_call 8; refine (lives30_walk _).mono ?_; rintro e1 w6 ⟨rfl, hb⟩; exact ⟨rfl, hS _ (below_step (hG _) hb)⟩))))
        (go_big_quiet_step ((first
    | (go_at_call 9; refine (HS0.out _ (HGB.out _)).mono ?_; rintro e1 w6 ⟨rfl, hb⟩; exact ⟨rfl, hS _ (below_step (hG _) hb)⟩)
    | (go_at_call 10; refine (HR0.out _ (HGB.out _)).mono ?_; rintro e1 w6 ⟨rfl, hb⟩; exact ⟨rfl, hS _ (below_step (hG _) hb)⟩)
    | (go_at_call_of 11 E'; refine (HM0.out _ (HGB.out _)).mono ?_; rintro e1 w6 ⟨rfl, hb⟩; exact ⟨rfl, hS _ (below_step (hG _) hb)⟩)
    | (go_at_call 12; refine (HN0.out _ (HGB.out _)).mono ?_; rintro e1 w6 ⟨rfl, hb⟩; exact ⟨rfl, hS _ (below_step (hG _) hb)⟩)
    | (go_at_call 11; refine (HO0.out _ (HGB.out _)).mono ?_; rintro e1 w6 ⟨rfl, hb⟩; exact ⟨rfl, hS _ (below_step (hG _) hb)⟩)
    | (go_at_call 8; refine (lives30_walk _).mono ?_; rintro e1 w6 ⟨rfl, hb⟩; exact ⟨rfl, hS _ (below_step (hG _) hb)⟩))))
        (go_big_quiet_step ((first
    | (go_at_call 9; refine (HS0.out _ (HGB.out _)).mono ?_; rintro e1 w6 ⟨rfl, hb⟩; exact ⟨rfl, hS _ (below_step (hG _) hb)⟩)
    | (go_at_call 10; refine (HR0.out _ (HGB.out _)).mono ?_; rintro e1 w6 ⟨rfl, hb⟩; exact ⟨rfl, hS _ (below_step (hG _) hb)⟩)
    | (go_at_call_of 11 E'; refine (HM0.out _ (HGB.out _)).mono ?_; rintro e1 w6 ⟨rfl, hb⟩; exact ⟨rfl, hS _ (below_step (hG _) hb)⟩)
    | (go_at_call 12; refine (HN0.out _ (HGB.out _)).mono ?_; rintro e1 w6 ⟨rfl, hb⟩; exact ⟨rfl, hS _ (below_step (hG _) hb)⟩)
    | (go_at_call 11; refine (HO0.out _ (HGB.out _)).mono ?_; rintro e1 w6 ⟨rfl, hb⟩; exact ⟨rfl, hS _ (below_step (hG _) hb)⟩)
    | (go_at_call 8; refine (lives30_walk _).mono ?_; rintro e1 w6 ⟨rfl, hb⟩; exact ⟨rfl, hS _ (below_step (hG _) hb)⟩))))
        (go_big_quiet_step ((first
    | (go_at_call 9; refine (HS0.out _ (HGB.out _)).mono ?_; rintro e1 w6 ⟨rfl, hb⟩; exact ⟨rfl, hS _ (below_step (hG _) hb)⟩)
    | (go_at_call 10; refine (HR0.out _ (HGB.out _)).mono ?_; rintro e1 w6 ⟨rfl, hb⟩; exact ⟨rfl, hS _ (below_step (hG _) hb)⟩)
    | (go_at_call_of 11 E'; refine (HM0.out _ (HGB.out _)).mono ?_; rintro e1 w6 ⟨rfl, hb⟩; exact ⟨rfl, hS _ (below_step (hG _) hb)⟩)
    | (go_at_call 12; refine (HN0.out _ (HGB.out _)).mono ?_; rintro e1 w6 ⟨rfl, hb⟩; exact ⟨rfl, hS _ (below_step (hG _) hb)⟩)
    | (go_at_call 11; refine (HO0.out _ (HGB.out _)).mono ?_; rintro e1 w6 ⟨rfl, hb⟩; exact ⟨rfl, hS _ (below_step (hG _) hb)⟩)
    | (go_at_call 8; refine (lives30_walk _).mono ?_; rintro e1 w6 ⟨rfl, hb⟩; exact ⟨rfl, hS _ (below_step (hG _) hb)⟩))))
        as_aux_lemma =>
          (go_big_quiet_step ((first
    | (go_at_call 9; refine (HS0.out _ (HGB.out _)).mono ?_; rintro e1 w6 ⟨rfl, hb⟩; exact ⟨rfl, hS _ (below_step (hG _) hb)⟩)
    | (go_at_call 10; refine (HR0.out _ (HGB.out _)).mono ?_; rintro e1 w6 ⟨rfl, hb⟩; exact ⟨rfl, hS _ (below_step (hG _) hb)⟩)
    | (go_at_call_of 11 E'; refine (HM0.out _ (HGB.out _)).mono ?_; rintro e1 w6 ⟨rfl, hb⟩; exact ⟨rfl, hS _ (below_step (hG _) hb)⟩)
    | (go_at_call 12; refine (HN0.out _ (HGB.out _)).mono ?_; rintro e1 w6 ⟨rfl, hb⟩; exact ⟨rfl, hS _ (below_step (hG _) hb)⟩)
    | (go_at_call 11; refine (HO0.out _ (HGB.out _)).mono ?_; rintro e1 w6 ⟨rfl, hb⟩; exact ⟨rfl, hS _ (below_step (hG _) hb)⟩)
    | (go_at_call 8; refine (lives30_walk _).mono ?_; rintro e1 w6 ⟨rfl, hb⟩; exact ⟨rfl, hS _ (below_step (hG _) hb)⟩))))
          (go_big_quiet_step ((first
    | (go_at_call 9; refine (HS0.out _ (HGB.out _)).mono ?_; rintro e1 w6 ⟨rfl, hb⟩; exact ⟨rfl, hS _ (below_step (hG _) hb)⟩)
    | (go_at_call 10; refine (HR0.out _ (HGB.out _)).mono ?_; rintro e1 w6 ⟨rfl, hb⟩; exact ⟨rfl, hS _ (below_step (hG _) hb)⟩)
    | (go_at_call_of 11 E'; refine (HM0.out _ (HGB.out _)).mono ?_; rintro e1 w6 ⟨rfl, hb⟩; exact ⟨rfl, hS _ (below_step (hG _) hb)⟩)
    | (go_at_call 12; refine (HN0.out _ (HGB.out _)).mono ?_; rintro e1 w6 ⟨rfl, hb⟩; exact ⟨rfl, hS _ (below_step (hG _) hb)⟩)
    | (go_at_call 11; refine (HO0.out _ (HGB.out _)).mono ?_; rintro e1 w6 ⟨rfl, hb⟩; exact ⟨rfl, hS _ (below_step (hG _) hb)⟩)
    | (go_at_call 8; refine (lives30_walk _).mono ?_; rintro e1 w6 ⟨rfl, hb⟩; exact ⟨rfl, hS _ (below_step (hG _) hb)⟩))))
          (go_big_quiet_step ((first
    | (go_at_call 9; refine (HS0.out _ (HGB.out _)).mono ?_; rintro e1 w6 ⟨rfl, hb⟩; exact ⟨rfl, hS _ (below_step (hG _) hb)⟩)
    | (go_at_call 10; refine (HR0.out _ (HGB.out _)).mono ?_; rintro e1 w6 ⟨rfl, hb⟩; exact ⟨rfl, hS _ (below_step (hG _) hb)⟩)
    | (go_at_call_of 11 E'; refine (HM0.out _ (HGB.out _)).mono ?_; rintro e1 w6 ⟨rfl, hb⟩; exact ⟨rfl, hS _ (below_step (hG _) hb)⟩)
    | (go_at_call 12; refine (HN0.out _ (HGB.out _)).mono ?_; rintro e1 w6 ⟨rfl, hb⟩; exact ⟨rfl, hS _ (below_step (hG _) hb)⟩)
    | (go_at_call 11; refine (HO0.out _ (HGB.out _)).mono ?_; rintro e1 w6 ⟨rfl, hb⟩; exact ⟨rfl, hS _ (below_step (hG _) hb)⟩)
    | (go_at_call 8; refine (lives30_walk _).mono ?_; rintro e1 w6 ⟨rfl, hb⟩; exact ⟨rfl, hS _ (below_step (hG _) hb)⟩))))
          (go_big_quiet_step ((first
    | (go_at_call 9; refine (HS0.out _ (HGB.out _)).mono ?_; rintro e1 w6 ⟨rfl, hb⟩; exact ⟨rfl, hS _ (below_step (hG _) hb)⟩)
    | (go_at_call 10; refine (HR0.out _ (HGB.out _)).mono ?_; rintro e1 w6 ⟨rfl, hb⟩; exact ⟨rfl, hS _ (below_step (hG _) hb)⟩)
    | (go_at_call_of 11 E'; refine (HM0.out _ (HGB.out _)).mono ?_; rintro e1 w6 ⟨rfl, hb⟩; exact ⟨rfl, hS _ (below_step (hG _) hb)⟩)
    | (go_at_call 12; refine (HN0.out _ (HGB.out _)).mono ?_; rintro e1 w6 ⟨rfl, hb⟩; exact ⟨rfl, hS _ (below_step (hG _) hb)⟩)
    | (go_at_call 11; refine (HO0.out _ (HGB.out _)).mono ?_; rintro e1 w6 ⟨rfl, hb⟩; exact ⟨rfl, hS _ (below_step (hG _) hb)⟩)
    | (go_at_call 8; refine (lives30_walk _).mono ?_; rintro e1 w6 ⟨rfl, hb⟩; exact ⟨rfl, hS _ (below_step (hG _) hb)⟩))))
          (go_big_quiet_step ((first
    | (go_at_call 9; refine (HS0.out _ (HGB.out _)).mono ?_; rintro e1 w6 ⟨rfl, hb⟩; exact ⟨rfl, hS _ (below_step (hG _) hb)⟩)
    | (go_at_call 10; refine (HR0.out _ (HGB.out _)).mono ?_; rintro e1 w6 ⟨rfl, hb⟩; exact ⟨rfl, hS _ (below_step (hG _) hb)⟩)
    | (go_at_call_of 11 E'; refine (HM0.out _ (HGB.out _)).mono ?_; rintro e1 w6 ⟨rfl, hb⟩; exact ⟨rfl, hS _ (below_step (hG _) hb)⟩)
    | (go_at_call 12; refine (HN0.out _ (HGB.out _)).mono ?_; rintro e1 w6 ⟨rfl, hb⟩; exact ⟨rfl, hS _ (below_step (hG _) hb)⟩)
    | (go_at_call 11; refine (HO0.out _ (HGB.out _)).mono ?_; rintro e1 w6 ⟨rfl, hb⟩; exact ⟨rfl, hS _ (below_step (hG _) hb)⟩)
    | (go_at_call 8; refine (lives30_walk _).mono ?_; rintro e1 w6 ⟨rfl, hb⟩; exact ⟨rfl, hS _ (below_step (hG _) hb)⟩))))
          as_aux_lemma =>
            repeat (go_big_quiet_step ((first
    | (go_at_call 9; refine (HS0.out _ (HGB.out _)).mono ?_; rintro e1 w6 ⟨rfl, hb⟩; exact ⟨rfl, hS _ (below_step (hG _) hb)⟩)
    | (go_at_call 10; refine (HR0.out _ (HGB.out _)).mono ?_; rintro e1 w6 ⟨rfl, hb⟩; exact ⟨rfl, hS _ (below_step (hG _) hb)⟩)
    | (go_at_call_of 11 E'; refine (HM0.out _ (HGB.out _)).mono ?_; rintro e1 w6 ⟨rfl, hb⟩; exact ⟨rfl, hS _ (below_step (hG _) hb)⟩)
    | (go_at_call 12; refine (HN0.out _ (HGB.out _)).mono ?_; rintro e1 w6 ⟨rfl, hb⟩; exact ⟨rfl, hS _ (below_step (hG _) hb)⟩)
    | (go_at_call 11; refine (HO0.out _ (HGB.out _)).mono ?_; rintro e1 w6 ⟨rfl, hb⟩; exact ⟨rfl, hS _ (below_step (hG _) hb)⟩)
    | (go_at_call 8; refine (lives30_walk _).mono ?_; rintro e1 w6 ⟨rfl, hb⟩; exact ⟨rfl, hS _ (below_step (hG _) hb)⟩))))
            refine wpQuiet_nil ?_
            rintro W ⟨n, rfl⟩
            have HB6 := Lib.hid (HGB.out n)
            go_wp2
            go_ret
            exact ⟨rfl, HB6.out⟩
end Go.Proofs.Ytoccidpocagkjaa
