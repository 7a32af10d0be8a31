/- wire: Same, whole. -/
import Derived.Test.YtoccidpocagkjaaSwo
set_option linter.unusedVariables false
set_option linter.unusedSimpArgs false
namespace Go.Proofs.Ytoccidpocagkjaa
open Go.RowKit Go.Proofs.YtoccidpocagkjaaW.PrintWords Cf
attribute [local go_sem] str_beq str_bne

set_option maxRecDepth 100000 in
set_option maxHeartbeats 16000000 in
theorem msame_6 (m m' : Wm) (E : Option Addr) (e : Nat) (A : Option Addr) (a : Nat) (B : Option Addr) (b : Nat) (E' : Option Addr) (e' : Nat) (A' : Option Addr) (a' : Nat) (B' : Option Addr) (b' : Nat) (w : World) (h : MR w m E e A a B b) (h' : MR w m' E' e' A' a' B' b') (qp : decide (plainL m = plainL m') = true) (q0 : (m.kind == m'.kind) = true) (q1 : (m.frm == m'.frm) = true) (q2 : (m.dst == m'.dst) = true) (q3 : (m.ok == m'.ok) = true) (q4 : (m.force == m'.force) = true) (qe : decide (m.ents = m'.ents) = false) :
    Calls Try.prog 11 #[msgV m E e A a B b, msgV m' E' e' A' a' B' b'] w fun e w' => e = .returned (.bool false) ∧ Below w.heap.size w w' := by
  obtain ⟨m0, hm0⟩ : ∃ m0, m0 = m := ⟨_, rfl⟩
  obtain ⟨m1, hm1⟩ : ∃ m1, m1 = m' := ⟨_, rfl⟩
  have hp0 : plainL m = plainL m0 := by rw [hm0]
  have hp1 : plainL m' = plainL m1 := by rw [hm1]
  have HSE0 := Lib.hid (fun w' (hb : Below w.heap.size w w') => segsame_walk E m.ents.length e m.ents E' m'.ents.length e' m'.ents w' (Kd.C_below h.2.1 hb) (Kd.C_below h'.2.1 hb))
  have HP0 := Lib.hid (fun w' (hb : Below w.heap.size w w') => plain_walk m E e A a B b w' (h.below hb))
  have HQ0 := Lib.hid (fun w' (hb : Below w.heap.size w w') => plain_walk m' E' e' A' a' B' b' w' (h'.below hb))
  rw [hp0, hp1] at qp
  rw [hp0] at HP0
  rw [hp1] at HQ0
  have HPE := Lib.hid qp
  have HEE := Lib.hid qe
  clear qe
  clear h h' hm0 hm1 hp0 hp1 qp
  obtain ⟨k, f, d, t, i, lt, c, r, ok, fo, es, ⟨si, st, sm, sd⟩⟩ := m
  obtain ⟨k', f', d', t', i', lt', c', r', ok', fo', es', ⟨si', st', sm', sd'⟩⟩ := m'
  have hb2 := below_step (below_alloc (Below.refl _ w) (.cells #[.int .i64 k, .int .i64 f, .int .i64 d, .int .u64 t, .int .u64 i, .int .u64 lt, .int .u64 c, .int .u64 r, .bool ok, .bool fo, .slice E es.length e, .int .u64 si, .int .u64 st, .slice A sm.length a, .slice B sd.length b] 29)) (below_alloc (Below.refl _ _) (.cells #[.int .i64 k', .int .i64 f', .int .i64 d', .int .u64 t', .int .u64 i', .int .u64 lt', .int .u64 c', .int .u64 r', .bool ok', .bool fo', .slice E' es'.length e', .int .u64 si', .int .u64 st', .slice A' sm'.length a', .slice B' sd'.length b'] 29))
  have hx := blk_below (World.alloc_heap_new w (.cells #[.int .i64 k, .int .i64 f, .int .i64 d, .int .u64 t, .int .u64 i, .int .u64 lt, .int .u64 c, .int .u64 r, .bool ok, .bool fo, .slice E es.length e, .int .u64 si, .int .u64 st, .slice A sm.length a, .slice B sd.length b] 29)) (below_alloc (Below.refl _ _) (.cells #[.int .i64 k', .int .i64 f', .int .i64 d', .int .u64 t', .int .u64 i', .int .u64 lt', .int .u64 c', .int .u64 r', .bool ok', .bool fo', .slice E' es'.length e', .int .u64 si', .int .u64 st', .slice A' sm'.length a', .slice B' sd'.length b'] 29))
  have hy := World.alloc_heap_new (w.alloc (.cells #[.int .i64 k, .int .i64 f, .int .i64 d, .int .u64 t, .int .u64 i, .int .u64 lt, .int .u64 c, .int .u64 r, .bool ok, .bool fo, .slice E es.length e, .int .u64 si, .int .u64 st, .slice A sm.length a, .slice B sd.length b] 29)) (.cells #[.int .i64 k', .int .i64 f', .int .i64 d', .int .u64 t', .int .u64 i', .int .u64 lt', .int .u64 c', .int .u64 r', .bool ok', .bool fo', .slice E' es'.length e', .int .u64 si', .int .u64 st', .slice A' sm'.length a', .slice B' sd'.length b'] 29)
  rw [World.size_alloc] at hy
  obtain ⟨w2, hw2⟩ : ∃ w2, ((w.alloc (.cells #[.int .i64 k, .int .i64 f, .int .i64 d, .int .u64 t, .int .u64 i, .int .u64 lt, .int .u64 c, .int .u64 r, .bool ok, .bool fo, .slice E es.length e, .int .u64 si, .int .u64 st, .slice A sm.length a, .slice B sd.length b] 29)).alloc (.cells #[.int .i64 k', .int .i64 f', .int .i64 d', .int .u64 t', .int .u64 i', .int .u64 lt', .int .u64 c', .int .u64 r', .bool ok', .bool fo', .slice E' es'.length e', .int .u64 si', .int .u64 st', .slice A' sm'.length a', .slice B' sd'.length b'] 29)) = w2 := ⟨_, rfl⟩
  rw [hw2] at hb2 hx hy
  obtain ⟨g1, hg1⟩ : ∃ g1, w.heap.size + 1 = g1 := ⟨_, rfl⟩
  obtain ⟨g0, hg0⟩ : ∃ g0, w.heap.size = g0 := ⟨_, rfl⟩
  rw [hg1] at hy
  rw [hg0] at hx
  have HW2 := Lib.hid hw2
  have HG1 := Lib.hid hg1
  have HG0 := Lib.hid hg0
  have HB2 := Lib.hid hb2
  have HX := Lib.hid hx
  have HY := Lib.hid hy
  clear hw2 hb2 hx hy hg1 hg0
  try dsimp only at *
  have HP := Lib.hid (fun W (hb : Below w2.heap.size w2 W) => HP0.out W (below_step HB2.out hb))
  have HQ := Lib.hid (fun W (hb : Below w2.heap.size w2 W) => HQ0.out W (below_step HB2.out hb))
  have HSE := Lib.hid (fun W (hb : Below w2.heap.size w2 W) => HSE0.out W (below_step HB2.out hb))
  obtain ⟨ι, hne, F, hF, hS⟩ : ∃ (ι : Type) (_ : Nonempty ι) (F : ι → World), (∀ n, Below w2.heap.size w2 (F n)) ∧ ∀ W, Below w2.heap.size w2 W → ∃ n, W = F n := ⟨{W // Below w2.heap.size w2 W}, ⟨⟨w2, Below.refl _ _⟩⟩, Subtype.val, fun n => n.2, fun W h => ⟨⟨W, h⟩, rfl⟩⟩
  have hbx := fun n => blk15 (blk_below HX.out (hF n))
  have hcx := fun n => blk15 (blk_below HY.out (hF n))
  simp only [forall_and] at hbx hcx
  obtain ⟨b0, b1, b2, b3, b4, b5, b6, b7, b8, b9, b10, b11, b12, b13, b14⟩ := hbx
  obtain ⟨c0, c1, c2, c3, c4, c5, c6, c7, c8, c9, c10, c11, c12, c13, c14⟩ := hcx
  go_enter Try.func11, Try.ntmps11
  go_upto_region 1 with (fail)
  rw [HW2.out, HG1.out, HG0.out]
  have HC := Lib.hid (below_drew (Below.refl w2.heap.size w2))
  refine wp_region_held (S := (fun W => ∃ n, W = F n)) (by kernel_rfl) ?_
  try (change wpAnyH _ _ _ _ _ _ _ _ (World.drew _))
  refine wpAnyH_take (i := 0) (v := (.agg #[.int .i64 k, .int .i64 f, .int .i64 d, .int .u64 t, .int .u64 i, .int .u64 lt, .int .u64 c, .int .u64 r, .bool ok, .bool fo, .slice E es.length e, .int .u64 si, .int .u64 st, .slice A sm.length a, .slice B sd.length b])) rfl (by kernel_rfl) (by kernel_rfl) (by kernel_rfl) (fun _ _ _ h => h) (Or.inl ⟨by rfl, fun W hW => ?_⟩) (hS _ HC.out) ?_
  · obtain ⟨n, rfl⟩ := hW
    go_simp
  try go_simp
  refine wpAnyH_take (i := 2) (v := (.agg #[.int .i64 k', .int .i64 f', .int .i64 d', .int .u64 t', .int .u64 i', .int .u64 lt', .int .u64 c', .int .u64 r', .bool ok', .bool fo', .slice E' es'.length e', .int .u64 si', .int .u64 st', .slice A' sm'.length a', .slice B' sd'.length b'])) rfl (by kernel_rfl) (by kernel_rfl) (by kernel_rfl) (fun _ _ _ h => h) (Or.inl ⟨by rfl, fun W hW => ?_⟩) (hS _ HC.out) ?_
  · obtain ⟨n, rfl⟩ := hW
    go_simp
  try go_simp
  refine wpAnyH_ready (rs := [1]) (by kernel_rfl) (by simp) ?_
  refine AllReadyH.cons rfl (fun K hK => ?_) AllReadyH.nil
  go_simp
  go_wp2_with fail
  refine (HP.out _ HC.out).mono ?_
  rintro e1 w3 ⟨A3, cp3, rfl, hR3, hb⟩
  have HP1 := Lib.hid hR3
  have HC := Lib.hid (below_step HC.out hb)
  clear hb hR3
  refine hK.out _ _ (hS _ HC.out) (fun _ => ?_)
  clear hK K
  refine wpAnyH_ready (rs := [3]) (by kernel_rfl) (by simp) ?_
  refine AllReadyH.cons rfl (fun K hK => ?_) AllReadyH.nil
  go_simp
  go_wp2_with fail
  refine (HQ.out _ HC.out).mono ?_
  rintro e1 w4 ⟨A4, cp4, rfl, hR4, hb⟩
  have HP2 := Lib.hid hR4
  have HP1 := Lib.hid (Kd.C_below HP1.out hb)
  have HC := Lib.hid (below_step HC.out hb)
  clear hb hR4
  refine hK.out _ _ (hS _ HC.out) (fun _ => ?_)
  clear hK K
  refine wpAnyH_ready (rs := [4]) (by kernel_rfl) (by simp) ?_
  refine AllReadyH.cons rfl (fun K hK => ?_) AllReadyH.nil
  go_simp
  go_wp2_with fail
  refine (equint_walk A3 A4 5 5 cp3 cp4 (plainL m0) (plainL m1) _ HP1.out HP2.out).mono ?_
  rw [HPE.out]
  rintro e1 w5 ⟨rfl, hb⟩
  have HC := Lib.hid (below_step HC.out hb)
  clear hb
  refine hK.out _ _ (hS _ HC.out) (fun _ => ?_)
  clear hK K
  refine rest_quiet (C := (fun W => ∃ n, W = F n)) 5 (by kernel_rfl) (by kernel_rfl) (by kernel_rfl) (hS _ HC.out) ?_
  simp only [List.drop_succ_cons, List.drop_zero]
  repeat (go_big_quiet_step ((first | (go_at_call 26; refine (HSE.out _ (hF _)).mono ?_; rw [HEE.out]; rintro e1 w6 ⟨rfl, hb⟩; exact ⟨rfl, hS _ (below_step (hF _) hb)⟩) | (go_at_call 27; refine (HSS.out _ (hF _)).mono ?_; rintro e1 w6 ⟨rfl, hb⟩; exact ⟨rfl, hS _ (below_step (hF _) hb)⟩))))
  refine wpQuiet_nil ?_
  rintro W ⟨n, rfl⟩
  have HB6 := Lib.hid (below_step HB2.out (hF n))
  go_wp2
  go_ret
  exact ⟨rfl, HB6.out⟩
set_option maxRecDepth 100000 in
set_option maxHeartbeats 16000000 in
theorem msame_7 (m m' : Wm) (E : Option Addr) (e : Nat) (A : Option Addr) (a : Nat) (B : Option Addr) (b : Nat) (E' : Option Addr) (e' : Nat) (A' : Option Addr) (a' : Nat) (B' : Option Addr) (b' : Nat) (w : World) (h : MR w m E e A a B b) (h' : MR w m' E' e' A' a' B' b') (qp : decide (plainL m = plainL m') = true) (q0 : (m.kind == m'.kind) = true) (q1 : (m.frm == m'.frm) = true) (q2 : (m.dst == m'.dst) = true) (q3 : (m.ok == m'.ok) = true) (q4 : (m.force == m'.force) = true) (qe : decide (m.ents = m'.ents) = true) :
    Calls Try.prog 11 #[msgV m E e A a B b, msgV m' E' e' A' a' B' b'] w fun e w' => e = .returned (.bool (decide (m.snap = m'.snap))) ∧ Below w.heap.size w w' := by
  obtain ⟨m0, hm0⟩ : ∃ m0, m0 = m := ⟨_, rfl⟩
  obtain ⟨m1, hm1⟩ : ∃ m1, m1 = m' := ⟨_, rfl⟩
  have hp0 : plainL m = plainL m0 := by rw [hm0]
  have hp1 : plainL m' = plainL m1 := by rw [hm1]
  have HSE0 := Lib.hid (fun w' (hb : Below w.heap.size w w') => segsame_walk E m.ents.length e m.ents E' m'.ents.length e' m'.ents w' (Kd.C_below h.2.1 hb) (Kd.C_below h'.2.1 hb))
  have HSS0 := Lib.hid (fun w' (hb : Below w.heap.size w w') => snsame_walk m.snap m'.snap A a B b A' a' B' b' w' (h.2.2.below hb) (h'.2.2.below hb))
  generalize decide (m.snap = m'.snap) = vs at HSS0 ⊢
  have HP0 := Lib.hid (fun w' (hb : Below w.heap.size w w') => plain_walk m E e A a B b w' (h.below hb))
  have HQ0 := Lib.hid (fun w' (hb : Below w.heap.size w w') => plain_walk m' E' e' A' a' B' b' w' (h'.below hb))
  rw [hp0, hp1] at qp
  rw [hp0] at HP0
  rw [hp1] at HQ0
  have HPE := Lib.hid qp
  have HEE := Lib.hid qe
  clear qe
  clear h h' hm0 hm1 hp0 hp1 qp
  obtain ⟨k, f, d, t, i, lt, c, r, ok, fo, es, ⟨si, st, sm, sd⟩⟩ := m
  obtain ⟨k', f', d', t', i', lt', c', r', ok', fo', es', ⟨si', st', sm', sd'⟩⟩ := m'
  have hb2 := below_step (below_alloc (Below.refl _ w) (.cells #[.int .i64 k, .int .i64 f, .int .i64 d, .int .u64 t, .int .u64 i, .int .u64 lt, .int .u64 c, .int .u64 r, .bool ok, .bool fo, .slice E es.length e, .int .u64 si, .int .u64 st, .slice A sm.length a, .slice B sd.length b] 29)) (below_alloc (Below.refl _ _) (.cells #[.int .i64 k', .int .i64 f', .int .i64 d', .int .u64 t', .int .u64 i', .int .u64 lt', .int .u64 c', .int .u64 r', .bool ok', .bool fo', .slice E' es'.length e', .int .u64 si', .int .u64 st', .slice A' sm'.length a', .slice B' sd'.length b'] 29))
  have hx := blk_below (World.alloc_heap_new w (.cells #[.int .i64 k, .int .i64 f, .int .i64 d, .int .u64 t, .int .u64 i, .int .u64 lt, .int .u64 c, .int .u64 r, .bool ok, .bool fo, .slice E es.length e, .int .u64 si, .int .u64 st, .slice A sm.length a, .slice B sd.length b] 29)) (below_alloc (Below.refl _ _) (.cells #[.int .i64 k', .int .i64 f', .int .i64 d', .int .u64 t', .int .u64 i', .int .u64 lt', .int .u64 c', .int .u64 r', .bool ok', .bool fo', .slice E' es'.length e', .int .u64 si', .int .u64 st', .slice A' sm'.length a', .slice B' sd'.length b'] 29))
  have hy := World.alloc_heap_new (w.alloc (.cells #[.int .i64 k, .int .i64 f, .int .i64 d, .int .u64 t, .int .u64 i, .int .u64 lt, .int .u64 c, .int .u64 r, .bool ok, .bool fo, .slice E es.length e, .int .u64 si, .int .u64 st, .slice A sm.length a, .slice B sd.length b] 29)) (.cells #[.int .i64 k', .int .i64 f', .int .i64 d', .int .u64 t', .int .u64 i', .int .u64 lt', .int .u64 c', .int .u64 r', .bool ok', .bool fo', .slice E' es'.length e', .int .u64 si', .int .u64 st', .slice A' sm'.length a', .slice B' sd'.length b'] 29)
  rw [World.size_alloc] at hy
  obtain ⟨w2, hw2⟩ : ∃ w2, ((w.alloc (.cells #[.int .i64 k, .int .i64 f, .int .i64 d, .int .u64 t, .int .u64 i, .int .u64 lt, .int .u64 c, .int .u64 r, .bool ok, .bool fo, .slice E es.length e, .int .u64 si, .int .u64 st, .slice A sm.length a, .slice B sd.length b] 29)).alloc (.cells #[.int .i64 k', .int .i64 f', .int .i64 d', .int .u64 t', .int .u64 i', .int .u64 lt', .int .u64 c', .int .u64 r', .bool ok', .bool fo', .slice E' es'.length e', .int .u64 si', .int .u64 st', .slice A' sm'.length a', .slice B' sd'.length b'] 29)) = w2 := ⟨_, rfl⟩
  rw [hw2] at hb2 hx hy
  obtain ⟨g1, hg1⟩ : ∃ g1, w.heap.size + 1 = g1 := ⟨_, rfl⟩
  obtain ⟨g0, hg0⟩ : ∃ g0, w.heap.size = g0 := ⟨_, rfl⟩
  rw [hg1] at hy
  rw [hg0] at hx
  have HW2 := Lib.hid hw2
  have HG1 := Lib.hid hg1
  have HG0 := Lib.hid hg0
  have HB2 := Lib.hid hb2
  have HX := Lib.hid hx
  have HY := Lib.hid hy
  clear hw2 hb2 hx hy hg1 hg0
  try dsimp only at *
  have HP := Lib.hid (fun W (hb : Below w2.heap.size w2 W) => HP0.out W (below_step HB2.out hb))
  have HQ := Lib.hid (fun W (hb : Below w2.heap.size w2 W) => HQ0.out W (below_step HB2.out hb))
  have HSE := Lib.hid (fun W (hb : Below w2.heap.size w2 W) => HSE0.out W (below_step HB2.out hb))
  have HSS := Lib.hid (fun W (hb : Below w2.heap.size w2 W) => HSS0.out W (below_step HB2.out hb))
  obtain ⟨ι, hne, F, hF, hS⟩ : ∃ (ι : Type) (_ : Nonempty ι) (F : ι → World), (∀ n, Below w2.heap.size w2 (F n)) ∧ ∀ W, Below w2.heap.size w2 W → ∃ n, W = F n := ⟨{W // Below w2.heap.size w2 W}, ⟨⟨w2, Below.refl _ _⟩⟩, Subtype.val, fun n => n.2, fun W h => ⟨⟨W, h⟩, rfl⟩⟩
  have hbx := fun n => blk15 (blk_below HX.out (hF n))
  have hcx := fun n => blk15 (blk_below HY.out (hF n))
  simp only [forall_and] at hbx hcx
  obtain ⟨b0, b1, b2, b3, b4, b5, b6, b7, b8, b9, b10, b11, b12, b13, b14⟩ := hbx
  obtain ⟨c0, c1, c2, c3, c4, c5, c6, c7, c8, c9, c10, c11, c12, c13, c14⟩ := hcx
  go_enter Try.func11, Try.ntmps11
  go_upto_region 1 with (fail)
  rw [HW2.out, HG1.out, HG0.out]
  have HC := Lib.hid (below_drew (Below.refl w2.heap.size w2))
  refine wp_region_held (S := (fun W => ∃ n, W = F n)) (by kernel_rfl) ?_
  try (change wpAnyH _ _ _ _ _ _ _ _ (World.drew _))
  refine wpAnyH_take (i := 0) (v := (.agg #[.int .i64 k, .int .i64 f, .int .i64 d, .int .u64 t, .int .u64 i, .int .u64 lt, .int .u64 c, .int .u64 r, .bool ok, .bool fo, .slice E es.length e, .int .u64 si, .int .u64 st, .slice A sm.length a, .slice B sd.length b])) rfl (by kernel_rfl) (by kernel_rfl) (by kernel_rfl) (fun _ _ _ h => h) (Or.inl ⟨by rfl, fun W hW => ?_⟩) (hS _ HC.out) ?_
  · obtain ⟨n, rfl⟩ := hW
    go_simp
  try go_simp
  refine wpAnyH_take (i := 2) (v := (.agg #[.int .i64 k', .int .i64 f', .int .i64 d', .int .u64 t', .int .u64 i', .int .u64 lt', .int .u64 c', .int .u64 r', .bool ok', .bool fo', .slice E' es'.length e', .int .u64 si', .int .u64 st', .slice A' sm'.length a', .slice B' sd'.length b'])) rfl (by kernel_rfl) (by kernel_rfl) (by kernel_rfl) (fun _ _ _ h => h) (Or.inl ⟨by rfl, fun W hW => ?_⟩) (hS _ HC.out) ?_
  · obtain ⟨n, rfl⟩ := hW
    go_simp
  try go_simp
  refine wpAnyH_ready (rs := [1]) (by kernel_rfl) (by simp) ?_
  refine AllReadyH.cons rfl (fun K hK => ?_) AllReadyH.nil
  go_simp
  go_wp2_with fail
  refine (HP.out _ HC.out).mono ?_
  rintro e1 w3 ⟨A3, cp3, rfl, hR3, hb⟩
  have HP1 := Lib.hid hR3
  have HC := Lib.hid (below_step HC.out hb)
  clear hb hR3
  refine hK.out _ _ (hS _ HC.out) (fun _ => ?_)
  clear hK K
  refine wpAnyH_ready (rs := [3]) (by kernel_rfl) (by simp) ?_
  refine AllReadyH.cons rfl (fun K hK => ?_) AllReadyH.nil
  go_simp
  go_wp2_with fail
  refine (HQ.out _ HC.out).mono ?_
  rintro e1 w4 ⟨A4, cp4, rfl, hR4, hb⟩
  have HP2 := Lib.hid hR4
  have HP1 := Lib.hid (Kd.C_below HP1.out hb)
  have HC := Lib.hid (below_step HC.out hb)
  clear hb hR4
  refine hK.out _ _ (hS _ HC.out) (fun _ => ?_)
  clear hK K
  refine wpAnyH_ready (rs := [4]) (by kernel_rfl) (by simp) ?_
  refine AllReadyH.cons rfl (fun K hK => ?_) AllReadyH.nil
  go_simp
  go_wp2_with fail
  refine (equint_walk A3 A4 5 5 cp3 cp4 (plainL m0) (plainL m1) _ HP1.out HP2.out).mono ?_
  rw [HPE.out]
  rintro e1 w5 ⟨rfl, hb⟩
  have HC := Lib.hid (below_step HC.out hb)
  clear hb
  refine hK.out _ _ (hS _ HC.out) (fun _ => ?_)
  clear hK K
  refine rest_quiet (C := (fun W => ∃ n, W = F n)) 5 (by kernel_rfl) (by kernel_rfl) (by kernel_rfl) (hS _ HC.out) ?_
  simp only [List.drop_succ_cons, List.drop_zero]
  repeat (go_big_quiet_step ((first | (go_at_call 26; refine (HSE.out _ (hF _)).mono ?_; rw [HEE.out]; rintro e1 w6 ⟨rfl, hb⟩; exact ⟨rfl, hS _ (below_step (hF _) hb)⟩) | (go_at_call 27; refine (HSS.out _ (hF _)).mono ?_; rintro e1 w6 ⟨rfl, hb⟩; exact ⟨rfl, hS _ (below_step (hF _) hb)⟩))))
  refine wpQuiet_nil ?_
  rintro W ⟨n, rfl⟩
  have HB6 := Lib.hid (below_step HB2.out (hF n))
  go_wp2
  go_ret
  exact ⟨rfl, HB6.out⟩
theorem msame_walk (m m' : Wm) (E : Option Addr) (e : Nat) (A : Option Addr) (a : Nat) (B : Option Addr) (b : Nat) (E' : Option Addr) (e' : Nat) (A' : Option Addr) (a' : Nat) (B' : Option Addr) (b' : Nat) (w : World) (h : MR w m E e A a B b) (h' : MR w m' E' e' A' a' B' b') :
    Calls Try.prog 11 #[msgV m E e A a B b, msgV m' E' e' A' a' B' b'] w fun e w' => e = .returned (.bool (decide (m = m'))) ∧ Below w.heap.size w w' := by
  rw [wm_eq_dec2]
  cases qp : decide (plainL m = plainL m') with
  | false =>
    refine (msame_0 m m' E e A a B b E' e' A' a' B' b' w h h' qp).mono ?_
    rintro e w' ⟨rfl, hb⟩
    exact ⟨by simp, hb⟩
  | true =>
  cases q0 : (m.kind == m'.kind) with
  | false =>
    refine (msame_1 m m' E e A a B b E' e' A' a' B' b' w h h' qp q0).mono ?_
    rintro e w' ⟨rfl, hb⟩
    exact ⟨by simp, hb⟩
  | true =>
  cases q1 : (m.frm == m'.frm) with
  | false =>
    refine (msame_2 m m' E e A a B b E' e' A' a' B' b' w h h' qp q0 q1).mono ?_
    rintro e w' ⟨rfl, hb⟩
    exact ⟨by simp, hb⟩
  | true =>
  cases q2 : (m.dst == m'.dst) with
  | false =>
    refine (msame_3 m m' E e A a B b E' e' A' a' B' b' w h h' qp q0 q1 q2).mono ?_
    rintro e w' ⟨rfl, hb⟩
    exact ⟨by simp, hb⟩
  | true =>
  cases q3 : (m.ok == m'.ok) with
  | false =>
    refine (msame_4 m m' E e A a B b E' e' A' a' B' b' w h h' qp q0 q1 q2 q3).mono ?_
    rintro e w' ⟨rfl, hb⟩
    exact ⟨by simp, hb⟩
  | true =>
  cases q4 : (m.force == m'.force) with
  | false =>
    refine (msame_5 m m' E e A a B b E' e' A' a' B' b' w h h' qp q0 q1 q2 q3 q4).mono ?_
    rintro e w' ⟨rfl, hb⟩
    exact ⟨by simp, hb⟩
  | true =>
  cases qe : decide (m.ents = m'.ents) with
  | false =>
    refine (msame_6 m m' E e A a B b E' e' A' a' B' b' w h h' qp q0 q1 q2 q3 q4 qe).mono ?_
    rintro e w' ⟨rfl, hb⟩
    exact ⟨by simp, hb⟩
  | true =>
  refine (msame_7 m m' E e A a B b E' e' A' a' B' b' w h h' qp q0 q1 q2 q3 q4 qe).mono ?_
  rintro e w' ⟨rfl, hb⟩
  exact ⟨by simp, hb⟩
end Go.Proofs.Ytoccidpocagkjaa
