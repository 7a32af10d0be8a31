/- wire: Same. -/
import Derived.Test.YtoccidpocagkjaaSwj
import Derived.Deep.RegionHeld3
import Derived.Deep.QuietTactic
import Derived.BigQuiet
set_option linter.unusedVariables false
set_option linter.unusedSimpArgs false
namespace Go.Proofs.Ytoccidpocagkjaa
open Go.RowKit Go.Proofs.YtoccidpocagkjaaW.PrintWords Cf
attribute [local go_sem] str_beq str_bne

def plainL (m : Wm) : List Nat := [m.term, m.index, m.logTerm, m.commit, m.round]
/-- A lexical walk that is quiet in a class goes on from any state of a held region. -/
theorem wpAnyH_of_quiet {P : Program} {ops : Array Oper} {md : Region.Mode} {C S : World → Prop} {Q : Act → Prop} {Q' : Exit → Act → World → Prop} (hCS : ∀ w, C w → S w) (hQ : ∀ a w, C w → Q a → Q' .normal a w) :
    ∀ (fuel : Nat) (listed : Array Bool) (a : Act) (w : World), C w → wpAnyQ P md ops C Q fuel listed a → wpAnyH P md ops Q' S fuel listed a w
  | 0, _, _, _, hw, h => ⟨h.1, hQ _ _ hw h.2⟩
  | fuel + 1, _, _, _, hw, h => ⟨fun h0 => hQ _ _ hw (h.1 h0), fun i hi => wpOp_of_qOp hw (fun a' w' hw' h' => ⟨hCS _ hw', wpAnyH_of_quiet hCS hQ fuel _ a' w' hw' h'⟩) (h.2 i hi)⟩
theorem rest_quiet {P : Program} {ops : Array Oper} {Q : Exit → Act → World → Prop} {C : World → Prop} {listed : Array Bool} {a : Act} {w : World} {n : Nat} (k : Nat) (hs : Region.noSelect ops = true)
    (hn : (ops.toList.drop k).length = n) (hB : Region.lexFrom .any ops n k listed = true) (hC : C w)
    (h : wpQuiet P ops C (fun a' => ∀ w', C w' → Q .normal a' w') (ops.toList.drop k) a) : wpAnyH P .any ops Q C n listed a w := by
  subst hn
  exact wpAnyH_of_quiet (fun _ h => h) (Q := fun a' => ∀ w', C w' → Q .normal a' w') (fun _ w' hw' h => h w' hw') _ _ _ _ hC (wpAnyQ_lex hs _ k listed a (fun j => by rw [List.getElem?_drop]; simp) hB h)
theorem quiet_run {P : Program} {C : World → Prop} {o : Oper} {a : Act} {K : Act → Prop} (v : Value) (hv : ∀ w, C w → (execOp a.eval o).run P w = .ok (.value v) w) (hk : K (a.put o.dst v)) : o.quiet P a C K :=
  ⟨v, fun w hw => by unfold Oper.quietAt; rw [hv w hw]; exact ⟨rfl, rfl⟩, hk⟩
theorem quiet_call {P : Program} {C : World → Prop} {o : Oper} {a : Act} {K : Act → Prop} (v : Value) (f : FuncId) (args : Array Value) (hv : ∀ w, (execOp a.eval o).run P w = .ok (.enter f args) w) (hc : ∀ w, C w → Calls P f args w fun e w'' => e = .returned v ∧ C w'') (hk : K (a.put o.dst v)) : o.quiet P a C K :=
  ⟨v, fun w hw => by unfold Oper.quietAt; rw [hv w]; exact ⟨rfl, hc w hw⟩, hk⟩
theorem KU_blk (w : World) (t : TypeId) (fr : Nat × Nat) (xs : List Nat) (cs : Array Value) (hcs : cs = (xs.map fun n : Nat => Value.int .u64 (n : Int)).toArray) (hm : xs.length ≤ 9223372036854775807) :
    KU.C (w.alloc (.cells cs t fr)) (some ⟨w.heap.size, 0, none⟩) xs.length xs := by
  subst hcs
  refine Kd.C_of_reads (enc := fun n : Nat => Value.int .u64 (n : Int)) (d := (0 : Nat)) (h1 := fun _ => rfl) ⟨rfl, hm, fun _ => ⟨_, rfl, fun j hj => ?_⟩⟩
  rw [add_off, Nat.zero_add, World.cell?_alloc_mark]
  simp [List.getD_eq_getElem?_getD, hj]
set_option maxRecDepth 100000 in
set_option maxHeartbeats 2000000 in
theorem plain_walk (m : Wm) (E : Option Addr) (e : Nat) (A : Option Addr) (a : Nat) (B : Option Addr) (b : Nat) (w : World) (h : MR w m E e A a B b) :
    Calls Try.prog 25 #[msgV m E e A a B b] w fun e w' => ∃ A c, e = .returned (.slice A 5 c) ∧ KU.C w' A 5 (plainL m) ∧ Below w.heap.size w w' := by
  obtain ⟨k, f, d, t, i, lt, c, r, ok, fo, es, ⟨si, st, sm, sd⟩⟩ := m
  have hB1 := below_alloc (Below.refl _ w) (.cells #[.int .i64 k, .int .i64 f, .int .i64 d, .int .u64 t, .int .u64 i, .int .u64 lt, .int .u64 c, .int .u64 r, .bool ok, .bool fo, .slice E es.length e, .int .u64 si, .int .u64 st, .slice A sm.length a, .slice B sd.length b] 29)
  have HB1 := Lib.hid hB1
  have HK := Lib.hid (World.alloc_heap_new w (.cells #[.int .i64 k, .int .i64 f, .int .i64 d, .int .u64 t, .int .u64 i, .int .u64 lt, .int .u64 c, .int .u64 r, .bool ok, .bool fo, .slice E es.length e, .int .u64 si, .int .u64 st, .slice A sm.length a, .slice B sd.length b] 29))
  have HM := Lib.hid (h.below hB1)
  have HM0 := Lib.hid h
  clear h hB1
  clear HM HM0 HK
  have hk := KU_blk (w.alloc (.cells #[.int .i64 k, .int .i64 f, .int .i64 d, .int .u64 t, .int .u64 i, .int .u64 lt, .int .u64 c, .int .u64 r, .bool ok, .bool fo, .slice E es.length e, .int .u64 si, .int .u64 st, .slice A sm.length a, .slice B sd.length b] 29)) 22 (0, 0) [t, i, lt, c, r] _ rfl (by simp)
  rw [World.size_alloc] at hk
  have HK := Lib.hid hk
  have HB2 := Lib.hid (below_step HB1.out (below_alloc (Below.refl _ _) (.cells ([t, i, lt, c, r].map fun n : Nat => Value.int .u64 (n : Int)).toArray 22)))
  clear hk
  go_enter Try.func25, Try.ntmps25
  go_wp2
  go_ret
  exact ⟨_, _, rfl, HK.out, HB2.out⟩
theorem wm_eq_dec2 (x y : Wm) : decide (x = y) = (decide (plainL x = plainL y) && (x.kind == y.kind) && (x.frm == y.frm) && (x.dst == y.dst) && (x.ok == y.ok) && (x.force == y.force) && decide (x.ents = y.ents) && decide (x.snap = y.snap)) := by
  rw [Bool.eq_iff_iff]
  obtain ⟨a0, a1, a2, a3, a4, a5, a6, a7, a8, a9, a10, a11⟩ := x
  obtain ⟨b0, b1, b2, b3, b4, b5, b6, b7, b8, b9, b10, b11⟩ := y
  simp only [Wm.mk.injEq, plainL, decide_eq_true_eq, Bool.and_eq_true, beq_iff_eq, List.cons.injEq, and_true]
  constructor
  · rintro ⟨h0, h1, h2, h3, h4, h5, h6, h7, h8, h9, h10, h11⟩
    exact ⟨⟨⟨⟨⟨⟨⟨⟨h3, h4, h5, h6, h7⟩, h0⟩, h1⟩, h2⟩, h8⟩, h9⟩, h10⟩, h11⟩
  · rintro ⟨⟨⟨⟨⟨⟨⟨⟨h3, h4, h5, h6, h7⟩, h0⟩, h1⟩, h2⟩, h8⟩, h9⟩, h10⟩, h11⟩
    exact ⟨h0, h1, h2, h3, h4, h5, h6, h7, h8, h9, h10, h11⟩
set_option maxRecDepth 100000 in
set_option maxHeartbeats 16000000 in
theorem msame_0 (m m' : Wm) (E : Option Addr) (e : Nat) (A : Option Addr) (a : Nat) (B : Option Addr) (b : Nat) (E' : Option Addr) (e' : Nat) (A' : Option Addr) (a' : Nat) (B' : Option Addr) (b' : Nat) (w : World) (h : MR w m E e A a B b) (h' : MR w m' E' e' A' a' B' b') (qp : decide (plainL m = plainL m') = false) :
    Calls Try.prog 11 #[msgV m E e A a B b, msgV m' E' e' A' a' B' b'] w fun e w' => e = .returned (.bool false) ∧ Below w.heap.size w w' := by
  obtain ⟨m0, hm0⟩ : ∃ m0, m0 = m := ⟨_, rfl⟩
  obtain ⟨m1, hm1⟩ : ∃ m1, m1 = m' := ⟨_, rfl⟩
  have hp0 : plainL m = plainL m0 := by rw [hm0]
  have hp1 : plainL m' = plainL m1 := by rw [hm1]
  have HP0 := Lib.hid (fun w' (hb : Below w.heap.size w w') => plain_walk m E e A a B b w' (h.below hb))
  have HQ0 := Lib.hid (fun w' (hb : Below w.heap.size w w') => plain_walk m' E' e' A' a' B' b' w' (h'.below hb))
  rw [hp0, hp1] at qp
  rw [hp0] at HP0
  rw [hp1] at HQ0
  have HPE := Lib.hid qp
  clear h h' hm0 hm1 hp0 hp1 qp
  obtain ⟨k, f, d, t, i, lt, c, r, ok, fo, es, ⟨si, st, sm, sd⟩⟩ := m
  obtain ⟨k', f', d', t', i', lt', c', r', ok', fo', es', ⟨si', st', sm', sd'⟩⟩ := m'
  have hb2 := below_step (below_alloc (Below.refl _ w) (.cells #[.int .i64 k, .int .i64 f, .int .i64 d, .int .u64 t, .int .u64 i, .int .u64 lt, .int .u64 c, .int .u64 r, .bool ok, .bool fo, .slice E es.length e, .int .u64 si, .int .u64 st, .slice A sm.length a, .slice B sd.length b] 29)) (below_alloc (Below.refl _ _) (.cells #[.int .i64 k', .int .i64 f', .int .i64 d', .int .u64 t', .int .u64 i', .int .u64 lt', .int .u64 c', .int .u64 r', .bool ok', .bool fo', .slice E' es'.length e', .int .u64 si', .int .u64 st', .slice A' sm'.length a', .slice B' sd'.length b'] 29))
  have hx := blk_below (World.alloc_heap_new w (.cells #[.int .i64 k, .int .i64 f, .int .i64 d, .int .u64 t, .int .u64 i, .int .u64 lt, .int .u64 c, .int .u64 r, .bool ok, .bool fo, .slice E es.length e, .int .u64 si, .int .u64 st, .slice A sm.length a, .slice B sd.length b] 29)) (below_alloc (Below.refl _ _) (.cells #[.int .i64 k', .int .i64 f', .int .i64 d', .int .u64 t', .int .u64 i', .int .u64 lt', .int .u64 c', .int .u64 r', .bool ok', .bool fo', .slice E' es'.length e', .int .u64 si', .int .u64 st', .slice A' sm'.length a', .slice B' sd'.length b'] 29))
  have hy := World.alloc_heap_new (w.alloc (.cells #[.int .i64 k, .int .i64 f, .int .i64 d, .int .u64 t, .int .u64 i, .int .u64 lt, .int .u64 c, .int .u64 r, .bool ok, .bool fo, .slice E es.length e, .int .u64 si, .int .u64 st, .slice A sm.length a, .slice B sd.length b] 29)) (.cells #[.int .i64 k', .int .i64 f', .int .i64 d', .int .u64 t', .int .u64 i', .int .u64 lt', .int .u64 c', .int .u64 r', .bool ok', .bool fo', .slice E' es'.length e', .int .u64 si', .int .u64 st', .slice A' sm'.length a', .slice B' sd'.length b'] 29)
  rw [World.size_alloc] at hy
  obtain ⟨w2, hw2⟩ : ∃ w2, ((w.alloc (.cells #[.int .i64 k, .int .i64 f, .int .i64 d, .int .u64 t, .int .u64 i, .int .u64 lt, .int .u64 c, .int .u64 r, .bool ok, .bool fo, .slice E es.length e, .int .u64 si, .int .u64 st, .slice A sm.length a, .slice B sd.length b] 29)).alloc (.cells #[.int .i64 k', .int .i64 f', .int .i64 d', .int .u64 t', .int .u64 i', .int .u64 lt', .int .u64 c', .int .u64 r', .bool ok', .bool fo', .slice E' es'.length e', .int .u64 si', .int .u64 st', .slice A' sm'.length a', .slice B' sd'.length b'] 29)) = w2 := ⟨_, rfl⟩
  rw [hw2] at hb2 hx hy
  obtain ⟨g1, hg1⟩ : ∃ g1, w.heap.size + 1 = g1 := ⟨_, rfl⟩
  obtain ⟨g0, hg0⟩ : ∃ g0, w.heap.size = g0 := ⟨_, rfl⟩
  rw [hg1] at hy
  rw [hg0] at hx
  have HW2 := Lib.hid hw2
  have HG1 := Lib.hid hg1
  have HG0 := Lib.hid hg0
  have HB2 := Lib.hid hb2
  have HX := Lib.hid hx
  have HY := Lib.hid hy
  clear hw2 hb2 hx hy hg1 hg0
  try dsimp only at *
  have HP := Lib.hid (fun W (hb : Below w2.heap.size w2 W) => HP0.out W (below_step HB2.out hb))
  have HQ := Lib.hid (fun W (hb : Below w2.heap.size w2 W) => HQ0.out W (below_step HB2.out hb))
  obtain ⟨ι, hne, F, hF, hS⟩ : ∃ (ι : Type) (_ : Nonempty ι) (F : ι → World), (∀ n, Below w2.heap.size w2 (F n)) ∧ ∀ W, Below w2.heap.size w2 W → ∃ n, W = F n := ⟨{W // Below w2.heap.size w2 W}, ⟨⟨w2, Below.refl _ _⟩⟩, Subtype.val, fun n => n.2, fun W h => ⟨⟨W, h⟩, rfl⟩⟩
  have hbx := fun n => blk15 (blk_below HX.out (hF n))
  have hcx := fun n => blk15 (blk_below HY.out (hF n))
  simp only [forall_and] at hbx hcx
  obtain ⟨b0, b1, b2, b3, b4, b5, b6, b7, b8, b9, b10, b11, b12, b13, b14⟩ := hbx
  obtain ⟨c0, c1, c2, c3, c4, c5, c6, c7, c8, c9, c10, c11, c12, c13, c14⟩ := hcx
  go_enter Try.func11, Try.ntmps11
  go_upto_region 1 with (fail)
  rw [HW2.out, HG1.out, HG0.out]
  have HC := Lib.hid (below_drew (Below.refl w2.heap.size w2))
  refine wp_region_held (S := (fun W => ∃ n, W = F n)) (by kernel_rfl) ?_
  try (change wpAnyH _ _ _ _ _ _ _ _ (World.drew _))
  refine wpAnyH_take (i := 0) (v := (.agg #[.int .i64 k, .int .i64 f, .int .i64 d, .int .u64 t, .int .u64 i, .int .u64 lt, .int .u64 c, .int .u64 r, .bool ok, .bool fo, .slice E es.length e, .int .u64 si, .int .u64 st, .slice A sm.length a, .slice B sd.length b])) rfl (by kernel_rfl) (by kernel_rfl) (by kernel_rfl) (fun _ _ _ h => h) (Or.inl ⟨by rfl, fun W hW => ?_⟩) (hS _ HC.out) ?_
  · obtain ⟨n, rfl⟩ := hW
    go_simp
  try go_simp
  refine wpAnyH_take (i := 2) (v := (.agg #[.int .i64 k', .int .i64 f', .int .i64 d', .int .u64 t', .int .u64 i', .int .u64 lt', .int .u64 c', .int .u64 r', .bool ok', .bool fo', .slice E' es'.length e', .int .u64 si', .int .u64 st', .slice A' sm'.length a', .slice B' sd'.length b'])) rfl (by kernel_rfl) (by kernel_rfl) (by kernel_rfl) (fun _ _ _ h => h) (Or.inl ⟨by rfl, fun W hW => ?_⟩) (hS _ HC.out) ?_
  · obtain ⟨n, rfl⟩ := hW
    go_simp
  try go_simp
  refine wpAnyH_ready (rs := [1]) (by kernel_rfl) (by simp) ?_
  refine AllReadyH.cons rfl (fun K hK => ?_) AllReadyH.nil
  go_simp
  go_wp2_with fail
  refine (HP.out _ HC.out).mono ?_
  rintro e1 w3 ⟨A3, cp3, rfl, hR3, hb⟩
  have HP1 := Lib.hid hR3
  have HC := Lib.hid (below_step HC.out hb)
  clear hb hR3
  refine hK.out _ _ (hS _ HC.out) (fun _ => ?_)
  clear hK K
  refine wpAnyH_ready (rs := [3]) (by kernel_rfl) (by simp) ?_
  refine AllReadyH.cons rfl (fun K hK => ?_) AllReadyH.nil
  go_simp
  go_wp2_with fail
  refine (HQ.out _ HC.out).mono ?_
  rintro e1 w4 ⟨A4, cp4, rfl, hR4, hb⟩
  have HP2 := Lib.hid hR4
  have HP1 := Lib.hid (Kd.C_below HP1.out hb)
  have HC := Lib.hid (below_step HC.out hb)
  clear hb hR4
  refine hK.out _ _ (hS _ HC.out) (fun _ => ?_)
  clear hK K
  refine wpAnyH_ready (rs := [4]) (by kernel_rfl) (by simp) ?_
  refine AllReadyH.cons rfl (fun K hK => ?_) AllReadyH.nil
  go_simp
  go_wp2_with fail
  refine (equint_walk A3 A4 5 5 cp3 cp4 (plainL m0) (plainL m1) _ HP1.out HP2.out).mono ?_
  rw [HPE.out]
  rintro e1 w5 ⟨rfl, hb⟩
  have HC := Lib.hid (below_step HC.out hb)
  clear hb
  refine hK.out _ _ (hS _ HC.out) (fun _ => ?_)
  clear hK K
  refine rest_quiet (C := (fun W => ∃ n, W = F n)) 5 (by kernel_rfl) (by kernel_rfl) (by kernel_rfl) (hS _ HC.out) ?_
  simp only [List.drop_succ_cons, List.drop_zero]
  repeat (go_big_quiet_step ((first | (go_at_call 26; refine (HSE.out _ (hF _)).mono ?_; rw [HEE.out]; rintro e1 w6 ⟨rfl, hb⟩; exact ⟨rfl, hS _ (below_step (hF _) hb)⟩) | (go_at_call 27; refine (HSS.out _ (hF _)).mono ?_; rintro e1 w6 ⟨rfl, hb⟩; exact ⟨rfl, hS _ (below_step (hF _) hb)⟩))))
  refine wpQuiet_nil ?_
  rintro W ⟨n, rfl⟩
  have HB6 := Lib.hid (below_step HB2.out (hF n))
  go_wp2
  go_ret
  exact ⟨rfl, HB6.out⟩
set_option maxRecDepth 100000 in
set_option maxHeartbeats 16000000 in
theorem msame_1 (m m' : Wm) (E : Option Addr) (e : Nat) (A : Option Addr) (a : Nat) (B : Option Addr) (b : Nat) (E' : Option Addr) (e' : Nat) (A' : Option Addr) (a' : Nat) (B' : Option Addr) (b' : Nat) (w : World) (h : MR w m E e A a B b) (h' : MR w m' E' e' A' a' B' b') (qp : decide (plainL m = plainL m') = true) (q0 : (m.kind == m'.kind) = false) :
    Calls Try.prog 11 #[msgV m E e A a B b, msgV m' E' e' A' a' B' b'] w fun e w' => e = .returned (.bool false) ∧ Below w.heap.size w w' := by
  obtain ⟨m0, hm0⟩ : ∃ m0, m0 = m := ⟨_, rfl⟩
  obtain ⟨m1, hm1⟩ : ∃ m1, m1 = m' := ⟨_, rfl⟩
  have hp0 : plainL m = plainL m0 := by rw [hm0]
  have hp1 : plainL m' = plainL m1 := by rw [hm1]
  have HP0 := Lib.hid (fun w' (hb : Below w.heap.size w w') => plain_walk m E e A a B b w' (h.below hb))
  have HQ0 := Lib.hid (fun w' (hb : Below w.heap.size w w') => plain_walk m' E' e' A' a' B' b' w' (h'.below hb))
  rw [hp0, hp1] at qp
  rw [hp0] at HP0
  rw [hp1] at HQ0
  have HPE := Lib.hid qp
  clear h h' hm0 hm1 hp0 hp1 qp
  obtain ⟨k, f, d, t, i, lt, c, r, ok, fo, es, ⟨si, st, sm, sd⟩⟩ := m
  obtain ⟨k', f', d', t', i', lt', c', r', ok', fo', es', ⟨si', st', sm', sd'⟩⟩ := m'
  have hb2 := below_step (below_alloc (Below.refl _ w) (.cells #[.int .i64 k, .int .i64 f, .int .i64 d, .int .u64 t, .int .u64 i, .int .u64 lt, .int .u64 c, .int .u64 r, .bool ok, .bool fo, .slice E es.length e, .int .u64 si, .int .u64 st, .slice A sm.length a, .slice B sd.length b] 29)) (below_alloc (Below.refl _ _) (.cells #[.int .i64 k', .int .i64 f', .int .i64 d', .int .u64 t', .int .u64 i', .int .u64 lt', .int .u64 c', .int .u64 r', .bool ok', .bool fo', .slice E' es'.length e', .int .u64 si', .int .u64 st', .slice A' sm'.length a', .slice B' sd'.length b'] 29))
  have hx := blk_below (World.alloc_heap_new w (.cells #[.int .i64 k, .int .i64 f, .int .i64 d, .int .u64 t, .int .u64 i, .int .u64 lt, .int .u64 c, .int .u64 r, .bool ok, .bool fo, .slice E es.length e, .int .u64 si, .int .u64 st, .slice A sm.length a, .slice B sd.length b] 29)) (below_alloc (Below.refl _ _) (.cells #[.int .i64 k', .int .i64 f', .int .i64 d', .int .u64 t', .int .u64 i', .int .u64 lt', .int .u64 c', .int .u64 r', .bool ok', .bool fo', .slice E' es'.length e', .int .u64 si', .int .u64 st', .slice A' sm'.length a', .slice B' sd'.length b'] 29))
  have hy := World.alloc_heap_new (w.alloc (.cells #[.int .i64 k, .int .i64 f, .int .i64 d, .int .u64 t, .int .u64 i, .int .u64 lt, .int .u64 c, .int .u64 r, .bool ok, .bool fo, .slice E es.length e, .int .u64 si, .int .u64 st, .slice A sm.length a, .slice B sd.length b] 29)) (.cells #[.int .i64 k', .int .i64 f', .int .i64 d', .int .u64 t', .int .u64 i', .int .u64 lt', .int .u64 c', .int .u64 r', .bool ok', .bool fo', .slice E' es'.length e', .int .u64 si', .int .u64 st', .slice A' sm'.length a', .slice B' sd'.length b'] 29)
  rw [World.size_alloc] at hy
  obtain ⟨w2, hw2⟩ : ∃ w2, ((w.alloc (.cells #[.int .i64 k, .int .i64 f, .int .i64 d, .int .u64 t, .int .u64 i, .int .u64 lt, .int .u64 c, .int .u64 r, .bool ok, .bool fo, .slice E es.length e, .int .u64 si, .int .u64 st, .slice A sm.length a, .slice B sd.length b] 29)).alloc (.cells #[.int .i64 k', .int .i64 f', .int .i64 d', .int .u64 t', .int .u64 i', .int .u64 lt', .int .u64 c', .int .u64 r', .bool ok', .bool fo', .slice E' es'.length e', .int .u64 si', .int .u64 st', .slice A' sm'.length a', .slice B' sd'.length b'] 29)) = w2 := ⟨_, rfl⟩
  rw [hw2] at hb2 hx hy
  obtain ⟨g1, hg1⟩ : ∃ g1, w.heap.size + 1 = g1 := ⟨_, rfl⟩
  obtain ⟨g0, hg0⟩ : ∃ g0, w.heap.size = g0 := ⟨_, rfl⟩
  rw [hg1] at hy
  rw [hg0] at hx
  have HW2 := Lib.hid hw2
  have HG1 := Lib.hid hg1
  have HG0 := Lib.hid hg0
  have HB2 := Lib.hid hb2
  have HX := Lib.hid hx
  have HY := Lib.hid hy
  clear hw2 hb2 hx hy hg1 hg0
  try dsimp only at *
  have HP := Lib.hid (fun W (hb : Below w2.heap.size w2 W) => HP0.out W (below_step HB2.out hb))
  have HQ := Lib.hid (fun W (hb : Below w2.heap.size w2 W) => HQ0.out W (below_step HB2.out hb))
  obtain ⟨ι, hne, F, hF, hS⟩ : ∃ (ι : Type) (_ : Nonempty ι) (F : ι → World), (∀ n, Below w2.heap.size w2 (F n)) ∧ ∀ W, Below w2.heap.size w2 W → ∃ n, W = F n := ⟨{W // Below w2.heap.size w2 W}, ⟨⟨w2, Below.refl _ _⟩⟩, Subtype.val, fun n => n.2, fun W h => ⟨⟨W, h⟩, rfl⟩⟩
  have hbx := fun n => blk15 (blk_below HX.out (hF n))
  have hcx := fun n => blk15 (blk_below HY.out (hF n))
  simp only [forall_and] at hbx hcx
  obtain ⟨b0, b1, b2, b3, b4, b5, b6, b7, b8, b9, b10, b11, b12, b13, b14⟩ := hbx
  obtain ⟨c0, c1, c2, c3, c4, c5, c6, c7, c8, c9, c10, c11, c12, c13, c14⟩ := hcx
  go_enter Try.func11, Try.ntmps11
  go_upto_region 1 with (fail)
  rw [HW2.out, HG1.out, HG0.out]
  have HC := Lib.hid (below_drew (Below.refl w2.heap.size w2))
  refine wp_region_held (S := (fun W => ∃ n, W = F n)) (by kernel_rfl) ?_
  try (change wpAnyH _ _ _ _ _ _ _ _ (World.drew _))
  refine wpAnyH_take (i := 0) (v := (.agg #[.int .i64 k, .int .i64 f, .int .i64 d, .int .u64 t, .int .u64 i, .int .u64 lt, .int .u64 c, .int .u64 r, .bool ok, .bool fo, .slice E es.length e, .int .u64 si, .int .u64 st, .slice A sm.length a, .slice B sd.length b])) rfl (by kernel_rfl) (by kernel_rfl) (by kernel_rfl) (fun _ _ _ h => h) (Or.inl ⟨by rfl, fun W hW => ?_⟩) (hS _ HC.out) ?_
  · obtain ⟨n, rfl⟩ := hW
    go_simp
  try go_simp
  refine wpAnyH_take (i := 2) (v := (.agg #[.int .i64 k', .int .i64 f', .int .i64 d', .int .u64 t', .int .u64 i', .int .u64 lt', .int .u64 c', .int .u64 r', .bool ok', .bool fo', .slice E' es'.length e', .int .u64 si', .int .u64 st', .slice A' sm'.length a', .slice B' sd'.length b'])) rfl (by kernel_rfl) (by kernel_rfl) (by kernel_rfl) (fun _ _ _ h => h) (Or.inl ⟨by rfl, fun W hW => ?_⟩) (hS _ HC.out) ?_
  · obtain ⟨n, rfl⟩ := hW
    go_simp
  try go_simp
  refine wpAnyH_ready (rs := [1]) (by kernel_rfl) (by simp) ?_
  refine AllReadyH.cons rfl (fun K hK => ?_) AllReadyH.nil
  go_simp
  go_wp2_with fail
  refine (HP.out _ HC.out).mono ?_
  rintro e1 w3 ⟨A3, cp3, rfl, hR3, hb⟩
  have HP1 := Lib.hid hR3
  have HC := Lib.hid (below_step HC.out hb)
  clear hb hR3
  refine hK.out _ _ (hS _ HC.out) (fun _ => ?_)
  clear hK K
  refine wpAnyH_ready (rs := [3]) (by kernel_rfl) (by simp) ?_
  refine AllReadyH.cons rfl (fun K hK => ?_) AllReadyH.nil
  go_simp
  go_wp2_with fail
  refine (HQ.out _ HC.out).mono ?_
  rintro e1 w4 ⟨A4, cp4, rfl, hR4, hb⟩
  have HP2 := Lib.hid hR4
  have HP1 := Lib.hid (Kd.C_below HP1.out hb)
  have HC := Lib.hid (below_step HC.out hb)
  clear hb hR4
  refine hK.out _ _ (hS _ HC.out) (fun _ => ?_)
  clear hK K
  refine wpAnyH_ready (rs := [4]) (by kernel_rfl) (by simp) ?_
  refine AllReadyH.cons rfl (fun K hK => ?_) AllReadyH.nil
  go_simp
  go_wp2_with fail
  refine (equint_walk A3 A4 5 5 cp3 cp4 (plainL m0) (plainL m1) _ HP1.out HP2.out).mono ?_
  rw [HPE.out]
  rintro e1 w5 ⟨rfl, hb⟩
  have HC := Lib.hid (below_step HC.out hb)
  clear hb
  refine hK.out _ _ (hS _ HC.out) (fun _ => ?_)
  clear hK K
  refine rest_quiet (C := (fun W => ∃ n, W = F n)) 5 (by kernel_rfl) (by kernel_rfl) (by kernel_rfl) (hS _ HC.out) ?_
  simp only [List.drop_succ_cons, List.drop_zero]
  repeat (go_big_quiet_step ((first | (go_at_call 26; refine (HSE.out _ (hF _)).mono ?_; rw [HEE.out]; rintro e1 w6 ⟨rfl, hb⟩; exact ⟨rfl, hS _ (below_step (hF _) hb)⟩) | (go_at_call 27; refine (HSS.out _ (hF _)).mono ?_; rintro e1 w6 ⟨rfl, hb⟩; exact ⟨rfl, hS _ (below_step (hF _) hb)⟩))))
  refine wpQuiet_nil ?_
  rintro W ⟨n, rfl⟩
  have HB6 := Lib.hid (below_step HB2.out (hF n))
  go_wp2
  go_ret
  exact ⟨rfl, HB6.out⟩
set_option maxRecDepth 100000 in
set_option maxHeartbeats 16000000 in
theorem msame_2 (m m' : Wm) (E : Option Addr) (e : Nat) (A : Option Addr) (a : Nat) (B : Option Addr) (b : Nat) (E' : Option Addr) (e' : Nat) (A' : Option Addr) (a' : Nat) (B' : Option Addr) (b' : Nat) (w : World) (h : MR w m E e A a B b) (h' : MR w m' E' e' A' a' B' b') (qp : decide (plainL m = plainL m') = true) (q0 : (m.kind == m'.kind) = true) (q1 : (m.frm == m'.frm) = false) :
    Calls Try.prog 11 #[msgV m E e A a B b, msgV m' E' e' A' a' B' b'] w fun e w' => e = .returned (.bool false) ∧ Below w.heap.size w w' := by
  obtain ⟨m0, hm0⟩ : ∃ m0, m0 = m := ⟨_, rfl⟩
  obtain ⟨m1, hm1⟩ : ∃ m1, m1 = m' := ⟨_, rfl⟩
  have hp0 : plainL m = plainL m0 := by rw [hm0]
  have hp1 : plainL m' = plainL m1 := by rw [hm1]
  have HP0 := Lib.hid (fun w' (hb : Below w.heap.size w w') => plain_walk m E e A a B b w' (h.below hb))
  have HQ0 := Lib.hid (fun w' (hb : Below w.heap.size w w') => plain_walk m' E' e' A' a' B' b' w' (h'.below hb))
  rw [hp0, hp1] at qp
  rw [hp0] at HP0
  rw [hp1] at HQ0
  have HPE := Lib.hid qp
  clear h h' hm0 hm1 hp0 hp1 qp
  obtain ⟨k, f, d, t, i, lt, c, r, ok, fo, es, ⟨si, st, sm, sd⟩⟩ := m
  obtain ⟨k', f', d', t', i', lt', c', r', ok', fo', es', ⟨si', st', sm', sd'⟩⟩ := m'
  have hb2 := below_step (below_alloc (Below.refl _ w) (.cells #[.int .i64 k, .int .i64 f, .int .i64 d, .int .u64 t, .int .u64 i, .int .u64 lt, .int .u64 c, .int .u64 r, .bool ok, .bool fo, .slice E es.length e, .int .u64 si, .int .u64 st, .slice A sm.length a, .slice B sd.length b] 29)) (below_alloc (Below.refl _ _) (.cells #[.int .i64 k', .int .i64 f', .int .i64 d', .int .u64 t', .int .u64 i', .int .u64 lt', .int .u64 c', .int .u64 r', .bool ok', .bool fo', .slice E' es'.length e', .int .u64 si', .int .u64 st', .slice A' sm'.length a', .slice B' sd'.length b'] 29))
  have hx := blk_below (World.alloc_heap_new w (.cells #[.int .i64 k, .int .i64 f, .int .i64 d, .int .u64 t, .int .u64 i, .int .u64 lt, .int .u64 c, .int .u64 r, .bool ok, .bool fo, .slice E es.length e, .int .u64 si, .int .u64 st, .slice A sm.length a, .slice B sd.length b] 29)) (below_alloc (Below.refl _ _) (.cells #[.int .i64 k', .int .i64 f', .int .i64 d', .int .u64 t', .int .u64 i', .int .u64 lt', .int .u64 c', .int .u64 r', .bool ok', .bool fo', .slice E' es'.length e', .int .u64 si', .int .u64 st', .slice A' sm'.length a', .slice B' sd'.length b'] 29))
  have hy := World.alloc_heap_new (w.alloc (.cells #[.int .i64 k, .int .i64 f, .int .i64 d, .int .u64 t, .int .u64 i, .int .u64 lt, .int .u64 c, .int .u64 r, .bool ok, .bool fo, .slice E es.length e, .int .u64 si, .int .u64 st, .slice A sm.length a, .slice B sd.length b] 29)) (.cells #[.int .i64 k', .int .i64 f', .int .i64 d', .int .u64 t', .int .u64 i', .int .u64 lt', .int .u64 c', .int .u64 r', .bool ok', .bool fo', .slice E' es'.length e', .int .u64 si', .int .u64 st', .slice A' sm'.length a', .slice B' sd'.length b'] 29)
  rw [World.size_alloc] at hy
  obtain ⟨w2, hw2⟩ : ∃ w2, ((w.alloc (.cells #[.int .i64 k, .int .i64 f, .int .i64 d, .int .u64 t, .int .u64 i, .int .u64 lt, .int .u64 c, .int .u64 r, .bool ok, .bool fo, .slice E es.length e, .int .u64 si, .int .u64 st, .slice A sm.length a, .slice B sd.length b] 29)).alloc (.cells #[.int .i64 k', .int .i64 f', .int .i64 d', .int .u64 t', .int .u64 i', .int .u64 lt', .int .u64 c', .int .u64 r', .bool ok', .bool fo', .slice E' es'.length e', .int .u64 si', .int .u64 st', .slice A' sm'.length a', .slice B' sd'.length b'] 29)) = w2 := ⟨_, rfl⟩
  rw [hw2] at hb2 hx hy
  obtain ⟨g1, hg1⟩ : ∃ g1, w.heap.size + 1 = g1 := ⟨_, rfl⟩
  obtain ⟨g0, hg0⟩ : ∃ g0, w.heap.size = g0 := ⟨_, rfl⟩
  rw [hg1] at hy
  rw [hg0] at hx
  have HW2 := Lib.hid hw2
  have HG1 := Lib.hid hg1
  have HG0 := Lib.hid hg0
  have HB2 := Lib.hid hb2
  have HX := Lib.hid hx
  have HY := Lib.hid hy
  clear hw2 hb2 hx hy hg1 hg0
  try dsimp only at *
  have HP := Lib.hid (fun W (hb : Below w2.heap.size w2 W) => HP0.out W (below_step HB2.out hb))
  have HQ := Lib.hid (fun W (hb : Below w2.heap.size w2 W) => HQ0.out W (below_step HB2.out hb))
  obtain ⟨ι, hne, F, hF, hS⟩ : ∃ (ι : Type) (_ : Nonempty ι) (F : ι → World), (∀ n, Below w2.heap.size w2 (F n)) ∧ ∀ W, Below w2.heap.size w2 W → ∃ n, W = F n := ⟨{W // Below w2.heap.size w2 W}, ⟨⟨w2, Below.refl _ _⟩⟩, Subtype.val, fun n => n.2, fun W h => ⟨⟨W, h⟩, rfl⟩⟩
  have hbx := fun n => blk15 (blk_below HX.out (hF n))
  have hcx := fun n => blk15 (blk_below HY.out (hF n))
  simp only [forall_and] at hbx hcx
  obtain ⟨b0, b1, b2, b3, b4, b5, b6, b7, b8, b9, b10, b11, b12, b13, b14⟩ := hbx
  obtain ⟨c0, c1, c2, c3, c4, c5, c6, c7, c8, c9, c10, c11, c12, c13, c14⟩ := hcx
  go_enter Try.func11, Try.ntmps11
  go_upto_region 1 with (fail)
  rw [HW2.out, HG1.out, HG0.out]
  have HC := Lib.hid (below_drew (Below.refl w2.heap.size w2))
  refine wp_region_held (S := (fun W => ∃ n, W = F n)) (by kernel_rfl) ?_
  try (change wpAnyH _ _ _ _ _ _ _ _ (World.drew _))
  refine wpAnyH_take (i := 0) (v := (.agg #[.int .i64 k, .int .i64 f, .int .i64 d, .int .u64 t, .int .u64 i, .int .u64 lt, .int .u64 c, .int .u64 r, .bool ok, .bool fo, .slice E es.length e, .int .u64 si, .int .u64 st, .slice A sm.length a, .slice B sd.length b])) rfl (by kernel_rfl) (by kernel_rfl) (by kernel_rfl) (fun _ _ _ h => h) (Or.inl ⟨by rfl, fun W hW => ?_⟩) (hS _ HC.out) ?_
  · obtain ⟨n, rfl⟩ := hW
    go_simp
  try go_simp
  refine wpAnyH_take (i := 2) (v := (.agg #[.int .i64 k', .int .i64 f', .int .i64 d', .int .u64 t', .int .u64 i', .int .u64 lt', .int .u64 c', .int .u64 r', .bool ok', .bool fo', .slice E' es'.length e', .int .u64 si', .int .u64 st', .slice A' sm'.length a', .slice B' sd'.length b'])) rfl (by kernel_rfl) (by kernel_rfl) (by kernel_rfl) (fun _ _ _ h => h) (Or.inl ⟨by rfl, fun W hW => ?_⟩) (hS _ HC.out) ?_
  · obtain ⟨n, rfl⟩ := hW
    go_simp
  try go_simp
  refine wpAnyH_ready (rs := [1]) (by kernel_rfl) (by simp) ?_
  refine AllReadyH.cons rfl (fun K hK => ?_) AllReadyH.nil
  go_simp
  go_wp2_with fail
  refine (HP.out _ HC.out).mono ?_
  rintro e1 w3 ⟨A3, cp3, rfl, hR3, hb⟩
  have HP1 := Lib.hid hR3
  have HC := Lib.hid (below_step HC.out hb)
  clear hb hR3
  refine hK.out _ _ (hS _ HC.out) (fun _ => ?_)
  clear hK K
  refine wpAnyH_ready (rs := [3]) (by kernel_rfl) (by simp) ?_
  refine AllReadyH.cons rfl (fun K hK => ?_) AllReadyH.nil
  go_simp
  go_wp2_with fail
  refine (HQ.out _ HC.out).mono ?_
  rintro e1 w4 ⟨A4, cp4, rfl, hR4, hb⟩
  have HP2 := Lib.hid hR4
  have HP1 := Lib.hid (Kd.C_below HP1.out hb)
  have HC := Lib.hid (below_step HC.out hb)
  clear hb hR4
  refine hK.out _ _ (hS _ HC.out) (fun _ => ?_)
  clear hK K
  refine wpAnyH_ready (rs := [4]) (by kernel_rfl) (by simp) ?_
  refine AllReadyH.cons rfl (fun K hK => ?_) AllReadyH.nil
  go_simp
  go_wp2_with fail
  refine (equint_walk A3 A4 5 5 cp3 cp4 (plainL m0) (plainL m1) _ HP1.out HP2.out).mono ?_
  rw [HPE.out]
  rintro e1 w5 ⟨rfl, hb⟩
  have HC := Lib.hid (below_step HC.out hb)
  clear hb
  refine hK.out _ _ (hS _ HC.out) (fun _ => ?_)
  clear hK K
  refine rest_quiet (C := (fun W => ∃ n, W = F n)) 5 (by kernel_rfl) (by kernel_rfl) (by kernel_rfl) (hS _ HC.out) ?_
  simp only [List.drop_succ_cons, List.drop_zero]
  repeat (go_big_quiet_step ((first | (go_at_call 26; refine (HSE.out _ (hF _)).mono ?_; rw [HEE.out]; rintro e1 w6 ⟨rfl, hb⟩; exact ⟨rfl, hS _ (below_step (hF _) hb)⟩) | (go_at_call 27; refine (HSS.out _ (hF _)).mono ?_; rintro e1 w6 ⟨rfl, hb⟩; exact ⟨rfl, hS _ (below_step (hF _) hb)⟩))))
  refine wpQuiet_nil ?_
  rintro W ⟨n, rfl⟩
  have HB6 := Lib.hid (below_step HB2.out (hF n))
  go_wp2
  go_ret
  exact ⟨rfl, HB6.out⟩
end Go.Proofs.Ytoccidpocagkjaa
