/- Snapshots: sound, the same; bytes as a row of members. -/
import Derived.Test.YtoccidpocagkjaaSwa
set_option linter.unusedVariables false
set_option linter.unusedSimpArgs false
namespace Go.Proofs.Ytoccidpocagkjaa
open Go.RowKit Go.Proofs.YtoccidpocagkjaaW.PrintWords Cf
attribute [local go_sem] str_beq str_bne

theorem snSound_dec (s : Sn) : snSound s = (decide ((1 : Int) ≤ s.index) && decide ((s.index : Int) < 576460752303423488) && decide ((1 : Int) ≤ s.term) && decide ((s.term : Int) ≤ 1152921504606846976) && membersB s.members && decide ((s.data.length : Int) ≤ 32768)) := by
  have e : ∀ (a b : Nat), decide ((a : Int) ≤ (b : Int)) = decide (a ≤ b) := fun a b => by rw [decide_eq_decide]; omega
  have f : ∀ (a b : Nat), decide ((a : Int) < (b : Int)) = decide (a < b) := fun a b => by rw [decide_eq_decide]; omega
  have e1 := e 1 s.index
  have e2 := f s.index 576460752303423488
  have e3 := e 1 s.term
  have e4 := e s.term 1152921504606846976
  have e5 := e s.data.length 32768
  simp only [Int.cast_ofNat_Int, Int.natCast_one] at e1 e2 e3 e4 e5
  unfold snSound
  rw [e1, e2, e3, e4, e5]
set_option maxRecDepth 100000 in
set_option maxHeartbeats 2000000 in
theorem snsound_walk (s : Sn) (A : Option Addr) (a : Nat) (B : Option Addr) (b : Nat) (w : World) (h : SR w s A a B b) (ho : snOk s) :
    Calls Try.prog 19 #[snV s A a B b] w fun e w' => e = .returned (.bool (snSound s)) ∧ Below w.heap.size w w' := by
  rw [snSound_dec]
  obtain ⟨i, t, ms, ds⟩ := s
  have HO := Lib.hid ho
  have hB1 := below_alloc (Below.refl _ w) (.cells #[.int .u64 i, .int .u64 t, .slice A ms.length a, .slice B ds.length b] 27)
  have HB1 := Lib.hid hB1
  have HK := Lib.hid (World.alloc_heap_new w (.cells #[.int .u64 i, .int .u64 t, .slice A ms.length a, .slice B ds.length b] 27))
  have HR := Lib.hid (rising_walk A ms.length a ms _ (Kd.C_below h.2.1 hB1) ho.2.2)
  clear h ho hB1
  dsimp only at *
  generalize membersB ms = v at *
  by_cases g1 : (1 : Int) ≤ i
  rotate_left
  · have HE := Lib.hid (show (decide ((1 : Int) ≤ i) && decide ((i : Int) < 576460752303423488) && decide ((1 : Int) ≤ t) && decide ((t : Int) ≤ 1152921504606846976) && v && decide ((ds.length : Int) ≤ 32768)) = false by simp only [g1, decide_true, decide_false, Bool.true_and, Bool.false_and, Bool.and_false])
    rw [HE.out]
    go_enter Try.func19, Try.ntmps19
    go_wp2
    go_ret
    exact ⟨rfl, HB1.out⟩
  by_cases g2 : (i : Int) < 576460752303423488
  rotate_left
  · have HE := Lib.hid (show (decide ((1 : Int) ≤ i) && decide ((i : Int) < 576460752303423488) && decide ((1 : Int) ≤ t) && decide ((t : Int) ≤ 1152921504606846976) && v && decide ((ds.length : Int) ≤ 32768)) = false by simp only [g1, g2, decide_true, decide_false, Bool.true_and, Bool.false_and, Bool.and_false])
    rw [HE.out]
    go_enter Try.func19, Try.ntmps19
    go_wp2
    go_ret
    exact ⟨rfl, HB1.out⟩
  by_cases g3 : (1 : Int) ≤ t
  rotate_left
  · have HE := Lib.hid (show (decide ((1 : Int) ≤ i) && decide ((i : Int) < 576460752303423488) && decide ((1 : Int) ≤ t) && decide ((t : Int) ≤ 1152921504606846976) && v && decide ((ds.length : Int) ≤ 32768)) = false by simp only [g1, g2, g3, decide_true, decide_false, Bool.true_and, Bool.false_and, Bool.and_false])
    rw [HE.out]
    go_enter Try.func19, Try.ntmps19
    go_wp2
    go_ret
    exact ⟨rfl, HB1.out⟩
  by_cases g4 : (t : Int) ≤ 1152921504606846976
  rotate_left
  · have HE := Lib.hid (show (decide ((1 : Int) ≤ i) && decide ((i : Int) < 576460752303423488) && decide ((1 : Int) ≤ t) && decide ((t : Int) ≤ 1152921504606846976) && v && decide ((ds.length : Int) ≤ 32768)) = false by simp only [g1, g2, g3, g4, decide_true, decide_false, Bool.true_and, Bool.false_and, Bool.and_false])
    rw [HE.out]
    go_enter Try.func19, Try.ntmps19
    go_wp2
    go_ret
    exact ⟨rfl, HB1.out⟩
  have HE := Lib.hid (show (decide ((1 : Int) ≤ i) && decide ((i : Int) < 576460752303423488) && decide ((1 : Int) ≤ t) && decide ((t : Int) ≤ 1152921504606846976) && v && decide ((ds.length : Int) ≤ 32768)) = (v && decide ((ds.length : Int) ≤ 32768)) by simp only [g1, g2, g3, g4, decide_true, Bool.true_and])
  rw [HE.out]
  go_enter Try.func19, Try.ntmps19
  go_wp2_with fail
  refine (HR.out).mono ?_
  rintro e w1 ⟨rfl, hb⟩
  have HB2 := Lib.hid (below_step HB1.out hb)
  obtain ⟨b0, b1, b2, b3⟩ := blk4 (blk_below HK.out hb)
  clear hb
  cases v with
  | false =>
    go_wp2
    go_ret
    exact ⟨rfl, HB2.out⟩
  | true =>
    go_wp2
    go_ret
    exact ⟨rfl, HB2.out⟩
set_option maxRecDepth 100000 in
set_option maxHeartbeats 2000000 in
theorem rsnsound_walk (s : Sn) (A : Option Addr) (a : Nat) (B : Option Addr) (b : Nat) (w : World) (h : SR w s A a B b) (ho : snOk s) :
    Calls Try.prog 22 #[snV s A a B b] w fun e w' => e = .returned (.bool (snSound s)) ∧ Below w.heap.size w w' := by
  rw [snSound_dec]
  obtain ⟨i, t, ms, ds⟩ := s
  have HO := Lib.hid ho
  have hB1 := below_alloc (Below.refl _ w) (.cells #[.int .u64 i, .int .u64 t, .slice A ms.length a, .slice B ds.length b] 27)
  have HB1 := Lib.hid hB1
  have HK := Lib.hid (World.alloc_heap_new w (.cells #[.int .u64 i, .int .u64 t, .slice A ms.length a, .slice B ds.length b] 27))
  have HR := Lib.hid (rmembers_walk A ms.length a ms _ (Kd.C_below h.2.1 hB1) ho.2.2)
  clear h ho hB1
  dsimp only at *
  generalize membersB ms = v at *
  by_cases g1 : (1 : Int) ≤ i
  rotate_left
  · have HE := Lib.hid (show (decide ((1 : Int) ≤ i) && decide ((i : Int) < 576460752303423488) && decide ((1 : Int) ≤ t) && decide ((t : Int) ≤ 1152921504606846976) && v && decide ((ds.length : Int) ≤ 32768)) = false by simp only [g1, decide_true, decide_false, Bool.true_and, Bool.false_and, Bool.and_false])
    rw [HE.out]
    go_enter Try.func22, Try.ntmps22
    go_wp2
    go_ret
    exact ⟨rfl, HB1.out⟩
  by_cases g2 : (i : Int) < 576460752303423488
  rotate_left
  · have HE := Lib.hid (show (decide ((1 : Int) ≤ i) && decide ((i : Int) < 576460752303423488) && decide ((1 : Int) ≤ t) && decide ((t : Int) ≤ 1152921504606846976) && v && decide ((ds.length : Int) ≤ 32768)) = false by simp only [g1, g2, decide_true, decide_false, Bool.true_and, Bool.false_and, Bool.and_false])
    rw [HE.out]
    go_enter Try.func22, Try.ntmps22
    go_wp2
    go_ret
    exact ⟨rfl, HB1.out⟩
  by_cases g3 : (1 : Int) ≤ t
  rotate_left
  · have HE := Lib.hid (show (decide ((1 : Int) ≤ i) && decide ((i : Int) < 576460752303423488) && decide ((1 : Int) ≤ t) && decide ((t : Int) ≤ 1152921504606846976) && v && decide ((ds.length : Int) ≤ 32768)) = false by simp only [g1, g2, g3, decide_true, decide_false, Bool.true_and, Bool.false_and, Bool.and_false])
    rw [HE.out]
    go_enter Try.func22, Try.ntmps22
    go_wp2
    go_ret
    exact ⟨rfl, HB1.out⟩
  by_cases g4 : (t : Int) ≤ 1152921504606846976
  rotate_left
  · have HE := Lib.hid (show (decide ((1 : Int) ≤ i) && decide ((i : Int) < 576460752303423488) && decide ((1 : Int) ≤ t) && decide ((t : Int) ≤ 1152921504606846976) && v && decide ((ds.length : Int) ≤ 32768)) = false by simp only [g1, g2, g3, g4, decide_true, decide_false, Bool.true_and, Bool.false_and, Bool.and_false])
    rw [HE.out]
    go_enter Try.func22, Try.ntmps22
    go_wp2
    go_ret
    exact ⟨rfl, HB1.out⟩
  have HE := Lib.hid (show (decide ((1 : Int) ≤ i) && decide ((i : Int) < 576460752303423488) && decide ((1 : Int) ≤ t) && decide ((t : Int) ≤ 1152921504606846976) && v && decide ((ds.length : Int) ≤ 32768)) = (v && decide ((ds.length : Int) ≤ 32768)) by simp only [g1, g2, g3, g4, decide_true, Bool.true_and])
  rw [HE.out]
  go_enter Try.func22, Try.ntmps22
  go_wp2_with fail
  refine (HR.out).mono ?_
  rintro e w1 ⟨rfl, hb⟩
  have HB2 := Lib.hid (below_step HB1.out hb)
  obtain ⟨b0, b1, b2, b3⟩ := blk4 (blk_below HK.out hb)
  clear hb
  cases v with
  | false =>
    go_wp2
    go_ret
    exact ⟨rfl, HB2.out⟩
  | true =>
    go_wp2
    go_ret
    exact ⟨rfl, HB2.out⟩
theorem sn_eq_dec (x y : Sn) : decide (x = y) = (((x.index : Int) == y.index) && ((x.term : Int) == y.term) && decide (x.members = y.members) && (x.data == y.data)) := by
  rw [Bool.eq_iff_iff]
  obtain ⟨a, b, c, d⟩ := x
  obtain ⟨e, f, g, h⟩ := y
  simp only [Sn.mk.injEq, decide_eq_true_eq, Bool.and_eq_true, beq_iff_eq, and_assoc]
  rw [show a = e ↔ (a : Int) = (e : Int) by omega, show b = f ↔ (b : Int) = (f : Int) by omega]
set_option maxRecDepth 100000 in
set_option maxHeartbeats 2000000 in
theorem snsame_walk (x y : Sn) (A : Option Addr) (a : Nat) (B : Option Addr) (b : Nat) (C : Option Addr) (c : Nat) (D : Option Addr) (d : Nat) (w : World) (h : SR w x A a B b) (k : SR w y C c D d) :
    Calls Try.prog 27 #[snV x A a B b, snV y C c D d] w fun e w' => e = .returned (.bool (decide (x = y))) ∧ Below w.heap.size w w' := by
  rw [sn_eq_dec]
  obtain ⟨i, t, ms, ds⟩ := x
  obtain ⟨i', t', ms', ds'⟩ := y
  have hB0 := below_alloc (Below.refl _ w) (.cells #[.int .u64 i, .int .u64 t, .slice A ms.length a, .slice B ds.length b] 27)
  have hB1 := below_step hB0 (below_alloc (Below.refl _ _) (.cells #[.int .u64 i', .int .u64 t', .slice C ms'.length c, .slice D ds'.length d] 27))
  have HB1 := Lib.hid hB1
  have HK1 := Lib.hid (blk_below (World.alloc_heap_new w (.cells #[.int .u64 i, .int .u64 t, .slice A ms.length a, .slice B ds.length b] 27)) (below_alloc (Below.refl _ _) (.cells #[.int .u64 i', .int .u64 t', .slice C ms'.length c, .slice D ds'.length d] 27)))
  have HK2 := Lib.hid (World.alloc_heap_new (w.alloc (.cells #[.int .u64 i, .int .u64 t, .slice A ms.length a, .slice B ds.length b] 27)) (.cells #[.int .u64 i', .int .u64 t', .slice C ms'.length c, .slice D ds'.length d] 27))
  have HR := Lib.hid (eqint_walk A C ms.length ms'.length a c ms ms' _ (Kd.C_below h.2.1 hB1) (Kd.C_below k.2.1 hB1))
  have HQ := Lib.hid (fun w' (hb : Below w.heap.size w w') => bequal_walk B D ds.length ds'.length b d ds ds' w' (Kd.C_below h.2.2.2 hb) (Kd.C_below k.2.2.2 hb))
  have hsz : (w.alloc (.cells #[.int .u64 i, .int .u64 t, .slice A ms.length a, .slice B ds.length b] 27)).heap.size = w.heap.size + 1 := World.size_alloc _ _
  rw [hsz] at HK2
  clear h k hB1 hB0 hsz
  dsimp only at *
  generalize decide (ms = ms') = v at *
  generalize (ds == ds') = u at *
  by_cases g1 : ((i : Int) == (i' : Int)) = true
  rotate_left
  · have g1 : ((i : Int) == (i' : Int)) = false := by simpa using g1
    rw [g1]
    go_enter Try.func27, Try.ntmps27
    go_wp2
    go_ret
    exact ⟨rfl, HB1.out⟩
  by_cases g2 : ((t : Int) == (t' : Int)) = true
  rotate_left
  · have g2 : ((t : Int) == (t' : Int)) = false := by simpa using g2
    rw [g1, g2]
    go_enter Try.func27, Try.ntmps27
    go_wp2
    go_ret
    exact ⟨rfl, HB1.out⟩
  rw [g1, g2]
  go_enter Try.func27, Try.ntmps27
  go_wp2_with fail
  refine (HR.out).mono ?_
  rintro e w1 ⟨rfl, hb⟩
  have HB2 := Lib.hid (below_step HB1.out hb)
  obtain ⟨b0, b1, b2, b3⟩ := blk4 (blk_below HK1.out hb)
  obtain ⟨c0, c1, c2, c3⟩ := blk4 (blk_below HK2.out hb)
  clear hb
  cases v with
  | false =>
    go_wp2
    go_ret
    exact ⟨rfl, HB2.out⟩
  | true =>
    go_wp2_with fail
    refine (HQ.out _ HB2.out).mono ?_
    rintro e w2 ⟨rfl, rfl⟩
    go_wp2
    go_ret
    exact ⟨rfl, HB2.out⟩
end Go.Proofs.Ytoccidpocagkjaa
