/- wire: Sound. -/
import Derived.Test.YtoccidpocagkjaaSwf
set_option linter.unusedVariables false
set_option linter.unusedSimpArgs false
namespace Go.Proofs.Ytoccidpocagkjaa
open Go.RowKit Go.Proofs.YtoccidpocagkjaaW.PrintWords Cf
attribute [local go_sem] str_beq str_bne

theorem soundP_chain (m : Wm) : soundP m = (decide (1 ≤ m.kind) && decide (m.kind ≤ 8) && nodeB m.frm && nodeB m.dst && !(m.frm == m.dst) && decide (1 ≤ m.term) && decide (m.term ≤ 1152921504606846976) && decide (m.commit ≤ 576460752303423488) &&
    decide (m.round ≤ 1152921504606846976) && entsB m && (!(m.kind == 7) || (snSound m.snap && decide (m.snap.term ≤ m.term))) && spareB m) := by
  simp only [soundP, headB, Bool.and_assoc]
set_option maxRecDepth 100000 in
set_option maxHeartbeats 8000000 in
theorem soundP_walk (m : Wm) (E : Option Addr) (e : Nat) (A : Option Addr) (a : Nat) (B : Option Addr) (b : Nat) (w : World) (h : MR w m E e A a B b) (ho : msgOk m) :
    Calls Try.prog 9 #[msgV m E e A a B b] w fun e w' => e = .returned (.bool (soundP m)) ∧ Below w.heap.size w w' := by
  have hv := soundP_chain m
  have HEN := Lib.hid (fun w' (hb : Below w.heap.size w w') => entries_walk m E e A a B b w' (h.below hb) ho)
  have HSP := Lib.hid (fun w' (hb : Below w.heap.size w w') => spare_walk m E e A a B b w' (h.below hb))
  have HSN := Lib.hid (fun w' (hb : Below w.heap.size w w') => snsound_walk m.snap A a B b w' (h.2.2.below hb) ho.2.2.2)
  clear ho
  generalize soundP m = v at *
  generalize entsB m = ve at *
  generalize spareB m = vs at *
  generalize snSound m.snap = vn at *
  obtain ⟨k, f, d, t, i, lt, c, r, ok, fo, es, ⟨si, st, sm, sd⟩⟩ := m
  have hB1 := below_alloc (Below.refl _ w) (.cells #[.int .i64 k, .int .i64 f, .int .i64 d, .int .u64 t, .int .u64 i, .int .u64 lt, .int .u64 c, .int .u64 r, .bool ok, .bool fo, .slice E es.length e, .int .u64 si, .int .u64 st, .slice A sm.length a, .slice B sd.length b] 29)
  have HB1 := Lib.hid hB1
  have HK := Lib.hid (World.alloc_heap_new w (.cells #[.int .i64 k, .int .i64 f, .int .i64 d, .int .u64 t, .int .u64 i, .int .u64 lt, .int .u64 c, .int .u64 r, .bool ok, .bool fo, .slice E es.length e, .int .u64 si, .int .u64 st, .slice A sm.length a, .slice B sd.length b] 29))
  have HM := Lib.hid (h.below hB1)
  have HM0 := Lib.hid h
  clear h hB1
  dsimp only at *
  have HV := Lib.hid hv
  clear hv HM HM0
  by_cases k1 : k < 1
  · have HNV := Lib.hid (show v = false by rw [HV.out]; simp [show ¬ 1 ≤ k by omega])
    go_enter Try.func9, Try.ntmps9
    go_wp2
    go_ret
    exact ⟨by rw [HNV.out]; rfl, HB1.out⟩
  by_cases k8 : 8 < k
  · have HNV := Lib.hid (show v = false by rw [HV.out]; simp [show ¬ k ≤ 8 by omega])
    go_enter Try.func9, Try.ntmps9
    go_wp2
    go_ret
    exact ⟨by rw [HNV.out]; rfl, HB1.out⟩
  have hk : 1 ≤ k ∧ k ≤ 8 := by omega
  have hk1 : decide (1 ≤ k) = true := decide_eq_true hk.1
  have hk8 : decide (k ≤ 8) = true := decide_eq_true hk.2
  have HVK := Lib.hid (show v = (nodeB f && nodeB d && !(f == d) && decide (1 ≤ t) && decide (t ≤ 1152921504606846976) && decide (c ≤ 576460752303423488) && decide (r ≤ 1152921504606846976) && ve && (!(k == 7) || (vn && decide (st ≤ t))) && vs) by rw [HV.out, hk1, hk8]; simp only [Bool.true_and])
  have HK8 := Lib.hid hk
  clear HV hk hk1 hk8
  cases nf : nodeB f with
  | false =>
    have HNF := Lib.hid nf
    have HNV := Lib.hid (show v = false by rw [HVK.out, nf]; rfl)
    clear nf
    go_enter Try.func9, Try.ntmps9
    go_wp2_with fail
    refine (node_walk _ _).mono ?_
    rw [HNF.out]
    rintro e' wn ⟨rfl, rfl⟩
    go_wp2
    go_ret
    exact ⟨by rw [HNV.out]; rfl, HB1.out⟩
  | true =>
  have HNF := Lib.hid nf
  cases nd : nodeB d with
  | false =>
    have HND := Lib.hid nd
    have HNV := Lib.hid (show v = false by rw [HVK.out, nd]; simp)
    clear nf nd
    go_enter Try.func9, Try.ntmps9
    go_wp2_with fail
    refine (node_walk _ _).mono ?_
    rw [HNF.out]
    rintro e' wn ⟨rfl, rfl⟩
    go_wp2_with fail
    refine (node_walk _ _).mono ?_
    rw [HND.out]
    rintro e' wn ⟨rfl, rfl⟩
    go_wp2
    go_ret
    exact ⟨by rw [HNV.out]; rfl, HB1.out⟩
  | true =>
  have HND := Lib.hid nd
  have HVF := Lib.hid (show v = (!(f == d) && decide (1 ≤ t) && decide (t ≤ 1152921504606846976) && decide (c ≤ 576460752303423488) && decide (r ≤ 1152921504606846976) && ve && (!(k == 7) || (vn && decide (st ≤ t))) && vs) by rw [HVK.out, nf, nd]; simp only [Bool.true_and])
  clear nf nd HVK
  by_cases q1 : f = d
  · have HNV := Lib.hid (show v = false by rw [HVF.out]; simp [q1])
    have q1b : (f == d) = true := by rw [beq_iff_eq]; exact q1
    clear q1
    go_enter Try.func9, Try.ntmps9
    go_wp2_with fail
    refine (node_walk _ _).mono ?_
    rw [HNF.out]
    rintro e' wn ⟨rfl, rfl⟩
    go_wp2_with fail
    refine (node_walk _ _).mono ?_
    rw [HND.out]
    rintro e' wn ⟨rfl, rfl⟩
    go_wp2
    go_ret
    exact ⟨by rw [HNV.out]; rfl, HB1.out⟩
  have q1b : (f == d) = false := by rw [beq_eq_false_iff_ne]; exact q1
  by_cases q2 : t < 1
  · have HNV := Lib.hid (show v = false by rw [HVF.out]; simp [show ¬ 1 ≤ t by omega])
    have q2i : (t : Int) < 1 := by omega
    clear q1
    go_enter Try.func9, Try.ntmps9
    go_wp2_with fail
    refine (node_walk _ _).mono ?_
    rw [HNF.out]
    rintro e' wn ⟨rfl, rfl⟩
    go_wp2_with fail
    refine (node_walk _ _).mono ?_
    rw [HND.out]
    rintro e' wn ⟨rfl, rfl⟩
    go_wp2
    go_ret
    exact ⟨by rw [HNV.out]; rfl, HB1.out⟩
  have q2i : ¬ (t : Int) < 1 := by omega
  by_cases q3 : 1152921504606846976 < t
  · have HNV := Lib.hid (show v = false by rw [HVF.out]; simp [show ¬ t ≤ 1152921504606846976 by omega])
    have q3i : (1152921504606846976 : Int) < (t : Int) := by omega
    clear q1
    go_enter Try.func9, Try.ntmps9
    go_wp2_with fail
    refine (node_walk _ _).mono ?_
    rw [HNF.out]
    rintro e' wn ⟨rfl, rfl⟩
    go_wp2_with fail
    refine (node_walk _ _).mono ?_
    rw [HND.out]
    rintro e' wn ⟨rfl, rfl⟩
    go_wp2
    go_ret
    exact ⟨by rw [HNV.out]; rfl, HB1.out⟩
  have q3i : ¬ (1152921504606846976 : Int) < (t : Int) := by omega
  by_cases q4 : 576460752303423488 < c
  · have HNV := Lib.hid (show v = false by rw [HVF.out]; simp [show ¬ c ≤ 576460752303423488 by omega])
    have q4i : (576460752303423488 : Int) < (c : Int) := by omega
    clear q1
    go_enter Try.func9, Try.ntmps9
    go_wp2_with fail
    refine (node_walk _ _).mono ?_
    rw [HNF.out]
    rintro e' wn ⟨rfl, rfl⟩
    go_wp2_with fail
    refine (node_walk _ _).mono ?_
    rw [HND.out]
    rintro e' wn ⟨rfl, rfl⟩
    go_wp2
    go_ret
    exact ⟨by rw [HNV.out]; rfl, HB1.out⟩
  have q4i : ¬ (576460752303423488 : Int) < (c : Int) := by omega
  by_cases q5 : 1152921504606846976 < r
  · have HNV := Lib.hid (show v = false by rw [HVF.out]; simp [show ¬ r ≤ 1152921504606846976 by omega])
    have q5i : (1152921504606846976 : Int) < (r : Int) := by omega
    clear q1
    go_enter Try.func9, Try.ntmps9
    go_wp2_with fail
    refine (node_walk _ _).mono ?_
    rw [HNF.out]
    rintro e' wn ⟨rfl, rfl⟩
    go_wp2_with fail
    refine (node_walk _ _).mono ?_
    rw [HND.out]
    rintro e' wn ⟨rfl, rfl⟩
    go_wp2
    go_ret
    exact ⟨by rw [HNV.out]; rfl, HB1.out⟩
  have q5i : ¬ (1152921504606846976 : Int) < (r : Int) := by omega
  have HVT := Lib.hid (show v = (ve && (!(k == 7) || (vn && decide (st ≤ t))) && vs) by
    rw [HVF.out, q1b, show decide (1 ≤ t) = true from decide_eq_true (by omega), show decide (t ≤ 1152921504606846976) = true from decide_eq_true (by omega), show decide (c ≤ 576460752303423488) = true from decide_eq_true (by omega), show decide (r ≤ 1152921504606846976) = true from decide_eq_true (by omega)]
    rfl)
  clear HVF q1
  cases he : ve with
  | false =>
    have HE := Lib.hid he
    have HNV := Lib.hid (show v = false by rw [HVT.out, he]; rfl)
    clear he
    go_enter Try.func9, Try.ntmps9
    go_wp2_with fail
    refine (node_walk _ _).mono ?_
    rw [HNF.out]
    rintro e' wn ⟨rfl, rfl⟩
    go_wp2_with fail
    refine (node_walk _ _).mono ?_
    rw [HND.out]
    rintro e' wn ⟨rfl, rfl⟩
    go_wp2_with fail
    refine (HEN.out _ HB1.out).mono ?_
    rw [HE.out]
    rintro e' w2 ⟨rfl, hb2⟩
    have HB2 := Lib.hid (below_step HB1.out hb2)
    obtain ⟨b0, b1, b2, b3, b4, b5, b6, b7, b8, b9, b10, b11, b12, b13, b14⟩ := blk15 (blk_below HK.out hb2)
    clear hb2
    go_wp2
    go_ret
    exact ⟨by rw [HNV.out]; rfl, HB2.out⟩
  | true =>
  have HE := Lib.hid he
  have HVE := Lib.hid (show v = ((!(k == 7) || (vn && decide (st ≤ t))) && vs) by rw [HVT.out, he]; rfl)
  clear he HVT
  by_cases q7 : k = 7
  · have q7b : (k == 7) = true := by rw [beq_iff_eq]; exact q7
    cases hs : vn with
    | false =>
      have HS := Lib.hid hs
      have HNV := Lib.hid (show v = false by rw [HVE.out, q7b, hs]; rfl)
      clear hs q7
      go_enter Try.func9, Try.ntmps9
      go_wp2_with fail
      refine (node_walk _ _).mono ?_
      rw [HNF.out]
      rintro e' wn ⟨rfl, rfl⟩
      go_wp2_with fail
      refine (node_walk _ _).mono ?_
      rw [HND.out]
      rintro e' wn ⟨rfl, rfl⟩
      go_wp2_with fail
      refine (HEN.out _ HB1.out).mono ?_
      rw [HE.out]
      rintro e' w2 ⟨rfl, hb2⟩
      have HB2 := Lib.hid (below_step HB1.out hb2)
      obtain ⟨b0, b1, b2, b3, b4, b5, b6, b7, b8, b9, b10, b11, b12, b13, b14⟩ := blk15 (blk_below HK.out hb2)
      have HC2 := Lib.hid hb2
      clear hb2
      go_wp2_with fail
      refine (HSN.out _ HB2.out).mono ?_
      rw [HS.out]
      rintro e' w3 ⟨rfl, hb3⟩
      have HB3 := Lib.hid (below_step HB2.out hb3)
      have HC3 := Lib.hid (below_step HC2.out hb3)
      clear hb3 b0 b1 b2 b3 b4 b5 b6 b7 b8 b9 b10 b11 b12 b13 b14
      obtain ⟨b0, b1, b2, b3, b4, b5, b6, b7, b8, b9, b10, b11, b12, b13, b14⟩ := blk15 (blk_below HK.out HC3.out)
      go_wp2
      go_ret
      exact ⟨by rw [HNV.out]; rfl, HB3.out⟩
    | true =>
      have HS := Lib.hid hs
      by_cases q8 : t < st
      · have HNV := Lib.hid (show v = false by rw [HVE.out, q7b, hs, show decide (st ≤ t) = false from decide_eq_false (by omega)]; rfl)
        have q8i : (t : Int) < (st : Int) := by omega
        clear hs q7
        go_enter Try.func9, Try.ntmps9
        go_wp2_with fail
        refine (node_walk _ _).mono ?_
        rw [HNF.out]
        rintro e' wn ⟨rfl, rfl⟩
        go_wp2_with fail
        refine (node_walk _ _).mono ?_
        rw [HND.out]
        rintro e' wn ⟨rfl, rfl⟩
        go_wp2_with fail
        refine (HEN.out _ HB1.out).mono ?_
        rw [HE.out]
        rintro e' w2 ⟨rfl, hb2⟩
        have HB2 := Lib.hid (below_step HB1.out hb2)
        obtain ⟨b0, b1, b2, b3, b4, b5, b6, b7, b8, b9, b10, b11, b12, b13, b14⟩ := blk15 (blk_below HK.out hb2)
        have HC2 := Lib.hid hb2
        clear hb2
        go_wp2_with fail
        refine (HSN.out _ HB2.out).mono ?_
        rw [HS.out]
        rintro e' w3 ⟨rfl, hb3⟩
        have HB3 := Lib.hid (below_step HB2.out hb3)
        have HC3 := Lib.hid (below_step HC2.out hb3)
        clear hb3 b0 b1 b2 b3 b4 b5 b6 b7 b8 b9 b10 b11 b12 b13 b14
        obtain ⟨b0, b1, b2, b3, b4, b5, b6, b7, b8, b9, b10, b11, b12, b13, b14⟩ := blk15 (blk_below HK.out HC3.out)
        go_wp2
        go_ret
        exact ⟨by rw [HNV.out]; rfl, HB3.out⟩
      · have HNV := Lib.hid (show v = vs by rw [HVE.out, q7b, hs, show decide (st ≤ t) = true from decide_eq_true (by omega)]; rfl)
        have q8i : ¬ (t : Int) < (st : Int) := by omega
        clear hs q7
        go_enter Try.func9, Try.ntmps9
        go_wp2_with fail
        refine (node_walk _ _).mono ?_
        rw [HNF.out]
        rintro e' wn ⟨rfl, rfl⟩
        go_wp2_with fail
        refine (node_walk _ _).mono ?_
        rw [HND.out]
        rintro e' wn ⟨rfl, rfl⟩
        go_wp2_with fail
        refine (HEN.out _ HB1.out).mono ?_
        rw [HE.out]
        rintro e' w2 ⟨rfl, hb2⟩
        have HB2 := Lib.hid (below_step HB1.out hb2)
        obtain ⟨b0, b1, b2, b3, b4, b5, b6, b7, b8, b9, b10, b11, b12, b13, b14⟩ := blk15 (blk_below HK.out hb2)
        have HC2 := Lib.hid hb2
        clear hb2
        go_wp2_with fail
        refine (HSN.out _ HB2.out).mono ?_
        rw [HS.out]
        rintro e' w3 ⟨rfl, hb3⟩
        have HB3 := Lib.hid (below_step HB2.out hb3)
        have HC3 := Lib.hid (below_step HC2.out hb3)
        clear hb3 b0 b1 b2 b3 b4 b5 b6 b7 b8 b9 b10 b11 b12 b13 b14
        obtain ⟨b0, b1, b2, b3, b4, b5, b6, b7, b8, b9, b10, b11, b12, b13, b14⟩ := blk15 (blk_below HK.out HC3.out)
        go_wp2_with fail
        refine (HSP.out _ HB3.out HK8.out).mono ?_
        rintro e' w4 ⟨rfl, hb4⟩
        have HB4 := Lib.hid (below_step HB3.out hb4)
        clear hb4
        go_wp2
        go_ret
        exact ⟨by rw [HNV.out]; rfl, HB4.out⟩
  · have q7b : (k == 7) = false := by rw [beq_eq_false_iff_ne]; exact q7
    have HNV := Lib.hid (show v = vs by rw [HVE.out, q7b]; rfl)
    clear q7
    go_enter Try.func9, Try.ntmps9
    go_wp2_with fail
    refine (node_walk _ _).mono ?_
    rw [HNF.out]
    rintro e' wn ⟨rfl, rfl⟩
    go_wp2_with fail
    refine (node_walk _ _).mono ?_
    rw [HND.out]
    rintro e' wn ⟨rfl, rfl⟩
    go_wp2_with fail
    refine (HEN.out _ HB1.out).mono ?_
    rw [HE.out]
    rintro e' w2 ⟨rfl, hb2⟩
    have HB2 := Lib.hid (below_step HB1.out hb2)
    obtain ⟨b0, b1, b2, b3, b4, b5, b6, b7, b8, b9, b10, b11, b12, b13, b14⟩ := blk15 (blk_below HK.out hb2)
    have HC2 := Lib.hid hb2
    clear hb2
    go_wp2_with fail
    refine (HSP.out _ HB2.out HK8.out).mono ?_
    rintro e' w4 ⟨rfl, hb4⟩
    have HB4 := Lib.hid (below_step HB2.out hb4)
    clear hb4
    go_wp2
    go_ret
    exact ⟨by rw [HNV.out]; rfl, HB4.out⟩
end Go.Proofs.Ytoccidpocagkjaa
