/- The reference's Sound. -/
import Derived.Test.YtoccidpocagkjaaSwi
import Derived.Test.YtoccidpocagkjaaSwj
import Derived.Deep.DeepCutAuto
set_option linter.unusedVariables false
set_option linter.unusedSimpArgs false
namespace Go.Proofs.Ytoccidpocagkjaa
open Go.RowKit Go.Proofs.YtoccidpocagkjaaW.PrintWords Cf
attribute [local go_sem] str_beq str_bne

theorem soundW_chain (m : Wm) : soundW m = (decide (1 ≤ m.kind) && decide (m.kind ≤ 8) && nodeB m.frm && nodeB m.dst && !(m.frm == m.dst) && decide (1 ≤ m.term) && decide (m.term ≤ 1152921504606846976) && decide (m.logTerm ≤ m.term) && decide (m.index ≤ 576460752303423488) && decide (m.commit ≤ 576460752303423488) &&
    decide (m.round ≤ 1152921504606846976) && decide (m.ents.length ≤ 8) && rowB m.logTerm m.term m.ents && decide (m.index + m.ents.length ≤ 576460752303423488) && (!(m.kind == 7) || (snSound m.snap && decide (m.snap.term ≤ m.term))) && decide (m = plainW m)) := by
  simp only [soundW, headB, Bool.and_assoc]
set_option maxRecDepth 100000 in
set_option maxHeartbeats 8000000 in
theorem soundW_walk (m : Wm) (E : Option Addr) (e : Nat) (A : Option Addr) (a : Nat) (B : Option Addr) (b : Nat) (w : World) (h : MR w m E e A a B b) (ho : msgOk m) :
    Calls Try.prog 10 #[msgV m E e A a B b] w fun e w' => e = .returned (.bool (soundW m)) ∧ Below w.heap.size w w' := by
  have hv := soundW_chain m
  have hmx := Kd.C_max h.2.1
  have HR0 := Lib.hid (fun w' (hb : Below w.heap.size w w') => row_walk E m.ents.length e m.ents m.logTerm m.term w' (Kd.C_below h.2.1 hb) ho.2.2.1)
  have HPL := Lib.hid (fun w' (hb : Below w.heap.size w w') => rplain_walk m E e A a B b w' (h.below hb))
  have HSM := Lib.hid (fun w' (hb : Below w.heap.size w w') E2 e2 A2 a2 B2 b2 h2 => rmsame_walk m (plainW m) E e A a B b E2 e2 A2 a2 B2 b2 w' (h.below hb) h2)
  have HSN := Lib.hid (fun w' (hb : Below w.heap.size w w') => rsnsound_walk m.snap A a B b w' (h.2.2.below hb) ho.2.2.2)
  clear ho
  generalize soundW m = v at *
  generalize rowB m.logTerm m.term m.ents = vr at *
  generalize decide (m = plainW m) = vp at *
  generalize snSound m.snap = vn at *
  obtain ⟨k, f, d, t, i, lt, c, r, ok, fo, es, ⟨si, st, sm, sd⟩⟩ := m
  have hB1 := below_alloc (Below.refl _ w) (.cells #[.int .i64 k, .int .i64 f, .int .i64 d, .int .u64 t, .int .u64 i, .int .u64 lt, .int .u64 c, .int .u64 r, .bool ok, .bool fo, .slice E es.length e, .int .u64 si, .int .u64 st, .slice A sm.length a, .slice B sd.length b] 33)
  have HB1 := Lib.hid hB1
  have HK := Lib.hid (World.alloc_heap_new w (.cells #[.int .i64 k, .int .i64 f, .int .i64 d, .int .u64 t, .int .u64 i, .int .u64 lt, .int .u64 c, .int .u64 r, .bool ok, .bool fo, .slice E es.length e, .int .u64 si, .int .u64 st, .slice A sm.length a, .slice B sd.length b] 33))
  have HM := Lib.hid (h.below hB1)
  have HM0 := Lib.hid h
  clear h hB1
  dsimp only at *
  have HV := Lib.hid hv
  clear hv HM HM0
  by_cases q1 : k < 1
  · have HNV := Lib.hid (show v = false by rw [HV.out]; simp [show ¬ 1 ≤ k by omega])
    go_enter Try.func10, Try.ntmps10
    go_wp2
    go_ret
    exact ⟨by rw [HNV.out]; rfl, HB1.out⟩
  by_cases q2 : 8 < k
  · have HNV := Lib.hid (show v = false by rw [HV.out]; simp [show ¬ k ≤ 8 by omega])
    go_enter Try.func10, Try.ntmps10
    go_wp2
    go_ret
    exact ⟨by rw [HNV.out]; rfl, HB1.out⟩
  by_cases q3 : f < 0
  · have HNV := Lib.hid (show v = false by rw [HV.out]; simp [show nodeB f = false by simp [nodeB]; omega])
    go_enter Try.func10, Try.ntmps10
    go_wp2
    go_ret
    exact ⟨by rw [HNV.out]; rfl, HB1.out⟩
  by_cases q4 : 6 < f
  · have HNV := Lib.hid (show v = false by rw [HV.out]; simp [show nodeB f = false by simp [nodeB]; omega])
    go_enter Try.func10, Try.ntmps10
    go_wp2
    go_ret
    exact ⟨by rw [HNV.out]; rfl, HB1.out⟩
  by_cases q5 : d < 0
  · have HNV := Lib.hid (show v = false by rw [HV.out]; simp [show nodeB d = false by simp [nodeB]; omega])
    go_enter Try.func10, Try.ntmps10
    go_wp2
    go_ret
    exact ⟨by rw [HNV.out]; rfl, HB1.out⟩
  by_cases q6 : 6 < d
  · have HNV := Lib.hid (show v = false by rw [HV.out]; simp [show nodeB d = false by simp [nodeB]; omega])
    go_enter Try.func10, Try.ntmps10
    go_wp2
    go_ret
    exact ⟨by rw [HNV.out]; rfl, HB1.out⟩
  by_cases q7 : f = d
  · have HNV := Lib.hid (show v = false by rw [HV.out]; simp [q7])
    have q7b : (f == d) = true := by rw [beq_iff_eq]; exact q7
    clear q7
    go_enter Try.func10, Try.ntmps10
    go_wp2
    go_ret
    exact ⟨by rw [HNV.out]; rfl, HB1.out⟩
  have q7b : (f == d) = false := by rw [beq_eq_false_iff_ne]; exact q7
  by_cases q8 : t < 1
  · have HNV := Lib.hid (show v = false by rw [HV.out]; simp [show ¬ 1 ≤ t by omega])
    have q8i : (t : Int) < 1 := by omega
    clear q7
    go_enter Try.func10, Try.ntmps10
    go_wp2
    go_ret
    exact ⟨by rw [HNV.out]; rfl, HB1.out⟩
  have q8i : ¬ (t : Int) < 1 := by omega
  by_cases q9 : 1152921504606846976 < t
  · have HNV := Lib.hid (show v = false by rw [HV.out]; simp [show ¬ t ≤ 1152921504606846976 by omega])
    have q9i : (1152921504606846976 : Int) < (t : Int) := by omega
    clear q7
    go_enter Try.func10, Try.ntmps10
    go_wp2
    go_ret
    exact ⟨by rw [HNV.out]; rfl, HB1.out⟩
  have q9i : ¬ (1152921504606846976 : Int) < (t : Int) := by omega
  by_cases r1 : t < lt
  · have HNV := Lib.hid (show v = false by rw [HV.out]; simp [show ¬ lt ≤ t by omega])
    have r1i : (t : Int) < (lt : Int) := by omega
    clear q7
    go_enter Try.func10, Try.ntmps10
    go_wp2
    go_ret
    exact ⟨by rw [HNV.out]; rfl, HB1.out⟩
  have r1i : ¬ (t : Int) < (lt : Int) := by omega
  by_cases r2 : 576460752303423488 < i
  · have HNV := Lib.hid (show v = false by rw [HV.out]; simp [show ¬ i ≤ 576460752303423488 by omega])
    have r2i : (576460752303423488 : Int) < (i : Int) := by omega
    clear q7
    go_enter Try.func10, Try.ntmps10
    go_wp2
    go_ret
    exact ⟨by rw [HNV.out]; rfl, HB1.out⟩
  have r2i : ¬ (576460752303423488 : Int) < (i : Int) := by omega
  by_cases r3 : 576460752303423488 < c
  · have HNV := Lib.hid (show v = false by rw [HV.out]; simp [show ¬ c ≤ 576460752303423488 by omega])
    have r3i : (576460752303423488 : Int) < (c : Int) := by omega
    clear q7
    go_enter Try.func10, Try.ntmps10
    go_wp2
    go_ret
    exact ⟨by rw [HNV.out]; rfl, HB1.out⟩
  have r3i : ¬ (576460752303423488 : Int) < (c : Int) := by omega
  by_cases r4 : 1152921504606846976 < r
  · have HNV := Lib.hid (show v = false by rw [HV.out]; simp [show ¬ r ≤ 1152921504606846976 by omega])
    have r4i : (1152921504606846976 : Int) < (r : Int) := by omega
    clear q7
    go_enter Try.func10, Try.ntmps10
    go_wp2
    go_ret
    exact ⟨by rw [HNV.out]; rfl, HB1.out⟩
  have r4i : ¬ (1152921504606846976 : Int) < (r : Int) := by omega
  by_cases r5 : 8 < es.length
  · have HNV := Lib.hid (show v = false by rw [HV.out]; simp [show ¬ es.length ≤ 8 by omega])
    have r5i : (8 : Int) < (es.length : Int) := by omega
    clear q7
    go_enter Try.func10, Try.ntmps10
    go_wp2
    go_ret
    exact ⟨by rw [HNV.out]; rfl, HB1.out⟩
  have r5i : ¬ (8 : Int) < (es.length : Int) := by omega
  have e5w : IntKind.u64.wrap (es.length : Int) = (es.length : Int) := IntWalk.u64_in _ ⟨by omega, by omega⟩
  have e6w : IntKind.u64.wrap ((i : Int) + (es.length : Int)) = (i : Int) + (es.length : Int) := IntWalk.u64_in _ ⟨by omega, by omega⟩
  have HVT := Lib.hid (show v = (vr && decide (i + es.length ≤ 576460752303423488) && (!(k == 7) || (vn && decide (st ≤ t))) && vp) by
    rw [HV.out, q7b, show decide (1 ≤ k) = true from decide_eq_true (by omega), show decide (k ≤ 8) = true from decide_eq_true (by omega), show nodeB f = true by simp [nodeB]; omega, show nodeB d = true by simp [nodeB]; omega, show decide (1 ≤ t) = true from decide_eq_true (by omega), show decide (t ≤ 1152921504606846976) = true from decide_eq_true (by omega), show decide (lt ≤ t) = true from decide_eq_true (by omega), show decide (i ≤ 576460752303423488) = true from decide_eq_true (by omega), show decide (c ≤ 576460752303423488) = true from decide_eq_true (by omega), show decide (r ≤ 1152921504606846976) = true from decide_eq_true (by omega), show decide (es.length ≤ 8) = true from decide_eq_true (by omega)]
    rfl)
  have h8 : decide (es.length ≤ 8) = true := decide_eq_true (by omega)
  clear q7
  cases he : vr with
  | false =>
    have HE := Lib.hid (show (vr && decide (es.length ≤ 8)) = false by rw [he]; rfl)
    have HNV := Lib.hid (show v = false by rw [HVT.out, he]; rfl)
    subst he
    clear h8
    go_enter Try.func10, Try.ntmps10
    go_wp2_with fail
    refine (HR0.out _ HB1.out).mono ?_
    rw [Bool.false_and]
    rintro e1 w2 ⟨rfl, hb2⟩
    have HB2 := Lib.hid (below_step HB1.out hb2)
    have HC2 := Lib.hid hb2
    obtain ⟨b0, b1, b2, b3, b4, b5, b6, b7, b8, b9, b10, b11, b12, b13, b14⟩ := blk15 (blk_below HK.out hb2)
    clear hb2
    go_wp2
    go_ret
    exact ⟨by rw [HNV.out]; rfl, HB2.out⟩
  | true =>
  have HE := Lib.hid (show (vr && decide (es.length ≤ 8)) = true by rw [he, h8]; rfl)
  have HVE := Lib.hid (show v = (decide (i + es.length ≤ 576460752303423488) && (!(k == 7) || (vn && decide (st ≤ t))) && vp) by rw [HVT.out, he]; rfl)
  subst he
  clear h8 HVT
  by_cases r6 : 576460752303423488 < i + es.length
  · have HNV := Lib.hid (show v = false by rw [HVE.out, show decide (i + es.length ≤ 576460752303423488) = false from decide_eq_false (by omega)]; rfl)
    have r6i : (576460752303423488 : Int) < (i : Int) + (es.length : Int) := by omega
    go_enter Try.func10, Try.ntmps10
    go_wp2_with fail
    refine (HR0.out _ HB1.out).mono ?_
    rw [HE.out]
    rintro e1 w2 ⟨rfl, hb2⟩
    have HB2 := Lib.hid (below_step HB1.out hb2)
    have HC2 := Lib.hid hb2
    obtain ⟨b0, b1, b2, b3, b4, b5, b6, b7, b8, b9, b10, b11, b12, b13, b14⟩ := blk15 (blk_below HK.out hb2)
    clear hb2
    go_wp2
    go_ret
    exact ⟨by rw [HNV.out]; rfl, HB2.out⟩
  have r6i : ¬ (576460752303423488 : Int) < (i : Int) + (es.length : Int) := by omega
  have HVX := Lib.hid (show v = ((!(k == 7) || (vn && decide (st ≤ t))) && vp) by rw [HVE.out, show decide (i + es.length ≤ 576460752303423488) = true from decide_eq_true (by omega)]; rfl)
  clear HVE
  by_cases k7 : k = 7
  · have k7b : (k == 7) = true := by rw [beq_iff_eq]; exact k7
    cases hs : vn with
    | false =>
      have HS := Lib.hid hs
      have HNV := Lib.hid (show v = false by rw [HVX.out, k7b, hs]; rfl)
      clear hs k7
      go_enter Try.func10, Try.ntmps10
      go_wp2_with fail
      refine (HR0.out _ HB1.out).mono ?_
      rw [HE.out]
      rintro e1 w2 ⟨rfl, hb2⟩
      have HB2 := Lib.hid (below_step HB1.out hb2)
      have HC2 := Lib.hid hb2
      obtain ⟨b0, b1, b2, b3, b4, b5, b6, b7, b8, b9, b10, b11, b12, b13, b14⟩ := blk15 (blk_below HK.out hb2)
      clear hb2
      go_wp2_with fail
      refine (HSN.out _ HB2.out).mono ?_
      rw [HS.out]
      rintro e1 w3 ⟨rfl, hb3⟩
      have HB3 := Lib.hid (below_step HB2.out hb3)
      have HC3 := Lib.hid (below_step HC2.out hb3)
      clear b0 b1 b2 b3 b4 b5 b6 b7 b8 b9 b10 b11 b12 b13 b14
      obtain ⟨b0, b1, b2, b3, b4, b5, b6, b7, b8, b9, b10, b11, b12, b13, b14⟩ := blk15 (blk_below HK.out HC3.out)
      clear hb3
      go_wp2
      go_ret
      exact ⟨by rw [HNV.out]; rfl, HB3.out⟩
    | true =>
      have HS := Lib.hid hs
      by_cases r8 : t < st
      · have HNV := Lib.hid (show v = false by rw [HVX.out, k7b, hs, show decide (st ≤ t) = false from decide_eq_false (by omega)]; rfl)
        have r8i : (t : Int) < (st : Int) := by omega
        clear hs k7
        go_enter Try.func10, Try.ntmps10
        go_wp2_with fail
        refine (HR0.out _ HB1.out).mono ?_
        rw [HE.out]
        rintro e1 w2 ⟨rfl, hb2⟩
        have HB2 := Lib.hid (below_step HB1.out hb2)
        have HC2 := Lib.hid hb2
        obtain ⟨b0, b1, b2, b3, b4, b5, b6, b7, b8, b9, b10, b11, b12, b13, b14⟩ := blk15 (blk_below HK.out hb2)
        clear hb2
        go_wp2_with fail
        refine (HSN.out _ HB2.out).mono ?_
        rw [HS.out]
        rintro e1 w3 ⟨rfl, hb3⟩
        have HB3 := Lib.hid (below_step HB2.out hb3)
        have HC3 := Lib.hid (below_step HC2.out hb3)
        clear b0 b1 b2 b3 b4 b5 b6 b7 b8 b9 b10 b11 b12 b13 b14
        obtain ⟨b0, b1, b2, b3, b4, b5, b6, b7, b8, b9, b10, b11, b12, b13, b14⟩ := blk15 (blk_below HK.out HC3.out)
        clear hb3
        go_wp2
        go_ret
        exact ⟨by rw [HNV.out]; rfl, HB3.out⟩
      · have HNV := Lib.hid (show v = vp by rw [HVX.out, k7b, hs, show decide (st ≤ t) = true from decide_eq_true (by omega)]; rfl)
        have r8i : ¬ (t : Int) < (st : Int) := by omega
        clear hs k7
        go_enter Try.func10, Try.ntmps10
        go_wp2_with fail
        refine (HR0.out _ HB1.out).mono ?_
        rw [HE.out]
        rintro e1 w2 ⟨rfl, hb2⟩
        have HB2 := Lib.hid (below_step HB1.out hb2)
        have HC2 := Lib.hid hb2
        obtain ⟨b0, b1, b2, b3, b4, b5, b6, b7, b8, b9, b10, b11, b12, b13, b14⟩ := blk15 (blk_below HK.out hb2)
        clear hb2
        go_wp2_with fail
        refine (HSN.out _ HB2.out).mono ?_
        rw [HS.out]
        rintro e1 w3 ⟨rfl, hb3⟩
        have HB3 := Lib.hid (below_step HB2.out hb3)
        have HC3 := Lib.hid (below_step HC2.out hb3)
        clear b0 b1 b2 b3 b4 b5 b6 b7 b8 b9 b10 b11 b12 b13 b14
        obtain ⟨b0, b1, b2, b3, b4, b5, b6, b7, b8, b9, b10, b11, b12, b13, b14⟩ := blk15 (blk_below HK.out HC3.out)
        clear hb3
        go_wp2_with fail
        have HXD := Lib.hid (below_drew HB3.out)
        first
        | (go_region_with (first
          | (go_at_call 23; refine (HPL.out _ HXD.out).mono ?_; rintro e1 w4 ⟨hb4, E4, ep4, A4, ap4, B4, bp4, rfl, hm4⟩; (have HB4 := Lib.hid (below_step HXD.out hb4)); (have HC4 := Lib.hid (below_step (below_drew HC3.out) hb4)); (have HM4 := Lib.hid hm4); clear b0 b1 b2 b3 b4 b5 b6 b7 b8 b9 b10 b11 b12 b13 b14; (obtain ⟨b0, b1, b2, b3, b4, b5, b6, b7, b8, b9, b10, b11, b12, b13, b14⟩ := blk15 (blk_below HK.out HC4.out)); clear hb4 hm4)
          | (go_at_call 12; refine (HSM.out _ HB4.out E4 ep4 A4 ap4 B4 bp4 HM4.out).mono ?_; rintro e1 w5 ⟨rfl, hb5⟩; (have HB5 := Lib.hid (below_step HB4.out hb5)); clear hb5)))
        | fail
        all_goals
          go_wp2
          go_ret
          exact ⟨by rw [HNV.out]; rfl, HB5.out⟩
  · have k7b : (k == 7) = false := by rw [beq_eq_false_iff_ne]; exact k7
    have HNV := Lib.hid (show v = vp by rw [HVX.out, k7b]; rfl)
    clear k7
    go_enter Try.func10, Try.ntmps10
    go_wp2_with fail
    refine (HR0.out _ HB1.out).mono ?_
    rw [HE.out]
    rintro e1 w2 ⟨rfl, hb2⟩
    have HB2 := Lib.hid (below_step HB1.out hb2)
    have HC2 := Lib.hid hb2
    obtain ⟨b0, b1, b2, b3, b4, b5, b6, b7, b8, b9, b10, b11, b12, b13, b14⟩ := blk15 (blk_below HK.out hb2)
    clear hb2
    go_wp2_with fail
    have HXD := Lib.hid (below_drew HB2.out)
    first
    | (go_region_with (first
      | (go_at_call 23; refine (HPL.out _ HXD.out).mono ?_; rintro e1 w4 ⟨hb4, E4, ep4, A4, ap4, B4, bp4, rfl, hm4⟩; (have HB4 := Lib.hid (below_step HXD.out hb4)); (have HC4 := Lib.hid (below_step (below_drew HC2.out) hb4)); (have HM4 := Lib.hid hm4); clear b0 b1 b2 b3 b4 b5 b6 b7 b8 b9 b10 b11 b12 b13 b14; (obtain ⟨b0, b1, b2, b3, b4, b5, b6, b7, b8, b9, b10, b11, b12, b13, b14⟩ := blk15 (blk_below HK.out HC4.out)); clear hb4 hm4)
      | (go_at_call 12; refine (HSM.out _ HB4.out E4 ep4 A4 ap4 B4 bp4 HM4.out).mono ?_; rintro e1 w5 ⟨rfl, hb5⟩; (have HB5 := Lib.hid (below_step HB4.out hb5)); clear hb5)))
    | fail
    all_goals
      go_wp2
      go_ret
      exact ⟨by rw [HNV.out]; rfl, HB5.out⟩
end Go.Proofs.Ytoccidpocagkjaa
