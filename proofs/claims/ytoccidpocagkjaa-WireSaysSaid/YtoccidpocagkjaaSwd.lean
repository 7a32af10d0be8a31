/- wire: node, the entries of a message. -/
import Derived.Test.YtoccidpocagkjaaSwc
set_option linter.unusedVariables false
set_option linter.unusedSimpArgs false
namespace Go.Proofs.Ytoccidpocagkjaa
open Go.RowKit Go.Proofs.YtoccidpocagkjaaW.PrintWords Cf
attribute [local go_sem] str_beq str_bne

theorem node_walk (n : Int) (w : World) : Calls Try.prog 17 #[.int .i64 n] w fun e w' => e = .returned (.bool (nodeB n)) ∧ w' = w := by
  by_cases g1 : 0 ≤ n
  · by_cases g2 : n < 7
    · have HV := Lib.hid (show nodeB n = true by simp [nodeB, g1, g2])
      go_enter Try.func17, Try.ntmps17
      go_wp2
      go_ret
      exact ⟨by rw [HV.out]; rfl, rfl⟩
    · have HV := Lib.hid (show nodeB n = false by simp [nodeB, g2])
      go_enter Try.func17, Try.ntmps17
      go_wp2
      go_ret
      exact ⟨by rw [HV.out]; rfl, rfl⟩
  · have HV := Lib.hid (show nodeB n = false by simp [nodeB, g1])
    go_enter Try.func17, Try.ntmps17
    go_wp2
    go_ret
    exact ⟨by rw [HV.out]; rfl, rfl⟩
theorem rowQ_drop {l : List Ent} {k : Nat} (hk : k < l.length) (lo : Nat) : rowQ lo (l.drop k) = (okB l[k] && decide (lo ≤ l[k].term) && rowQ l[k].term (l.drop (k + 1))) ∧ lastT lo (l.drop k) = lastT l[k].term (l.drop (k + 1)) := by
  rw [List.drop_eq_getElem_cons hk]
  exact ⟨rfl, rfl⟩
theorem rowB_drop {l : List Ent} {k : Nat} (hk : k < l.length) (lo hi : Nat) : rowB lo hi (l.drop k) = (okB l[k] && decide (lo ≤ l[k].term) && decide (l[k].term ≤ hi) && rowB l[k].term hi (l.drop (k + 1))) := by
  rw [List.drop_eq_getElem_cons hk]
  rfl
theorem entsB_chain (m : Wm) : entsB m = (rowQ m.logTerm m.ents && (decide (m.ents.length ≤ 8) && decide (lastT m.logTerm m.ents ≤ m.term) && decide (m.index ≤ 576460752303423488) && decide (m.index + m.ents.length ≤ 576460752303423488))) := rfl
set_option maxRecDepth 100000 in
set_option maxHeartbeats 4000000 in
theorem entries_walk (m : Wm) (E : Option Addr) (e : Nat) (A : Option Addr) (a : Nat) (B : Option Addr) (b : Nat) (w : World) (h : MR w m E e A a B b) (ho : msgOk m) :
    Calls Try.prog 18 #[msgV m E e A a B b] w fun e w' => e = .returned (.bool (entsB m)) ∧ Below w.heap.size w w' := by
  have hv := entsB_chain m
  have HO := Lib.hid ho.2.2.1
  have hmx := Kd.C_max h.2.1
  generalize entsB m = v at *
  clear ho
  obtain ⟨k, f, d, t, i, lt, c, r, ok, fo, es, ⟨si, st, sm, sd⟩⟩ := m
  have hB1 := below_alloc (Below.refl _ w) (.cells #[.int .i64 k, .int .i64 f, .int .i64 d, .int .u64 t, .int .u64 i, .int .u64 lt, .int .u64 c, .int .u64 r, .bool ok, .bool fo, .slice E es.length e, .int .u64 si, .int .u64 st, .slice A sm.length a, .slice B sd.length b] 29)
  have HB1 := Lib.hid hB1
  have HK := Lib.hid (World.alloc_heap_new w (.cells #[.int .i64 k, .int .i64 f, .int .i64 d, .int .u64 t, .int .u64 i, .int .u64 lt, .int .u64 c, .int .u64 r, .bool ok, .bool fo, .slice E es.length e, .int .u64 si, .int .u64 st, .slice A sm.length a, .slice B sd.length b] 29))
  have HM := Lib.hid (h.below hB1)
  clear h hB1
  dsimp only at *
  have HV := Lib.hid hv
  clear hv
  go_enter Try.func18, Try.ntmps18
  go_wp2_with fail
  have hsz : (w.alloc (.cells #[.int .i64 k, .int .i64 f, .int .i64 d, .int .u64 t, .int .u64 i, .int .u64 lt, .int .u64 c, .int .u64 r, .bool ok, .bool fo, .slice E es.length e, .int .u64 si, .int .u64 st, .slice A sm.length a, .slice B sd.length b] 29)).heap.size = w.heap.size + 1 := World.size_alloc _ _
  generalize w.alloc (.cells #[.int .i64 k, .int .i64 f, .int .i64 d, .int .u64 t, .int .u64 i, .int .u64 lt, .int .u64 c, .int .u64 r, .bool ok, .bool fo, .slice E es.length e, .int .u64 si, .int .u64 st, .slice A sm.length a, .slice B sd.length b] 29) = w0 at *
  obtain ⟨b0, b1, b2, b3, b4, b5, b6, b7, b8, b9, b10, b11, b12, b13, b14⟩ := blk15 (blk_below HK.out (Below.refl _ _))
  go_loopw [3, 14] (fun x j wr => ∃ (n q : Nat), j = .int .i64 n ∧ n ≤ es.length ∧ x = .int .u64 q ∧ rowQ lt es = rowQ q (es.drop n) ∧ lastT lt es = lastT q (es.drop n) ∧ Below w0.heap.size w0 wr)
    (fun _ j _ => es.length - (intOf j).toNat)
  case atStart => exact ⟨0, lt, rfl, Nat.zero_le _, rfl, rfl, rfl, Below.refl _ _⟩
  case round =>
    obtain ⟨n, q, rfl, hn, rfl, hr, hla, hB⟩ := hrel
    have HBR := Lib.hid hB
    clear b0 b1 b2 b3 b4 b5 b6 b7 b8 b9 b10 b11 b12 b13 b14
    by_cases hlt : n < es.length
    · obtain ⟨h1, h2⟩ := rowQ_drop hlt q
      rw [h1] at hr
      rw [h2] at hla
      obtain ⟨bl, off, D, cd, rfl, p0, p1, p2, p3, p4⟩ := KE_at (Kd.C_below HM.out.2.1 hB) n hlt
      have hx := HO.out es[n] (List.getElem_mem hlt)
      have P4 := Lib.hid p4
      have HR := Lib.hid hr
      have HLA := Lib.hid hla
      have hi1 : (n : Int) < (es.length : Int) := by omega
      clear hr hla h1 h2 hB p4
      generalize es[n] = x at *
      have hxt := hx.1
      have HSD := Lib.hid (fun w => sound_walk x D cd w hxt)
      have hbx : Below wr.heap.size wr (wr.alloc (.cells #[.int .u64 x.term, .int .i64 x.kind, .slice D x.data.length cd] 50)) := below_alloc (Below.refl _ _) _
      have HBX := Lib.hid hbx
      have HEX := Lib.hid (Eb.at (World.alloc_heap_new wr (.cells #[.int .u64 x.term, .int .i64 x.kind, .slice D x.data.length cd] 50)))
      have HMR := Lib.hid (fun w' (hb : Below wr.heap.size wr w') => memread_walk D x.data.length cd x.data w' (Kd.C_below P4.out hb) p3)
      clear hbx
      cases hs : soundB x with
      | false =>
        have HN := Lib.hid (show v = false by rw [HV.out, HR.out]; simp [okB, hs])
        have HS := Lib.hid hs
        clear hs
        go_wp2_with fail
        refine (HSD.out _).mono ?_
        rw [HS.out]
        rintro e' w2 ⟨rfl, hb2⟩
        have HB2 := Lib.hid (below_step HBX.out hb2)
        clear hb2
        go_wp2
        go_ret
        exact ⟨by rw [HN.out]; rfl, below_step HB1.out (below_step HBR.out HB2.out)⟩
      | true =>
        have HS := Lib.hid hs
        by_cases g1 : x.term < q
        · have HN := Lib.hid (show v = false by rw [HV.out, HR.out, show decide (q ≤ x.term) = false from decide_eq_false (by omega)]; simp)
          have g1i : (x.term : Int) < (q : Int) := by omega
          clear hs
          go_wp2_with fail
          refine (HSD.out _).mono ?_
          rw [HS.out]
          rintro e' w2 ⟨rfl, hb2⟩
          have HB2 := Lib.hid (below_step HBX.out hb2)
          obtain ⟨⟨a0, a1, a2⟩, -, -, -⟩ := HEX.out.below hb2
          clear hb2
          go_wp2
          go_ret
          exact ⟨by rw [HN.out]; rfl, below_step HB1.out (below_step HBR.out HB2.out)⟩
        · have g1i : ¬ (x.term : Int) < (q : Int) := by omega
          by_cases g2 : x.kind = 3
          · have g2i : (x.kind == 3) = true := by rw [beq_iff_eq]; exact g2
            cases hm : memB x.data with
            | false =>
              have HN := Lib.hid (show v = false by rw [HV.out, HR.out]; simp [okB, hm, g2])
              have HMB := Lib.hid hm
              clear hs hm g2
              go_wp2_with fail
              refine (HSD.out _).mono ?_
              rw [HS.out]
              rintro e' w2 ⟨rfl, hb2⟩
              have HB2 := Lib.hid (below_step HBX.out hb2)
              obtain ⟨⟨a0, a1, a2⟩, -, -, -⟩ := HEX.out.below hb2
              clear hb2
              go_wp2_with fail
              refine (HMR.out _ HB2.out).mono ?_
              rw [HMB.out]
              rintro e' w3 ⟨hb3, A3, n3, c3, rfl⟩
              have HB3 := Lib.hid (below_step HB2.out hb3)
              clear hb3 a0 a1 a2
              go_wp2
              go_ret
              exact ⟨by rw [HN.out]; rfl, below_step HB1.out (below_step HBR.out HB3.out)⟩
            | true =>
              have HN := Lib.hid (show rowQ lt es = rowQ x.term (es.drop (n + 1)) by rw [HR.out, show decide (q ≤ x.term) = true from decide_eq_true (by omega)]; simp [okB, hs, hm])
              have HMB := Lib.hid hm
              clear hs hm g2
              go_wp2_with fail
              refine (HSD.out _).mono ?_
              rw [HS.out]
              rintro e' w2 ⟨rfl, hb2⟩
              have HB2 := Lib.hid (below_step HBX.out hb2)
              have HE2 := Lib.hid (HEX.out.below hb2)
              obtain ⟨⟨a0, a1, a2⟩, -, -, -⟩ := HE2.out
              clear hb2
              go_wp2_with fail
              refine (HMR.out _ HB2.out).mono ?_
              rw [HMB.out]
              rintro e' w3 ⟨hb3, A3, n3, c3, rfl⟩
              have HB3 := Lib.hid (below_step HB2.out hb3)
              clear a0 a1 a2
              obtain ⟨⟨a0, a1, a2⟩, -, -, -⟩ := HE2.out.below hb3
              clear hb3
              go_wp2
              go_roundw
              case rel => exact ⟨n + 1, x.term, by go_num, by omega, rfl, HN.out, HLA.out, below_step HBR.out HB3.out⟩
              case measure => simp [intOf]; omega
          · have g2i : (x.kind == 3) = false := by rw [beq_eq_false_iff_ne]; exact g2
            have HN := Lib.hid (show rowQ lt es = rowQ x.term (es.drop (n + 1)) by rw [HR.out, show decide (q ≤ x.term) = true from decide_eq_true (by omega)]; simp [okB, hs, g2i])
            clear hs g2
            go_wp2_with fail
            refine (HSD.out _).mono ?_
            rw [HS.out]
            rintro e' w2 ⟨rfl, hb2⟩
            have HB2 := Lib.hid (below_step HBX.out hb2)
            obtain ⟨⟨a0, a1, a2⟩, -, -, -⟩ := HEX.out.below hb2
            clear hb2
            go_wp2
            go_roundw
            case rel => exact ⟨n + 1, x.term, by go_num, by omega, rfl, HN.out, HLA.out, below_step HBR.out HB2.out⟩
            case measure => simp [intOf]; omega
    · have hi1 : ¬ (n : Int) < (es.length : Int) := by omega
      have hnil : es.drop n = [] := List.drop_eq_nil_of_le (by omega)
      rw [hnil] at hr hla
      have hvv := HV.out
      rw [hr, hla] at hvv
      have hq : lastT q [] = q := rfl
      rw [hq, show rowQ q [] = true from rfl, Bool.true_and] at hvv
      have HVV := Lib.hid hvv
      obtain ⟨b0, b1, b2, b3, b4, b5, b6, b7, b8, b9, b10, b11, b12, b13, b14⟩ := blk15 (blk_below HK.out hB)
      clear hr hla hvv hnil hq hB
      by_cases g1 : es.length ≤ 8
      rotate_left
      · have HN := Lib.hid (show v = false by rw [HVV.out, show decide (es.length ≤ 8) = false from decide_eq_false g1]; simp)
        have g1i : ¬ (es.length : Int) ≤ 8 := by omega
        go_wp2
        go_ret
        exact ⟨by rw [HN.out]; rfl, below_step HB1.out HBR.out⟩
      have g1i : (es.length : Int) ≤ 8 := by omega
      by_cases g2 : q ≤ t
      rotate_left
      · have HN := Lib.hid (show v = false by rw [HVV.out, show decide (q ≤ t) = false from decide_eq_false g2]; simp)
        have g2i : ¬ (q : Int) ≤ (t : Int) := by omega
        go_wp2
        go_ret
        exact ⟨by rw [HN.out]; rfl, below_step HB1.out HBR.out⟩
      have g2i : (q : Int) ≤ (t : Int) := by omega
      by_cases g3 : i ≤ 576460752303423488
      rotate_left
      · have HN := Lib.hid (show v = false by rw [HVV.out, show decide (i ≤ 576460752303423488) = false from decide_eq_false g3]; simp)
        have g3i : ¬ (i : Int) ≤ 576460752303423488 := by omega
        go_wp2
        go_ret
        exact ⟨by rw [HN.out]; rfl, below_step HB1.out HBR.out⟩
      have g3i : (i : Int) ≤ 576460752303423488 := by omega
      have ew : IntKind.u64.wrap ((i : Int) + (es.length : Int)) = (i : Int) + (es.length : Int) := IntWalk.u64_in _ ⟨by omega, by omega⟩
      have ew2 : IntKind.u64.wrap (es.length : Int) = (es.length : Int) := IntWalk.u64_in _ ⟨by omega, by omega⟩
      by_cases g4 : i + es.length ≤ 576460752303423488
      rotate_left
      · have HN := Lib.hid (show v = false by rw [HVV.out, show decide (i + es.length ≤ 576460752303423488) = false from decide_eq_false g4]; simp)
        have g4i : ¬ (i : Int) + (es.length : Int) ≤ 576460752303423488 := by omega
        go_wp2
        go_ret
        exact ⟨by rw [HN.out]; rfl, below_step HB1.out HBR.out⟩
      have g4i : (i : Int) + (es.length : Int) ≤ 576460752303423488 := by omega
      have HN := Lib.hid (show v = true by rw [HVV.out, show decide (es.length ≤ 8) = true from decide_eq_true g1, show decide (q ≤ t) = true from decide_eq_true g2, show decide (i ≤ 576460752303423488) = true from decide_eq_true g3, show decide (i + es.length ≤ 576460752303423488) = true from decide_eq_true g4]; rfl)
      go_wp2
      go_ret
      exact ⟨by rw [HN.out]; rfl, below_step HB1.out HBR.out⟩
end Go.Proofs.Ytoccidpocagkjaa
