/- The reference's Row, Plain, Same of messages. -/
import Derived.Test.YtoccidpocagkjaaSwd
set_option linter.unusedVariables false
set_option linter.unusedSimpArgs false
namespace Go.Proofs.Ytoccidpocagkjaa
open Go.RowKit Go.Proofs.YtoccidpocagkjaaW.PrintWords Cf
attribute [local go_sem] str_beq str_bne

set_option maxRecDepth 100000 in
set_option maxHeartbeats 4000000 in
theorem row_walk (A : Option Addr) (n0 c0 : Nat) (es : List Ent) (lo hi : Nat) (w : World) (hC : KE.C w A n0 es) (ho : ∀ e ∈ es, entOk e) :
    Calls Try.prog 21 #[.slice A n0 c0, .int .u64 lo, .int .u64 hi] w fun e w' => e = .returned (.bool (rowB lo hi es && decide (es.length ≤ 8))) ∧ Below w.heap.size w w' := by
  obtain rfl : es.length = n0 := hC.1
  have HC := Lib.hid hC
  have HO := Lib.hid ho
  have hmx := Kd.C_max hC
  have hv : (rowB lo hi es && decide (es.length ≤ 8)) = (rowB lo hi (es.drop 0) && decide (es.length ≤ 8)) := rfl
  clear hC ho
  generalize (rowB lo hi es && decide (es.length ≤ 8)) = v at *
  have HV := Lib.hid hv
  clear hv
  go_enter Try.func21, Try.ntmps21
  go_wp2_with fail
  go_loopw [1, 7] (fun x j wr => ∃ (n q : Nat), j = .int .i64 n ∧ n ≤ es.length ∧ x = .int .u64 q ∧ rowB lo hi (es.drop 0) = rowB q hi (es.drop n) ∧ Below w.heap.size w wr)
    (fun _ j _ => es.length - (intOf j).toNat)
  case atStart => exact ⟨0, lo, rfl, Nat.zero_le _, rfl, rfl, Below.refl _ _⟩
  case round =>
    obtain ⟨n, q, rfl, hn, rfl, hr, hB⟩ := hrel
    have HBR := Lib.hid hB
    by_cases hlt : n < es.length
    · rw [rowB_drop hlt q hi] at hr
      obtain ⟨bl, off, D, cd, rfl, p0, p1, p2, p3, p4⟩ := KE_at (Kd.C_below HC.out hB) n hlt
      have hx := HO.out es[n] (List.getElem_mem hlt)
      have P4 := Lib.hid p4
      have HP := Lib.hid (And.intro p0 (And.intro p1 p2))
      have HR := Lib.hid hr
      have hi1 : (n : Int) < (es.length : Int) := by omega
      clear hr hB p4
      generalize es[n] = x at *
      have hxt := hx.1
      have HSD := Lib.hid (fun w => fsound_walk x D cd w hxt)
      have HMR := Lib.hid (fun w' (hb : Below wr.heap.size wr w') => rmemread_walk D x.data.length cd x.data w' (Kd.C_below P4.out hb) p3)
      cases hs : soundB x with
      | false =>
        have HN := Lib.hid (show v = false by rw [HV.out, HR.out]; simp [okB, hs])
        have HS := Lib.hid hs
        clear hs
        go_wp2_with fail
        refine (HSD.out _).mono ?_
        rw [HS.out]
        rintro e' w2 ⟨rfl, hb2⟩
        have HB2 := Lib.hid hb2
        clear hb2
        go_wp2
        go_ret
        exact ⟨by rw [HN.out]; rfl, below_step HBR.out HB2.out⟩
      | true =>
        have HS := Lib.hid hs
        by_cases g1 : x.term < q
        · have HN := Lib.hid (show v = false by rw [HV.out, HR.out, show decide (q ≤ x.term) = false from decide_eq_false (by omega)]; simp)
          have g1i : (x.term : Int) < (q : Int) := by omega
          clear hs
          go_wp2_with fail
          refine (HSD.out _).mono ?_
          rw [HS.out]
          rintro e' w2 ⟨rfl, hb2⟩
          have HB2 := Lib.hid hb2
          clear p0 p1 p2
          have p0 := pw_cell_below hb2 HP.out.1
          have p1 := pw_cell_below hb2 HP.out.2.1
          have p2 := pw_cell_below hb2 HP.out.2.2
          clear hb2
          go_wp2
          go_ret
          exact ⟨by rw [HN.out]; rfl, below_step HBR.out HB2.out⟩
        · have g1i : ¬ (x.term : Int) < (q : Int) := by omega
          by_cases g3 : hi < x.term
          · have HN := Lib.hid (show v = false by rw [HV.out, HR.out, show decide (x.term ≤ hi) = false from decide_eq_false (by omega)]; simp)
            have g3i : (hi : Int) < (x.term : Int) := by omega
            clear hs
            go_wp2_with fail
            refine (HSD.out _).mono ?_
            rw [HS.out]
            rintro e' w2 ⟨rfl, hb2⟩
            have HB2 := Lib.hid hb2
            clear p0 p1 p2
            have p0 := pw_cell_below hb2 HP.out.1
            have p1 := pw_cell_below hb2 HP.out.2.1
            have p2 := pw_cell_below hb2 HP.out.2.2
            clear hb2
            go_wp2
            go_ret
            exact ⟨by rw [HN.out]; rfl, below_step HBR.out HB2.out⟩
          · have g3i : ¬ (hi : Int) < (x.term : Int) := by omega
            have hq : decide (q ≤ x.term) = true := decide_eq_true (by omega)
            have hh : decide (x.term ≤ hi) = true := decide_eq_true (by omega)
            have HR2 := Lib.hid (show rowB lo hi (es.drop 0) = ((!(x.kind == 3) || memB x.data) && rowB x.term hi (es.drop (n + 1))) by rw [HR.out, hq, hh, okB, hs]; simp)
            clear hq hh hs
            cases hm : memB x.data with
            | false =>
              have HMB := Lib.hid hm
              by_cases g2 : x.kind = 3
              · have g2i : (x.kind == 3) = true := by rw [beq_iff_eq]; exact g2
                have HN := Lib.hid (show v = false by rw [HV.out, HR2.out, hm, g2i]; rfl)
                clear hm g2
                go_wp2_with fail
                refine (HSD.out _).mono ?_
                rw [HS.out]
                rintro e' w2 ⟨rfl, hb2⟩
                have HB2 := Lib.hid hb2
                clear p0 p1 p2
                have p0 := pw_cell_below hb2 HP.out.1
                have p1 := pw_cell_below hb2 HP.out.2.1
                have p2 := pw_cell_below hb2 HP.out.2.2
                clear hb2
                go_wp2_with fail
                refine (HMR.out _ HB2.out).mono ?_
                rw [HMB.out]
                rintro e' w3 ⟨hb3, A3, n3, c3, rfl⟩
                have HB3 := Lib.hid (below_step HB2.out hb3)
                clear hb3 p0 p1 p2
                have p1 := pw_cell_below HB3.out HP.out.2.1
                go_wp2
                go_ret
                exact ⟨by rw [HN.out]; rfl, below_step HBR.out HB3.out⟩
              · have g2i : (x.kind == 3) = false := by rw [beq_eq_false_iff_ne]; exact g2
                have HN := Lib.hid (show rowB lo hi (es.drop 0) = rowB x.term hi (es.drop (n + 1)) by rw [HR2.out, g2i]; simp)
                clear hm g2
                go_wp2_with fail
                refine (HSD.out _).mono ?_
                rw [HS.out]
                rintro e' w2 ⟨rfl, hb2⟩
                have HB2 := Lib.hid hb2
                clear p0 p1 p2
                have p0 := pw_cell_below hb2 HP.out.1
                have p1 := pw_cell_below hb2 HP.out.2.1
                have p2 := pw_cell_below hb2 HP.out.2.2
                clear hb2
                go_wp2_with fail
                refine (HMR.out _ HB2.out).mono ?_
                rw [HMB.out]
                rintro e' w3 ⟨hb3, A3, n3, c3, rfl⟩
                have HB3 := Lib.hid (below_step HB2.out hb3)
                clear hb3 p0 p1 p2
                have p0 := pw_cell_below HB3.out HP.out.1
                have p1 := pw_cell_below HB3.out HP.out.2.1
                go_wp2
                go_roundw
                case rel => exact ⟨n + 1, x.term, by go_num, by omega, rfl, HN.out, below_step HBR.out HB3.out⟩
                case measure => simp [intOf]; omega
            | true =>
              have HMB := Lib.hid hm
              have HN := Lib.hid (show rowB lo hi (es.drop 0) = rowB x.term hi (es.drop (n + 1)) by rw [HR2.out, hm]; simp)
              clear hm
              go_wp2_with fail
              refine (HSD.out _).mono ?_
              rw [HS.out]
              rintro e' w2 ⟨rfl, hb2⟩
              have HB2 := Lib.hid hb2
              clear p0 p1 p2
              have p0 := pw_cell_below hb2 HP.out.1
              have p1 := pw_cell_below hb2 HP.out.2.1
              have p2 := pw_cell_below hb2 HP.out.2.2
              clear hb2
              go_wp2_with fail
              refine (HMR.out _ HB2.out).mono ?_
              rw [HMB.out]
              rintro e' w3 ⟨hb3, A3, n3, c3, rfl⟩
              have HB3 := Lib.hid (below_step HB2.out hb3)
              clear hb3 p0 p1 p2
              have p0 := pw_cell_below HB3.out HP.out.1
              have p1 := pw_cell_below HB3.out HP.out.2.1
              by_cases g2 : x.kind = 3
              · have g2i : (x.kind == 3) = true := by rw [beq_iff_eq]; exact g2
                clear g2
                go_wp2
                go_roundw
                case rel => exact ⟨n + 1, x.term, by go_num, by omega, rfl, HN.out, below_step HBR.out HB3.out⟩
                case measure => simp [intOf]; omega
              · have g2i : (x.kind == 3) = false := by rw [beq_eq_false_iff_ne]; exact g2
                clear g2
                go_wp2
                go_roundw
                case rel => exact ⟨n + 1, x.term, by go_num, by omega, rfl, HN.out, below_step HBR.out HB3.out⟩
                case measure => simp [intOf]; omega
    · have hi1 : ¬ (n : Int) < (es.length : Int) := by omega
      rw [List.drop_eq_nil_of_le (show es.length ≤ n by omega)] at hr
      clear hB
      by_cases h8 : es.length ≤ 8
      · have HN := Lib.hid (show v = true by rw [HV.out, hr, show decide (es.length ≤ 8) = true from decide_eq_true h8]; rfl)
        have h8i : (es.length : Int) ≤ 8 := by omega
        clear hr
        go_wp2
        go_ret
        exact ⟨by rw [HN.out]; rfl, HBR.out⟩
      · have HN := Lib.hid (show v = false by rw [HV.out, hr, show decide (es.length ≤ 8) = false from decide_eq_false h8]; rfl)
        have h8i : ¬ (es.length : Int) ≤ 8 := by omega
        clear hr
        go_wp2
        go_ret
        exact ⟨by rw [HN.out]; rfl, HBR.out⟩
/-- The reference's Plain: what is read of it lies where it lay. -/
def PlainP (m : Wm) (w : World) (e : Ending) (w' : World) : Prop := Below w.heap.size w w' ∧ ∃ E e' A a B b, e = .returned (msgV (plainW m) E e' A a B b) ∧ MR w' (plainW m) E e' A a B b
set_option maxRecDepth 100000 in
set_option maxHeartbeats 4000000 in
theorem rplain_1 (m : Wm) (E : Option Addr) (e : Nat) (A : Option Addr) (a : Nat) (B : Option Addr) (b : Nat) (w : World) (h : MR w m E e A a B b) (hk : m.kind = 1) :
    Calls Try.prog 23 #[msgV m E e A a B b] w (PlainP m w) := by
  obtain ⟨k, f, d, t, i, lt, c, r, ok, fo, es, ⟨si, st, sm, sd⟩⟩ := m
  have hB1 := below_alloc (Below.refl _ w) (.cells #[.int .i64 k, .int .i64 f, .int .i64 d, .int .u64 t, .int .u64 i, .int .u64 lt, .int .u64 c, .int .u64 r, .bool ok, .bool fo, .slice E es.length e, .int .u64 si, .int .u64 st, .slice A sm.length a, .slice B sd.length b] 33)
  have HB1 := Lib.hid hB1
  have HK := Lib.hid (World.alloc_heap_new w (.cells #[.int .i64 k, .int .i64 f, .int .i64 d, .int .u64 t, .int .u64 i, .int .u64 lt, .int .u64 c, .int .u64 r, .bool ok, .bool fo, .slice E es.length e, .int .u64 si, .int .u64 st, .slice A sm.length a, .slice B sd.length b] 33))
  have HM := Lib.hid (h.below hB1)
  have HM0 := Lib.hid h
  clear h hB1
  dsimp only at *
  subst hk
  have HP := Lib.hid (show plainW ⟨1, f, d, t, i, lt, c, r, ok, fo, es, ⟨si, st, sm, sd⟩⟩ = ⟨1, f, d, t, i, lt, 0, 0, false, false, [], sn0⟩ by simp [plainW, hasIndex, hasPlace, hasRound, hasOk])
  have HZ := Lib.hid (show MR w ⟨1, f, d, t, i, lt, 0, 0, false, false, [], sn0⟩ none 0 none 0 none 0 from ⟨Nat.le_refl _, Kd.C_nil _ _, SR.zero w⟩)
  unfold PlainP
  rw [HP.out]
  go_enter Try.func23, Try.ntmps23
  go_wp2
  have hb := below_step (below_step (below_alloc (Below.refl _ w) (.cells #[.int .i64 1, .int .i64 f, .int .i64 d, .int .u64 t, .int .u64 i, .int .u64 lt, .int .u64 c, .int .u64 r, .bool ok, .bool fo, .slice E es.length e, .int .u64 si, .int .u64 st, .slice A sm.length a, .slice B sd.length b] 33)) (below_alloc (Below.refl _ _) (.cells #[.int .i64 1, .int .i64 f, .int .i64 d, .int .u64 t, .int .u64 i, .int .u64 lt, .int .u64 0, .int .u64 0, .bool false, .bool false, .slice none 0 0, .int .u64 0, .int .u64 0, .slice none 0 0, .slice none 0 0] 33))) (below_alloc (Below.refl _ _) (.cells #[.int .i64 1, .int .i64 f, .int .i64 d, .int .u64 t, .int .u64 i, .int .u64 lt, .int .u64 0, .int .u64 0, .bool false, .bool false, .slice none 0 0, .int .u64 0, .int .u64 0, .slice none 0 0, .slice none 0 0] 33))
  refine bodyPost_ret (v := msgV ⟨1, f, d, t, i, lt, 0, 0, false, false, [], sn0⟩ none 0 none 0 none 0) (by simp [results, Try.results23, go_sem, sn0]) rfl ?_
  exact ⟨hb, _, _, _, _, _, _, rfl, HZ.out.below hb⟩
set_option maxRecDepth 100000 in
set_option maxHeartbeats 4000000 in
theorem rplain_2 (m : Wm) (E : Option Addr) (e : Nat) (A : Option Addr) (a : Nat) (B : Option Addr) (b : Nat) (w : World) (h : MR w m E e A a B b) (hk : m.kind = 2) :
    Calls Try.prog 23 #[msgV m E e A a B b] w (PlainP m w) := by
  obtain ⟨k, f, d, t, i, lt, c, r, ok, fo, es, ⟨si, st, sm, sd⟩⟩ := m
  have hB1 := below_alloc (Below.refl _ w) (.cells #[.int .i64 k, .int .i64 f, .int .i64 d, .int .u64 t, .int .u64 i, .int .u64 lt, .int .u64 c, .int .u64 r, .bool ok, .bool fo, .slice E es.length e, .int .u64 si, .int .u64 st, .slice A sm.length a, .slice B sd.length b] 33)
  have HB1 := Lib.hid hB1
  have HK := Lib.hid (World.alloc_heap_new w (.cells #[.int .i64 k, .int .i64 f, .int .i64 d, .int .u64 t, .int .u64 i, .int .u64 lt, .int .u64 c, .int .u64 r, .bool ok, .bool fo, .slice E es.length e, .int .u64 si, .int .u64 st, .slice A sm.length a, .slice B sd.length b] 33))
  have HM := Lib.hid (h.below hB1)
  have HM0 := Lib.hid h
  clear h hB1
  dsimp only at *
  subst hk
  have HP := Lib.hid (show plainW ⟨2, f, d, t, i, lt, c, r, ok, fo, es, ⟨si, st, sm, sd⟩⟩ = ⟨2, f, d, t, 0, 0, 0, 0, ok, false, [], sn0⟩ by simp [plainW, hasIndex, hasPlace, hasRound, hasOk])
  have HZ := Lib.hid (show MR w ⟨2, f, d, t, 0, 0, 0, 0, ok, false, [], sn0⟩ none 0 none 0 none 0 from ⟨Nat.le_refl _, Kd.C_nil _ _, SR.zero w⟩)
  unfold PlainP
  rw [HP.out]
  go_enter Try.func23, Try.ntmps23
  go_wp2
  have hb := below_step (below_step (below_alloc (Below.refl _ w) (.cells #[.int .i64 2, .int .i64 f, .int .i64 d, .int .u64 t, .int .u64 i, .int .u64 lt, .int .u64 c, .int .u64 r, .bool ok, .bool fo, .slice E es.length e, .int .u64 si, .int .u64 st, .slice A sm.length a, .slice B sd.length b] 33)) (below_alloc (Below.refl _ _) (.cells #[.int .i64 2, .int .i64 f, .int .i64 d, .int .u64 t, .int .u64 0, .int .u64 0, .int .u64 0, .int .u64 0, .bool ok, .bool false, .slice none 0 0, .int .u64 0, .int .u64 0, .slice none 0 0, .slice none 0 0] 33))) (below_alloc (Below.refl _ _) (.cells #[.int .i64 2, .int .i64 f, .int .i64 d, .int .u64 t, .int .u64 0, .int .u64 0, .int .u64 0, .int .u64 0, .bool ok, .bool false, .slice none 0 0, .int .u64 0, .int .u64 0, .slice none 0 0, .slice none 0 0] 33))
  refine bodyPost_ret (v := msgV ⟨2, f, d, t, 0, 0, 0, 0, ok, false, [], sn0⟩ none 0 none 0 none 0) (by simp [results, Try.results23, go_sem, sn0]) rfl ?_
  exact ⟨hb, _, _, _, _, _, _, rfl, HZ.out.below hb⟩
set_option maxRecDepth 100000 in
set_option maxHeartbeats 4000000 in
theorem rplain_3 (m : Wm) (E : Option Addr) (e : Nat) (A : Option Addr) (a : Nat) (B : Option Addr) (b : Nat) (w : World) (h : MR w m E e A a B b) (hk : m.kind = 3) :
    Calls Try.prog 23 #[msgV m E e A a B b] w (PlainP m w) := by
  obtain ⟨k, f, d, t, i, lt, c, r, ok, fo, es, ⟨si, st, sm, sd⟩⟩ := m
  have hB1 := below_alloc (Below.refl _ w) (.cells #[.int .i64 k, .int .i64 f, .int .i64 d, .int .u64 t, .int .u64 i, .int .u64 lt, .int .u64 c, .int .u64 r, .bool ok, .bool fo, .slice E es.length e, .int .u64 si, .int .u64 st, .slice A sm.length a, .slice B sd.length b] 33)
  have HB1 := Lib.hid hB1
  have HK := Lib.hid (World.alloc_heap_new w (.cells #[.int .i64 k, .int .i64 f, .int .i64 d, .int .u64 t, .int .u64 i, .int .u64 lt, .int .u64 c, .int .u64 r, .bool ok, .bool fo, .slice E es.length e, .int .u64 si, .int .u64 st, .slice A sm.length a, .slice B sd.length b] 33))
  have HM := Lib.hid (h.below hB1)
  have HM0 := Lib.hid h
  clear h hB1
  dsimp only at *
  subst hk
  have HP := Lib.hid (show plainW ⟨3, f, d, t, i, lt, c, r, ok, fo, es, ⟨si, st, sm, sd⟩⟩ = ⟨3, f, d, t, i, lt, 0, 0, false, fo, [], sn0⟩ by simp [plainW, hasIndex, hasPlace, hasRound, hasOk])
  have HZ := Lib.hid (show MR w ⟨3, f, d, t, i, lt, 0, 0, false, fo, [], sn0⟩ none 0 none 0 none 0 from ⟨Nat.le_refl _, Kd.C_nil _ _, SR.zero w⟩)
  unfold PlainP
  rw [HP.out]
  go_enter Try.func23, Try.ntmps23
  go_wp2
  have hb := below_step (below_step (below_alloc (Below.refl _ w) (.cells #[.int .i64 3, .int .i64 f, .int .i64 d, .int .u64 t, .int .u64 i, .int .u64 lt, .int .u64 c, .int .u64 r, .bool ok, .bool fo, .slice E es.length e, .int .u64 si, .int .u64 st, .slice A sm.length a, .slice B sd.length b] 33)) (below_alloc (Below.refl _ _) (.cells #[.int .i64 3, .int .i64 f, .int .i64 d, .int .u64 t, .int .u64 i, .int .u64 lt, .int .u64 0, .int .u64 0, .bool false, .bool fo, .slice none 0 0, .int .u64 0, .int .u64 0, .slice none 0 0, .slice none 0 0] 33))) (below_alloc (Below.refl _ _) (.cells #[.int .i64 3, .int .i64 f, .int .i64 d, .int .u64 t, .int .u64 i, .int .u64 lt, .int .u64 0, .int .u64 0, .bool false, .bool fo, .slice none 0 0, .int .u64 0, .int .u64 0, .slice none 0 0, .slice none 0 0] 33))
  refine bodyPost_ret (v := msgV ⟨3, f, d, t, i, lt, 0, 0, false, fo, [], sn0⟩ none 0 none 0 none 0) (by simp [results, Try.results23, go_sem, sn0]) rfl ?_
  exact ⟨hb, _, _, _, _, _, _, rfl, HZ.out.below hb⟩
set_option maxRecDepth 100000 in
set_option maxHeartbeats 4000000 in
theorem rplain_4 (m : Wm) (E : Option Addr) (e : Nat) (A : Option Addr) (a : Nat) (B : Option Addr) (b : Nat) (w : World) (h : MR w m E e A a B b) (hk : m.kind = 4) :
    Calls Try.prog 23 #[msgV m E e A a B b] w (PlainP m w) := by
  obtain ⟨k, f, d, t, i, lt, c, r, ok, fo, es, ⟨si, st, sm, sd⟩⟩ := m
  have hB1 := below_alloc (Below.refl _ w) (.cells #[.int .i64 k, .int .i64 f, .int .i64 d, .int .u64 t, .int .u64 i, .int .u64 lt, .int .u64 c, .int .u64 r, .bool ok, .bool fo, .slice E es.length e, .int .u64 si, .int .u64 st, .slice A sm.length a, .slice B sd.length b] 33)
  have HB1 := Lib.hid hB1
  have HK := Lib.hid (World.alloc_heap_new w (.cells #[.int .i64 k, .int .i64 f, .int .i64 d, .int .u64 t, .int .u64 i, .int .u64 lt, .int .u64 c, .int .u64 r, .bool ok, .bool fo, .slice E es.length e, .int .u64 si, .int .u64 st, .slice A sm.length a, .slice B sd.length b] 33))
  have HM := Lib.hid (h.below hB1)
  have HM0 := Lib.hid h
  clear h hB1
  dsimp only at *
  subst hk
  have HP := Lib.hid (show plainW ⟨4, f, d, t, i, lt, c, r, ok, fo, es, ⟨si, st, sm, sd⟩⟩ = ⟨4, f, d, t, 0, 0, 0, 0, ok, false, [], sn0⟩ by simp [plainW, hasIndex, hasPlace, hasRound, hasOk])
  have HZ := Lib.hid (show MR w ⟨4, f, d, t, 0, 0, 0, 0, ok, false, [], sn0⟩ none 0 none 0 none 0 from ⟨Nat.le_refl _, Kd.C_nil _ _, SR.zero w⟩)
  unfold PlainP
  rw [HP.out]
  go_enter Try.func23, Try.ntmps23
  go_wp2
  have hb := below_step (below_step (below_alloc (Below.refl _ w) (.cells #[.int .i64 4, .int .i64 f, .int .i64 d, .int .u64 t, .int .u64 i, .int .u64 lt, .int .u64 c, .int .u64 r, .bool ok, .bool fo, .slice E es.length e, .int .u64 si, .int .u64 st, .slice A sm.length a, .slice B sd.length b] 33)) (below_alloc (Below.refl _ _) (.cells #[.int .i64 4, .int .i64 f, .int .i64 d, .int .u64 t, .int .u64 0, .int .u64 0, .int .u64 0, .int .u64 0, .bool ok, .bool false, .slice none 0 0, .int .u64 0, .int .u64 0, .slice none 0 0, .slice none 0 0] 33))) (below_alloc (Below.refl _ _) (.cells #[.int .i64 4, .int .i64 f, .int .i64 d, .int .u64 t, .int .u64 0, .int .u64 0, .int .u64 0, .int .u64 0, .bool ok, .bool false, .slice none 0 0, .int .u64 0, .int .u64 0, .slice none 0 0, .slice none 0 0] 33))
  refine bodyPost_ret (v := msgV ⟨4, f, d, t, 0, 0, 0, 0, ok, false, [], sn0⟩ none 0 none 0 none 0) (by simp [results, Try.results23, go_sem, sn0]) rfl ?_
  exact ⟨hb, _, _, _, _, _, _, rfl, HZ.out.below hb⟩
end Go.Proofs.Ytoccidpocagkjaa
