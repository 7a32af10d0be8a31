/- The reference's segment.Read. -/
import Derived.Test.YtakneimkadjiiaaErs
import Derived.Test.YtakneimkadjiiaaMsg3
import Derived.Test.YtakneimkadjiiaaLin
set_option linter.unusedVariables false
set_option linter.unusedSimpArgs false
namespace Go.Proofs.Ytakneimkadjiiaa
open Go.RowKit Go.Proofs.YtakneimkadjiiaaW.PrintWords Cf
attribute [local go_sem] str_beq str_bne

theorem mkrd (w : World) (A : Option Addr) (c : Nat) (xs : List UInt8) (h : RdB w A xs.length xs) (hc : xs.length ≤ c) :
    Rs w.heap.size (w.alloc (.cells #[.slice A xs.length c, .bool false] 61)) w.heap.size (xs, false) :=
  Rs.at (World.alloc_heap_new w _) (Kd.C_alloc h _) hc (Nat.le_refl _) (fun hp => rd_lt h hp)
set_option maxRecDepth 100000 in
set_option maxHeartbeats 4000000 in
/-- No segment. -/
theorem rsegread_none (A : Option Addr) (c : Nat) (xs : List UInt8) (w : World) (hC : RdB w A xs.length xs) (hc : xs.length ≤ c) (h : (tak xs).2.2.2 ≠ 0 ∨ hedN (tak xs).1 (tak xs).2.1 = 0) :
    Calls Try.prog 9 #[.slice A xs.length c] w fun e w' => e = .returned (.tuple #[.int .u64 0, .slice none 0 0, .int .i64 0]) ∧ Below w.heap.size w w' := by
  have HT := Lib.hid (rtake_at A xs.length c xs w hC hc)
  clear hC hc
  generalize tak xs = tk at *
  obtain ⟨k, bd, m, en⟩ := tk
  dsimp only at h HT
  obtain ⟨n, s, hp⟩ : ∃ n s, rnum 1152921504606846976 (bd, false) = (n, s) := ⟨_, _, rfl⟩
  have HP := Lib.hid hp
  have hcase : (((en : Int) != 0) = true) ∨ (((en : Int) != 0) = false ∧ ((k.toNat : Int) != 1) = true) ∨ (((en : Int) != 0) = false ∧ ((k.toNat : Int) != 1) = false ∧ rend s = false) ∨ (((en : Int) != 0) = false ∧ ((k.toNat : Int) != 1) = false ∧ rend s = true ∧ n = 0) := by
    by_cases he : en = 0
    · right
      have he' : ((en : Int) != 0) = false := by simp [he]
      by_cases hk : k = 1
      · right
        have hk' : ((k.toNat : Int) != 1) = false := by subst hk; rfl
        cases hr : rend s with
        | false => exact .inl ⟨he', hk', rfl⟩
        | true =>
          refine .inr ⟨he', hk', rfl, ?_⟩
          rcases h with h | h
          · exact absurd he h
          · unfold hedN at h
            rw [hp, if_pos ⟨hk, hr⟩] at h
            exact h
      · refine .inl ⟨he', ?_⟩
        rw [bne_iff_ne]
        intro e
        exact hk (UInt8.toNat_inj.1 (show k.toNat = 1 by omega))
    · left
      rw [bne_iff_ne]
      omega
  clear h hp
  rcases hcase with h1 | ⟨h1, h2⟩ | ⟨h1, h2, h3⟩ | ⟨h1, h2, h3, h4⟩
  · skip
    go_enter Try.func9, Try.ntmps9
    go_wp2_with fail
    refine (HT.out).mono ?_
    rintro e w1 ⟨A1, c1, rfl, hc1, hR1, hA1, hB1⟩
    dsimp only at hc1 hR1 ⊢
    have HS := Lib.hid (mkrd w1 A1 c1 bd hR1 hc1)
    have HB1 := Lib.hid (below_step hB1 (below_alloc (Below.refl _ _) (.cells #[.slice A1 bd.length c1, .bool false] 61)))
    have HZ := Lib.hid hB1.size
    clear hR1 hA1 hB1
    go_wp2_with fail
    refine (fnum_walk (B := w1.heap.size) w1.heap.size 1152921504606846976 (bd, false) _ HS.out (by decide)).mono ?_
    rw [HP.out]
    rintro e w2 ⟨rfl, hR2, hg2⟩
    have HR2 := Lib.hid hR2
    have HB2 := Lib.hid (HB1.out.grown hg2 HB1.out.size (fun j e2 => by cases e2; exact HZ.out))
    clear hR2 hg2
    go_wp2
    go_ret3
    exact ⟨rfl, HB2.out⟩
  · skip
    go_enter Try.func9, Try.ntmps9
    go_wp2_with fail
    refine (HT.out).mono ?_
    rintro e w1 ⟨A1, c1, rfl, hc1, hR1, hA1, hB1⟩
    dsimp only at hc1 hR1 ⊢
    have HS := Lib.hid (mkrd w1 A1 c1 bd hR1 hc1)
    have HB1 := Lib.hid (below_step hB1 (below_alloc (Below.refl _ _) (.cells #[.slice A1 bd.length c1, .bool false] 61)))
    have HZ := Lib.hid hB1.size
    clear hR1 hA1 hB1
    go_wp2_with fail
    refine (fnum_walk (B := w1.heap.size) w1.heap.size 1152921504606846976 (bd, false) _ HS.out (by decide)).mono ?_
    rw [HP.out]
    rintro e w2 ⟨rfl, hR2, hg2⟩
    have HR2 := Lib.hid hR2
    have HB2 := Lib.hid (HB1.out.grown hg2 HB1.out.size (fun j e2 => by cases e2; exact HZ.out))
    clear hR2 hg2
    go_wp2
    go_ret3
    exact ⟨rfl, HB2.out⟩
  · have HE := Lib.hid (show (if rend s = true then (0 : Int) else 20) = 20 by rw [h3]; rfl)
    clear h3
    go_enter Try.func9, Try.ntmps9
    go_wp2_with fail
    refine (HT.out).mono ?_
    rintro e w1 ⟨A1, c1, rfl, hc1, hR1, hA1, hB1⟩
    dsimp only at hc1 hR1 ⊢
    have HS := Lib.hid (mkrd w1 A1 c1 bd hR1 hc1)
    have HB1 := Lib.hid (below_step hB1 (below_alloc (Below.refl _ _) (.cells #[.slice A1 bd.length c1, .bool false] 61)))
    have HZ := Lib.hid hB1.size
    clear hR1 hA1 hB1
    go_wp2_with fail
    refine (fnum_walk (B := w1.heap.size) w1.heap.size 1152921504606846976 (bd, false) _ HS.out (by decide)).mono ?_
    rw [HP.out]
    rintro e w2 ⟨rfl, hR2, hg2⟩
    have HR2 := Lib.hid hR2
    have HB2 := Lib.hid (HB1.out.grown hg2 HB1.out.size (fun j e2 => by cases e2; exact HZ.out))
    clear hR2 hg2
    go_wp2_with fail
    refine (fend_walk _ _ _ HR2.out).mono ?_
    rw [HE.out]
    rintro e w3 ⟨rfl, rfl⟩
    go_wp2
    go_ret3
    exact ⟨rfl, HB2.out⟩
  · have HE := Lib.hid (show (if rend s = true then (0 : Int) else 20) = 0 by rw [h3]; rfl)
    clear h3
    subst h4
    go_enter Try.func9, Try.ntmps9
    go_wp2_with fail
    refine (HT.out).mono ?_
    rintro e w1 ⟨A1, c1, rfl, hc1, hR1, hA1, hB1⟩
    dsimp only at hc1 hR1 ⊢
    have HS := Lib.hid (mkrd w1 A1 c1 bd hR1 hc1)
    have HB1 := Lib.hid (below_step hB1 (below_alloc (Below.refl _ _) (.cells #[.slice A1 bd.length c1, .bool false] 61)))
    have HZ := Lib.hid hB1.size
    clear hR1 hA1 hB1
    go_wp2_with fail
    refine (fnum_walk (B := w1.heap.size) w1.heap.size 1152921504606846976 (bd, false) _ HS.out (by decide)).mono ?_
    rw [HP.out]
    rintro e w2 ⟨rfl, hR2, hg2⟩
    have HR2 := Lib.hid hR2
    have HB2 := Lib.hid (HB1.out.grown hg2 HB1.out.size (fun j e2 => by cases e2; exact HZ.out))
    clear hR2 hg2
    go_wp2_with fail
    refine (fend_walk _ _ _ HR2.out).mono ?_
    rw [HE.out]
    rintro e w3 ⟨rfl, rfl⟩
    go_wp2
    go_ret3
    exact ⟨rfl, HB2.out⟩

/-- What stands in memory of a row that grows, and where. -/
theorem EntR.hid {w : World} {base : Nat} {v : Value} {es : List Ent} (h : EntR w base v es) : ∃ A c, v = .slice A es.length c ∧ Hid (EntR w base (.slice A es.length c) es) := by
  obtain ⟨A, c, rfl⟩ := h.slice
  exact ⟨A, c, rfl, Lib.hid h⟩
set_option maxRecDepth 100000 in
set_option maxHeartbeats 4000000 in
theorem rsegread_some (A : Option Addr) (c : Nat) (xs : List UInt8) (w : World) (hC : RdB w A xs.length xs) (hc : xs.length ≤ c) (h3 : xs.length ≤ 1000000000) (he : (tak xs).2.2.2 = 0) (hh : hedN (tak xs).1 (tak xs).2.1 ≠ 0) :
    Calls Try.prog 9 #[.slice A xs.length c] w fun e w' => ∃ A' c', e = .returned (.tuple #[.int .u64 ((segOf xs).first : Nat), .slice A' (segOf xs).l.length c', .int .i64 ((segOf xs).good : Nat)]) ∧ EntR w' w.heap.size (.slice A' (segOf xs).l.length c') (segOf xs).l ∧ Below w.heap.size w w' := by
  have HT := Lib.hid (rtake_at A xs.length c xs w hC hc)
  have HC := Lib.hid hC
  obtain ⟨ho0, hr0⟩ := seg_head he hh
  have hle := hedN_le (tak xs).1 (tak xs).2.1
  have hhd : hedN (tak xs).1 (tak xs).2.1 = if (tak xs).1 = 1 ∧ rend (rnum 1152921504606846976 ((tak xs).2.1, false)).2 = true then (rnum 1152921504606846976 ((tak xs).2.1, false)).1 else 0 := rfl
  clear hC
  generalize hedN (tak xs).1 (tak xs).2.1 = f at *
  generalize tak xs = tk at *
  obtain ⟨k, bd, m, en⟩ := tk
  dsimp only at he ho0 hr0 HT hhd
  obtain ⟨n, s, hp⟩ : ∃ n s, rnum 1152921504606846976 (bd, false) = (n, s) := ⟨_, _, rfl⟩
  rw [hp] at hhd
  have hkr : k = 1 ∧ rend s = true ∧ n = f := by
    dsimp only at hhd
    split at hhd
    · rename_i h
      exact ⟨h.1, h.2, hhd.symm⟩
    · exact absurd hhd hh
  obtain ⟨rfl, hrd, rfl⟩ := hkr
  subst he
  have HP := Lib.hid hp
  have HE := Lib.hid (show (if rend s = true then (0 : Int) else 20) = 0 by rw [hrd]; rfl)
  have HO := Lib.hid ho0
  have HR := Lib.hid hr0
  have hn1 : decide ((n : Int) < 1) = false := by simp; omega
  clear hhd hp hrd ho0 hr0
  go_enter Try.func9, Try.ntmps9
  go_wp2_with fail
  refine (HT.out).mono ?_
  rintro e w1 ⟨A1, c1, rfl, hc1, hR1, hA1, hB1⟩
  dsimp only at hc1 hR1 ⊢
  have HS := Lib.hid (mkrd w1 A1 c1 bd hR1 hc1)
  have HB1 := Lib.hid (below_step hB1 (below_alloc (Below.refl _ _) (.cells #[.slice A1 bd.length c1, .bool false] 61)))
  have HZ := Lib.hid hB1.size
  clear hR1 hA1 hB1
  go_wp2_with fail
  refine (fnum_walk (B := w1.heap.size) w1.heap.size 1152921504606846976 (bd, false) _ HS.out (by decide)).mono ?_
  rw [HP.out]
  rintro e w2 ⟨rfl, hR2, hg2⟩
  have HR2 := Lib.hid hR2
  have HB2 := Lib.hid (HB1.out.grown hg2 HB1.out.size (fun j e2 => by cases e2; exact HZ.out))
  clear hR2 hg2
  go_wp2_with fail
  refine (fend_walk _ _ _ HR2.out).mono ?_
  rw [HE.out]
  rintro e w3 ⟨rfl, rfl⟩
  go_wp2
  clear hn1
  have hw1 : w.heap.size ≤ w3.heap.size := HB2.out.size
  go_loopw [11, 12] (fun v i wr => ∃ pre t, i = .int .i64 (t.good : Nat) ∧ Onto xs pre t.good ∧ segRun seg0 pre = some t ∧ t.first = n ∧ EntR wr w.heap.size v t.l ∧ Below w.heap.size w wr)
    (fun _ i _ => xs.length - (intOf i).toNat)
  case atStart => exact ⟨_, ⟨n, [], m⟩, rfl, HO.out, HR.out, rfl, EntR.nil _ _, HB2.out⟩
  case round =>
    obtain ⟨pre, t, rfl, ho, hr, hf, hE, hB⟩ := hrel
    obtain ⟨A0, c0, rfl, HE0⟩ := hE.hid
    have ha := ho.1
    have hinv := segRun_inv hr (Nat.zero_le _) (Nat.le_refl _)
    have hll : 8 * t.l.length ≤ t.good := hinv.2.1
    obtain ⟨A4, e4, hr4, -⟩ := ct_up' A xs.length c t.good (by omega) (by omega) (by omega)
    rw [Int.toNat_natCast] at e4 hr4
    have HT4 := Lib.hid (rtake_at A4 (xs.length - t.good) (c - t.good) (xs.drop t.good) wr (hr4 _ _ rfl (Kd.C_below HC.out hB)) (by omega))
    have hstop := fun h => seg_stop ho hr h
    have hnoline := fun h => seg_noline ho hr (by rw [hf]; omega) h
    have hline := fun h1 h2 => seg_line ho hr (by rw [hf]; omega) rfl h1 h2
    generalize tak (xs.drop t.good) = tk at *
    obtain ⟨k, bd, m2, en⟩ := tk
    dsimp only at HT4 hstop hnoline hline
    have HF := Lib.hid hf
    have HB := Lib.hid hB
    have HST := Lib.hid hstop
    have HNL := Lib.hid hnoline
    have HLI := Lib.hid hline
    clear hE hr4 ho hr hf hB hstop hnoline hline hinv
    have hgi : (0 : Int) ≤ t.good := by omega
    by_cases hen : en = 0
    · subst hen
      by_cases hk : k = 2
      · subst hk
        have hlp : linP bd = ((rnum 18446744073709551615 (bd, false)).1, ⟨(rnum 1152921504606846976 (rnum 18446744073709551615 (bd, false)).2).1, ((rnum 3 (rnum 1152921504606846976 (rnum 18446744073709551615 (bd, false)).2).2).1 : Int), (rtext 4096 (rnum 3 (rnum 1152921504606846976 (rnum 18446744073709551615 (bd, false)).2).2).2).1⟩, (rtext 4096 (rnum 3 (rnum 1152921504606846976 (rnum 18446744073709551615 (bd, false)).2).2).2).2) := rfl
        have hlb : linB 2 bd (t.first + t.l.length) = (rend (linP bd).2.2 && ((linP bd).1 == (t.first + t.l.length)) && soundB (linP bd).2.1) := rfl
        have H1 := Lib.hid (fun B g W h => fnum_walk (B := B) g 18446744073709551615 (bd, false) W h (by decide))
        have H2 := Lib.hid (fun B g W h => fnum_walk (B := B) g 1152921504606846976 (rnum 18446744073709551615 (bd, false)).2 W h (by decide))
        have H3 := Lib.hid (fun B g W h => fnum_walk (B := B) g 3 (rnum 1152921504606846976 (rnum 18446744073709551615 (bd, false)).2).2 W h (by decide))
        have H4 := Lib.hid (fun B g W h => ftext_walk (B := B) g 4096 (rnum 3 (rnum 1152921504606846976 (rnum 18446744073709551615 (bd, false)).2).2).2 W h (by decide))
        have hb1 := rnum_le 18446744073709551615 (bd, false)
        have hb2 := rnum_le 1152921504606846976 (rnum 18446744073709551615 (bd, false)).2
        have hb3 := rnum_le 3 (rnum 1152921504606846976 (rnum 18446744073709551615 (bd, false)).2).2
        have hb4 := rtext_le 4096 (rnum 3 (rnum 1152921504606846976 (rnum 18446744073709551615 (bd, false)).2).2).2
        generalize linB 2 bd (t.first + t.l.length) = ok at *
        generalize linP bd = lp at *
        generalize rtext 4096 (rnum 3 (rnum 1152921504606846976 (rnum 18446744073709551615 (bd, false)).2).2).2 = p4 at *
        generalize rnum 3 (rnum 1152921504606846976 (rnum 18446744073709551615 (bd, false)).2).2 = p3 at *
        generalize rnum 1152921504606846976 (rnum 18446744073709551615 (bd, false)).2 = p2 at *
        generalize rnum 18446744073709551615 (bd, false) = p1 at *
        obtain ⟨own, s1⟩ := p1
        obtain ⟨tm, s2⟩ := p2
        obtain ⟨kd, s3⟩ := p3
        obtain ⟨dt, s4⟩ := p4
        dsimp only at *
        subst hlp
        dsimp only at *
        have hkw : IntKind.i64.wrap (kd : Int) = (kd : Int) := IntWalk.i64_in _ (by omega)
        have HOK := Lib.hid hlb
        clear hlb hb1 hb3
        go_wp2_with fail
        refine (HT4.out).mono ?_
        rintro e w4 ⟨A1, c1, rfl, hc1, hR1, hA1, hB1⟩
        dsimp only at hc1 hR1 ⊢
        have HB4 := Lib.hid (below_step hB1 (below_alloc (Below.refl _ _) (.cells #[.slice A1 bd.length c1, .bool false] 61)))
        have HS4 := Lib.hid (mkrd w4 A1 c1 bd hR1 hc1)
        have hgr : wr.heap.size ≤ w4.heap.size := hB1.size
        clear hR1 hA1 hB1
        go_wp2_with fail
        refine (H1.out w4.heap.size w4.heap.size _ HS4.out).mono ?_
        rintro e w5 ⟨rfl, hR5, hg5⟩
        have HS5 := Lib.hid hR5
        have HB5 := Lib.hid (HB4.out.grown hg5 HB4.out.size (fun j e2 => by cases e2; exact hgr))
        clear hR5 hg5
        go_wp2_with fail
        refine (H2.out w4.heap.size w4.heap.size _ HS5.out).mono ?_
        rintro e w6 ⟨rfl, hR6, hg6⟩
        have HB6 := Lib.hid (HB5.out.grown hg6 HB5.out.size (fun j e2 => by cases e2; exact hgr))
        have hgl := hR6.lt
        have HE7 := Lib.hid (Eb.at (World.alloc_heap_new w6 (.cells #[.int .u64 tm, .int .i64 0, .slice none 0 0] 38)))
        have HS7 := Lib.hid (hR6.below (below_alloc (Below.refl _ _) (.cells #[.int .u64 tm, .int .i64 0, .slice none 0 0] 38)))
        have HB7 := Lib.hid (below_step HB6.out (below_alloc (Below.refl _ _) (.cells #[.int .u64 tm, .int .i64 0, .slice none 0 0] 38)))
        clear hR6 hg6
        go_wp2_with fail
        refine (H3.out w4.heap.size w4.heap.size _ HS7.out).mono ?_
        rintro e w7 ⟨rfl, hR8, hg8⟩
        have HE8 := Lib.hid (HE7.out.grown hg8 (by omega))
        have HS8 := Lib.hid hR8
        have HB8 := Lib.hid (HB7.out.grown hg8 HB7.out.size (fun j e2 => by cases e2; exact hgr))
        clear hR8 hg8
        obtain ⟨⟨a0, a1, a2⟩, f0, f1, f2⟩ := HE8.out
        go_wp2_with fail
        have hE9 := HE8.out.set1 (.int .i64 (kd : Int))
        have hS9 := HS8.out.far (b := w6.heap.size) (j := 1) (.int .i64 (kd : Int)) (by omega) (by omega)
        have hB9 := HB8.out.setCell (p := ⟨w6.heap.size, 1, none⟩) (by simp only; omega) (.int .i64 (kd : Int))
        generalize w7.setCell ⟨w6.heap.size, 1, none⟩ (.int .i64 (kd : Int)) = w8 at *
        have HE9 := Lib.hid hE9
        have HS9 := Lib.hid hS9
        have HB9 := Lib.hid hB9
        clear hE9 hS9 hB9 a0 a1 a2 f0 f1 f2
        refine (H4.out w4.heap.size w4.heap.size _ HS9.out).mono ?_
        rintro e w9 ⟨rfl, hR10, hg10⟩
        have HE10 := Lib.hid (HE9.out.grown hg10 (by omega))
        have HS10 := Lib.hid hR10
        have HB10 := Lib.hid (HB9.out.grown hg10 HB9.out.size (fun j e2 => by cases e2; exact hgr))
        clear hR10 hg10
        obtain ⟨c7, e7, hr7, hb7, hc7⟩ := conv_bytes dt w9 (by omega)
        have HE11 := Lib.hid (HE10.out.below hb7)
        have HS11 := Lib.hid (HS10.out.below hb7)
        have HB11 := Lib.hid (below_step HB10.out hb7)
        have HD11 := Lib.hid hr7
        have hz9 : w6.heap.size < w9.heap.size := HE10.out.lt
        obtain ⟨w10, hw10⟩ : ∃ w10, Lib.bytesWorld w9 5 (str dt) = w10 := ⟨_, rfl⟩
        rw [hw10] at e7
        rw [hw10] at HE11 HS11 HB11 HD11
        have hz10 : wr.heap.size ≤ w9.heap.size := by omega
        clear hr7 hb7 hw10
        obtain ⟨⟨a0, a1, a2⟩, f0, f1, f2⟩ := HE11.out
        have hE12 := HE11.out.set2 (.slice (some ⟨w9.heap.size, 0, none⟩) dt.length c7)
        have hS12 := HS11.out.far (b := w6.heap.size) (j := 2) (.slice (some ⟨w9.heap.size, 0, none⟩) dt.length c7) (by omega) (by omega)
        have hB12 := HB11.out.setCell (p := ⟨w6.heap.size, 2, none⟩) (by simp only; omega) (.slice (some ⟨w9.heap.size, 0, none⟩) dt.length c7)
        have hD12 := HD11.out.grown (grown_set w10 w6.heap.size 2 (.slice (some ⟨w9.heap.size, 0, none⟩) dt.length c7)) (fun _ ad e => by cases e; exact Nat.ne_of_gt hz9)
        have HE12 := Lib.hid hE12
        have HS12 := Lib.hid hS12
        have HB12 := Lib.hid hB12
        have HD12 := Lib.hid hD12
        clear hE12 hS12 hB12 hD12
        clear HE7 HE8 HE9 HE10 HS4 HS5 HS7 HS8 HS9 HS10 HB4 HB5 HB6 HB7 HB8 HB9 HB10 H1 H2 H3 H4 HT4
        go_wp2_with fail
        generalize w10.setCell ⟨w6.heap.size, 2, none⟩ (.slice (some ⟨w9.heap.size, 0, none⟩) dt.length c7) = w11 at *
        clear a0 a1 a2 f0 f1 f2 e7
        cases hrd : rend s4 with
        | false =>
          have he : (if rend s4 = true then (0 : Int) else 20) = 20 := by rw [hrd]; rfl
          have HE := Lib.hid he
          have HQ := Lib.hid (HNL.out (by rw [HOK.out, hrd]; rfl))
          clear he hrd HOK
          refine (fend_walk _ _ _ HS12.out).mono ?_
          rw [HE.out]
          rintro e w12 ⟨rfl, rfl⟩
          go_wp2
          refine bodyPost_ret (v := .tuple #[.int .u64 n, .slice A0 t.l.length c0, .int .i64 t.good]) (by simp [results, Try.results9, go_sem]) rfl ?_
          rw [HQ.out, HF.out]
          exact ⟨A0, c0, rfl, HE0.out.below HB12.out, below_step HB.out HB12.out⟩
        | true =>
          have he : (if rend s4 = true then (0 : Int) else 20) = 0 := by rw [hrd]; rfl
          have HE := Lib.hid he
          have hok2 : ok = ((own == t.first + t.l.length) && soundB ⟨tm, (kd : Int), dt⟩) := by rw [HOK.out, hrd]; rfl
          have HOK2 := Lib.hid hok2
          clear he hrd HOK hok2
          refine (fend_walk _ _ _ HS12.out).mono ?_
          rw [HE.out]
          rintro e w12 ⟨rfl, rfl⟩
          obtain ⟨⟨a0, a1, a2⟩, f0, f1, f2⟩ := HE12.out
          have HSD := Lib.hid (fun w => fsound_walk ⟨tm, (kd : Int), dt⟩ (some ⟨w9.heap.size, 0, none⟩) c7 w (by dsimp only; omega))
          cases hsd : soundB ⟨tm, (kd : Int), dt⟩ with
          | false =>
            have HQ := Lib.hid (HNL.out (by rw [HOK2.out, hsd]; simp))
            have HV := Lib.hid hsd
            clear hsd HOK2
            go_wp2_with fail
            refine (HSD.out _).mono ?_
            rw [HV.out]
            rintro e w13 ⟨rfl, hB13⟩
            have HB13 := Lib.hid (below_step HB12.out hB13)
            clear hB13
            go_wp2
            refine bodyPost_ret (v := .tuple #[.int .u64 n, .slice A0 t.l.length c0, .int .i64 t.good]) (by simp [results, Try.results9, go_sem]) rfl ?_
            rw [HQ.out, HF.out]
            exact ⟨A0, c0, rfl, HE0.out.below HB13.out, below_step HB.out HB13.out⟩
          | true =>
            have HV := Lib.hid hsd
            by_cases hoi : own = t.first + t.l.length
            · have HL := Lib.hid (HLI.out (by simp) (by rw [HOK2.out, hsd]; simp [hoi]))
              have hoi' : ((own : Int) != (n : Int) + (t.l.length : Int)) = false := by rw [bne_eq_false_iff_eq]; have := HF.out; omega
              clear hsd HOK2 hoi
              go_wp2_with fail
              refine (HSD.out _).mono ?_
              rw [HV.out]
              rintro e w13 ⟨rfl, hB13⟩
              have HB13 := Lib.hid (below_step HB12.out hB13)
              have HD13 := Lib.hid (Kd.C_below HD12.out hB13)
              have hE13 := (HE12.out.below hB13)
              obtain ⟨⟨b0, b1, b2⟩, -, -, -⟩ := hE13
              have HNE := Lib.hid (show 0 < dt.length → ∀ ad : Addr, some (⟨w9.heap.size, 0, none⟩ : Addr) = some ad → w.heap.size ≤ ad.block ∧ some ad.block ≠ (Value.slice A0 t.l.length c0).ownBlock from fun _ ad e => by
                cases e
                exact ⟨Nat.le_trans HB.out.size hz10, fun e2 => by have h9 : w9.heap.size < wr.heap.size := HE0.out.lt _ e2.symm; omega⟩)
              clear hB13
              go_wp2_with (at_builtin; refine ent_append (w0 := w) w.heap.size rfl (Operand.tmp 97) (Operand.tmp 99) rfl _ t.l ⟨tm, (kd : Int), dt⟩ (some ⟨w9.heap.size, 0, none⟩) c7 rfl rfl ?c1 HD13.out hc7 HNE.out ?c3 ?c4 ?c5 ?_)
              case c1 => exact HE0.out.below HB13.out
              case c3 => exact below_step HB.out HB13.out
              case c4 => exact (below_step HB.out HB13.out).size
              case c5 => omega
              intro v1 w14 hE14 hB14 hg14
              have HE14 := Lib.hid hE14
              have HB14 := Lib.hid hB14
              obtain ⟨l1, l2, l3, l4⟩ := HL.out
              have HL1 := Lib.hid l1
              have HL2 := Lib.hid l2
              clear hE14 hB14 hg14 l1 l2
              go_wp2
              go_roundw
              case rel => exact ⟨_, ⟨t.first, _, t.good + m2⟩, by go_num, HL1.out, HL2.out, HF.out, HE14.out, HB14.out⟩
              case measure => simp [intOf]; omega
            · have HQ := Lib.hid (HNL.out (by rw [HOK2.out, hsd]; simp [hoi]))
              have hoi' : ((own : Int) != (n : Int) + (t.l.length : Int)) = true := by rw [bne_iff_ne]; have := HF.out; omega
              clear hsd HOK2 hoi
              go_wp2_with fail
              refine (HSD.out _).mono ?_
              rw [HV.out]
              rintro e w13 ⟨rfl, hB13⟩
              have HB13 := Lib.hid (below_step HB12.out hB13)
              clear hB13
              go_wp2
              refine bodyPost_ret (v := .tuple #[.int .u64 n, .slice A0 t.l.length c0, .int .i64 t.good]) (by simp [results, Try.results9, go_sem]) rfl ?_
              rw [HQ.out, HF.out]
              exact ⟨A0, c0, rfl, HE0.out.below HB13.out, below_step HB.out HB13.out⟩
      · have hk' : ((k.toNat : Int) != 2) = true := by
          rw [bne_iff_ne]
          intro e
          exact hk (UInt8.toNat_inj.1 (show k.toNat = 2 by omega))
        have HQ := Lib.hid (HNL.out (by unfold linB; simp [hk]))
        clear hk
        go_wp2_with fail
        refine (HT4.out).mono ?_
        rintro e w4 ⟨A1, c1, rfl, hc1, hR1, hA1, hB1⟩
        dsimp only at hc1 hR1 ⊢
        have HB4 := Lib.hid (below_step HB.out hB1)
        have HE4 := Lib.hid (HE0.out.below hB1)
        clear hR1 hA1 hB1
        go_wp2
        refine bodyPost_ret (v := .tuple #[.int .u64 n, .slice A0 t.l.length c0, .int .i64 t.good]) (by simp [results, Try.results9, go_sem]) rfl ?_
        rw [HQ.out, HF.out]
        exact ⟨A0, c0, rfl, HE4.out, HB4.out⟩
    · have hne : ((en : Int) != 0) = true := by simp; exact hen
      have HQ := Lib.hid (HST.out hen)
      clear hen
      go_wp2_with fail
      refine (HT4.out).mono ?_
      rintro e w4 ⟨A1, c1, rfl, hc1, hR1, hA1, hB1⟩
      dsimp only at hc1 hR1 ⊢
      have HB4 := Lib.hid (below_step HB.out hB1)
      have HE4 := Lib.hid (HE0.out.below hB1)
      clear hR1 hA1 hB1
      go_wp2
      refine bodyPost_ret (v := .tuple #[.int .u64 n, .slice A0 t.l.length c0, .int .i64 t.good]) (by simp [results, Try.results9, go_sem]) rfl ?_
      rw [HQ.out, HF.out]
      exact ⟨A0, c0, rfl, HE4.out, HB4.out⟩
theorem rsegread_walk (A : Option Addr) (c : Nat) (xs : List UInt8) (w : World) (hC : RdB w A xs.length xs) (hc : xs.length ≤ c) (h3 : xs.length ≤ 1000000000) :
    Calls Try.prog 9 #[.slice A xs.length c] w fun e w' => ∃ A' c', e = .returned (.tuple #[.int .u64 ((segOf xs).first : Nat), .slice A' (segOf xs).l.length c', .int .i64 ((segOf xs).good : Nat)]) ∧ EntR w' w.heap.size (.slice A' (segOf xs).l.length c') (segOf xs).l ∧ Below w.heap.size w w' := by
  by_cases h : (tak xs).2.2.2 ≠ 0 ∨ hedN (tak xs).1 (tak xs).2.1 = 0
  · have hs : segOf xs = seg0 := by
      rcases h with h | h
      · exact seg_err h
      · exact seg_nohead h
    rw [hs]
    refine (rsegread_none A c xs w hC hc h).mono ?_
    rintro e w' ⟨rfl, hB⟩
    exact ⟨none, 0, rfl, EntR.nil _ _, hB⟩
  · exact rsegread_some A c xs w hC hc h3 (by omega) (by omega)
end Go.Proofs.Ytakneimkadjiiaa
