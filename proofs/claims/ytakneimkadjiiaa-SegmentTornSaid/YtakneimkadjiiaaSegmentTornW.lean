/- SegmentTorn: the walk. -/
import Derived.Test.YtakneimkadjiiaaMtn
import Derived.Test.YtakneimkadjiiaaLgt
import Derived.Test.YtakneimkadjiiaaLiv
import Derived.Test.YtakneimkadjiiaaRsm
import Derived.Test.YtakneimkadjiiaaRde
set_option linter.unusedVariables false
set_option linter.unusedSimpArgs false
namespace Go.Proofs.Ytakneimkadjiiaa
open Go.RowKit Go.Proofs.YtakneimkadjiiaaW.PrintWords Cf
attribute [local go_sem] str_beq str_bne

theorem xor8 (x : UInt8) (n : Nat) (hn : n < 256) : ∃ y : UInt8, bits .xor .u8 (x.toNat : Int) (n : Int) = (y.toNat : Int) := by
  have hx := x.toNat_lt
  refine ⟨UInt8.ofNat (x.toNat ^^^ n), ?_⟩
  rw [u8_xor_nat _ _ (by omega) hn, UInt8.toNat_ofNat']
  have : x.toNat ^^^ n < 2 ^ 8 := Nat.xor_lt_two_pow (by omega) (by omega)
  omega
theorem take_set3 (zs : List UInt8) (m a : Nat) (y0 y1 y2 : UInt8) (h : m + 3 ≤ a) : (((zs.set (a - 3) y0).set (a - 2) y1).set (a - 1) y2).take m = zs.take m := by
  rw [List.take_set, List.take_set, List.take_set, List.set_eq_of_length_le (by simp only [List.length_set, List.length_take]; omega), List.set_eq_of_length_le (by simp only [List.length_set, List.length_take]; omega), List.set_eq_of_length_le (by simp only [List.length_take]; omega)]
theorem turn_split (hd T zs : List UInt8) (a : Nat) (y0 y1 y2 : UInt8) (hz : zs = hd ++ T) (ha : a = hd.length + T.length) (h3 : 3 ≤ T.length) :
    ∃ S, ((zs.set (a - 3) y0).set (a - 2) y1).set (a - 1) y2 = hd ++ S ∧ S.length = T.length ∧ S.take (S.length - 3) = T.take (S.length - 3) := by
  have h1 := take_set3 zs hd.length a y0 y1 y2 (by omega)
  have h2 := take_set3 zs (a - 3) a y0 y1 y2 (by omega)
  have hl : (((zs.set (a - 3) y0).set (a - 2) y1).set (a - 1) y2).length = zs.length := by simp
  generalize ((zs.set (a - 3) y0).set (a - 2) y1).set (a - 1) y2 = X at *
  subst hz
  rw [List.take_append_of_le_length (Nat.le_refl _), List.take_length] at h1
  rw [List.length_append] at hl
  refine ⟨X.drop hd.length, ?_, by rw [List.length_drop]; omega, ?_⟩
  · have := List.take_append_drop hd.length X
    rw [h1] at this
    exact this.symm
  · have hsl : (X.drop hd.length).length = T.length := by rw [List.length_drop]; omega
    rw [hsl]
    have h4 := congrArg (List.drop hd.length) h2
    rw [List.drop_take, List.drop_take, List.drop_left, show a - 3 - hd.length = T.length - 3 by omega] at h4
    exact h4
theorem ect_lo (A : Option Addr) (n c : Nat) (hi : Int) (h1 : 0 ≤ hi) (h2 : hi ≤ n) (hc : n ≤ c) (W : World) : (Instr.slice 25 (.slice A n c) none (some (.int .i64 hi)) none).run Try.prog W = .ok (.slice A hi.toNat c) W := by
  have hel : Try.prog.elem 25 = 38 := by simp [Program.elem, Try.underlying25]
  have hu : Try.prog.underlying 25 = some (.slice (Try.prog.elem 25)) := by rw [hel]; exact Try.underlying25
  have ha : (A.map fun x => x.add 0) = A := by cases A <;> simp [Addr.add]
  obtain ⟨i0, hi0, hzz⟩ := Option.map_eq_some_iff.1 info_entry
  simp only [Prod.mk.injEq] at hzz
  obtain ⟨hz0, hz1, hz2⟩ := hzz
  rw [run_slice_h W 25 A n c hu .i64 hi h1 (by omega), hel]
  simp [sizeOf, typeInfo, hi0, hz1, sliced, Result.andThen, ha]
theorem segread_as (A : Option Addr) (n c : Nat) (xs : List UInt8) (w : World) (t : Seg) (j : Nat) (ht : segOf xs = t) (hj : t.l.length = j) (hC : RdB w A n xs) (hc : n ≤ c) (h3 : n ≤ 1000000000) :
    Calls Try.prog 8 #[.slice A n c] w fun e w' => ∃ A' c', e = .returned (.tuple #[.int .u64 (t.first : Nat), .slice A' j c', .int .i64 (t.good : Nat)]) ∧ j ≤ c' ∧ KE.C w' A' j t.l ∧ Below w.heap.size w w' := by
  subst ht hj
  refine (segread_at A n c xs w hC hc h3).mono ?_
  rintro e w' ⟨A', c', rfl, hE, hB⟩
  exact ⟨A', c', rfl, hE.reads.2.1, hE.reads.2.2, hB⟩
theorem rsame_at (A : Option Addr) (n c : Nat) (a : List Ent) (B : Option Addr) (m d : Nat) (b : List Ent) (w : World) (hA : KE.C w A n a) (hB : KE.C w B m b) :
    Calls Try.prog 10 #[.slice A n c, .slice B m d] w fun e w' => e = .returned (.bool (decide (a = b))) ∧ Below w.heap.size w w' := by
  obtain rfl : a.length = n := hA.1
  obtain rfl : b.length = m := hB.1
  exact rsame_walk A c a B d b w hA hB
set_option maxRecDepth 100000 in
set_option maxHeartbeats 4000000 in
theorem segmentTorn_main (f : Nat) (A : Option Addr) (c : Nat) (es : List Ent) (cut turn : Nat) (w : World) (hf : 1 ≤ f) (hf2 : f ≤ 576460752303423488) (hC : KE.C w A es.length es) (hc : es.length ≤ c) (hl : lightB es = true) (h0 : 0 < es.length) (hs : allSound es = true) (hcut : cut < 65536) (hturn : turn < 4294967296) :
    Calls Try.prog 4 #[.int .u64 f, .slice A es.length c, .int .u16 cut, .int .u32 turn] w fun e w' => e = .returned (.bool true) ∧ Below w.heap.size w w' := by
  have hl60 : es.length ≤ 60 := by
    unfold lightB at hl
    simp only [Bool.and_eq_true, decide_eq_true_eq] at hl
    exact hl.2
  have hsd : ∀ e ∈ es, soundB e = true := by unfold allSound at hs; rw [List.all_eq_true] at hs; exact hs
  have htm : ∀ e ∈ es, e.term < 18446744073709551616 := fun e he => by have := soundB_ok (hsd e he); omega
  have hbn := linesW_len f es hsd (by omega)
  have hN : 8 ≤ (linesW f es).length := by
    rcases es with _ | ⟨e, r⟩
    · simp at h0
    · rw [linesW, List.length_append, linW_len]
      omega
  have hH : (hedW f).length ≤ 17 ∧ 8 ≤ (hedW f).length := by have := wrp_length 1 (numB f); have h2 := numB_len (show f < 18446744073709551616 by omega); simp only [hedW]; omega
  obtain ⟨p, hp⟩ : ∃ p, cut % (linesW f es).length = p := ⟨_, rfl⟩
  have hpN : p < (linesW f es).length := by rw [← hp]; exact Nat.mod_lt _ (by omega)
  obtain ⟨j, q, hj, hq, hpe, htk⟩ := lines_cut f es p hpN
  have hcutS := seg_cut f (by omega) (by omega) es hsd (by omega) j q hj hq
  have hturnS := seg_turn f (by omega) (by omega) es hsd (by omega) j q hj hq
  have hus : (hedW f ++ linesW f es).take ((hedW f).length + p) = hedW f ++ (linesW f (es.take j) ++ (linW (f + j) es[j]).take q) := by
    rw [List.take_length_add_append, htk]
  rw [← hus] at hcutS
  have hbl : (hedW f ++ linesW f es).length = (hedW f).length + (linesW f es).length := List.length_append ..
  have htj : (es.take j).length = j := by rw [List.length_take]; omega
  have hrl := linT_len (f + j) es[j] (hsd _ (List.getElem_mem hj)) (by omega)
  have hlw := linW_len (f + j) es[j]
  have hd2 := soundB_ok (hsd es[j] (List.getElem_mem hj))
  obtain ⟨bl, off, D, cd, rfl, p0, p1, p2, p3, p4⟩ := KE_at hC j hj
  have HLT := Lib.hid (fun w h => light_walk (some ⟨bl, off, none⟩) c es w h)
  have HWH := Lib.hid (fun w h => whole_walk f (some ⟨bl, off, none⟩) c es w h (by omega) hl60 htm)
  have HHD := Lib.hid (fun w => rhed_walk f w (by omega))
  have HLN := Lib.hid (fun (z : Int) (w : World) (hz : z = ((f + j : Nat) : Int)) (h : RdB w D (es[j]'hj).data.length (es[j]'hj).data) => rline_at z (f + j) (es[j]'hj) D cd w hz (by omega) (hsd _ (List.getElem_mem hj)) h)
  have HC := Lib.hid hC
  have HSD := Lib.hid hs
  have HLI := Lib.hid hl
  have HP4 := Lib.hid p4
  have HCUT := Lib.hid hcutS
  have HTJ := Lib.hid htj
  have HUS := Lib.hid hus
  have HTURN := Lib.hid hturnS
  have HBL := Lib.hid hbl
  have he4 := ect_lo (some ⟨bl, off, none⟩) es.length c (j : Int) (by omega) (by omega) hc
  rw [Int.toNat_natCast] at he4
  have hmod : (cut : Int) % ((linesW f es).length : Int) = (p : Int) := by rw [← hp, Int.natCast_emod]
  have HMOD := Lib.hid hmod
  have HPE := Lib.hid hpe
  have HLW := Lib.hid hlw
  have hpq : p ≤ (linesW f (es.take j)).length + q ∧ (linesW f (es.take j)).length ≤ p := by omega
  have HTL := Lib.hid (show (linesW f (es.take j) ++ (linW (f + j) es[j]).take q).length = p by rw [List.length_append, List.length_take]; omega)
  have HHL := Lib.hid (show (id (hedW f)).length = (hedW f).length from rfl)
  generalize es[j] = x at *
  generalize (linesW f (es.take j)).length = L at *
  generalize (linesW f es).length = N at *
  generalize (hedW f).length = H at *
  obtain ⟨h17, h8⟩ := hH
  obtain ⟨hpq1, hpq2⟩ := hpq
  have hlwb : (linW (f + j) x).length ≤ 5000 := by omega
  obtain ⟨s1, s2, s3, s4, s5⟩ := hd2
  clear hC hl hs hsd htm hp htk hcutS hturnS hus hbl htj hpe hmod p4 hlw
  have g1 : decide ((f : Int) < 1) = false := by simp; omega
  have g2 : decide ((576460752303423488 : Int) < (f : Int)) = false := by simp; omega
  have g3 : ((es.length : Int) == 0) = false := by rw [beq_eq_false_iff_ne]; omega
  go_enter Try.func4, Try.ntmps4
  go_wp2_with fail
  refine (HLT.out _ HC.out).mono ?_
  rw [HLI.out]
  rintro e w1 ⟨rfl, hB1⟩
  have HB1 := Lib.hid hB1
  clear hB1
  go_wp2_with fail
  refine (HWH.out _ (Kd.C_below HC.out HB1.out)).mono ?_
  rintro e w2 ⟨hB2, (⟨hns, _⟩ | ⟨_, A2, c2, rfl, hO2⟩)⟩
  · rw [HSD.out] at hns
    cases hns
  have HO2 := Lib.hid hO2
  have HB2 := Lib.hid (below_step HB1.out hB2)
  have hbl := HBL.out
  rw [HBL.out]
  have hc2 := (OwB.reads hO2).2.1
  clear hO2 hB2
  go_wp2_with fail
  refine (HHD.out _).mono ?_
  rintro e w3 ⟨A3, c3, rfl, hc3, hO3, hB3⟩
  have HB3 := Lib.hid (below_step HB2.out hB3)
  have HO2' := Lib.hid (Kd.R_below HO2.out hB3)
  clear hO3 hB3
  have e1 : (H : Int) + (N : Int) - (H : Int) = (N : Int) := by omega
  have e2 := HMOD.out
  have e3 : ((N : Int) == 0) = false := by rw [beq_eq_false_iff_ne]; omega
  have e4 := ct_lo A2 (H + N) c2 ((H : Int) + (p : Int)) (by omega) (by omega) (by rw [← HBL.out]; exact hc2)
  rw [show ((H : Int) + (p : Int)).toNat = H + p by omega] at e4
  have hR3 : RdB w3 A2 (H + p) ((hedW f ++ linesW f es).take (H + p)) := by
    have h := rd_lo (OwB.reads HO2'.out).2.2 (H + p) (by rw [HBL.out]; omega)
    rwa [List.length_take, HBL.out, Nat.min_eq_left (by omega)] at h
  have HR3 := Lib.hid hR3
  clear hR3
  go_wp2_with fail
  refine (segread_as A2 (H + p) c2 _ _ ⟨f, es.take j, H + L⟩ j HCUT.out HTJ.out HR3.out (by omega) (by omega)).mono ?_
  dsimp only
  rintro e w4 ⟨A4, c4, rfl, hc4, hE4, hB4⟩
  have HE4 := Lib.hid hE4
  have HB4 := Lib.hid (below_step HB3.out hB4)
  have HO4 := Lib.hid (Kd.R_below HO2'.out hB4)
  have HTK := Lib.hid (show KE.C w4 (some ⟨bl, off, none⟩) j (es.take j) by
    have h := Kd.C_take (Kd.C_below HC.out HB4.out) (show j ≤ es.length by omega)
    rwa [HTJ.out] at h)
  clear hE4 hB4 e1 e2 e3 e4
  go_wp2_with fail
  refine (rsame_at A4 j c4 _ _ j c _ _ HE4.out HTK.out).mono ?_
  rw [show decide (es.take j = es.take j) = true by simp]
  rintro e w5 ⟨rfl, hB5⟩
  have HB5 := Lib.hid (below_step HB4.out hB5)
  have HO5 := Lib.hid (Kd.R_below HO4.out hB5)
  have r0 := pw_cell_below HB5.out p0
  have r1 := pw_cell_below HB5.out p1
  have r2 := pw_cell_below HB5.out p2
  clear hB5
  go_wp2_with fail
  refine (HLN.out _ _ (by omega) (Kd.C_below HP4.out HB5.out)).mono ?_
  rintro e w6 ⟨A6, c6, rfl, hc6, hO6, hB6⟩
  have HB6 := Lib.hid (below_step HB5.out hB6)
  have HO6 := Lib.hid (Kd.R_below HO5.out hB6)
  clear hO6 hB6 r0 r1 r2
  have HR6 := Lib.hid (show RdB w6 A2 (H + p) ((hedW f ++ linesW f es).take (H + p)) by
    have h := rd_lo (OwB.reads HO6.out).2.2 (H + p) (by rw [HBL.out]; omega)
    rwa [List.length_take, HBL.out, Nat.min_eq_left (by omega)] at h)
  have e4 := ct_lo A2 (H + N) c2 ((H : Int) + (p : Int)) (by omega) (by omega) (by rw [← HBL.out]; exact hc2)
  rw [show ((H : Int) + (p : Int)).toNat = H + p by omega] at e4
  go_wp2_with (at_builtin; refine ap_row (w0 := w6) w6.heap.size rfl (Operand.tmp 109) (Operand.tmp 112) rfl _ [] ((hedW f ++ linesW f es).take (H + p)) A2 (H + p) c2 rfl rfl ?c1 ?c2 ?c3 ?c4 ?c5 ?_)
  case c1 => exact OwB.lit w6 _ (Nat.le_refl _) [] _ rfl (by simp)
  case c2 => exact Kd.C_alloc HR6.out _
  case c3 => exact below_alloc (Below.refl _ _) _
  case c4 => simp
  case c5 => simp; omega
  intro zs A7 c7 w7 hz hc7 hO7 hB7 hg7
  obtain ⟨a, ha⟩ : ∃ a, H + p = a := ⟨_, rfl⟩
  have hzl : zs.length = a := by rw [hz.out, List.length_take, HBL.out, Nat.min_eq_left (by omega), ha]
  obtain ⟨g, rfl, hgb⟩ := OwB.addr hO7 (by omega)
  rw [hzl] at hO7 hc7 ⊢
  have HO7 := Lib.hid hO7
  have HB7 := Lib.hid (below_step HB6.out hB7)
  have HZL := Lib.hid hzl
  have ha1 : H ≤ a := by omega
  have ha2 : a ≤ 1000000 := by omega
  have HA := Lib.hid ha
  clear hO7 hB7 hg7 e4 hzl ha
  by_cases h3 : p < 3
  · have h3i : (a : Int) - 3 < (H : Int) := by have := HA.out; omega
    go_wp2_with (go_at_call 7; refine (lives24_walk _).mono ?_; rintro e w8 ⟨rfl, hb8⟩)
    go_ret
    exact ⟨rfl, below_step HB7.out hb8⟩
  · have h3i : ¬ (a : Int) - 3 < (H : Int) := by have := HA.out; omega
    have ha3 : 3 ≤ a := by have := HA.out; omega
    have hcell := fun (k : Nat) (hk : k < a) => (show w7.cell? ⟨g, k, none⟩ = some (.int .u8 ((zs.getD k 0).toNat : Nat)) ∧ w7.frozen? ⟨g, k, none⟩ = false by
      have hk2 : k < zs.length := by rw [HZL.out]; exact hk
      have h := HO7.out.cell k hk2
      simpa [List.getD_eq_getElem?_getD, hk2] using h)
    obtain ⟨k0, k1⟩ := hcell (a - 3) (by omega)
    obtain ⟨k2, k3⟩ := hcell (a - 2) (by omega)
    obtain ⟨k4, k5⟩ := hcell (a - 1) (by omega)
    clear hcell
    generalize zs.getD (a - 3) 0 = v0 at *
    generalize zs.getD (a - 2) 0 = v1 at *
    generalize zs.getD (a - 1) 0 = v2 at *
    go_wp2_with fail
    obtain ⟨y0, hy0⟩ := xor8 v0 (turn / 65536 % 256) (Nat.mod_lt _ (by decide))
    obtain ⟨y1, hy1⟩ := xor8 v1 (turn / 256 % 256) (Nat.mod_lt _ (by decide))
    obtain ⟨y2, hy2⟩ := xor8 v2 (turn % 256) (Nat.mod_lt _ (by decide))
    rw [show ((turn / 65536 % 256 : Nat) : Int) = (turn : Int) / 65536 % 256 by omega] at hy0
    rw [show ((turn / 256 % 256 : Nat) : Int) = (turn : Int) / 256 % 256 by omega] at hy1
    rw [show ((turn % 256 : Nat) : Int) = (turn : Int) % 256 by omega] at hy2
    rw [hy0, hy1, hy2]
    have hO8 := ((HO7.out.put (a - 3) y0).put (a - 2) y1).put (a - 1) y2
    have hB8 := ((HB7.out.setCell (p := ⟨g, a - 3, none⟩) (by simp only; have := HB6.out.size; omega) (.int .u8 (y0.toNat : Nat))).setCell (p := ⟨g, a - 2, none⟩) (by simp only; have := HB6.out.size; omega) (.int .u8 (y1.toNat : Nat))).setCell (p := ⟨g, a - 1, none⟩) (by simp only; have := HB6.out.size; omega) (.int .u8 (y2.toNat : Nat))
    have hT := HTL.out
    obtain ⟨S, hS1, hS2, hS3⟩ := turn_split (hedW f) (linesW f (es.take j) ++ (linW (f + j) x).take q) zs a y0 y1 y2 (by rw [hz.out]; exact HUS.out) (by rw [hT, show (hedW f).length = H from HHL.out]; exact HA.out.symm) (by omega)
    rw [hS1] at hO8
    obtain ⟨j', q1, q2, q3, q4⟩ := HTURN.out S (by rw [hS2, hT]; have := HPE.out; omega) (by omega) hS3
    have hseg : segOf (hedW f ++ S) = ⟨f, es.take j', (segOf (hedW f ++ S)).good⟩ := by
      generalize segOf (hedW f ++ S) = sg at q3 q4 ⊢
      cases sg
      dsimp only at q3 q4 ⊢
      rw [q3, q4]
    have hj' : (es.take j').length = j' := by rw [List.length_take]; omega
    have he5 := ect_lo (some ⟨bl, off, none⟩) es.length c (j' : Int) (by omega) (by omega) hc
    rw [Int.toNat_natCast] at he5
    have HR8 := Lib.hid hO8.rd
    have HB8 := Lib.hid hB8
    have HJ := Lib.hid hj'
    have HSG := Lib.hid hseg
    generalize ((w7.setCell ⟨g, a - 3, none⟩ (.int .u8 (y0.toNat : Nat))).setCell ⟨g, a - 2, none⟩ (.int .u8 (y1.toNat : Nat))).setCell ⟨g, a - 1, none⟩ (.int .u8 (y2.toNat : Nat)) = w8 at *
    clear hO8 hB8 hT hS1 hS2 hS3 q3 q4 hseg hj' hy0 hy1 hy2 k0 k1 k2 k3 k4 k5 he4
    refine (segread_as (some ⟨g, 0, none⟩) a c7 _ _ _ j' HSG.out HJ.out HR8.out (by omega) (by omega)).mono ?_
    dsimp only
    generalize (segOf (hedW f ++ S)).good = gd at *
    rintro e w9 ⟨A9, c9, rfl, hc9, hE9, hB9⟩
    have HE9 := Lib.hid hE9
    have HB9 := Lib.hid (below_step HB8.out hB9)
    have HTK9 := Lib.hid (show KE.C w9 (some ⟨bl, off, none⟩) j' (es.take j') by
      have h := Kd.C_take (Kd.C_below HC.out HB9.out) (show j' ≤ es.length by omega)
      rwa [HJ.out] at h)
    clear hE9 hB9
    go_wp2_with fail
    refine (rsame_at A9 j' c9 _ _ j' c _ _ HE9.out HTK9.out).mono ?_
    rw [show decide (es.take j' = es.take j') = true by simp]
    rintro e w10 ⟨rfl, hB10⟩
    have HB10 := Lib.hid (below_step HB9.out hB10)
    clear hB10
    go_wp2_with (go_at_call 7; refine (lives24_walk _).mono ?_; rintro e w11 ⟨rfl, hb11⟩)
    go_ret
    exact ⟨rfl, below_step HB10.out hb11⟩
theorem u16_nat {s : Int} (hs : (Lit.int .u16 s).wf = true) : ∃ n : Nat, s = n ∧ n < 65536 := by
  have h1 : IntKind.u16.min = 0 := rfl
  have h2 : IntKind.u16.max = 65535 := rfl
  simp only [Lit.wf, Bool.and_eq_true, decide_eq_true_eq] at hs
  obtain ⟨n, rfl⟩ := Int.eq_ofNat_of_zero_le (show 0 ≤ s by omega)
  exact ⟨n, rfl, by omega⟩
theorem u64_nat {s : Int} (hs : (Lit.int .u64 s).wf = true) : ∃ n : Nat, s = n ∧ n < 18446744073709551616 := by
  have h1 : IntKind.u64.min = 0 := rfl
  have h2 : IntKind.u64.max = 18446744073709551615 := rfl
  simp only [Lit.wf, Bool.and_eq_true, decide_eq_true_eq] at hs
  obtain ⟨n, rfl⟩ := Int.eq_ofNat_of_zero_le (show 0 ≤ s by omega)
  exact ⟨n, rfl, by omega⟩
set_option maxRecDepth 100000 in
set_option maxHeartbeats 4000000 in
theorem segmentTorn_law (f : Int) (A : Option Addr) (c : Nat) (es : List Ent) (cut turn : Int) (w : World) (hfw : (Lit.int .u64 f).wf = true) (hC : KE.C w A es.length es) (hc : es.length ≤ c) (hok : ∀ x ∈ es, entOk x) (hcw : (Lit.int .u16 cut).wf = true) (htw : (Lit.int .u32 turn).wf = true) :
    Calls Try.prog 4 #[.int .u64 f, .slice A es.length c, .int .u16 cut, .int .u32 turn] w fun e w' => e = .returned (.bool true) ∧ Below w.heap.size w w' := by
  obtain ⟨f, rfl, hf⟩ := u64_nat hfw
  obtain ⟨cut, rfl, hcut⟩ := u16_nat hcw
  obtain ⟨turn, rfl, hturn⟩ := u32_nat htw
  have HLT := Lib.hid (light_walk A c es w hC)
  have HWH := Lib.hid (fun w h (hf : f ≤ 1152921504606846976) (hl : es.length ≤ 60) => whole_walk f A c es w h hf hl (fun e he => (hok e he).1))
  have HC := Lib.hid hC
  have hm := Kd.C_max hC
  cases hl : lightB es with
  | false =>
    have HLI := Lib.hid hl
    clear hl hC hok
    go_enter Try.func4, Try.ntmps4
    go_wp2_with fail
    refine (HLT.out).mono ?_
    rw [HLI.out]
    rintro e w1 ⟨rfl, hB1⟩
    go_wp2_with (go_at_call 7; refine (lives24_walk _).mono ?_; rintro e w5 ⟨rfl, hb5⟩)
    go_ret
    exact ⟨rfl, below_step hB1 hb5⟩
  | true =>
    by_cases h1 : f < 1
    · have g1 : decide ((f : Int) < 1) = true := by simp; omega
      have HLI := Lib.hid hl
      clear hl hC hok h1
      go_enter Try.func4, Try.ntmps4
      go_wp2_with fail
      refine (HLT.out).mono ?_
      rw [HLI.out]
      rintro e w1 ⟨rfl, hB1⟩
      go_wp2_with (go_at_call 7; refine (lives24_walk _).mono ?_; rintro e w5 ⟨rfl, hb5⟩)
      go_ret
      exact ⟨rfl, below_step hB1 hb5⟩
    by_cases h2 : 576460752303423488 < f
    · have g1 : decide ((f : Int) < 1) = false := by simp; omega
      have g2 : decide ((576460752303423488 : Int) < (f : Int)) = true := by simp; omega
      have HLI := Lib.hid hl
      clear hl hC hok h1 h2
      go_enter Try.func4, Try.ntmps4
      go_wp2_with fail
      refine (HLT.out).mono ?_
      rw [HLI.out]
      rintro e w1 ⟨rfl, hB1⟩
      go_wp2_with (go_at_call 7; refine (lives24_walk _).mono ?_; rintro e w5 ⟨rfl, hb5⟩)
      go_ret
      exact ⟨rfl, below_step hB1 hb5⟩
    have g1 : decide ((f : Int) < 1) = false := by simp; omega
    have g2 : decide ((576460752303423488 : Int) < (f : Int)) = false := by simp; omega
    by_cases h3 : es.length = 0
    · have g3 : ((es.length : Int) == 0) = true := by rw [beq_iff_eq]; omega
      have HLI := Lib.hid hl
      clear hl hC hok h1 h2 h3
      go_enter Try.func4, Try.ntmps4
      go_wp2_with fail
      refine (HLT.out).mono ?_
      rw [HLI.out]
      rintro e w1 ⟨rfl, hB1⟩
      go_wp2_with (go_at_call 7; refine (lives24_walk _).mono ?_; rintro e w5 ⟨rfl, hb5⟩)
      go_ret
      exact ⟨rfl, below_step hB1 hb5⟩
    have g3 : ((es.length : Int) == 0) = false := by rw [beq_eq_false_iff_ne]; omega
    cases hs : allSound es with
    | true => exact segmentTorn_main f A c es cut turn w (by omega) (by omega) hC hc hl (by omega) hs hcut hturn
    | false =>
      have HLI := Lib.hid hl
      have HSD := Lib.hid hs
      have hl60 : es.length ≤ 60 := by
        unfold lightB at hl
        simp only [Bool.and_eq_true, decide_eq_true_eq] at hl
        exact hl.2
      have hfb : f ≤ 1152921504606846976 := by omega
      clear hl hC hok h1 h2 h3 hs
      go_enter Try.func4, Try.ntmps4
      go_wp2_with fail
      refine (HLT.out).mono ?_
      rw [HLI.out]
      rintro e w1 ⟨rfl, hB0⟩
      have HB0 := Lib.hid hB0
      clear hB0
      go_wp2_with fail
      refine (HWH.out _ (Kd.C_below HC.out HB0.out) hfb hl60).mono ?_
      rintro e w2 ⟨hB2, (⟨_, rfl⟩ | ⟨hns, _⟩)⟩
      · have hB1 := below_step HB0.out hB2
        clear hB2
        go_wp2_with (go_at_call 7; refine (lives24_walk _).mono ?_; rintro e w5 ⟨rfl, hb5⟩)
        go_ret
        exact ⟨rfl, below_step hB1 hb5⟩
      · rw [HSD.out] at hns
        cases hns
end Go.Proofs.Ytakneimkadjiiaa
