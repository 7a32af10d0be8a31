/- The law's Light; the chapter's example. -/
import Derived.Test.YtoccidpocagkjaaSwn
import Derived.Test.YtoccidpocagkjaaWho
set_option linter.unusedVariables false
set_option linter.unusedSimpArgs false
namespace Go.Proofs.Ytoccidpocagkjaa
open Go.RowKit Go.Proofs.YtoccidpocagkjaaW.PrintWords Cf
attribute [local go_sem] str_beq str_bne

def lightE (l : List Ent) : Bool := l.all (fun e => decide (e.data.length ≤ 5000))
def lightW (m : Wm) : Bool := lightE m.ents && decide (m.ents.length ≤ 20) && decide (m.snap.members.length ≤ 30) && decide (m.snap.data.length ≤ 33000)
theorem lightE_drop {l : List Ent} {k : Nat} (hk : k < l.length) : lightE (l.drop k) = (decide (l[k].data.length ≤ 5000) && lightE (l.drop (k + 1))) := by
  rw [List.drop_eq_getElem_cons hk]
  rfl
set_option maxRecDepth 100000 in
set_option maxHeartbeats 4000000 in
theorem light30_walk (m : Wm) (E : Option Addr) (e : Nat) (A : Option Addr) (a : Nat) (B : Option Addr) (b : Nat) (w : World) (h : MR w m E e A a B b) :
    Calls Try.prog 7 #[msgV m E e A a B b] w fun e w' => e = .returned (.bool (lightW m)) ∧ Below w.heap.size w w' := by
  have hv : lightW m = (lightE (m.ents.drop 0) && decide (m.ents.length ≤ 20) && decide (m.snap.members.length ≤ 30) && decide (m.snap.data.length ≤ 33000)) := rfl
  have hmx := Kd.C_max h.2.1
  have hmy := Kd.C_max h.2.2.2.1
  have hmz := Kd.C_max h.2.2.2.2.2
  generalize lightW m = v at *
  obtain ⟨k, f, d, t, i, lt, c, r, ok, fo, es, ⟨si, st, sm, sd⟩⟩ := m
  have hB1 := below_alloc (Below.refl _ w) (.cells #[.int .i64 k, .int .i64 f, .int .i64 d, .int .u64 t, .int .u64 i, .int .u64 lt, .int .u64 c, .int .u64 r, .bool ok, .bool fo, .slice E es.length e, .int .u64 si, .int .u64 st, .slice A sm.length a, .slice B sd.length b] 29)
  have HB1 := Lib.hid hB1
  have HK := Lib.hid (World.alloc_heap_new w (.cells #[.int .i64 k, .int .i64 f, .int .i64 d, .int .u64 t, .int .u64 i, .int .u64 lt, .int .u64 c, .int .u64 r, .bool ok, .bool fo, .slice E es.length e, .int .u64 si, .int .u64 st, .slice A sm.length a, .slice B sd.length b] 29))
  have HM := Lib.hid (h.below hB1)
  have HM0 := Lib.hid h
  clear h hB1
  dsimp only at *
  have HV := Lib.hid hv
  clear hv HM0
  go_enter Try.func7, Try.ntmps7
  go_wp2_with fail
  generalize w.alloc (.cells #[.int .i64 k, .int .i64 f, .int .i64 d, .int .u64 t, .int .u64 i, .int .u64 lt, .int .u64 c, .int .u64 r, .bool ok, .bool fo, .slice E es.length e, .int .u64 si, .int .u64 st, .slice A sm.length a, .slice B sd.length b] 29) = w0 at *
  obtain ⟨b0, b1, b2, b3, b4, b5, b6, b7, b8, b9, b10, b11, b12, b13, b14⟩ := blk15 (blk_below HK.out (Below.refl _ _))
  go_loopw [8] (fun j wr => ∃ n : Nat, j = .int .i64 n ∧ n ≤ es.length ∧ lightE (es.drop 0) = lightE (es.drop n) ∧ Below w0.heap.size w0 wr)
    (fun j _ => es.length - (intOf j).toNat)
  case atStart => exact ⟨0, rfl, Nat.zero_le _, rfl, Below.refl _ _⟩
  case round =>
    obtain ⟨n, rfl, hn, hr, hB⟩ := hrel
    have HBR := Lib.hid hB
    clear b0 b1 b2 b3 b4 b5 b6 b7 b8 b9 b10 b11 b12 b13 b14
    by_cases hlt : n < es.length
    · rw [lightE_drop hlt] at hr
      obtain ⟨bl, off, D, cd, rfl, p0, p1, p2, p3, p4⟩ := KE_at (Kd.C_below HM.out.2.1 hB) n hlt
      have HR := Lib.hid hr
      have hi1 : (n : Int) < (es.length : Int) := by omega
      clear hr hB p4
      generalize es[n] = x at *
      by_cases h5 : x.data.length ≤ 5000
      · have HN := Lib.hid (show lightE (es.drop 0) = lightE (es.drop (n + 1)) by rw [HR.out, show decide (x.data.length ≤ 5000) = true from decide_eq_true h5]; rfl)
        have h5i : ¬ (5000 : Int) < (x.data.length : Int) := by omega
        go_wp2
        exact ⟨⟨n + 1, by go_num, by omega, HN.out, below_step HBR.out (below_alloc (Below.refl _ _) _)⟩, by simp [intOf]; omega⟩
      · have HN := Lib.hid (show v = false by rw [HV.out, HR.out, show decide (x.data.length ≤ 5000) = false from decide_eq_false h5]; rfl)
        have h5i : (5000 : Int) < (x.data.length : Int) := by omega
        go_wp2
        go_ret
        exact ⟨by rw [HN.out]; rfl, below_step HB1.out (below_step HBR.out (below_alloc (Below.refl _ _) _))⟩
    · have hi1 : ¬ (n : Int) < (es.length : Int) := by omega
      rw [List.drop_eq_nil_of_le (show es.length ≤ n by omega)] at hr
      obtain ⟨b0, b1, b2, b3, b4, b5, b6, b7, b8, b9, b10, b11, b12, b13, b14⟩ := blk15 (blk_below HK.out hB)
      have HVV := Lib.hid (show v = (decide (es.length ≤ 20) && decide (sm.length ≤ 30) && decide (sd.length ≤ 33000)) by rw [HV.out, hr]; rfl)
      clear hr hB
      by_cases g1 : es.length ≤ 20
      rotate_left
      · have HN := Lib.hid (show v = false by rw [HVV.out, show decide (es.length ≤ 20) = false from decide_eq_false g1]; rfl)
        have g1i : ¬ (es.length : Int) ≤ 20 := by omega
        go_wp2
        go_ret
        exact ⟨by rw [HN.out]; rfl, below_step HB1.out HBR.out⟩
      have g1i : (es.length : Int) ≤ 20 := by omega
      by_cases g2 : sm.length ≤ 30
      rotate_left
      · have HN := Lib.hid (show v = false by rw [HVV.out, show decide (sm.length ≤ 30) = false from decide_eq_false g2]; simp)
        have g2i : ¬ (sm.length : Int) ≤ 30 := by omega
        go_wp2
        go_ret
        exact ⟨by rw [HN.out]; rfl, below_step HB1.out HBR.out⟩
      have g2i : (sm.length : Int) ≤ 30 := by omega
      by_cases g3 : sd.length ≤ 33000
      rotate_left
      · have HN := Lib.hid (show v = false by rw [HVV.out, show decide (sd.length ≤ 33000) = false from decide_eq_false g3]; simp)
        have g3i : ¬ (sd.length : Int) ≤ 33000 := by omega
        go_wp2
        go_ret
        exact ⟨by rw [HN.out]; rfl, below_step HB1.out HBR.out⟩
      have g3i : (sd.length : Int) ≤ 33000 := by omega
      have HN := Lib.hid (show v = true by rw [HVV.out, show decide (es.length ≤ 20) = true from decide_eq_true g1, show decide (sm.length ≤ 30) = true from decide_eq_true g2, show decide (sd.length ≤ 33000) = true from decide_eq_true g3]; rfl)
      go_wp2
      go_ret
      exact ⟨by rw [HN.out]; rfl, below_step HB1.out HBR.out⟩
theorem beB_small {n : Nat} (h0 : n ≠ 0) (h : n < 256) : beB n = [UInt8.ofNat n] := by rw [beB_pos h0, show n / 256 = 0 by omega, beB_zero]; rfl
/-- The chapter's message. -/
def msgEx : Wm := ⟨8, 0, 1, 3, 0, 0, 0, 0, false, false, [], sn0⟩
theorem bodyEx : bodyW msgEx = [1, 8, 0, 1, 1, 1, 3] := by
  have e8 : numB 8 = [1, 8] := by rw [numB, beB_small (by decide) (by decide)]; decide
  have e0 : numB 0 = [0] := by rw [numB, beB_zero]; decide
  have e1 : numB 1 = [1, 1] := by rw [numB, beB_small (by decide) (by decide)]; decide
  have e3 : numB 3 = [1, 3] := by rw [numB, beB_small (by decide) (by decide)]; decide
  have hf : fieldsB msgEx = [] := by simp [fieldsB, msgEx]
  unfold bodyW
  rw [hf]
  show numB 8 ++ numB 0 ++ numB 1 ++ numB 3 ++ [] = _
  rw [e8, e0, e1, e3]
  rfl
theorem wireEx_len : (wireW msgEx).length = 15 := by unfold wireW; rw [wrp_length, bodyEx]; rfl
theorem wireEx_mid : ((wireW msgEx).drop 5).take 7 = [1, 8, 0, 1, 1, 1, 3] := by
  unfold wireW
  rw [bodyEx]
  rfl
theorem soundEx : soundW msgEx = true := by decide
theorem msgEx_ok : msgOk msgEx := by
  refine ⟨⟨⟨?_, ?_⟩, ⟨?_, ?_⟩, ?_, ?_⟩, ⟨?_, ?_, ?_, ?_, ?_⟩, ?_, ?_, ?_, ?_⟩ <;> first | decide | (intro x hx; cases hx)
set_option maxRecDepth 100000 in
set_option maxHeartbeats 2000000 in
theorem lives30_walk (w : World) : Calls Try.prog 8 #[] w fun e w' => e = .returned (.bool true) ∧ Below w.heap.size w w' := by
  have HB := Lib.hid (wbytes_walk2 msgEx none 0 none 0 none 0 w ⟨Nat.le_refl _, Kd.C_nil _ _, SR.zero w⟩ msgEx_ok soundEx)
  have hl := wireEx_len
  have hm := wireEx_mid
  generalize wireW msgEx = z at *
  have HL := Lib.hid hl
  have HM := Lib.hid hm
  clear hl hm
  go_enter Try.func8, Try.ntmps8
  go_wp2_with fail
  refine (HB.out).mono ?_
  rintro e w1 ⟨A1, c1, rfl, hc1, hO1, hB1⟩
  have hR := hO1.rd
  rw [HL.out] at hc1 hR
  have HB1 := Lib.hid hB1
  have hu := rd_up (c := c1) (show RdB w1 A1 z.length z by rw [HL.out]; exact hR) 5 (by rw [HL.out]; decide) (by rw [HL.out]; exact hc1)
  have hv := rd_lo hu 7 (by rw [List.length_drop, HL.out]; decide)
  rw [HM.out] at hv
  obtain ⟨A6, e6, h6⟩ : ∃ A6, (∀ W : World, (Instr.slice 25 (.slice A1 15 c1) (some (.int .i64 5)) (some (.int .i64 12)) none).run Try.prog W = .ok (.slice A6 7 (c1 - 5)) W) ∧ RdB w1 A6 7 [1, 8, 0, 1, 1, 1, 3] := ⟨_, fun W => ct_mid A1 15 c1 5 12 (by decide) (by decide) (by decide) hc1 W, hv⟩
  have k6 := conv_str (c := c1 - 5) h6
  rw [HL.out]
  have es1 : ((str [1, 8, 0, 1, 1, 1, 3]).toList == [1, 8, 0, 1, 1, 1, 3]) = true := by rw [str_toList]; decide
  clear hO1 hR hu hv h6 hB1
  go_wp2
  go_ret
  exact ⟨rfl, HB1.out⟩
end Go.Proofs.Ytoccidpocagkjaa
