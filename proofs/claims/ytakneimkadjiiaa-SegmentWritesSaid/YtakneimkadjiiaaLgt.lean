/- The law's Light and whole. -/
import Derived.Test.YtakneimkadjiiaaRwr
set_option linter.unusedVariables false
set_option linter.unusedSimpArgs false
namespace Go.Proofs.Ytakneimkadjiiaa
open Go.RowKit Go.Proofs.YtakneimkadjiiaaW.PrintWords Cf
attribute [local go_sem] str_beq str_bne

def lightB (l : List Ent) : Bool := l.all (fun e => decide (e.data.length ≤ 5000)) && decide (l.length ≤ 60)
set_option maxHeartbeats 2000000 in
theorem light_walk (A : Option Addr) (c : Nat) (l : List Ent) (w : World) (hC : KE.C w A l.length l) :
    Calls Try.prog 11 #[.slice A l.length c] w fun e w' => e = .returned (.bool (lightB l)) ∧ Below w.heap.size w w' := by
  have HC := Lib.hid hC
  have hm := Kd.C_max hC
  clear hC
  go_enter Try.func11, Try.ntmps11
  go_wp2_with fail
  go_loopw [7] (fun i wr => ∃ k : Nat, i = .int .i64 k ∧ k ≤ l.length ∧ (l.take k).all (fun e => decide (e.data.length ≤ 5000)) = true ∧ Below w.heap.size w wr)
    (fun i _ => l.length - (intOf i).toNat)
  case atStart => exact ⟨0, rfl, Nat.zero_le _, rfl, Below.refl _ _⟩
  case round =>
    obtain ⟨k, rfl, hk, ha, hB⟩ := hrel
    have HA := Lib.hid ha
    have HB := Lib.hid hB
    clear ha hB
    by_cases hlt : k < l.length
    · obtain ⟨bl, off, D, cd, rfl, p0, p1, p2, p3, p4⟩ := KE_at (Kd.C_below HC.out HB.out) k hlt
      have hi1 : (k : Int) < (l.length : Int) := by omega
      have HT := Lib.hid (show (l.take (k + 1)).all (fun e => decide (e.data.length ≤ 5000)) = decide (l[k].data.length ≤ 5000) by
        rw [List.take_succ_eq_append_getElem hlt, List.all_append, HA.out]
        simp)
      have HL := Lib.hid (show decide (l[k].data.length ≤ 5000) = false → lightB l = false from fun h => by
        have h2 : l.all (fun e => decide (e.data.length ≤ 5000)) = false := by
          rw [List.all_eq_false]
          exact ⟨l[k], List.getElem_mem hlt, by rw [h]; decide⟩
        unfold lightB
        rw [h2]
        rfl)
      generalize l[k] = x at *
      clear p4
      by_cases h5 : x.data.length ≤ 5000
      · have h5i : ¬ (5000 : Int) < (x.data.length : Int) := by omega
        have HN := Lib.hid (HT.out.trans (decide_eq_true h5))
        go_wp2
        exact ⟨⟨k + 1, by go_num, by omega, HN.out, below_step HB.out (below_alloc (Below.refl _ _) _)⟩, by simp [intOf]; omega⟩
      · have h5i : (5000 : Int) < (x.data.length : Int) := by omega
        have HN := Lib.hid (HL.out (decide_eq_false h5))
        go_wp2
        go_ret
        rw [HN.out]
        exact ⟨rfl, below_step HB.out (below_alloc (Below.refl _ _) _)⟩
    · have hi1 : ¬ (k : Int) < (l.length : Int) := by omega
      have HN := Lib.hid (show lightB l = decide (l.length ≤ 60) by
        have h := HA.out
        rw [List.take_of_length_le (by omega)] at h
        unfold lightB
        rw [h]
        rfl)
      by_cases h6 : l.length ≤ 60
      · have HD := Lib.hid (show decide (l.length ≤ 60) = true by simpa using h6)
        have h6i : (l.length : Int) ≤ 60 := by omega
        clear h6
        go_wp2
        go_ret
        rw [HN.out, HD.out]
        exact ⟨rfl, HB.out⟩
      · have HD := Lib.hid (show decide (l.length ≤ 60) = false by simpa using h6)
        have h6i : ¬ (l.length : Int) ≤ 60 := by omega
        clear h6
        go_wp2
        go_ret
        rw [HN.out, HD.out]
        exact ⟨rfl, HB.out⟩
theorem rline_at (z : Int) (i : Nat) (e : Ent) (A : Option Addr) (c : Nat) (w : World) (hz : z = (i : Int)) (hi : i < 18446744073709551616) (h : soundB e = true) (hR : RdB w A e.data.length e.data) :
    Calls Try.prog 14 #[.int .u64 z, entV e A c] w fun e' w' => ∃ A c, e' = .returned (.slice A (linW i e).length c) ∧ (linW i e).length ≤ c ∧ OwB w' w.heap.size (.slice A (linW i e).length c) (linW i e) ∧ Below w.heap.size w w' := by
  subst hz
  exact rline_walk i e A c w hi h hR
theorem linesW_len (i : Nat) (l : List Ent) (h : ∀ e ∈ l, soundB e = true) (hi : i + l.length ≤ 18446744073709551616) : (linesW i l).length ≤ 4208 * l.length := by
  induction l generalizing i with
  | nil => simp [linesW]
  | cons x l ih =>
    have h1 := linT_len i x (h x (by simp)) (by simp at hi; omega)
    have h2 := ih (i + 1) (fun e he => h e (by simp [he])) (by simp at hi ⊢; omega)
    rw [linesW, List.length_append, linW_len, List.length_cons]
    omega
def allSound (l : List Ent) : Bool := l.all soundB
def WholeP (f : Nat) (l : List Ent) (w : World) (e : Ending) (w' : World) : Prop := Below w.heap.size w w' ∧
  ((allSound l = false ∧ e = .returned (.tuple #[.slice none 0 0, .bool false])) ∨
   (allSound l = true ∧ ∃ A' c', e = .returned (.tuple #[.slice A' (hedW f ++ linesW f l).length c', .bool true]) ∧ OwB w' w.heap.size (.slice A' (hedW f ++ linesW f l).length c') (hedW f ++ linesW f l)))
set_option maxHeartbeats 4000000 in
theorem whole_walk (f : Nat) (A : Option Addr) (c : Nat) (l : List Ent) (w : World) (hC : KE.C w A l.length l) (hf : f ≤ 1152921504606846976) (hl : l.length ≤ 60) (hd : ∀ e ∈ l, e.term < 18446744073709551616) :
    Calls Try.prog 12 #[.int .u64 f, .slice A l.length c] w (WholeP f l w) := by
  have HC := Lib.hid hC
  clear hC
  have hhd : (hedW f).length ≤ 17 := by have := wrp_length 1 (numB f); have h2 := numB_len (show f < 18446744073709551616 by omega); simp only [hedW]; omega
  go_enter Try.func12, Try.ntmps12
  go_wp2_with fail
  refine (rhed_walk f _ (by omega)).mono ?_
  rintro e w1 ⟨A1, c1, rfl, hc1, hO1, hB1⟩
  have HO1 := Lib.hid hO1
  have HB1 := Lib.hid hB1
  clear hO1 hB1
  go_wp2_with fail
  go_loopw [6, 13] (fun v i wr => ∃ k : Nat, i = .int .i64 k ∧ k ≤ l.length ∧ (l.take k).all soundB = true ∧ (∃ A' c', v = .slice A' (hedW f ++ linesW f (l.take k)).length c' ∧ OwB wr w.heap.size (.slice A' (hedW f ++ linesW f (l.take k)).length c') (hedW f ++ linesW f (l.take k))) ∧ Below w.heap.size w wr)
    (fun _ i _ => l.length - (intOf i).toNat)
  case atStart => exact ⟨0, rfl, Nat.zero_le _, rfl, ⟨A1, c1, by simp [linesW], by simpa [linesW] using HO1.out⟩, HB1.out⟩
  case round =>
    obtain ⟨k, rfl, hk, ha, ⟨A2, c2, rfl, hO⟩, hB⟩ := hrel
    have HA := Lib.hid ha
    have HB := Lib.hid hB
    have HO := Lib.hid hO
    clear ha hB hO
    by_cases hlt : k < l.length
    · obtain ⟨bl, off, D, cd, rfl, p0, p1, p2, p3, p4⟩ := KE_at (Kd.C_below HC.out HB.out) k hlt
      have P4 := Lib.hid p4
      have hi1 : (k : Int) < (l.length : Int) := by omega
      have htk := List.take_succ_eq_append_getElem hlt
      have HT := Lib.hid (show (l.take (k + 1)).all soundB = soundB l[k] by
        rw [htk, List.all_append, HA.out]
        simp)
      have HX := Lib.hid (show hedW f ++ linesW f (l.take (k + 1)) = (hedW f ++ linesW f (l.take k)) ++ linW (f + k) l[k] by
        rw [htk, linesW_snoc, List.append_assoc, List.length_take, Nat.min_eq_left hk])
      have HL := Lib.hid (show soundB l[k] = false → allSound l = false from fun h => by
        unfold allSound
        rw [List.all_eq_false]
        exact ⟨l[k], List.getElem_mem hlt, by rw [h]; decide⟩)
      have hdk := hd l[k] (List.getElem_mem hlt)
      have HLL := Lib.hid (show (hedW f ++ linesW f (l.take k)).length ≤ 1000000 by
        have h1 := linesW_len f (l.take k) (fun e he => by have := HA.out; rw [List.all_eq_true] at this; exact this e he) (by rw [List.length_take]; omega)
        have h2 := List.length_take_le k l
        rw [List.length_append]
        omega)
      have HLW := Lib.hid (show soundB l[k] = true → (linW (f + k) l[k]).length ≤ 5000 from fun h => by have := linT_len (f + k) l[k] h (by omega); rw [linW_len]; omega)
      generalize l[k] = x at *
      generalize hedW f ++ linesW f (l.take k) = zs at *
      clear p4 htk
      cases hs : soundB x with
      | false =>
        have HN := Lib.hid (HL.out hs)
        have HS := Lib.hid hs
        clear hs
        go_wp2_with fail
        refine (fsound_walk x D cd _ hdk).mono ?_
        rw [HS.out]
        rintro e w3 ⟨rfl, hB3⟩
        have HB3 := Lib.hid (below_step HB.out (below_step (below_alloc (Below.refl _ _) _) hB3))
        clear hB3
        go_wp2
        go_ret2
        exact ⟨HB3.out, .inl ⟨HN.out, rfl⟩⟩
      | true =>
        have HS := Lib.hid hs
        clear hs
        go_wp2_with fail
        refine (fsound_walk x D cd _ hdk).mono ?_
        rw [HS.out]
        rintro e w3 ⟨rfl, hB3⟩
        have HB3 := Lib.hid (below_step (below_alloc (Below.refl _ wr) (.cells #[.int .u64 x.term, .int .i64 x.kind, .slice D x.data.length cd] 38)) hB3)
        obtain ⟨⟨m0, m1, m2⟩, -, -, -⟩ := (Eb.at (World.alloc_heap_new wr (.cells #[.int .u64 x.term, .int .i64 x.kind, .slice D x.data.length cd] 38))).below hB3
        clear hB3
        go_wp2_with fail
        refine (rline_at _ (f + k) x D cd _ (by omega) (by omega) HS.out (Kd.C_below P4.out HB3.out)).mono ?_
        rintro e w4 ⟨A4, c4, rfl, hc4, hO4, hB4⟩
        have HO4 := Lib.hid hO4
        have HB4 := Lib.hid (below_step HB3.out hB4)
        have HB5 := Lib.hid (below_step HB.out HB4.out)
        have HO5 := Lib.hid (Kd.R_below HO.out HB4.out)
        have hlw := HLW.out HS.out
        have hll := HLL.out
        generalize linW (f + k) x = ln at *
        clear hO4 hB4
        go_wp2_with (at_builtin; refine ap_row (w0 := w) w.heap.size rfl (Operand.tmp 21) (Operand.tmp 27) rfl _ zs ln A4 ln.length c4 rfl rfl HO5.out HO4.out.rd HB5.out HB5.out.size (by omega) ?_)
        intro z6 A6 c6 w6 hz6 hc6 hO6 hB6 hg6
        have HO6 := Lib.hid hO6
        have HB6 := Lib.hid hB6
        have HX6 := Lib.hid (show hedW f ++ linesW f (l.take (k + 1)) = z6 by rw [HX.out, hz6.out])
        have HT6 := Lib.hid (HT.out.trans HS.out)
        clear hO6 hB6 hg6 hlw hll
        go_wp2
        go_roundw
        case rel => exact ⟨k + 1, by go_num, by omega, HT6.out, ⟨A6, c6, by rw [HX6.out], by rw [HX6.out]; exact HO6.out⟩, HB6.out⟩
        case measure => simp [intOf]; omega
    · have hi1 : ¬ (k : Int) < (l.length : Int) := by omega
      have hta : l.take k = l := List.take_of_length_le (by omega)
      have HN := Lib.hid (show allSound l = true by
        have h := HA.out
        rw [hta] at h
        exact h)
      have HB2 := Lib.hid (show ∃ zs, zs = hedW f ++ linesW f l ∧ OwB wr w.heap.size (.slice A2 zs.length c2) zs ∧ hedW f ++ linesW f (l.take k) = zs from ⟨_, rfl, by have h := HO.out; rwa [hta] at h, by rw [hta]⟩)
      clear hta
      obtain ⟨zs, hz1, hz2, hz3⟩ := HB2.out
      rw [hz3]
      have HZ1 := Lib.hid hz1
      have HZ2 := Lib.hid hz2
      clear hz1 hz2 hz3
      go_wp2
      go_ret2
      refine ⟨HB.out, .inr ⟨HN.out, A2, c2, ?_, ?_⟩⟩
      · rw [← HZ1.out]
        rfl
      · rw [← HZ1.out]
        exact HZ2.out
end Go.Proofs.Ytakneimkadjiiaa
