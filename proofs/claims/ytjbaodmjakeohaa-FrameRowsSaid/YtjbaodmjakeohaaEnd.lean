/- frame.End. -/
import Derived.Test.YtjbaodmjakeohaaEch
set_option linter.unusedVariables false
set_option linter.unusedSimpArgs false
namespace Go.Proofs.Ytjbaodmjakeohaa
open Go.RowKit Go.Shelf Go.Proofs.YtjbaodmjakeohaaW.PrintWords Cf
attribute [local go_sem] Oper.semAt_some str_beq str_bne

set_option maxRecDepth 100000 in
set_option maxHeartbeats 2000000 in
theorem end_walk (A : Option Addr) (n c : Nat) (xs : List UInt8) (w : World) (hC : RdB w A n xs) (hc : n ≤ c) (hl : n ≤ 140737488355328) :
    Calls Try.prog 30 #[.slice A n c] w fun e w' => e = .returned (.tuple #[.int .i64 (flen (frs xs)), .int .i64 (fer xs)]) ∧ Below w.heap.size w w' := by
  obtain rfl : xs.length = n := hC.1
  refine (callsIn_wide (n := 3)).1 ?_
  refine callsIn_of_wp_marks Try.func30 rfl trivial ?_ rfl
  simp only [Try.ntmps30, List.size_toArray, List.length_cons, List.length_nil, Nat.reduceAdd, Nat.reduceSub, Array.replicate_succ, Array.replicate_zero, List.push_toArray, List.append_toArray, List.nil_append, List.cons_append]
  have HC := Lib.hid hC
  clear hC
  gi_wp2_with fail
  refine ⟨trivial, (callsIn_wide.2 (each_make _ _ _ _)).mono ?_⟩
  rintro e w1 ⟨rfl, rfl⟩
  gi_wp2_with fail
  obtain ⟨W0, hW0⟩ : ∃ W0, (w.alloc (.cells #[.int .i64 0] 3)).alloc (.cells #[.slice A xs.length c] 25) = W0 := ⟨_, rfl⟩
  have hB0 : Below w.heap.size w W0 := by rw [← hW0]; exact ((Below.refl _ w).alloc (Nat.le_refl _) _).alloc (by simp) _
  have hx0 : Bx W0 w.heap.size (.int .i64 0) := by rw [← hW0]; exact (Bx.new _ _ _).alloc _
  have hy0 : Bx W0 (w.heap.size + 1) (.slice A xs.length c) := by rw [← hW0]; have := Bx.new (w.alloc (.cells #[.int .i64 0] 3)) (.slice A xs.length c) 25; rwa [World.size_alloc] at this
  rw [hW0]
  clear hW0
  refine turn_range rfl (enters_of Try.func34 (by kernel_rfl) rfl) ?_
  intro l D r W1 hD hDl hr1 hr2 hr3 hr4 hr5 hr6 hT hB1
  have hD0 : w.heap.size ≤ D := Nat.le_trans hB0.size hD
  refine (each_walk l (w.heap.size + 1) A c xs hc hl
    (fun pre W => Turns W l D r ∧ Bx W w.heap.size (.int .i64 (flen pre)) ∧ Below w.heap.size w W)
    (fun _ _ => False) ?hJR ?hJB ?hY W1 (hy0.below hB1).1 ?h0).mono ?after
  case hJR => exact fun pre W h => Kd.C_below HC.out h.2.2
  case hJB => exact fun pre W W' h hB => ⟨h.1.below hB, h.2.1.below hB, below_step h.2.2 hB⟩
  case h0 => exact ⟨hT, hx0.below hB1, below_step hB0 hB1⟩
  case hY =>
    rintro pre k bd A' c' rest W ⟨h1, h2, h3⟩ hRb hcb hfr
    refine turn_yield h1 hr1 hr2 hr3 hr4 hr5 hr6 rfl ?_
    intro rb hrb
    have hle := onto_pre hfr
    have H1 := Lib.hid h1
    have H2 := Lib.hid (h2.put (o' := .loop rb) h1.1 rfl)
    have H3 := Lib.hid (h1.put rb)
    have H4 := Lib.hid (put_below (o' := .loop rb) h3 (show w.heap.size ≤ l by omega) (Nat.le_refl _))
    have HF := Lib.hid (show flen (pre ++ [(k, bd)]) = flen pre + (bd.length + 8) by rw [flen_append, flen_cons, flen_nil])
    clear hr1 hr2 hr3 hr4 hr5 hr6 hrb hT h1 h2 h3 hRb hfr hx0 hy0
    gi_wp2
    refine ⟨H1.out, ?_⟩
    have q1 := H2.out.1
    have q2 := H2.out.2
    generalize W.putObj l (.loop rb) = W2 at *
    gi_wp2
    have hfl : ((flen (pre ++ [(k, bd)]) : Nat) : Int) = (flen pre : Int) + ((bd.length : Int) + 8) := by rw [HF.out]; omega
    exact ⟨H3.out.set _ _, ⟨rfl, (H3.out.set _ _).put r, by rw [hfl]; exact (H2.out.set _).put (H3.out.set _ _).1 rfl, put_below (H4.out.setCell (p := ⟨w.heap.size, 0, none⟩) (Nat.le_refl _) _) (by omega) (Nat.le_refl _)⟩⟩
  case after =>
    rintro e W2 ⟨⟨v, rfl⟩, (⟨h1, h2, h3⟩ | ⟨_, _, _, _, hf⟩)⟩
    · refine ⟨⟨_, rfl⟩, .inl ⟨h1, ?_⟩⟩
      have H2 := Lib.hid (h2.put (o' := .loop { r with state := .exhausted }) h1.1 rfl)
      have H3 := Lib.hid (h1.put { r with state := .exhausted })
      have H4 := Lib.hid (put_below (o' := .loop { r with state := .exhausted }) h3 (show w.heap.size ≤ l by omega) (Nat.le_refl _))
      generalize { r with state := .exhausted } = r2 at *
      generalize W2.putObj l (.loop r2) = W3 at *
      have q1 := H2.out.1
      have q2 := H2.out.2
      have hfl := flen_le xs
      have hfe : fer xs = if flen (frs xs) < xs.length then (tak (xs.drop (flen (frs xs)))).2.2.2 else 0 := rfl
      have hTd := H3.out.2
      clear hr1 hr2 hr3 hr4 hr5 hr6 hT h1 h2 h3 hx0 hy0
      obtain ⟨en, hen⟩ : ∃ en, fer xs = en := ⟨_, rfl⟩
      obtain ⟨a, ha⟩ : ∃ a, flen (frs xs) = a := ⟨_, rfl⟩
      rw [ha] at hfl hfe H2 q1
      rw [hen] at hfe
      have HA := Lib.hid ha
      have HE := Lib.hid hen
      clear ha hen
      by_cases hlt : a < xs.length
      · rw [if_pos hlt] at hfe
        obtain ⟨A4, e4, hr4, -⟩ := ct_up' A xs.length c a (by omega) (by omega) (by omega)
        rw [Int.toNat_natCast] at e4 hr4
        have hR4 := Lib.hid (hr4 _ _ rfl (Kd.C_below HC.out H4.out))
        have hi : (a : Int) < (xs.length : Int) := by omega
        have HT := Lib.hid (take_at A4 (xs.length - a) (c - a) (xs.drop a) W3 hR4.out (by omega) (by omega))
        generalize tak (xs.drop a) = tk at *
        obtain ⟨k, bd, m, en2⟩ := tk
        dsimp only at HT hfe
        subst hfe
        clear hr4 hTd
        gi_wp2_with fail
        refine ⟨trivial, (callsIn_wide.2 HT.out).mono ?_⟩
        rintro e w4 ⟨A5, c5, rfl, hc5, hR5, hA5, hB5⟩
        dsimp only at hc5 hR5 ⊢
        have H5 := Lib.hid (H2.out.below hB5)
        have q3 := H5.out.1
        have q4 := H5.out.2
        have hD5 := (H3.out.below hB5)
        have hB6 := below_step H4.out hB5
        clear hR5 hA5
        gi_wp2
        refine ⟨by simp, .inl ⟨_, _, rfl, run_takeDeferred (hD5.set _ _).2, ?_⟩⟩
        have q5 := ((H5.out.set (.int .i64 (a : Int))).put (o' := .deferred none) (hD5.set ⟨w.heap.size, 0, none⟩ (.int .i64 (a : Int))).2 rfl).1
        refine ⟨.tuple #[.int .i64 a, .int .i64 en], by simp [results, Try.results30, go_sem, q5], ?_⟩
        rw [HA.out, HE.out]
        exact ⟨rfl, put_below (hB6.setCell (p := ⟨w.heap.size, 0, none⟩) (Nat.le_refl _) _) hD0 (Nat.le_refl _)⟩
      · rw [if_neg hlt] at hfe
        subst hfe
        have hi : ¬ (a : Int) < (xs.length : Int) := by omega
        have hD5 := H3.out
        clear hTd
        gi_wp2
        refine ⟨by simp, .inl ⟨_, _, rfl, run_takeDeferred (hD5.set _ _).2, ?_⟩⟩
        have q5 := ((H2.out.set (.int .i64 (a : Int))).put (o' := .deferred none) (hD5.set ⟨w.heap.size, 0, none⟩ (.int .i64 (a : Int))).2 rfl).1
        refine ⟨.tuple #[.int .i64 a, .int .i64 0], by simp [results, Try.results30, go_sem, q5], ?_⟩
        rw [HA.out, HE.out]
        exact ⟨rfl, put_below (H4.out.setCell (p := ⟨w.heap.size, 0, none⟩) (Nat.le_refl _) _) hD0 (Nat.le_refl _)⟩
    · exact hf.elim
end Go.Proofs.Ytjbaodmjakeohaa
