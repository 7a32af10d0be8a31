/- FrameRows: the walk. -/
import Derived.Test.YtjbaodmjakeohaaAll
import Derived.Test.YtjbaodmjakeohaaQir
set_option linter.unusedVariables false
set_option linter.unusedSimpArgs false
namespace Go.Proofs.Ytjbaodmjakeohaa
open Go.RowKit Go.Shelf Go.Proofs.YtjbaodmjakeohaaW.PrintWords Cf
attribute [local go_sem] Oper.semAt_some str_beq str_bne

theorem Bx.far {W : World} {b : Nat} {v : Value} (h : Bx W b v) (p : Addr) (u : Value) (hne : b ≠ p.block) : Bx (W.setCell p u) b v :=
  ⟨(World.cell?_of_block (w := W) (a := ⟨b, 0, none⟩) (Below.heap_setCell W p u b hne)).trans h.1, (World.frozen?_of_block (w := W) (a := ⟨b, 0, none⟩) (Below.heap_setCell W p u b hne)).trans h.2⟩
theorem Bx.drewN {W : World} {b : Nat} {v : Value} (h : Bx W b v) (n : Nat) : Bx (W.drewN n) b v := h
theorem Turns.drewN {W : World} {l D : Nat} {r : Loop} (h : Turns W l D r) (n : Nat) : Turns (W.drewN n) l D r := h
theorem nil_func_in (d f : Nat) (lb : Array Value) (W : World) : Sem.run Try.prog (Op.equalIn (d + 1) 54 (.func (.func f) #[] lb) .nilFunc) W = .ok false W := by
  simp [Op.equalIn, run_underlying Try.underlying54]
theorem nil_func (f : Nat) (lb : Array Value) (W : World) : Sem.run Try.prog (binOp BinOp.eql 54 (.func (.func f) #[] lb) .nilFunc) W = .ok (.bool false) W := by
  simp only [binOp]
  simp [Op.equal, Op.maxDepth, nil_func_in 9999 f lb W]

set_option maxRecDepth 100000 in
set_option maxHeartbeats 4000000 in
theorem frameRows_main (A : Option Addr) (c : Nat) (xs : List UInt8) (w : World) (hC : RdB w A xs.length xs) (hc : xs.length ≤ c) (h3 : xs.length ≤ 3000) :
    Calls Try.prog 10 #[.slice A xs.length c] w fun e w' => e = .returned (.bool true) ∧ Below w.heap.size w w' := by
  refine (callsIn_wide (n := 3)).1 ?_
  refine callsIn_of_wp_marks Try.func10 rfl trivial ?_ rfl
  simp only [Try.ntmps10, List.size_toArray, List.length_cons, List.length_nil, Nat.reduceAdd, Nat.reduceSub, Array.replicate_succ, Array.replicate_zero, List.push_toArray, List.append_toArray, List.nil_append, List.cons_append]
  have HC := Lib.hid hC
  have hfl : 8 * (frs xs).length ≤ 3000 := by have := flen_ge (frs xs); have := flen_le xs; omega
  clear hC
  gi_wp2_with fail
  refine ⟨trivial, (callsIn_wide.2 (lives3_walk _)).mono ?_⟩
  rintro e w1 ⟨rfl, hB1⟩
  obtain ⟨Wa, hWa⟩ : ∃ Wa, w.alloc (.cells #[.bool false] 4) = Wa := ⟨_, rfl⟩
  rw [hWa] at hB1
  have hBa : Below w.heap.size w Wa := by rw [← hWa]; exact (Below.refl _ w).alloc (Nat.le_refl _) _
  have hXa : Bx Wa w.heap.size (.bool false) := by rw [← hWa]; exact Bx.new _ _ _
  have hB2 := below_step hBa hB1
  have hX2 := hXa.below hB1
  clear hWa hBa hXa hB1
  gi_wp2_with fail
  refine ⟨trivial, (callsIn_wide.2 (rall_walk _ _ _ _ _ (Kd.C_below HC.out hB2) hc (by omega))).mono ?_⟩
  rintro e w2 ⟨A2, c2, rfl, hR2, hB3⟩
  have hX3 := hX2.below hB3
  have hB4 := below_step hB2 hB3
  have HR2 := Lib.hid (Kd.R_reads' hR2).2.2
  clear hR2 hX2 hB2 hB3
  gi_wp2_with fail
  refine ⟨trivial, (callsIn_wide.2 (each_make _ _ _ _)).mono ?_⟩
  rintro e w3 ⟨rfl, rfl⟩
  have hnf := nil_func
  obtain ⟨W0, hW0⟩ : ∃ W0, ((w2.alloc (.cells #[.slice A2 (frs xs).length c2] 50)).alloc (.cells #[.int .i64 0] 3)).alloc (.cells #[.slice A xs.length c] 25) = W0 := ⟨_, rfl⟩
  have hB0 : Below w2.heap.size w2 W0 := by rw [← hW0]; exact (((Below.refl _ w2).alloc (Nat.le_refl _) _).alloc (by simp) _).alloc (by simp; omega) _
  have hXl : Bx W0 w2.heap.size (.slice A2 (frs xs).length c2) := by rw [← hW0]; exact ((Bx.new _ _ _).alloc _).alloc _
  have hXn : Bx W0 (w2.heap.size + 1) (.int .i64 0) := by
    rw [← hW0]
    have := Bx.new (w2.alloc (.cells #[.slice A2 (frs xs).length c2] 50)) (.int .i64 0) 3
    rw [World.size_alloc] at this
    exact this.alloc _
  have hXb : Bx W0 (w2.heap.size + 1 + 1) (.slice A xs.length c) := by
    rw [← hW0]
    have := Bx.new ((w2.alloc (.cells #[.slice A2 (frs xs).length c2] 50)).alloc (.cells #[.int .i64 0] 3)) (.slice A xs.length c) 25
    rw [World.size_alloc, World.size_alloc] at this
    exact this
  rw [hW0]
  clear hW0
  have hXl := Lib.hid hXl
  have hXn := Lib.hid hXn
  have hXb := Lib.hid hXb
  have hX3 := Lib.hid hX3
  gi_wp2_with fail
  clear hnf
  refine turn_range rfl (enters_of Try.func34 (by kernel_rfl) rfl) ?_
  intro l D r W1 hD hDl hr1 hr2 hr3 hr4 hr5 hr6 hT hB1
  have hD0 : w2.heap.size ≤ D := Nat.le_trans hB0.size hD
  refine (each_walk l (w2.heap.size + 1 + 1) A c xs hc (by omega)
    (fun pre W => Turns W l D r ∧ Bx W w2.heap.size (.slice A2 (frs xs).length c2) ∧ Bx W (w2.heap.size + 1) (.int .i64 (pre.length : Nat)) ∧ Below w2.heap.size w2 W)
    (fun _ _ => False) ?hJR ?hJB ?hY W1 (hXb.out.below hB1).1 ?h0).mono ?after
  case hJR => exact fun pre W h => Kd.C_below (Kd.C_below HC.out hB4) h.2.2.2
  case hJB => exact fun pre W W' h hB => ⟨h.1.below hB, h.2.1.below hB, h.2.2.1.below hB, below_step h.2.2.2 hB⟩
  case h0 => exact ⟨hT, hXl.out.below hB1, hXn.out.below hB1, below_step hB0 hB1⟩
  case hY =>
    rintro pre k bd A' c' rest W ⟨h1, h2, h3, h4⟩ hRb hcb hfr
    refine turn_yield h1 hr1 hr2 hr3 hr4 hr5 hr6 rfl ?_
    intro rb hrb
    have H1 := Lib.hid h1
    have H2 := Lib.hid (h2.put (o' := .loop rb) h1.1 rfl)
    have H3 := Lib.hid (h3.put (o' := .loop rb) h1.1 rfl)
    have H4 := Lib.hid (h1.put rb)
    have H5 := Lib.hid (put_below (o' := .loop rb) h4 (show w2.heap.size ≤ l by omega) (Nat.le_refl _))
    have H6 := Lib.hid (hRb.keep (W' := W.putObj l (.loop rb)) (fun a v => put_cell h1.1))
    have hlen : pre.length < (frs xs).length := by rw [hfr]; simp
    have hget : (frs xs)[pre.length] = (k, bd) := by simp [hfr]
    have HG := Lib.hid hget
    clear hr1 hr2 hr3 hr4 hr5 hr6 hrb hT h1 h2 h3 h4 hRb hfr hget
    gi_wp2
    refine ⟨H1.out, ?_⟩
    generalize W.putObj l (.loop rb) = W2 at *
    obtain ⟨b, off, hA2, k0, k1⟩ := KF_at (Kd.C_below HR2.out H5.out) pre.length hlen
    rw [HG.out] at k0 k1
    subst hA2
    have n0 := H3.out.1
    have n1 := H3.out.2
    have l0 := H2.out.1
    have s0 := fun n => conv_str (c := c') (Kd.C_drewN H6.out n)
    have hlt : decide ((frs xs).length ≤ pre.length) = false := by simp; omega
    have hli : (pre.length : Int) < ((frs xs).length : Int) := by omega
    have hzl : pre.length ≤ 3000 := by omega
    gi_wp2
    have k2 : W2.cell? ⟨b, off + pre.length * 2 + 1, none⟩ = _ := k1
    refine turn_region_quiet rfl (by kernel_rfl) (by kernel_rfl) (by kernel_rfl) ?_
    repeat (gi_big_quiet_step (fail))
    refine wpQuietIn_nil ?_
    intro _ hw'
    obtain ⟨nq, hw''⟩ := hw'
    subst hw''
    have n0' : (W2.drewN nq).cell? ⟨w2.heap.size + 1, 0, none⟩ = _ := n0
    have n1' : (W2.drewN nq).frozen? ⟨w2.heap.size + 1, 0, none⟩ = _ := n1
    gi_wp2
    have hpl : (((pre ++ [(k, bd)]).length : Nat) : Int) = (pre.length : Int) + 1 := by simp
    have hT9 := (H4.out.drewN nq).set ⟨w2.heap.size + 1, 0, none⟩ (.int .i64 ((pre.length : Int) + 1))
    exact ⟨hT9, .inl ⟨rfl, hT9.put r, ((H2.out.drewN nq).far _ _ (by simp)).put hT9.1 rfl, by rw [hpl]; exact ((H3.out.drewN nq).set _).put hT9.1 rfl, put_below ((pw_below_drewN H5.out nq).setCell (p := ⟨w2.heap.size + 1, 0, none⟩) (by simp) _) (by omega) (Nat.le_refl _)⟩⟩
  case after =>
    rintro e W2 ⟨⟨v, rfl⟩, (⟨h1, h2, h3, h4⟩ | ⟨_, _, _, _, hf⟩)⟩
    · refine ⟨⟨_, rfl⟩, .inl ⟨h1, ?_⟩⟩
      have H2 := Lib.hid (h2.put (o' := .loop { r with state := .exhausted }) h1.1 rfl)
      have H3 := Lib.hid (h3.put (o' := .loop { r with state := .exhausted }) h1.1 rfl)
      have H4 := Lib.hid (h1.put { r with state := .exhausted })
      have H5 := Lib.hid (put_below (o' := .loop { r with state := .exhausted }) h4 (show w2.heap.size ≤ l by omega) (Nat.le_refl _))
      generalize { r with state := .exhausted } = r2 at *
      generalize W2.putObj l (.loop r2) = W3 at *
      have hB5 := below_step hB4 H5.out
      clear hr1 hr2 hr3 hr4 hr5 hr6 hT h1 h2 h3 h4
      gi_wp2_with fail
      refine ⟨trivial, (callsIn_wide.2 (end_walk _ _ _ _ _ (Kd.C_below HC.out hB5) hc (by omega))).mono ?_⟩
      rintro e w4 ⟨rfl, hB6⟩
      have hX4 := (hX3.out.below H5.out).below hB6
      have hB7 := below_step hB5 hB6
      have H6 := Lib.hid (H4.out.below hB6)
      have n0 := (H3.out.below hB6).1
      have l0 := (H2.out.below hB6).1
      have r0 := hX4.1
      have r1 := hX4.2
      have HX := Lib.hid hX4
      clear hX4 hB6
      gi_wp2
      refine ⟨by simp, .inl ⟨_, _, rfl, run_takeDeferred (H6.out.set _ _).2, ?_⟩⟩
      have q5 := ((HX.out.set (.bool true)).put (o' := .deferred none) (H6.out.set ⟨w.heap.size, 0, none⟩ (.bool true)).2 rfl).1
      refine ⟨.bool true, by simp [results, Try.results10, go_sem, q5], rfl, ?_⟩
      exact put_below (hB7.setCell (p := ⟨w.heap.size, 0, none⟩) (Nat.le_refl _) _) (by have := hB4.size; omega) (Nat.le_refl _)
    · exact hf.elim

set_option maxHeartbeats 2000000 in
theorem frameRows_law (A : Option Addr) (c : Nat) (xs : List UInt8) (w : World) (hC : RdB w A xs.length xs) (hc : xs.length ≤ c) (_ : True) :
    Calls Try.prog 10 #[.slice A xs.length c] w fun e w' => e = .returned (.bool true) ∧ Below w.heap.size w w' := by
  by_cases h3 : 3000 < xs.length
  · clear hC
    have hX := Bx.new w (.bool false) 4
    have hB : Below w.heap.size w (w.alloc (.cells #[.bool false] 4)) := (Below.refl _ w).alloc (Nat.le_refl _) _
    have HX := Lib.hid hX
    clear hX
    go_enter Try.func10, Try.ntmps10
    go_wp2_with fail
    generalize w.alloc (.cells #[.bool false] 4) = W at *
    refine (lives3_walk _).mono ?_
    rintro e w1 ⟨rfl, hB1⟩
    have hX1 := HX.out.below hB1
    have q1 := hX1.1
    have q2 := hX1.2
    go_wp2
    have q3 := (hX1.set (.bool true)).1
    refine bodyPost_ret (v := .bool true) (by simp [results, Try.results10, go_sem, q3]) rfl ?_
    exact ⟨rfl, (below_step hB hB1).setCell (p := ⟨w.heap.size, 0, none⟩) (Nat.le_refl _) _⟩
  exact frameRows_main A c xs w hC hc (by omega)
end Go.Proofs.Ytjbaodmjakeohaa
