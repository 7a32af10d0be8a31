/- segment.Read. -/
import Derived.Test.YtakneimkadjiiaaEch
import Derived.Test.YtakneimkadjiiaaErs
import Derived.Test.YtakneimkadjiiaaLin
import Derived.Scope
set_option linter.unusedVariables false
set_option linter.unusedSimpArgs false
namespace Go.Proofs.Ytakneimkadjiiaa
open Go.RowKit Go.Shelf Go.Proofs.YtakneimkadjiiaaW.PrintWords Cf
attribute [local go_sem] Oper.semAt_some str_beq str_bne

theorem Bx.far {W : World} {b : Nat} {v : Value} (h : Bx W b v) (p : Addr) (u : Value) (hne : b ≠ p.block) : Bx (W.setCell p u) b v :=
  ⟨(World.cell?_of_block (w := W) (a := ⟨b, 0, none⟩) (Below.heap_setCell W p u b hne)).trans h.1, (World.frozen?_of_block (w := W) (a := ⟨b, 0, none⟩) (Below.heap_setCell W p u b hne)).trans h.2⟩
theorem Bx.drewN {W : World} {b : Nat} {v : Value} (h : Bx W b v) (n : Nat) : Bx (W.drewN n) b v := h
theorem Bx.grown {W W' : World} {b : Nat} {v : Value} {row : Option Nat} (h : Bx W b v) (hg : W.grownBy W' row) (hne : some b ≠ row) : Bx W' b v :=
  ⟨(World.cell?_of_block (w := W) (a := ⟨b, 0, none⟩) (hg.block b (World.block_lt_of_cell? W ⟨b, 0, none⟩ h.1) hne)).trans h.1, (World.frozen?_of_block (w := W) (a := ⟨b, 0, none⟩) (hg.block b (World.block_lt_of_cell? W ⟨b, 0, none⟩ h.1) hne)).trans h.2⟩
theorem Turns.drewN {W : World} {l D : Nat} {r : Loop} (h : Turns W l D r) (n : Nat) : Turns (W.drewN n) l D r := h
theorem nil_func_in (d f : Nat) (lb : Array Value) (W : World) : Sem.run Try.prog (Op.equalIn (d + 1) 52 (.func (.func f) #[] lb) .nilFunc) W = .ok false W := by
  simp [Op.equalIn, run_underlying Try.underlying52]
theorem nil_func (f : Nat) (lb : Array Value) (W : World) : Sem.run Try.prog (binOp BinOp.eql 52 (.func (.func f) #[] lb) .nilFunc) W = .ok (.bool false) W := by
  simp only [binOp]
  simp [Op.equal, Op.maxDepth, nil_func_in 9999 f lb W]
theorem line_at (z : Int) (i : Nat) (k : UInt8) (A : Option Addr) (n c : Nat) (xs : List UInt8) (w : World) (hz : z = (i : Int)) (hC : RdB w A n xs) (hc : n ≤ c) (hi : i < 18446744073709551616) :
    Calls Try.prog 27 #[.int .u8 k.toNat, .slice A n c, .int .u64 z] w fun e w' => ∃ A' c', e = .returned (.tuple #[entV (linP xs).2.1 A' c', .bool (linB k xs i)]) ∧ (linP xs).2.1.data.length ≤ c' ∧ RdB w' A' (linP xs).2.1.data.length (linP xs).2.1.data ∧ (∀ ad, A' = some ad → w.heap.size ≤ ad.block) ∧ Below w.heap.size w w' := by
  subst hz
  exact line_walk k i A n c xs w hC hc hi
/-- The three named results. -/
def Sb (W : World) (b : Nat) (t : Seg) : Prop := Bx W b (.int .u64 (t.first : Nat)) ∧ (∃ v, Bx W (b + 1) v ∧ EntR W (b + 3) v t.l) ∧ Bx W (b + 2) (.int .i64 (t.good : Nat))
theorem Sb.below {W W' : World} {b : Nat} {t : Seg} (h : Sb W b t) (hB : Below W.heap.size W W') : Sb W' b t :=
  ⟨h.1.below hB, by obtain ⟨v, h1, h2⟩ := h.2.1; exact ⟨v, h1.below hB, h2.below hB⟩, h.2.2.below hB⟩

theorem EntR.put {W : World} {base l : Nat} {v : Value} {es : List Ent} {o o' : Obj} (h : EntR W base v es) (hl : W.heap[l]? = some o) (ho : o.isCells = false) : EntR (W.putObj l o') base v es := by
  obtain ⟨ts, h1, h2, h3⟩ := h
  have hg := grownBy_putObj' W l o'
  refine ⟨ts, Kd.R_mono (Kd.R_grown (Kd.R_bound h1) hg (fun k hk e => ?_)) (fun _ _ => trivial), h2, fun i t e ht he => ?_⟩
  · obtain ⟨_, _, _, q, _, cells, hc⟩ := hk
    injection e with e
    subst e
    rw [hl] at hc
    injection hc with hc
    subst hc
    cases ho
  · obtain ⟨h4, h5⟩ := h3 i t e ht he
    exact ⟨⟨h4.1, h4.2.1, h4.2.2.1, h4.2.2.2.1, h4.2.2.2.2.keep (fun a v hc => cell_kept hc hg (fun k e => by cases e; exact ⟨_, hl, ho⟩))⟩, h5⟩
theorem Sb.put {W : World} {b l : Nat} {t : Seg} {o o' : Obj} (h : Sb W b t) (hl : W.heap[l]? = some o) (ho : o.isCells = false) : Sb (W.putObj l o') b t :=
  ⟨h.1.put hl ho, by obtain ⟨v, h1, h2⟩ := h.2.1; exact ⟨v, h1.put hl ho, h2.put hl ho⟩, h.2.2.put hl ho⟩
theorem Sb.set0 {W : World} {b : Nat} {t : Seg} (h : Sb W b t) (n : Nat) : Sb (W.setCell ⟨b, 0, none⟩ (.int .u64 n)) b ⟨n, t.l, t.good⟩ :=
  ⟨h.1.set _, by obtain ⟨v, h1, h2⟩ := h.2.1; exact ⟨v, h1.far _ _ (by simp), h2.far (by simp) _⟩, h.2.2.far _ _ (by simp)⟩
theorem Sb.set2 {W : World} {b : Nat} {t : Seg} (h : Sb W b t) (n : Nat) : Sb (W.setCell ⟨b + 2, 0, none⟩ (.int .i64 n)) b ⟨t.first, t.l, n⟩ :=
  ⟨h.1.far _ _ (by simp), by obtain ⟨v, h1, h2⟩ := h.2.1; exact ⟨v, h1.far _ _ (by simp), h2.far (by simp) _⟩, h.2.2.set _⟩

set_option maxRecDepth 100000 in
set_option maxHeartbeats 4000000 in
theorem segread_walk (A : Option Addr) (c : Nat) (xs : List UInt8) (w : World) (hC : RdB w A xs.length xs) (hc : xs.length ≤ c) (h3 : xs.length ≤ 1000000000) :
    Calls Try.prog 8 #[.slice A xs.length c] w fun e w' => ∃ A' c', e = .returned (.tuple #[.int .u64 ((segOf xs).first : Nat), .slice A' (segOf xs).l.length c', .int .i64 ((segOf xs).good : Nat)]) ∧ EntR w' w.heap.size (.slice A' (segOf xs).l.length c') (segOf xs).l ∧ Below w.heap.size w w' := by
  refine (callsIn_wide (n := 3)).1 ?_
  refine callsIn_of_wp_marks Try.func8 rfl trivial ?_ rfl
  simp only [Try.ntmps8, List.size_toArray, List.length_cons, List.length_nil, Nat.reduceAdd, Nat.reduceSub, Array.replicate_succ, Array.replicate_zero, List.push_toArray, List.append_toArray, List.nil_append, List.cons_append]
  have HC := Lib.hid hC
  clear hC
  gi_wp2_with fail
  refine (wpIn_wide (n := 3)).2 (wp_scope_straight ((wpIn_wide (n := 3)).1 ?_))
  refine wpIn_seq (wpIn_label ?_)
  show Code.wpIn _ _ _ _ _ _ _
  gi_wp2_with fail
  refine ⟨trivial, (callsIn_wide.2 (each_make _ _ _ _)).mono ?_⟩
  rintro e w3 ⟨rfl, rfl⟩
  have hnf := nil_func
  obtain ⟨W0, hW0⟩ : ∃ W0, (((w.alloc (.cells #[.int .u64 0] 24)).alloc (.cells #[.slice none 0 0] 25)).alloc (.cells #[.int .i64 0] 3)).alloc (.cells #[.slice A xs.length c] 22) = W0 := ⟨_, rfl⟩
  have hB0 : Below w.heap.size w W0 := by rw [← hW0]; exact ((((Below.refl _ w).alloc (Nat.le_refl _) _).alloc (by simp) _).alloc (by simp; omega) _).alloc (by simp; omega) _
  have hSb : Sb W0 w.heap.size seg0 := by
    rw [← hW0]
    have x0 := Bx.new w (.int .u64 0) 24
    have x1 := Bx.new (w.alloc (.cells #[.int .u64 0] 24)) (.slice none 0 0) 25
    have x2 := Bx.new ((w.alloc (.cells #[.int .u64 0] 24)).alloc (.cells #[.slice none 0 0] 25)) (.int .i64 0) 3
    rw [World.size_alloc] at x1
    rw [World.size_alloc, World.size_alloc] at x2
    exact ⟨((x0.alloc _).alloc _).alloc _, ⟨_, (x1.alloc _).alloc _, EntR.nil _ _⟩, x2.alloc _⟩
  have hXb : Bx W0 (w.heap.size + 3) (.slice A xs.length c) := by
    rw [← hW0]
    have := Bx.new (((w.alloc (.cells #[.int .u64 0] 24)).alloc (.cells #[.slice none 0 0] 25)).alloc (.cells #[.int .i64 0] 3)) (.slice A xs.length c) 22
    rw [World.size_alloc, World.size_alloc, World.size_alloc] at this
    exact this
  rw [hW0]
  clear hW0
  have HSb := Lib.hid hSb
  have HXb := Lib.hid hXb
  have HB0 := Lib.hid hB0
  clear hSb hXb hB0
  gi_wp2_with fail
  clear hnf
  refine turn_range rfl (enters_of Try.func45 (by kernel_rfl) rfl) ?_
  intro l D r W1 hD hDl hr1 hr2 hr3 hr4 hr5 hr6 hT hB1
  have hD0 : w.heap.size ≤ D := Nat.le_trans HB0.out.size hD
  refine (each_walk l (w.heap.size + 3) A c xs hc (by omega)
    (fun pre W => ∃ t, segRun seg0 pre = some t ∧ Turns W l D r ∧ Sb W w.heap.size t ∧ Below w.heap.size w W)
    (fun q W => ∃ pre x t, q = pre ++ [x] ∧ segRun seg0 pre = some t ∧ segStep t x = none ∧ Turns W l D { r with state := .done, pending := some (.exit 0) } ∧ Sb W w.heap.size t ∧ Below w.heap.size w W) ?hJR ?hJB ?hY W1 (HXb.out.below hB1).1 ?h0).mono ?after
  case hJR =>
    rintro pre W ⟨t, h1, h2, h3, h4⟩
    exact Kd.C_below HC.out h4
  case hJB =>
    rintro pre W W' ⟨t, h1, h2, h3, h4⟩ hB
    exact ⟨t, h1, h2.below hB, h3.below hB, below_step h4 hB⟩
  case h0 => exact ⟨seg0, rfl, hT, HSb.out.below hB1, below_step HB0.out hB1⟩
  case hY =>
    rintro pre k bd A' c' rest W ⟨t, h0, h1, h2, h3⟩ hRb hcb hfr
    refine turn_yield h1 hr1 hr2 hr3 hr4 hr5 hr6 rfl ?_
    intro rb hrb
    have H1 := Lib.hid h1
    have H4 := Lib.hid (h1.put rb)
    have H5 := Lib.hid (put_below (o' := .loop rb) h3 (show w.heap.size ≤ l by omega) (Nat.le_refl _))
    have H6 := Lib.hid (hRb.keep (W' := W.putObj l (.loop rb)) (fun a v => put_cell h1.1))
    have H7 := Lib.hid (h2.put (o' := .loop rb) h1.1 rfl)
    have hinv := segRun_inv h0 (Nat.zero_le _) (Nat.le_refl _)
    have hgo := onto_pre hfr
    dsimp only at hgo
    have hgd : t.good + (bd.length + 8) ≤ 1000000000 := by have := hinv.2.2; simp only [seg0] at this; omega
    have hfl : t.first ≤ 1152921504606846976 := hinv.1
    have hll : 8 * t.l.length ≤ t.good := hinv.2.1
    have H0 := Lib.hid h0
    have Hr := Lib.hid hr1
    clear hr1 hr2 hr3 hr4 hr5 hr6 hrb hT h0 h1 h2 h3 hRb hfr hgo hinv HXb HSb HB0
    gi_wp2
    refine ⟨H1.out, ?_⟩
    generalize W.putObj l (.loop rb) = W2 at *
    obtain ⟨⟨p0, p1⟩, ⟨v, ⟨p2, p3⟩, hE⟩, ⟨p4, p5⟩⟩ := H7.out
    have HE := Lib.hid hE
    clear hE
    by_cases hf0 : t.first = 0
    · rw [hf0] at p0
      have HF := Lib.hid hf0
      have hst : segStep t (k, bd) = if hedN k bd = 0 then none else some ⟨hedN k bd, t.l, t.good + (bd.length + 8)⟩ := by unfold segStep; rw [if_pos hf0]
      have HST := Lib.hid hst
      have HD := Lib.hid (seghead_walk k A' bd.length c' bd W2 H6.out hcb)
      clear hf0 hst
      generalize hedN k bd = m at *
      gi_wp2_with fail
      refine ⟨trivial, (CallsIn.inRound l (callsIn_wide.2 HD.out)).mono ?_⟩
      rintro e w4 ⟨rfl, hB4⟩
      have H8 := Lib.hid (H7.out.below hB4)
      have H9 := Lib.hid (H4.out.below hB4)
      have H10 := Lib.hid (below_step H5.out hB4)
      obtain ⟨⟨q0, q1⟩, ⟨v4, ⟨q2, q3⟩, hE4⟩, ⟨q4, q5⟩⟩ := H8.out
      clear hE4 hB4 p0 p1 p2 p3 p4 p5 HE
      by_cases hm : m = 0
      · subst hm
        gi_wp2
        have hT9 := H9.out.set ⟨w.heap.size, 0, none⟩ (.int .u64 (0 : Nat))
        have hS9 := H8.out.set0 0
        rw [show (⟨0, t.l, t.good⟩ : Seg) = t by rw [← HF.out]] at hS9
        exact ⟨hT9, .inr ⟨rfl, pre, (k, bd), t, rfl, H0.out, by rw [HST.out]; simp, hT9.put _, hS9.put hT9.1 rfl, put_below (H10.out.setCell (p := ⟨w.heap.size, 0, none⟩) (Nat.le_refl _) _) (by omega) (Nat.le_refl _)⟩⟩
      · have hmi : ((m : Int) == 0) = false := by rw [beq_eq_false_iff_ne]; omega
        gi_wp2
        have hS9 := (H8.out.set0 m).set2 (t.good + (bd.length + 8))
        have hT9 := (H9.out.set ⟨w.heap.size, 0, none⟩ (.int .u64 m)).set ⟨w.heap.size + 2, 0, none⟩ (.int .i64 ((t.good + (bd.length + 8) : Nat) : Int))
        have hB9 := (H10.out.setCell (p := ⟨w.heap.size, 0, none⟩) (Nat.le_refl _) (.int .u64 m)).setCell (p := ⟨w.heap.size + 2, 0, none⟩) (by simp) (.int .i64 ((t.good + (bd.length + 8) : Nat) : Int))
        rw [show ((t.good + (bd.length + 8) : Nat) : Int) = (t.good : Int) + ((bd.length : Int) + 8) by omega] at hS9 hT9 hB9
        exact ⟨hT9, .inl ⟨rfl, _, (segRun_snoc H0.out (k, bd)).trans (by rw [HST.out, if_neg hm]), hT9.put r, hS9.put hT9.1 rfl, put_below hB9 (by omega) (Nat.le_refl _)⟩⟩
    · have hfi : ((t.first : Int) == 0) = false := by rw [beq_eq_false_iff_ne]; omega
      have hst : segStep t (k, bd) = if linB k bd (t.first + t.l.length) = true then some ⟨t.first, t.l ++ [(linP bd).2.1], t.good + (bd.length + 8)⟩ else none := by unfold segStep; rw [if_neg hf0]
      have HST := Lib.hid hst
      have HD := Lib.hid (line_at ((t.first : Int) + (t.l.length : Int)) (t.first + t.l.length) k A' bd.length c' bd W2 (by omega) H6.out hcb (by omega))
      obtain ⟨Al, cl, rfl⟩ := HE.out.slice
      clear hst
      generalize (linP bd).2.1 = en at *
      generalize linB k bd (t.first + t.l.length) = ok at *
      have hz2 : w.heap.size + 3 ≤ W2.heap.size := by have := World.block_lt_of_cell? W2 ⟨w.heap.size + 2, 0, none⟩ p4; simp only at this; omega
      have HLT := Lib.hid (fun k (hk : (Value.slice Al t.l.length cl).ownBlock = some k) => HE.out.lt k hk)
      gi_wp2_with fail
      refine ⟨trivial, (CallsIn.inRound l (callsIn_wide.2 HD.out)).mono ?_⟩
      rintro e w5 ⟨A5, c5, rfl, hc5, hR5, hA5, hB5⟩
      have HE5 := Lib.hid (HE.out.below hB5)
      have HS5 := Lib.hid (H7.out.below hB5)
      have HT5 := Lib.hid (H4.out.below hB5)
      have HB5 := Lib.hid (below_step H5.out hB5)
      have HR5 := Lib.hid hR5
      have HA5 := Lib.hid (fun hp : 0 < en.data.length => fun ad (e : A5 = some ad) => (⟨Nat.le_trans hz2 (hA5 ad e), fun e2 => Nat.lt_irrefl _ (Nat.lt_of_lt_of_le (HLT.out _ e2.symm) (hA5 ad e))⟩ : w.heap.size + 3 ≤ ad.block ∧ some ad.block ≠ (Value.slice Al t.l.length cl).ownBlock))
      have h51 := (show Bx W2 (w.heap.size + 1) _ from ⟨p2, p3⟩).below hB5
      have H51 := Lib.hid h51
      obtain ⟨s0, s1⟩ := HS5.out.1.alloc (.cells #[.int .u64 en.term, .int .i64 en.kind, .slice A5 en.data.length c5] 38)
      obtain ⟨s2, s3⟩ := h51.alloc (.cells #[.int .u64 en.term, .int .i64 en.kind, .slice A5 en.data.length c5] 38)
      clear h51
      clear hR5 hA5 hB5 p0 p1 p2 p3 p4 p5 HE
      cases ok with
      | false =>
        gi_wp2
        have hT9 := HT5.out.alloc (.cells #[.int .u64 en.term, .int .i64 en.kind, .slice A5 en.data.length c5] 38)
        exact ⟨hT9, .inr ⟨rfl, pre, (k, bd), t, rfl, H0.out, by rw [HST.out]; simp, hT9.put _, (HS5.out.below (below_alloc (Below.refl _ _) _)).put hT9.1 rfl, put_below (HB5.out.alloc HB5.out.size _) (by omega) (Nat.le_refl _)⟩⟩
      | true =>
        gi_wp2_with (gi_at_builtin; refine ent_append_in (w0 := w5.alloc (.cells #[.int .u64 en.term, .int .i64 en.kind, .slice A5 en.data.length c5] 38)) (w.heap.size + 3) rfl (Operand.tmp 33) (Operand.tmp 35) rfl _ t.l en A5 c5 rfl ?hx ?c1 ?c2 hc5 HA5.out ?c3 ?c4 (by omega) ?_)
        case hx =>
          show Value.slice (some ⟨w5.heap.size + 1, 0, none⟩) 1 1 = _
          rw [World.size_alloc]
        case c1 => exact HE5.out.below (below_alloc (Below.refl _ _) _)
        case c2 => exact Kd.C_alloc HR5.out _
        case c3 => exact Below.refl _ _
        case c4 => rw [World.size_alloc]; have := HB5.out.size; have := World.block_lt_of_cell? w5 ⟨w.heap.size + 2, 0, none⟩ HS5.out.2.2.1; simp only at this; omega
        intro v1 w1 hE1 hB1' hg1
        obtain ⟨A1, c1, rfl⟩ := hE1.slice
        obtain ⟨n1, hn1⟩ : ∃ n1, (t.l ++ [en]).length = n1 := ⟨_, rfl⟩
        rw [hn1] at hE1 ⊢
        clear hn1
        have hob : ∀ k, (Value.slice Al t.l.length cl).ownBlock = some k → w.heap.size + 3 ≤ k := by
          obtain ⟨ts, h1, _⟩ := HE5.out
          exact Kd.R_base h1
        have x0 := (HS5.out.1.alloc (.cells #[.int .u64 en.term, .int .i64 en.kind, .slice A5 en.data.length c5] 38)).grown hg1 (fun e => by have := hob _ e.symm; omega)
        have x1 := (H51.out.alloc (.cells #[.int .u64 en.term, .int .i64 en.kind, .slice A5 en.data.length c5] 38)).grown hg1 (fun e => by have := hob _ e.symm; omega)
        have x2 := (HS5.out.2.2.alloc (.cells #[.int .u64 en.term, .int .i64 en.kind, .slice A5 en.data.length c5] 38)).grown hg1 (fun e => by have := hob _ e.symm; omega)
        have hB6 := (HB5.out.alloc HB5.out.size (.cells #[.int .u64 en.term, .int .i64 en.kind, .slice A5 en.data.length c5] 38)).grown hg1 (by rw [World.size_alloc]; have := HB5.out.size; omega) (fun k e => by have := hob _ e; omega)
        have hT6 : Turns w1 l D rb := by
          have h := HT5.out.alloc (.cells #[.int .u64 en.term, .int .i64 en.kind, .slice A5 en.data.length c5] 38)
          have hty : ∀ k, (Value.slice Al t.l.length cl).ownBlock = some k → ∃ cells, (w5.alloc (.cells #[.int .u64 en.term, .int .i64 en.kind, .slice A5 en.data.length c5] 38)).heap[k]? = some (.cells cells 38 (0, 0)) := by
            obtain ⟨ts, h1, _⟩ := HE5.out
            exact Kd.R_typed (Kd.R_below h1 (below_alloc (Below.refl _ _) _))
          refine ⟨(hg1.block l (Array.getElem?_eq_some_iff.1 h.1).1 (fun e => ?_)).trans h.1, (hg1.block D (Array.getElem?_eq_some_iff.1 h.2).1 (fun e => ?_)).trans h.2⟩
          · obtain ⟨cells, hc⟩ := hty _ e.symm
            rw [h.1] at hc
            cases hc
          · obtain ⟨cells, hc⟩ := hty _ e.symm
            rw [h.2] at hc
            cases hc
        have X0 := Lib.hid x0
        have HB6 := Lib.hid hB6
        have HE6 := Lib.hid hE1
        have HT6 := Lib.hid hT6
        have X2 := Lib.hid x2
        have X1 := Lib.hid x1
        obtain ⟨y0, y1⟩ := x1
        obtain ⟨y2, y3⟩ := x2
        clear hE1 hB1' hg1 hob x0 hB6 hT6 s0 s1 s2 s3
        gi_wp2
        have hS9 : Sb ((w1.setCell ⟨w.heap.size + 1, 0, none⟩ (.slice A1 n1 c1)).setCell ⟨w.heap.size + 2, 0, none⟩ (.int .i64 ((t.good + (bd.length + 8) : Nat) : Int))) w.heap.size ⟨t.first, t.l ++ [en], t.good + (bd.length + 8)⟩ :=
          ⟨(X0.out.far _ _ (by simp)).far _ _ (by simp), ⟨_, (X1.out.set _).far _ _ (by simp), (HE6.out.far (by simp) _).far (by simp) _⟩, (X2.out.far _ _ (by simp)).set _⟩
        have hT9 := (HT6.out.set ⟨w.heap.size + 1, 0, none⟩ (.slice A1 n1 c1)).set ⟨w.heap.size + 2, 0, none⟩ (.int .i64 ((t.good + (bd.length + 8) : Nat) : Int))
        have hB9 := (HB6.out.setCell (p := ⟨w.heap.size + 1, 0, none⟩) (by simp) (.slice A1 n1 c1)).setCell (p := ⟨w.heap.size + 2, 0, none⟩) (by simp) (.int .i64 ((t.good + (bd.length + 8) : Nat) : Int))
        rw [show ((t.good + (bd.length + 8) : Nat) : Int) = (t.good : Int) + ((bd.length : Int) + 8) by omega] at hS9 hT9 hB9
        exact ⟨hT9, .inl ⟨rfl, _, (segRun_snoc H0.out (k, bd)).trans (by rw [HST.out]; simp), hT9.put r, hS9.put hT9.1 rfl, put_below hB9 (by omega) (Nat.le_refl _)⟩⟩
  case after =>
    rintro e W2 ⟨⟨v, rfl⟩, hJ⟩
    obtain ⟨t, W3, r2, ht, H3, H4, H5, hgoal⟩ : ∃ t W3 r2, t = segOf xs ∧ Hid (Sb W3 w.heap.size t) ∧ Hid (Turns W3 l D r2) ∧ Hid (Below w.heap.size w W3) ∧ ((Turns W2 l D r ∧ W3 = W2.putObj l (.loop { r with state := .exhausted })) ∨ (Turns W2 l D { r with state := .done, pending := some (.exit 0) } ∧ W3 = W2.putObj l (.loop { r with pending := some (.exit 0), state := .exhausted }))) := by
      rcases hJ with ⟨t, h0, h1, h2, h3⟩ | ⟨pre, x, rest, hfr, pre', x', t, hq, h0, hx, h1, h2, h3⟩
      · exact ⟨t, _, _, (segGo_end h0).symm, Lib.hid (h2.put h1.1 rfl), Lib.hid (h1.put _), Lib.hid (put_below h3 (by omega) (Nat.le_refl _)), .inl ⟨h1, rfl⟩⟩
      · have hp := List.append_inj' hq rfl
        obtain ⟨rfl, hxx⟩ := hp
        simp only [List.cons.injEq, and_true] at hxx
        subst hxx
        exact ⟨t, _, _, by rw [segOf, hfr]; exact (segGo_stop h0 hx rest).symm, Lib.hid (h2.put h1.1 rfl), Lib.hid (h1.put _), Lib.hid (put_below h3 (by omega) (Nat.le_refl _)), .inr ⟨h1, rfl⟩⟩

    have HT := Lib.hid ht
    clear hr1 hr2 hr3 hr4 hr5 hr6 hT ht hJ HXb HSb HB0
    obtain ⟨⟨p0, p1⟩, ⟨v, ⟨p2, p3⟩, hE⟩, ⟨p4, p5⟩⟩ := H3.out
    obtain ⟨A1, c1, rfl⟩ := hE.slice
    have HE := Lib.hid hE
    clear hE
    rcases hgoal with ⟨h1, rfl⟩ | ⟨h1, rfl⟩
    case' inl =>
      refine ⟨⟨_, rfl⟩, .inl ⟨h1, ?_⟩⟩
      clear h1
      generalize W2.putObj l (.loop { r with state := .exhausted }) = W3 at *
    case' inr =>
      refine ⟨⟨_, rfl⟩, .inr ⟨.exit 0, h1, ?_⟩⟩
      clear h1
      generalize W2.putObj l (.loop { r with pending := some (.exit 0), state := .exhausted }) = W3 at *
    all_goals
      gi_wp2
      gi_region
      gi_wp2
      have S9 : Sb (((W3.setCell ⟨w.heap.size, 0, none⟩ (.int .u64 t.first)).setCell ⟨w.heap.size + 1, 0, none⟩ (.slice A1 t.l.length c1)).setCell ⟨w.heap.size + 1 + 1, 0, none⟩ (.int .i64 t.good)).drew w.heap.size t := by
        refine Sb.below ?_ (below_drew (Below.refl _ _))
        exact ⟨((H3.out.1.set _).far _ _ (by simp)).far _ _ (by simp only; omega), ⟨_, (((show Bx W3 (w.heap.size + 1) _ from ⟨p2, p3⟩).far _ _ (by simp)).set _).far _ _ (by simp), ((HE.out.far (by simp) _).far (by simp) _).far (by simp) _⟩, ((H3.out.2.2.far _ _ (by simp)).far _ _ (by simp)).set _⟩
      have T9 : Turns (((W3.setCell ⟨w.heap.size, 0, none⟩ (.int .u64 t.first)).setCell ⟨w.heap.size + 1, 0, none⟩ (.slice A1 t.l.length c1)).setCell ⟨w.heap.size + 1 + 1, 0, none⟩ (.int .i64 t.good)).drew l D r2 := (((H4.out.set _ _).set _ _).set _ _).drewN 1
      have B9 : Below w.heap.size w (((W3.setCell ⟨w.heap.size, 0, none⟩ (.int .u64 t.first)).setCell ⟨w.heap.size + 1, 0, none⟩ (.slice A1 t.l.length c1)).setCell ⟨w.heap.size + 1 + 1, 0, none⟩ (.int .i64 t.good)).drew := below_drew (((H5.out.setCell (p := ⟨w.heap.size, 0, none⟩) (Nat.le_refl _) _).setCell (p := ⟨w.heap.size + 1, 0, none⟩) (by simp) _).setCell (p := ⟨w.heap.size + 1 + 1, 0, none⟩) (by simp; omega) _)
      have E9 : EntR (((W3.setCell ⟨w.heap.size, 0, none⟩ (.int .u64 t.first)).setCell ⟨w.heap.size + 1, 0, none⟩ (.slice A1 t.l.length c1)).setCell ⟨w.heap.size + 1 + 1, 0, none⟩ (.int .i64 t.good)).drew (w.heap.size + 3) (.slice A1 t.l.length c1) t.l := (((HE.out.far (by simp) _).far (by simp) _).far (by simp) _).below (below_drew (Below.refl _ _))
      have X9 : Bx (((W3.setCell ⟨w.heap.size, 0, none⟩ (.int .u64 t.first)).setCell ⟨w.heap.size + 1, 0, none⟩ (.slice A1 t.l.length c1)).setCell ⟨w.heap.size + 1 + 1, 0, none⟩ (.int .i64 t.good)).drew (w.heap.size + 1) (.slice A1 t.l.length c1) := (((show Bx W3 (w.heap.size + 1) _ from ⟨p2, p3⟩).far _ _ (by simp)).set _ |>.far _ _ (by simp)).below (below_drew (Below.refl _ _))
      generalize (((W3.setCell ⟨w.heap.size, 0, none⟩ (.int .u64 t.first)).setCell ⟨w.heap.size + 1, 0, none⟩ (.slice A1 t.l.length c1)).setCell ⟨w.heap.size + 1 + 1, 0, none⟩ (.int .i64 t.good)).drew = W9 at *
      rw [Exit.noGoto_ret]
      refine ⟨by simp, .inl ⟨_, _, rfl, run_takeDeferred T9.2, ?_⟩⟩
      have Y9 := S9.put (o' := .deferred none) T9.2 rfl
      have q0 := Y9.1.1
      have q1 := (X9.put (o' := .deferred none) T9.2 rfl).1
      have q2 := Y9.2.2.1
      refine ⟨.tuple #[.int .u64 t.first, .slice A1 t.l.length c1, .int .i64 t.good], by simp [results, Try.results8, go_sem, q0, q1, q2], ?_⟩
      rw [← HT.out]
      exact ⟨A1, c1, rfl, (E9.put T9.2 rfl).lower (by omega), put_below B9 (by omega) (Nat.le_refl _)⟩
end Go.Proofs.Ytakneimkadjiiaa
