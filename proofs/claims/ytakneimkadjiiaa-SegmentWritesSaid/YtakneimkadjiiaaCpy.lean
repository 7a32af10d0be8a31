/- segment.Copy. -/
import Derived.Test.YtakneimkadjiiaaCrc
import Derived.Test.YtakneimkadjiiaaQrd
import Derived.Test.YtakneimkadjiiaaErs
set_option linter.unusedVariables false
set_option linter.unusedSimpArgs false
namespace Go.Proofs.Ytakneimkadjiiaa
open Go.RowKit Go.Proofs.YtakneimkadjiiaaW.PrintWords Cf

theorem free_of_cells {w : World} {g : Nat} {cells : Array Value} {t : TypeId} (h : w.heap[g]? = some (.cells cells t (0, 0))) (j : Nat) : w.frozen? ⟨g, j, none⟩ = false := by simp [World.frozen?, h]
theorem heap_set {w : World} {g : Nat} {cells : Array Value} {t : TypeId} (h : w.heap[g]? = some (.cells cells t (0, 0))) (p : Addr) (v : Value) : ∃ cells', cells'.size = cells.size ∧ (w.setCell p v).heap[g]? = some (.cells cells' t (0, 0)) := by
  by_cases he : g = p.block
  · subst he
    refine ⟨if p.spot.isSome then cells else cells.setIfInBounds p.off v, by split <;> simp, ?_⟩
    simp [World.setCell, Array.getElem?_modify, h]
  · exact ⟨cells, rfl, (Below.heap_setCell w p v g he).trans h⟩
/-- The entries' slices. -/
theorem KT_of_KE {w : World} {A : Option Addr} {n : Nat} {es : List Ent} (h : KE.C w A n es) : ∃ ts, KT.C w A n ts ∧ ts.length = es.length ∧ ∀ (i : Nat) (t : Tri) (e : Ent), ts[i]? = some t → es[i]? = some e → TA w t e := by
  have hx : ∀ i : Fin es.length, ∃ t : Tri, ∃ b off, A = some ⟨b, off, none⟩ ∧ w.cell? ⟨b, off + i * 3, none⟩ = some (.int .u64 (t.1 : Int)) ∧ w.cell? ⟨b, off + i * 3 + 1, none⟩ = some (.int .i64 t.2.1) ∧ w.cell? ⟨b, off + i * 3 + 2, none⟩ = some (.slice t.2.2.1 t.2.2.2.1 t.2.2.2.2) ∧ TA w t es[i] := by
    intro i
    obtain ⟨b, off, D, c, h0, h1, h2, h3, h4, h5⟩ := KE_at h i i.2
    exact ⟨(es[i].term, es[i].kind, D, es[i].data.length, c), b, off, h0, h1, h2, h3, rfl, rfl, rfl, h4, h5⟩
  obtain ⟨f, hf⟩ := Classical.axiomOfChoice hx
  have hn : es.length = n := h.1
  refine ⟨List.ofFn f, ⟨by rw [List.length_ofFn, hn], h.2.1, fun hp => ?_⟩, List.length_ofFn, fun i t e ht he => ?_⟩
  · obtain ⟨b, off, h0, _⟩ := hf ⟨0, by omega⟩
    refine ⟨_, h0, fun j t hj => ?_⟩
    have hjl : j < es.length := by have := (List.getElem?_eq_some_iff.1 hj).1; rwa [List.length_ofFn] at this
    obtain ⟨b2, off2, k0, k1, k2, k3, _⟩ := hf ⟨j, hjl⟩
    rw [List.getElem?_ofFn, dif_pos hjl] at hj
    injection hj with hj
    rw [hj] at k1 k2 k3
    rw [h0] at k0
    injection k0 with k0
    injection k0 with k0 k0'
    subst k0 k0'
    refine ⟨[_, _, _], rfl, ⟨[_], [_, _], rfl, rfl, [_], [_], rfl, rfl, rfl⟩, fun i u hu => ?_⟩
    show w.cell? (Addr.add ⟨b, off, none⟩ (j * 3 + i)) = some u
    rw [add_off]
    match i, hu with
    | 0, hu => cases hu; exact k1
    | 1, hu => cases hu; exact k2
    | 2, hu => cases hu; exact k3
  · have hil : i < es.length := (List.getElem?_eq_some_iff.1 he).1
    rw [List.getElem?_ofFn, dif_pos hil] at ht
    injection ht with ht
    rw [List.getElem?_eq_getElem hil] at he
    injection he with he
    subst ht he
    obtain ⟨_, _, _, _, _, _, h7⟩ := hf ⟨i, hil⟩
    exact h7
theorem KE_of_KT {w : World} {A : Option Addr} {n : Nat} {ts : List Tri} {es : List Ent} (h : KT.C w A n ts) (hl : ts.length = es.length) (hT : ∀ (i : Nat) (t : Tri) (e : Ent), ts[i]? = some t → es[i]? = some e → TA w t e) : KE.C w A n es := by
  refine ⟨by rw [← hl]; exact h.1, h.2.1, fun hp => ?_⟩
  obtain ⟨ad, he, hat⟩ := h.2.2 hp
  refine ⟨ad, he, fun j e hj => ?_⟩
  have hjl : j < ts.length := by rw [hl]; exact (List.getElem?_eq_some_iff.1 hj).1
  have htj : ts[j]? = some ts[j] := List.getElem?_eq_getElem hjl
  obtain ⟨t1, t2, t3, t4, t5⟩ := hT j _ _ htj hj
  obtain ⟨cs, hcl, ⟨c0, c1, hc, g0, c2, c3, hc1, g1, g2⟩, hcell⟩ := hat j _ htj
  have g0 : c0 = [Value.int .u64 (ts[j].1 : Int)] := g0
  have g1 : c2 = [Value.int .i64 ts[j].2.1] := g1
  have g2 : c3 = [Value.slice ts[j].2.2.1 ts[j].2.2.2.1 ts[j].2.2.2.2] := g2
  refine ⟨cs, hcl, ⟨c0, c1, hc, ?_, c2, c3, hc1, ?_, ts[j].2.2.1, ts[j].2.2.2.2, ?_, t4, t5⟩, hcell⟩
  · rw [g0, t1]; rfl
  · rw [g1, t2]; rfl
  · rw [g2, t3]
set_option maxHeartbeats 1000000 in
theorem slclone_walk (A : Option Addr) (n c : Nat) (es : List Ent) (w : World) (hC : KE.C w A n es) (hc : n ≤ c) (hl : n ≤ 1000000) :
    Calls Try.prog 36 #[.slice A n c] w fun e w' => ∃ A' c' ts, e = .returned (.slice A' n c') ∧ KT.R 38 w' w.heap.size (fun _ => True) (.slice A' n c') ts ∧ ts.length = es.length ∧ (∀ (i : Nat) (t : Tri) (e : Ent), ts[i]? = some t → es[i]? = some e → TA w t e) ∧ Below w.heap.size w w' := by
  have qT : ∀ (w : World) (a : Option Addr) (n c n' c' : Nat), (binOp .eql 25 (.slice a n c) (.slice none n' c')).run Try.prog w = .ok (.bool a.isNone) w := fun w a n c n' c' => Lib.run_eql_slice_nil w _ _ a n c n' c' Try.underlying25
  have hn : es.length = n := hC.1
  cases A with
  | none =>
    have h0 : n = 0 := by
      by_cases h : 0 < es.length
      · obtain ⟨_, _, _, _, e, _⟩ := KE_at hC 0 h
        cases e
      · omega
    subst h0
    clear hC
    go_enter Try.func36, Try.ntmps36
    go_wp2
    go_ret
    exact ⟨none, 0, [], rfl, Kd.R_nil _ _ _ _ _, hn.symm, fun i t e ht => by simp at ht, Below.refl _ _⟩
  | some ad =>
    obtain ⟨ts, hT, hlen, hTA⟩ := KT_of_KE hC
    have HT := Lib.hid hT
    have HTA := Lib.hid hTA
    clear hC hT hTA
    go_enter Try.func36, Try.ntmps36
    go_wp2_with (at_builtin; refine Kd.R_append_rows KT (w0 := w) (Rr := KT.K _) w.heap.size rfl (Operand.tmp 5) (Operand.tmp 6) 25 38 (.agg #[.int .u64 0, .int .i64 0, .slice none 0 0]) 40 rfl Try.underlying25 info_entry rfl (by decide) (by decide) (.slice (some ⟨w.heap.size, 0, none⟩) 0 0) [] ts (some ad) n c (fun _ => True) (fun _ => False) rfl rfl ?c1 (Kd.C_alloc HT.out _) ?c2 (fun _ h => h.elim) (fun _ _ => trivial) (below_alloc (Below.refl _ _) _) (by simp) (by simp; omega) ?_)
    case c1 => exact ⟨fun _ _ => trivial, [], World.ownsRow_lit w #[] 0 (Nat.le_refl _) (by decide) rfl, Reps.none _ _⟩
    case c2 =>
      rintro x cs ⟨c0, c1, rfl, h0, c2, c3, rfl, h1, h2⟩
      exact ⟨c0, _, rfl, h0, c2, c3, rfl, h1, h2⟩
    intro v1 w1 hR hB hg _
    obtain ⟨A', c', rfl⟩ := Kd.R_slice hR
    try simp only [List.nil_append] at hR
    rw [hlen, hn] at hR ⊢
    have HR := Lib.hid hR
    clear hR
    go_wp2
    go_ret
    exact ⟨A', c', ts, rfl, HR.out, hlen, HTA.out, hB⟩
/-- A copied row, under way: up to p the data are of the copy's own; behind they are the elder ones. -/
def Cp (w0 w : World) (base g : Nat) (es : List Ent) (p : Nat) : Prop :=
  base ≤ g ∧ g < w.heap.size ∧ (∃ cells, w.heap[g]? = some (.cells cells 38 (0, 0))) ∧ ∀ (j : Nat) (hj : j < es.length), ∃ D c, w.cell? ⟨g, j * 3, none⟩ = some (.int .u64 (es[j].term : Int)) ∧ w.cell? ⟨g, j * 3 + 1, none⟩ = some (.int .i64 es[j].kind) ∧ w.cell? ⟨g, j * 3 + 2, none⟩ = some (.slice D es[j].data.length c) ∧ es[j].data.length ≤ c ∧
    (j < p → OwB w (g + 1) (.slice D es[j].data.length c) es[j].data) ∧ (p ≤ j → RdB w0 D es[j].data.length es[j].data)
theorem Cp.below {w0 w w' : World} {base g p : Nat} {es : List Ent} (h : Cp w0 w base g es p) (hB : Below w.heap.size w w') : Cp w0 w' base g es p := by
  obtain ⟨h1, h2, ⟨cells, h3⟩, h4⟩ := h
  refine ⟨h1, Nat.lt_of_lt_of_le h2 hB.size, ⟨cells, (hB.block g h2).trans h3⟩, fun j hj => ?_⟩
  obtain ⟨D, c, k0, k1, k2, k3, k4, k5⟩ := h4 j hj
  exact ⟨D, c, pw_cell_below hB k0, pw_cell_below hB k1, pw_cell_below hB k2, k3, fun hp => Kd.R_below (k4 hp) hB, k5⟩
theorem Cp.step {w0 w : World} {base g p c : Nat} {es : List Ent} {D : Option Addr} (h : Cp w0 w base g es p) (hp : p < es.length) (hO : OwB w (g + 1) (.slice D es[p].data.length c) es[p].data) (hc : es[p].data.length ≤ c) : Cp w0 (w.setCell ⟨g, p * 3 + 2, none⟩ (.slice D es[p].data.length c)) base g es (p + 1) := by
  obtain ⟨h1, h2, ⟨cells, h3⟩, h4⟩ := h
  obtain ⟨cells', _, h3'⟩ := heap_set h3 ⟨g, p * 3 + 2, none⟩ (.slice D es[p].data.length c)
  refine ⟨h1, by simpa [World.setCell] using h2, ⟨cells', h3'⟩, fun j hj => ?_⟩
  have hoth : ∀ (q : Nat), q ≠ p * 3 + 2 → (w.setCell ⟨g, p * 3 + 2, none⟩ (.slice D es[p].data.length c)).cell? ⟨g, q, none⟩ = w.cell? ⟨g, q, none⟩ := fun q hq => World.cell?_setCell_other _ _ _ _ (fun e => hq (by injection e with _ e; omega))
  have hfar : ∀ {E : Option Addr} {m d : Nat} {xs : List UInt8}, OwB w (g + 1) (.slice E m d) xs → OwB (w.setCell ⟨g, p * 3 + 2, none⟩ (.slice D es[p].data.length c)) (g + 1) (.slice E m d) xs := fun h => OwB.far h (p := ⟨g, p * 3 + 2, none⟩) (Nat.lt_succ_self g) _
  obtain ⟨E, d, k0, k1, k2, k3, k4, k5⟩ := h4 j hj
  by_cases he : j = p
  · subst he
    exact ⟨D, c, (hoth _ (by omega)).trans k0, (hoth _ (by omega)).trans k1, World.cell?_setCell_same _ _ _ k2, hc, fun _ => hfar hO, fun h => by omega⟩
  · exact ⟨E, d, (hoth _ (by omega)).trans k0, (hoth _ (by omega)).trans k1, (hoth _ (by omega)).trans k2, k3, fun h => hfar (k4 (by omega)), fun h => k5 (by omega)⟩
theorem Cp.reads {w0 w : World} {base g : Nat} {es : List Ent} (h : Cp w0 w base g es es.length) (hm : es.length ≤ 1000000) : KE.C w (some ⟨g, 0, none⟩) es.length es := by
  obtain ⟨h1, h2, h3, h4⟩ := h
  refine ⟨rfl, by omega, fun hp => ⟨_, rfl, fun j e hj => ?_⟩⟩
  have hjl : j < es.length := (List.getElem?_eq_some_iff.1 hj).1
  obtain ⟨D, c, k0, k1, k2, k3, k4, _⟩ := h4 j hjl
  rw [List.getElem?_eq_getElem hjl] at hj
  injection hj with hj
  subst hj
  refine ⟨[_, _, _], rfl, ⟨[_], [_, _], rfl, rfl, [_], [_], rfl, rfl, D, c, rfl, k3, (OwB.reads (k4 hjl)).2.2⟩, fun i u hu => ?_⟩
  show w.cell? (Addr.add ⟨g, 0, none⟩ (j * 3 + i)) = some u
  rw [add_off, Nat.zero_add]
  match i, hu with
  | 0, hu => cases hu; exact k0
  | 1, hu => cases hu; exact k1
  | 2, hu => cases hu; exact k2
theorem clone_lo (A : Option Addr) (n c : Nat) (xs : List UInt8) (w : World) (hC : RdB w A n xs) (hc : n ≤ c) (hl : n ≤ 1000000000) (b : Nat) (hb : b ≤ w.heap.size) :
    Calls Try.prog 37 #[.slice A n c] w fun e w' => ∃ A' c', e = .returned (.slice A' n c') ∧ n ≤ c' ∧ OwB w' b (.slice A' n c') xs ∧ Below w.heap.size w w' := by
  obtain rfl : xs.length = n := hC.1
  refine (clone_walk A c xs w hC hc (by omega)).mono ?_
  rintro e w' ⟨A', c', h1, h2, h3, h4⟩
  exact ⟨A', c', h1, h2, h3.lower hb, h4⟩
set_option maxHeartbeats 2000000 in
theorem copy_walk (A : Option Addr) (c : Nat) (es : List Ent) (w : World) (hC : KE.C w A es.length es) (hc : es.length ≤ c) (hl : es.length ≤ 60) (hd : ∀ e ∈ es, e.data.length ≤ 5000) :
    Calls Try.prog 19 #[.slice A es.length c] w fun e w' => ∃ A' c', e = .returned (.slice A' es.length c') ∧ es.length ≤ c' ∧ (0 < es.length → ∃ g, A' = some ⟨g, 0, none⟩ ∧ Cp w w' w.heap.size g es es.length) ∧ Below w.heap.size w w' := by
  have HS := Lib.hid (slclone_walk A es.length c es w hC hc (by omega))
  have HD := Lib.hid hd
  clear hC hd
  go_enter Try.func19, Try.ntmps19
  go_wp2_with fail
  refine (HS.out).mono ?_
  rintro e w1 ⟨A1, c1, ts, rfl, hR, hlen, hTA, hB1⟩
  have hcc := (Kd.R_reads' hR).2.1
  by_cases h0 : es.length = 0
  · clear hR hTA
    have hi1 : ¬ (0 : Int) < (es.length : Int) := by omega
    have H0 := Lib.hid h0
    clear h0
    go_wp2_with fail
    go_loopw [9] (fun i wr => i = .int .i64 0 ∧ Below w.heap.size w wr) (fun _ _ => 0)
    case atStart => exact ⟨rfl, hB1⟩
    case round =>
      obtain ⟨rfl, hB⟩ := hrel
      go_wp2
      go_ret
      exact ⟨A1, c1, rfl, hcc, fun h => by have := H0.out; omega, hB⟩
  · obtain ⟨g, cap, e1, hg, hgl, hcells⟩ := Kd.R_form hR (by omega)
    injection e1 with e1 e2 e3
    subst e1 e3
    have hKT := (Kd.R_reads' hR).2.2
    have hcp : Cp w w1 w.heap.size g es 0 := by
      refine ⟨hg, hgl, hcells, fun j hj => ?_⟩
      have hjt : j < ts.length := by omega
      have htj : ts[j]? = some ts[j] := List.getElem?_eq_getElem hjt
      obtain ⟨t1, t2, t3, t4, t5⟩ := hTA j _ _ htj (List.getElem?_eq_getElem hj)
      obtain ⟨ad, he, hat⟩ := hKT.2.2 (by omega)
      injection he with he
      subst he
      obtain ⟨cs, hcl, ⟨c0, c1, hc, g0, c2, c3, hc1, g1, g2⟩, hcell⟩ := hat j _ htj
      have g0 : c0 = [Value.int .u64 (ts[j].1 : Int)] := g0
      have g1 : c2 = [Value.int .i64 ts[j].2.1] := g1
      have g2 : c3 = [Value.slice ts[j].2.2.1 ts[j].2.2.2.1 ts[j].2.2.2.2] := g2
      subst g0 g1 g2 hc1 hc
      rw [t1, t2, t3] at hcell
      have a0 := hcell 0 _ rfl
      have a1 := hcell 1 _ rfl
      have a2 := hcell 2 _ rfl
      have hsz : KT.sz = 3 := rfl
      rw [add_off, hsz] at a0 a1 a2
      simp only [Nat.zero_add, Nat.add_zero] at a0 a1 a2
      exact ⟨_, _, a0, a1, a2, t4, fun h => by omega, fun _ => t5⟩
    have HCP := Lib.hid hcp
    clear hR hTA hKT hcp hcells hg hgl hlen e2
    go_wp2_with fail
    go_loopw [9] (fun i wr => ∃ k : Nat, i = .int .i64 k ∧ k ≤ es.length ∧ Cp w wr w.heap.size g es k ∧ Below w.heap.size w wr)
      (fun i _ => es.length - (intOf i).toNat)
    case atStart => exact ⟨0, rfl, Nat.zero_le _, HCP.out, hB1⟩
    case round =>
      obtain ⟨k, rfl, hk, hcp, hB⟩ := hrel
      have HCK := Lib.hid hcp
      have HB := Lib.hid hB
      clear hcp hB HCP
      by_cases hlt : k < es.length
      · have hi1 : (k : Int) < (es.length : Int) := by omega
        obtain ⟨D, d, k0, k1, k2, k3, k4, k5⟩ := HCK.out.2.2.2 k hlt
        obtain ⟨cells, hcells⟩ := HCK.out.2.2.1
        have hgl := HCK.out.2.1
        have hgb := HCK.out.1
        have HSTEP := Lib.hid (fun (w' : World) (h : Cp w w' w.heap.size g es k) D c => h.step (D := D) (c := c) hlt)
        have hdl := HD.out es[k] (List.getElem_mem hlt)
        have HCL := Lib.hid (clone_lo D es[k].data.length d es[k].data wr (Kd.C_below (k5 (Nat.le_refl _)) HB.out) k3 (by omega) (g + 1) hgl)
        clear k0 k1 k3 k4 k5
        generalize es[k] = x at *
        have k6 := free_of_cells hcells (k * 3 + 2)
        have HC2 := Lib.hid hcells
        clear hcells
        go_wp2_with fail
        refine (HCL.out).mono ?_
        rintro e w2 ⟨A2, c2, rfl, hc2, hO2, hB2⟩
        have k2' := pw_cell_below hB2 k2
        have k6' := (hB2.frozen (p := ⟨g, k * 3 + 2, none⟩) hgl).trans k6
        have HS2 := Lib.hid (HSTEP.out w2 (HCK.out.below hB2) A2 c2 hO2 hc2)
        have HB2 := Lib.hid (below_step HB.out hB2)
        clear hB2 hO2 k2 k6
        go_wp2
        go_roundw
        case rel => exact ⟨k + 1, by go_num, by omega, HS2.out, HB2.out.setCell (p := ⟨g, k * 3 + 2, none⟩) hgb _⟩
        case measure => simp [intOf]; omega
      · have hi1 : ¬ (k : Int) < (es.length : Int) := by omega
        obtain rfl : k = es.length := by omega
        go_wp2
        go_ret
        exact ⟨_, _, rfl, hcc, fun _ => ⟨g, rfl, HCK.out⟩, HB.out⟩
end Go.Proofs.Ytakneimkadjiiaa
