/- Rows of entries: read, and made. -/
import Derived.Test.YtoccidpocagkjaaSgr
import Derived.Test.YtoccidpocagkjaaMsg2
import Derived.OwnWalkIn
set_option linter.unusedVariables false
set_option linter.unusedSimpArgs false
namespace Go.Proofs.Ytoccidpocagkjaa
open Go.RowKit Go.Proofs.YtoccidpocagkjaaW.PrintWords Cf

/-- append(v, x), inside a fence. -/
theorem R_append_in {α : Type} (d : Kd α) {F : Fence} {n : Nat} {P : Program} {ops : Array Oper} {rest : List Oper} {o : Oper} {a : Act} {Q : Exit → Act → World → Prop} {w0 W : World} (base : Nat) (hgd : o.guard = none) (s x : Operand) (t e : TypeId) (z : Value) (bytes : Nat)
    (ho : o.op = .call { callee := .builtin .append, args := #[s, x], argTypes := #[t, t] })
    (ht : P.underlying t = some (.slice e)) (hinfo : (P.info? e).map (fun i => (i.zero, i.size, i.bytes)) = some (some z, d.sz, bytes)) (hz : z.cells.size = d.sz) (hs0 : 0 < d.sz) (hb0 : 0 < bytes)
    (v : Value) (xs : List α) (p : α) (cs : List Value) (ok okp : Nat → Prop) (hs : a.eval s = v) (hx : a.eval x = .slice (some ⟨W.heap.size, 0, none⟩) 1 1) (hp : d.M W base okp p cs) (hokp : ∀ k, okp k → ok k ∧ some k ≠ v.ownBlock) (hfresh : ∀ k, W.heap.size ≤ k → ok k)
    (HO : d.R e W base ok v xs) (HB : Below base w0 W) (hbase : base ≤ W.heap.size) (hl : (xs.length + 1) * bytes ≤ 140737488355328)
    (h : ∀ v1 w1, d.R e w1 base ok v1 (xs ++ [p]) → Below base w0 w1 → W.grownBy w1 v.ownBlock → (v1.ownBlock = v.ownBlock ∨ ∃ b, v1.ownBlock = some b ∧ W.heap.size ≤ b) → wpListIn F n P ops Q rest (a.put o.dst v1) w1) :
    wpListIn F n P ops Q (o :: rest) a (W.alloc (.cells cs.toArray e)) := by
  obtain ⟨h0, inner, hown, hr⟩ := HO
  obtain ⟨i0, hi, hzz⟩ := Option.map_eq_some_iff.1 hinfo
  simp only [Prod.mk.injEq] at hzz
  obtain ⟨hz0, hz1, hz2⟩ := hzz
  have hlen : xs.length + 1 ≤ 140737488355328 := Nat.le_trans (Nat.le_mul_of_pos_right _ hb0) hl
  have hys := d.K_len (d.K_of_M hp)
  obtain ⟨v1, w1, hrun, h2, h3, h4, h5⟩ := run_append_own_at (P := P) (W.alloc (.cells cs.toArray e)) base t o.type e i0 z d.sz bytes ht hi hz0 hz1 hz2 hz hs0 v xs.length inner (hown.alloc _) ⟨W.heap.size, 0, none⟩ 1 1 cs (by rw [hys]; simp)
    (by simpa using World.news_of_block (cs := cs.toArray) (t := e) (fr := (0, 0)) (heap_alloc_new W (.cells cs.toArray e))) (d.K_one (d.K_of_M hp)) (by simp only [maxLen]; omega) hl (by simp; omega)
  refine wpListIn_plain hgd fun K hK' => ?_
  unfold Oper.wpIn
  refine ⟨?_, ?_⟩
  · simp [Oper.about, ho, resolve, Target.leads, Sem.run_pure]
  · rw [Oper.semAt_plain F _ _ (by rw [ho]; intro c hc'; cases hc')]
    simp [execOp, ho, resolve, invoke, builtin, hs, hx, hrun, Result.andThen]
    have hg := World.grownBy.trans (World.grownBy_alloc W (.cells cs.toArray e) v.ownBlock) h3
    have hat : v1.ownBlock = v.ownBlock ∨ ∃ b, v1.ownBlock = some b ∧ W.heap.size ≤ b := by
      rcases h5 with h5 | h5
      · exact .inl h5
      · exact .inr ⟨_, h5, by simp⟩
    exact hK' _ _ (h v1 w1 (Kd.R_appended h0 hr hp hokp hfresh h2 hg hat) ((HB.alloc hbase _).grown h3 (by simp; omega) (own_base hown)) hg hat)

theorem RdB.grownO {W W' : World} {A : Option Addr} {n : Nat} {row : Option Nat} {xs : List UInt8} (h : RdB W A n xs) (hg : W.grownBy W' row) (hne : 0 < n → ∀ ad, A = some ad → some ad.block ≠ row) : RdB W' A n xs := by
  have hx : xs.length = n := h.1
  refine Kd.C_of_reads (enc := fun b : UInt8 => Value.int .u8 (b.toNat : Int)) (d := (0 : UInt8)) (h1 := fun _ => rfl) ⟨h.1, h.2.1, fun hn => ?_⟩
  obtain ⟨ad, e, _⟩ := KB_at h 0 (by omega)
  refine ⟨ad, e, fun j hj => ?_⟩
  obtain ⟨ad', e', hc⟩ := KB_at h j (by omega)
  rw [e] at e'
  injection e' with e'
  subst e'
  have hb : (ad.add j).block = ad.block := by unfold Addr.add; split <;> rfl
  have hlt := World.block_lt_of_cell? W _ hc
  rw [World.cell?_of_block (hg.block _ hlt (by rw [hb]; exact hne hn ad e)), hc]
  simp [List.getD_eq_getElem?_getD, show j < xs.length by omega]

def KU : Kd Nat := Kd.scalar (fun n => Value.int .u64 (n : Int)) (fun _ => rfl)
def KI : Kd Int := Kd.scalar (fun n => Value.int .i64 n) (fun _ => rfl)
def KA : Kd (Option Addr × Nat × Nat) := Kd.scalar (fun x => Value.slice x.1 x.2.1 x.2.2) (fun _ => rfl)
/-- An entry that is read. -/
def KE : Kd Ent := Kd.iso (Kd.pair KU (Kd.pair KI (Kd.slice 5 KB))) (fun e => (e.term, e.kind, e.data))
/-- Its three cells. -/
abbrev Tri := Nat × Int × Option Addr × Nat × Nat
def KT : Kd Tri := Kd.pair KU (Kd.pair KI KA)
theorem info_entry : (Try.prog.info? 50).map (fun i => (i.zero, i.size, i.bytes)) = some (some (.agg #[.int .u64 0, .int .i64 0, .slice none 0 0]), 3, 40) := by kernel_rfl
theorem KT_M (w : World) (base : Nat) (ok : Nat → Prop) (n : Nat) (k : Int) (A : Option Addr) (m c : Nat) : KT.M w base ok (n, k, A, m, c) [.int .u64 n, .int .i64 k, .slice A m c] := ⟨[_], [_, _], rfl, rfl, [_], [_], rfl, rfl, rfl⟩
theorem KE_at {w : World} {A : Option Addr} {n : Nat} {es : List Ent} (h : KE.C w A n es) (i : Nat) (hi : i < es.length) :
    ∃ b off D c, A = some ⟨b, off, none⟩ ∧ w.cell? ⟨b, off + i * 3, none⟩ = some (.int .u64 (es[i].term : Int)) ∧ w.cell? ⟨b, off + i * 3 + 1, none⟩ = some (.int .i64 es[i].kind) ∧ w.cell? ⟨b, off + i * 3 + 2, none⟩ = some (.slice D es[i].data.length c) ∧ es[i].data.length ≤ c ∧ RdB w D es[i].data.length es[i].data := by
  obtain ⟨⟨b, off, spot⟩, c, e, hcl, ⟨c0, c1, hc, h0, c2, c3, hc1, h1, D, c4, h2, hl, hD⟩, hat⟩ := Kd.C_get h ⟨0, 0, []⟩ (i : Int) (by omega) (by have := h.1; omega)
  have hg : es.getD (i : Int).toNat ⟨0, 0, []⟩ = es[i] := by simp [List.getD_eq_getElem?_getD, hi]
  rw [hg] at h0 h1 h2 hl hD
  have h0 : c0 = [Value.int .u64 (es[i].term : Int)] := h0
  have h1 : c2 = [Value.int .i64 es[i].kind] := h1
  subst h0 h1 h2 hc1 hc
  have a0 := hat 0 _ rfl
  have a1 := hat 1 _ rfl
  have a2 := hat 2 _ rfl
  have hs : spot = none := by
    obtain ⟨ad, d, e', hdl, ⟨d0, d1, hd, g0, _⟩, hbt⟩ := Kd.C_get h ⟨0, 0, []⟩ 0 (by omega) (by have := h.1; omega)
    have g0 : d0 = [Value.int .u64 ((es.getD (0 : Int).toNat ⟨0, 0, []⟩).term : Int)] := g0
    subst g0 hd
    rw [e] at e'
    injection e' with e'
    subst e'
    simpa [Addr.add] using World.cell?_spot (hbt 0 _ rfl)
  subst hs
  rw [add_off] at a0 a1 a2
  exact ⟨b, off, D, c4, e, a0, a1, a2, hl, hD⟩

/-- An entry's data, read by its slice. -/
def TA (w : World) (t : Tri) (e : Ent) : Prop := t.1 = e.term ∧ t.2.1 = e.kind ∧ t.2.2.2.1 = e.data.length ∧ e.data.length ≤ t.2.2.2.2 ∧ RdB w t.2.2.1 e.data.length e.data
/-- A row of entries that grows: base on, the data in other blocks than the row. -/
def EntR (w : World) (base : Nat) (v : Value) (es : List Ent) : Prop :=
  ∃ ts, KT.R 50 w base (fun _ => True) v ts ∧ ts.length = es.length ∧ ∀ (i : Nat) (t : Tri) (e : Ent), ts[i]? = some t → es[i]? = some e → TA w t e ∧ (0 < e.data.length → ∀ ad, t.2.2.1 = some ad → base ≤ ad.block ∧ some ad.block ≠ v.ownBlock)
theorem EntR.nil (w : World) (base : Nat) : EntR w base (.slice none 0 0) [] := ⟨[], Kd.R_nil _ _ _ _ _, rfl, fun i t e h => by simp at h⟩
theorem TA.grown {w w1 : World} {t : Tri} {e : Ent} {row : Option Nat} (h : TA w t e) (hg : w.grownBy w1 row) (hne : 0 < e.data.length → ∀ ad, t.2.2.1 = some ad → some ad.block ≠ row) : TA w1 t e :=
  ⟨h.1, h.2.1, h.2.2.1, h.2.2.2.1, h.2.2.2.2.grownO hg hne⟩
theorem EntR.below {w w1 : World} {base : Nat} {v : Value} {es : List Ent} (h : EntR w base v es) (hB : Below w.heap.size w w1) : EntR w1 base v es := by
  obtain ⟨ts, h1, h2, h3⟩ := h
  refine ⟨ts, Kd.R_below h1 hB, h2, fun i t e ht he => ?_⟩
  obtain ⟨h4, h5⟩ := h3 i t e ht he
  exact ⟨⟨h4.1, h4.2.1, h4.2.2.1, h4.2.2.2.1, Kd.C_below h4.2.2.2.2 hB⟩, h5⟩
theorem EntR.lower {w : World} {base b : Nat} {v : Value} {es : List Ent} (h : EntR w base v es) (hb : b ≤ base) : EntR w b v es := by
  obtain ⟨ts, h1, h2, h3⟩ := h
  exact ⟨ts, Kd.R_lower h1 hb, h2, fun i t e ht he => ⟨(h3 i t e ht he).1, fun hp ad ha => ⟨Nat.le_trans hb ((h3 i t e ht he).2 hp ad ha).1, ((h3 i t e ht he).2 hp ad ha).2⟩⟩⟩
/-- A store into an elder block. -/
theorem EntR.far {w : World} {base : Nat} {v : Value} {es : List Ent} (h : EntR w base v es) {p : Addr} (hp : p.block < base) (u : Value) : EntR (w.setCell p u) base v es := by
  obtain ⟨ts, h1, h2, h3⟩ := h
  refine ⟨ts, Kd.R_mono (Kd.R_far (Kd.R_bound h1) (fun k hk => by have := hk.2.1; omega) u) (fun _ _ => trivial), h2, fun i t e ht he => ?_⟩
  obtain ⟨h4, h5⟩ := h3 i t e ht he
  have hg : w.grownBy (w.setCell p u) (some p.block) := ⟨rfl, rfl, rfl, by simp [World.setCell], fun k _ hk => Below.heap_setCell w p u k (fun e => hk (by rw [e]))⟩
  exact ⟨h4.grown hg (fun hp' ad ha he' => by injection he' with he'; have := (h5 hp' ad ha).1; omega), h5⟩
theorem EntR.lt {w : World} {base : Nat} {v : Value} {es : List Ent} (h : EntR w base v es) : ∀ k, v.ownBlock = some k → k < w.heap.size := by
  obtain ⟨ts, h1, _⟩ := h
  exact Kd.R_lt h1
theorem EntR.slice {w : World} {base : Nat} {v : Value} {es : List Ent} (h : EntR w base v es) : ∃ A c, v = .slice A es.length c := by
  obtain ⟨ts, h1, h2, _⟩ := h
  obtain ⟨A, c, e⟩ := Kd.R_slice h1
  exact ⟨A, c, by rw [e, h2]⟩
theorem EntR.reads {w : World} {base n c : Nat} {A : Option Addr} {es : List Ent} (h : EntR w base (.slice A n c) es) : n = es.length ∧ n ≤ c ∧ KE.C w A es.length es := by
  obtain ⟨ts, h1, h2, h3⟩ := h
  obtain ⟨r1, r2, r3⟩ := Kd.R_reads' h1
  refine ⟨by omega, r2, rfl, by rw [← h2]; exact Kd.C_max r3, fun hn => ?_⟩
  obtain ⟨ad, e, hat⟩ := r3.2.2 (by omega)
  refine ⟨ad, e, fun j p hj => ?_⟩
  have hjl : j < ts.length := by
    rw [h2]
    exact (List.getElem?_eq_some_iff.1 hj).1
  have htj : ts[j]? = some ts[j] := List.getElem?_eq_getElem hjl
  obtain ⟨⟨t1, t2, t3, t4, t5⟩, _⟩ := h3 j _ _ htj hj
  obtain ⟨cs, hl, ⟨c0, c1, hc, g0, c2, c3, hc1, g1, g2⟩, hcell⟩ := hat j _ htj
  have g0 : c0 = [Value.int .u64 (ts[j].1 : Int)] := g0
  have g1 : c2 = [Value.int .i64 ts[j].2.1] := g1
  have g2 : c3 = [Value.slice ts[j].2.2.1 ts[j].2.2.2.1 ts[j].2.2.2.2] := g2
  refine ⟨cs, hl, ⟨c0, c1, hc, ?_, c2, c3, hc1, ?_, ts[j].2.2.1, ts[j].2.2.2.2, ?_, t4, t5⟩, hcell⟩
  · rw [g0, t1]; rfl
  · rw [g1, t2]; rfl
  · rw [g2, t3]
/-- What an append leaves. -/
theorem EntR.appended {W w1 : World} {base : Nat} {v v1 : Value} {ts : List Tri} {es : List Ent} {t : Tri} {e : Ent} (h2 : ts.length = es.length)
    (h3 : ∀ (i : Nat) (t : Tri) (e : Ent), ts[i]? = some t → es[i]? = some e → TA W t e ∧ (0 < e.data.length → ∀ ad, t.2.2.1 = some ad → base ≤ ad.block ∧ some ad.block ≠ v.ownBlock))
    (hR : KT.R 50 w1 base (fun _ => True) v1 (ts ++ [t])) (hg : W.grownBy w1 v.ownBlock) (hat : v1.ownBlock = v.ownBlock ∨ ∃ b, v1.ownBlock = some b ∧ W.heap.size ≤ b)
    (ht : TA W t e) (hne : 0 < e.data.length → ∀ ad, t.2.2.1 = some ad → base ≤ ad.block ∧ some ad.block ≠ v.ownBlock) : EntR w1 base v1 (es ++ [e]) := by
  have step : ∀ (t : Tri) (e : Ent), TA W t e → (0 < e.data.length → ∀ ad, t.2.2.1 = some ad → base ≤ ad.block ∧ some ad.block ≠ v.ownBlock) → TA w1 t e ∧ (0 < e.data.length → ∀ ad, t.2.2.1 = some ad → base ≤ ad.block ∧ some ad.block ≠ v1.ownBlock) := by
    intro t e h4 h5
    refine ⟨h4.grown hg (fun hp ad ha => (h5 hp ad ha).2), fun hp ad ha => ⟨(h5 hp ad ha).1, ?_⟩⟩
    rcases hat with hat | ⟨b, hb, hle⟩
    · rw [hat]
      exact (h5 hp ad ha).2
    · rw [hb]
      intro he
      injection he with he
      have := rd_lt h4.2.2.2.2 hp ad ha
      omega
  refine ⟨ts ++ [t], hR, by simp [h2], fun i t' e' hti hei => ?_⟩
  by_cases hi : i < ts.length
  · rw [List.getElem?_append_left hi] at hti
    rw [List.getElem?_append_left (by omega)] at hei
    obtain ⟨h4, h5⟩ := h3 i t' e' hti hei
    exact step t' e' h4 h5
  · have hi' : i = ts.length := by
      have := (List.getElem?_eq_some_iff.1 hti).1
      simp at this
      omega
    subst hi'
    rw [List.getElem?_append_right (Nat.le_refl _), Nat.sub_self] at hti
    rw [h2, List.getElem?_append_right (Nat.le_refl _), Nat.sub_self] at hei
    simp only [List.getElem?_cons_zero, Option.some.injEq] at hti hei
    subst hti hei
    exact step _ _ ht hne
section
variable {F : Fence} {n : Nat} {ops : Array Oper} {rest : List Oper} {o : Oper} {a : Act} {Q : Exit → Act → World → Prop}
theorem ent_append_in {w0 W : World} (base : Nat) (hgd : o.guard = none) (s x : Operand)
    (ho : o.op = .call { callee := .builtin .append, args := #[s, x], argTypes := #[23, 23] })
    (v : Value) (es : List Ent) (e : Ent) (A : Option Addr) (c : Nat) (hs : a.eval s = v) (hx : a.eval x = .slice (some ⟨W.heap.size, 0, none⟩) 1 1)
    (HO : EntR W base v es) (hD : RdB W A e.data.length e.data) (hc : e.data.length ≤ c) (hne : 0 < e.data.length → ∀ ad, A = some ad → base ≤ ad.block ∧ some ad.block ≠ v.ownBlock)
    (HB : Below base w0 W) (hbase : base ≤ W.heap.size) (hl : es.length ≤ 1000000000)
    (h : ∀ v1 w1, EntR w1 base v1 (es ++ [e]) → Below base w0 w1 → W.grownBy w1 v.ownBlock → wpListIn F n Try.prog ops Q rest (a.put o.dst v1) w1) :
    wpListIn F n Try.prog ops Q (o :: rest) a (W.alloc (.cells #[.int .u64 e.term, .int .i64 e.kind, .slice A e.data.length c] 50)) := by
  obtain ⟨ts, h1, h2, h3⟩ := HO
  exact R_append_in KT base hgd s x 23 50 (.agg #[.int .u64 0, .int .i64 0, .slice none 0 0]) 40 ho Try.underlying23 info_entry rfl (by decide) (by decide) v ts (e.term, e.kind, A, e.data.length, c) [.int .u64 e.term, .int .i64 e.kind, .slice A e.data.length c]
    (fun _ => True) (fun _ => False) hs hx (KT_M _ _ _ _ _ _ _ _) (fun _ h => h.elim) (fun _ _ => trivial) h1 HB hbase (by omega)
    (fun v1 w1 hR hB hg hat => h v1 w1 (EntR.appended h2 h3 hR hg hat ⟨rfl, rfl, rfl, hc, hD⟩ hne) hB hg)
theorem ent_append {w0 W : World} (base : Nat) (hgd : o.guard = none) (s x : Operand)
    (ho : o.op = .call { callee := .builtin .append, args := #[s, x], argTypes := #[23, 23] })
    (v : Value) (es : List Ent) (e : Ent) (A : Option Addr) (c : Nat) (hs : a.eval s = v) (hx : a.eval x = .slice (some ⟨W.heap.size, 0, none⟩) 1 1)
    (HO : EntR W base v es) (hD : RdB W A e.data.length e.data) (hc : e.data.length ≤ c) (hne : 0 < e.data.length → ∀ ad, A = some ad → base ≤ ad.block ∧ some ad.block ≠ v.ownBlock)
    (HB : Below base w0 W) (hbase : base ≤ W.heap.size) (hl : es.length ≤ 1000000000)
    (h : ∀ v1 w1, EntR w1 base v1 (es ++ [e]) → Below base w0 w1 → W.grownBy w1 v.ownBlock → wpList Try.prog ops Q rest (a.put o.dst v1) w1) :
    wpList Try.prog ops Q (o :: rest) a (W.alloc (.cells #[.int .u64 e.term, .int .i64 e.kind, .slice A e.data.length c] 50)) := by
  obtain ⟨ts, h1, h2, h3⟩ := HO
  exact Kd.R_append KT base hgd s x 23 50 (.agg #[.int .u64 0, .int .i64 0, .slice none 0 0]) 40 ho Try.underlying23 info_entry rfl (by decide) (by decide) v ts (e.term, e.kind, A, e.data.length, c) [.int .u64 e.term, .int .i64 e.kind, .slice A e.data.length c]
    (fun _ => True) (fun _ => False) hs hx (KT_M _ _ _ _ _ _ _ _) (fun _ h => h.elim) (fun _ _ => trivial) h1 HB hbase (by omega)
    (fun v1 w1 hR hB hg hat => h v1 w1 (EntR.appended h2 h3 hR hg hat ⟨rfl, rfl, rfl, hc, hD⟩ hne) hB hg)
end
end Go.Proofs.Ytoccidpocagkjaa
