/- Snapshots and messages in memory, and as data that comes in. -/
import Derived.Test.YtoccidpocagkjaaMwm
import Derived.Test.YtoccidpocagkjaaRde
set_option linter.unusedVariables false
set_option linter.unusedSimpArgs false
namespace Go.Proofs.Ytoccidpocagkjaa
open Go.RowKit Go.Proofs.YtoccidpocagkjaaW.PrintWords Cf

def KBl : Kd Bool := Kd.scalar (fun b => Value.bool b) (fun _ => rfl)
def KS : Kd Sn := Kd.iso (Kd.pair KU (Kd.pair KU (Kd.pair (Kd.slice 3 KI) (Kd.slice 5 KB)))) (fun s => (s.index, s.term, s.members, s.data))
def KM : Kd Wm := Kd.iso (Kd.pair KI (Kd.pair KI (Kd.pair KI (Kd.pair KU (Kd.pair KU (Kd.pair KU (Kd.pair KU (Kd.pair KU (Kd.pair KBl (Kd.pair KBl (Kd.pair (Kd.slice 50 KE) KS)))))))))))
  (fun m => (m.kind, m.frm, m.dst, m.term, m.index, m.logTerm, m.commit, m.round, m.ok, m.force, m.ents, m.snap))
/-- A snapshot as a value. -/
abbrev snV (s : Sn) (A : Option Addr) (a : Nat) (B : Option Addr) (b : Nat) : Value := .agg #[.int .u64 s.index, .int .u64 s.term, .slice A s.members.length a, .slice B s.data.length b]
def SR (w : World) (s : Sn) (A : Option Addr) (a : Nat) (B : Option Addr) (b : Nat) : Prop := s.members.length ≤ a ∧ KI.C w A s.members.length s.members ∧ s.data.length ≤ b ∧ RdB w B s.data.length s.data
/-- A message as a value. -/
abbrev msgV (m : Wm) (E : Option Addr) (e : Nat) (A : Option Addr) (a : Nat) (B : Option Addr) (b : Nat) : Value :=
  .agg #[.int .i64 m.kind, .int .i64 m.frm, .int .i64 m.dst, .int .u64 m.term, .int .u64 m.index, .int .u64 m.logTerm, .int .u64 m.commit, .int .u64 m.round, .bool m.ok, .bool m.force, .slice E m.ents.length e,
    .int .u64 m.snap.index, .int .u64 m.snap.term, .slice A m.snap.members.length a, .slice B m.snap.data.length b]
def MR (w : World) (m : Wm) (E : Option Addr) (e : Nat) (A : Option Addr) (a : Nat) (B : Option Addr) (b : Nat) : Prop := m.ents.length ≤ e ∧ KE.C w E m.ents.length m.ents ∧ SR w m.snap A a B b
theorem SR.below {w w' : World} {s : Sn} {A : Option Addr} {a : Nat} {B : Option Addr} {b : Nat} (h : SR w s A a B b) (hB : Below w.heap.size w w') : SR w' s A a B b :=
  ⟨h.1, Kd.C_below h.2.1 hB, h.2.2.1, Kd.C_below h.2.2.2 hB⟩
theorem MR.below {w w' : World} {m : Wm} {E : Option Addr} {e : Nat} {A : Option Addr} {a : Nat} {B : Option Addr} {b : Nat} (h : MR w m E e A a B b) (hB : Below w.heap.size w w') : MR w' m E e A a B b :=
  ⟨h.1, Kd.C_below h.2.1 hB, h.2.2.below hB⟩
theorem SR.zero (w : World) : SR w sn0 none 0 none 0 := ⟨Nat.le_refl _, Kd.C_nil _ _, Nat.le_refl _, RdB.nil w⟩
theorem MR.zero (w : World) : MR w wm0 none 0 none 0 none 0 := ⟨Nat.le_refl _, Kd.C_nil _ _, SR.zero w⟩
theorem KS_open {w : World} {s : Sn} {cs : List Value} (h : KS.K w s cs) : ∃ A a B b, cs = [.int .u64 s.index, .int .u64 s.term, .slice A s.members.length a, .slice B s.data.length b] ∧ SR w s A a B b := by
  obtain ⟨c0, c1, rfl, h0, c2, c3, rfl, h2, c4, c5, rfl, ⟨A, a, rfl, ha, hA⟩, B, b, rfl, hb, hB⟩ := h
  have h0 : c0 = [Value.int .u64 (s.index : Int)] := h0
  have h2 : c2 = [Value.int .u64 (s.term : Int)] := h2
  subst h0 h2
  exact ⟨A, a, B, b, rfl, ha, hA, hb, hB⟩
theorem KS_mk {w : World} {s : Sn} {A : Option Addr} {a : Nat} {B : Option Addr} {b : Nat} (h : SR w s A a B b) : KS.K w s [.int .u64 s.index, .int .u64 s.term, .slice A s.members.length a, .slice B s.data.length b] :=
  ⟨[_], [_, _, _], rfl, rfl, [_], [_, _], rfl, rfl, [_], [_], rfl, ⟨A, a, rfl, h.1, h.2.1⟩, B, b, rfl, h.2.2.1, h.2.2.2⟩
theorem KM_open {w : World} {m : Wm} {cs : List Value} (h : KM.K w m cs) : ∃ E e A a B b, Value.agg cs.toArray = msgV m E e A a B b ∧ MR w m E e A a B b := by
  obtain ⟨c0, d0, rfl, h0, c1, d1, rfl, h1, c2, d2, rfl, h2, c3, d3, rfl, h3, c4, d4, rfl, h4, c5, d5, rfl, h5, c6, d6, rfl, h6, c7, d7, rfl, h7, c8, d8, rfl, h8, c9, d9, rfl, h9, c10, d10, rfl, ⟨E, e, rfl, he, hE⟩, hS⟩ := h
  obtain ⟨A, a, B, b, rfl, hs⟩ := KS_open hS
  have h0 : c0 = [Value.int .i64 m.kind] := h0
  have h1 : c1 = [Value.int .i64 m.frm] := h1
  have h2 : c2 = [Value.int .i64 m.dst] := h2
  have h3 : c3 = [Value.int .u64 (m.term : Int)] := h3
  have h4 : c4 = [Value.int .u64 (m.index : Int)] := h4
  have h5 : c5 = [Value.int .u64 (m.logTerm : Int)] := h5
  have h6 : c6 = [Value.int .u64 (m.commit : Int)] := h6
  have h7 : c7 = [Value.int .u64 (m.round : Int)] := h7
  have h8 : c8 = [Value.bool m.ok] := h8
  have h9 : c9 = [Value.bool m.force] := h9
  subst h0 h1 h2 h3 h4 h5 h6 h7 h8 h9
  exact ⟨E, e, A, a, B, b, rfl, he, hE, hs⟩
theorem KM_mk {w : World} {m : Wm} {E : Option Addr} {e : Nat} {A : Option Addr} {a : Nat} {B : Option Addr} {b : Nat} (h : MR w m E e A a B b) :
    KM.K w m [.int .i64 m.kind, .int .i64 m.frm, .int .i64 m.dst, .int .u64 m.term, .int .u64 m.index, .int .u64 m.logTerm, .int .u64 m.commit, .int .u64 m.round, .bool m.ok, .bool m.force, .slice E m.ents.length e,
      .int .u64 m.snap.index, .int .u64 m.snap.term, .slice A m.snap.members.length a, .slice B m.snap.data.length b] :=
  ⟨[_], _, rfl, rfl, [_], _, rfl, rfl, [_], _, rfl, rfl, [_], _, rfl, rfl, [_], _, rfl, rfl, [_], _, rfl, rfl, [_], _, rfl, rfl, [_], _, rfl, rfl, [_], _, rfl, rfl, [_], _, rfl, rfl, [_], _, rfl, ⟨E, e, rfl, h.1, h.2.1⟩, KS_mk h.2.2⟩

/-! ### As data -/
def i64Ok (n : Int) : Prop := -9223372036854775808 ≤ n ∧ n ≤ 9223372036854775807
def snOk (s : Sn) : Prop := s.index < 18446744073709551616 ∧ s.term < 18446744073709551616 ∧ ∀ n ∈ s.members, i64Ok n
def msgOk (m : Wm) : Prop := (i64Ok m.kind ∧ i64Ok m.frm ∧ i64Ok m.dst) ∧ (m.term < 18446744073709551616 ∧ m.index < 18446744073709551616 ∧ m.logTerm < 18446744073709551616 ∧ m.commit < 18446744073709551616 ∧ m.round < 18446744073709551616) ∧ (∀ e ∈ m.ents, entOk e) ∧ snOk m.snap
theorem rdk_int : RdK 3 KI i64Ok := by
  intro H enc W fuel cs x hx
  obtain ⟨n, rfl, _, hw⟩ := DataW.trod_int Try.underlying3 hx
  have h1 : IntKind.i64.min = -9223372036854775808 := rfl
  have h2 : IntKind.i64.max = 9223372036854775807 := rfl
  simp only [Lit.wf, Bool.and_eq_true, decide_eq_true_eq] at hw
  exact ⟨n, rfl, by omega, by omega⟩
theorem rdk_u64 : RdK 22 KU (fun n => n < 18446744073709551616) := by
  intro H enc W fuel cs x hx
  obtain ⟨n, rfl, _, hw⟩ := DataW.trod_int Try.underlying22 hx
  have h1 : IntKind.u64.min = 0 := rfl
  have h2 : IntKind.u64.max = 18446744073709551615 := rfl
  simp only [Lit.wf, Bool.and_eq_true, decide_eq_true_eq] at hw
  obtain ⟨z, rfl⟩ := Int.eq_ofNat_of_zero_le (show 0 ≤ n by omega)
  exact ⟨z, rfl, by omega⟩
theorem rdk_bool : RdK 4 KBl (fun _ => True) := by
  intro H enc W fuel cs x hx
  obtain ⟨b, rfl, _⟩ := DataW.trod_bool Try.underlying4 hx
  exact ⟨b, rfl, trivial⟩
theorem rdk_ints : RdK 24 (Kd.slice 3 KI) (fun l => ∀ x ∈ l, i64Ok x) := rdk_slice Try.underlying24 (by kernel_rfl) rdk_int
theorem drop_take_one {α : Type} : ∀ {cs : List α} {i : Nat} {x : α}, (cs.drop i).take 1 = [x] → cs[i]? = some x
  | cs, i, x, h => by
    have := congrArg (fun l => l[0]?) h
    simpa [List.getElem?_take, List.getElem?_drop] using this
theorem open_struct4 {H : Type} {enc : TypeId × Value → H} {W : World} {t : TypeId} {f0 f1 f2 f3 : Field} {fuel : Nat} {cs : List Value} {x : DataW H × List MemPlace} (ht : Try.prog.underlying t = some (.struct #[f0, f1, f2, f3])) (h : DataW.trod enc Try.prog W 0 (fun _ => true) true fuel t cs = some x) :
    ∃ y0 y1 y2 y3 n, cs.length = Try.prog.cellsOf t ∧ DataW.trod enc Try.prog W 0 (fun _ => true) true n f0.type ((cs.drop f0.offset).take (Try.prog.cellsOf f0.type)) = some y0 ∧ DataW.trod enc Try.prog W 0 (fun _ => true) true n f1.type ((cs.drop f1.offset).take (Try.prog.cellsOf f1.type)) = some y1 ∧ DataW.trod enc Try.prog W 0 (fun _ => true) true n f2.type ((cs.drop f2.offset).take (Try.prog.cellsOf f2.type)) = some y2 ∧ DataW.trod enc Try.prog W 0 (fun _ => true) true n f3.type ((cs.drop f3.offset).take (Try.prog.cellsOf f3.type)) = some y3 := by
  obtain ⟨xs, n, _, rfl, hl, hlen, hf⟩ := DataW.trod_struct ht h
  match xs, hlen with
  | [y0, y1, y2, y3], _ => exact ⟨y0, y1, y2, y3, n, hl, by simpa using hf 0 f0 rfl, by simpa using hf 1 f1 rfl, by simpa using hf 2 f2 rfl, by simpa using hf 3 f3 rfl⟩
theorem open_struct12 {H : Type} {enc : TypeId × Value → H} {W : World} {t : TypeId} {f0 f1 f2 f3 f4 f5 f6 f7 f8 f9 f10 f11 : Field} {fuel : Nat} {cs : List Value} {x : DataW H × List MemPlace} (ht : Try.prog.underlying t = some (.struct #[f0, f1, f2, f3, f4, f5, f6, f7, f8, f9, f10, f11])) (h : DataW.trod enc Try.prog W 0 (fun _ => true) true fuel t cs = some x) :
    ∃ y0 y1 y2 y3 y4 y5 y6 y7 y8 y9 y10 y11 n, cs.length = Try.prog.cellsOf t ∧ DataW.trod enc Try.prog W 0 (fun _ => true) true n f0.type ((cs.drop f0.offset).take (Try.prog.cellsOf f0.type)) = some y0 ∧ DataW.trod enc Try.prog W 0 (fun _ => true) true n f1.type ((cs.drop f1.offset).take (Try.prog.cellsOf f1.type)) = some y1 ∧ DataW.trod enc Try.prog W 0 (fun _ => true) true n f2.type ((cs.drop f2.offset).take (Try.prog.cellsOf f2.type)) = some y2 ∧ DataW.trod enc Try.prog W 0 (fun _ => true) true n f3.type ((cs.drop f3.offset).take (Try.prog.cellsOf f3.type)) = some y3 ∧ DataW.trod enc Try.prog W 0 (fun _ => true) true n f4.type ((cs.drop f4.offset).take (Try.prog.cellsOf f4.type)) = some y4 ∧ DataW.trod enc Try.prog W 0 (fun _ => true) true n f5.type ((cs.drop f5.offset).take (Try.prog.cellsOf f5.type)) = some y5 ∧ DataW.trod enc Try.prog W 0 (fun _ => true) true n f6.type ((cs.drop f6.offset).take (Try.prog.cellsOf f6.type)) = some y6 ∧ DataW.trod enc Try.prog W 0 (fun _ => true) true n f7.type ((cs.drop f7.offset).take (Try.prog.cellsOf f7.type)) = some y7 ∧ DataW.trod enc Try.prog W 0 (fun _ => true) true n f8.type ((cs.drop f8.offset).take (Try.prog.cellsOf f8.type)) = some y8 ∧ DataW.trod enc Try.prog W 0 (fun _ => true) true n f9.type ((cs.drop f9.offset).take (Try.prog.cellsOf f9.type)) = some y9 ∧ DataW.trod enc Try.prog W 0 (fun _ => true) true n f10.type ((cs.drop f10.offset).take (Try.prog.cellsOf f10.type)) = some y10 ∧ DataW.trod enc Try.prog W 0 (fun _ => true) true n f11.type ((cs.drop f11.offset).take (Try.prog.cellsOf f11.type)) = some y11 := by
  obtain ⟨xs, n, _, rfl, hl, hlen, hf⟩ := DataW.trod_struct ht h
  match xs, hlen with
  | [y0, y1, y2, y3, y4, y5, y6, y7, y8, y9, y10, y11], _ => exact ⟨y0, y1, y2, y3, y4, y5, y6, y7, y8, y9, y10, y11, n, hl, by simpa using hf 0 f0 rfl, by simpa using hf 1 f1 rfl, by simpa using hf 2 f2 rfl, by simpa using hf 3 f3 rfl, by simpa using hf 4 f4 rfl, by simpa using hf 5 f5 rfl, by simpa using hf 6 f6 rfl, by simpa using hf 7 f7 rfl, by simpa using hf 8 f8 rfl, by simpa using hf 9 f9 rfl, by simpa using hf 10 f10 rfl, by simpa using hf 11 f11 rfl⟩
theorem rdk_snap : RdK 27 KS snOk := by
  intro H enc W fuel cs x hx
  obtain ⟨y0, y1, y2, y3, n, hl, f0, f1, f2, f3⟩ := open_struct4 Try.underlying27 hx
  have c0 : Try.prog.cellsOf 22 = 1 := by kernel_rfl
  have c1 : Try.prog.cellsOf 24 = 1 := by kernel_rfl
  have c2 : Try.prog.cellsOf 25 = 1 := by kernel_rfl
  have c3 : Try.prog.cellsOf 27 = 4 := by kernel_rfl
  simp only [c0, c1, c2] at f0 f1 f2 f3
  obtain ⟨i, e0, o0⟩ := rdk_u64 H enc W _ _ _ f0
  obtain ⟨t, e1, o1⟩ := rdk_u64 H enc W _ _ _ f1
  obtain ⟨ms, ⟨A, a, e2, ha, hA⟩, o2⟩ := rdk_ints H enc W _ _ _ f2
  obtain ⟨ds, ⟨B, b, e3, hb, hB⟩, _⟩ := rdk_bytes H enc W _ _ _ f3
  have e0 : _ = [Value.int .u64 (i : Int)] := e0
  have e1 : _ = [Value.int .u64 (t : Int)] := e1
  rw [c3] at hl
  match cs, hl with
  | [a0, a1, a2, a3], _ =>
    simp only [List.drop_zero, List.drop_succ_cons, List.take_succ_cons, List.take_zero, List.cons.injEq, and_true] at e0 e1 e2 e3
    subst e0 e1 e2 e3
    exact ⟨⟨i, t, ms, ds⟩, KS_mk ⟨ha, hA, hb, hB⟩, o0, o1, o2⟩
theorem rdk_msg : RdK 29 KM msgOk := by
  intro H enc W fuel cs x hx
  obtain ⟨y0, y1, y2, y3, y4, y5, y6, y7, y8, y9, y10, y11, n, hl, f0, f1, f2, f3, f4, f5, f6, f7, f8, f9, f10, f11⟩ := open_struct12 Try.underlying29 hx
  have c0 : Try.prog.cellsOf 22 = 1 := by kernel_rfl
  have c1 : Try.prog.cellsOf 3 = 1 := by kernel_rfl
  have c2 : Try.prog.cellsOf 4 = 1 := by kernel_rfl
  have c3 : Try.prog.cellsOf 23 = 1 := by kernel_rfl
  have c4 : Try.prog.cellsOf 27 = 4 := by kernel_rfl
  have c5 : Try.prog.cellsOf 29 = 15 := by kernel_rfl
  simp only [c0, c1, c2, c3, c4] at f0 f1 f2 f3 f4 f5 f6 f7 f8 f9 f10 f11
  obtain ⟨k, e0, o0⟩ := rdk_int H enc W _ _ _ f0
  obtain ⟨f, e1, o1⟩ := rdk_int H enc W _ _ _ f1
  obtain ⟨d, e2, o2⟩ := rdk_int H enc W _ _ _ f2
  obtain ⟨t, e3, o3⟩ := rdk_u64 H enc W _ _ _ f3
  obtain ⟨i, e4, o4⟩ := rdk_u64 H enc W _ _ _ f4
  obtain ⟨l, e5, o5⟩ := rdk_u64 H enc W _ _ _ f5
  obtain ⟨c, e6, o6⟩ := rdk_u64 H enc W _ _ _ f6
  obtain ⟨r, e7, o7⟩ := rdk_u64 H enc W _ _ _ f7
  obtain ⟨ok, e8, _⟩ := rdk_bool H enc W _ _ _ f8
  obtain ⟨fo, e9, _⟩ := rdk_bool H enc W _ _ _ f9
  obtain ⟨es, ⟨E, e, e10, he, hE⟩, o10⟩ := rdk_entries H enc W _ _ _ f10
  obtain ⟨sn, hsn, o11⟩ := rdk_snap H enc W _ _ _ f11
  obtain ⟨A, a, B, b, e11, hS⟩ := KS_open hsn
  have e0 : _ = [Value.int .i64 k] := e0
  have e1 : _ = [Value.int .i64 f] := e1
  have e2 : _ = [Value.int .i64 d] := e2
  have e3 : _ = [Value.int .u64 (t : Int)] := e3
  have e4 : _ = [Value.int .u64 (i : Int)] := e4
  have e5 : _ = [Value.int .u64 (l : Int)] := e5
  have e6 : _ = [Value.int .u64 (c : Int)] := e6
  have e7 : _ = [Value.int .u64 (r : Int)] := e7
  have e8 : _ = [Value.bool ok] := e8
  have e9 : _ = [Value.bool fo] := e9
  rw [c5] at hl
  match cs, hl with
  | [a0, a1, a2, a3, a4, a5, a6, a7, a8, a9, a10, a11, a12, a13, a14], _ =>
    simp only [List.drop_zero, List.drop_succ_cons, List.take_succ_cons, List.take_zero, List.cons.injEq, and_true] at e0 e1 e2 e3 e4 e5 e6 e7 e8 e9 e10 e11
    obtain ⟨e11, e12, e13, e14⟩ := e11
    subst e0 e1 e2 e3 e4 e5 e6 e7 e8 e9 e10 e11 e12 e13 e14
    exact ⟨⟨k, f, d, t, i, l, c, r, ok, fo, es, sn⟩, KM_mk ⟨he, hE, hS⟩, ⟨o0, o1, o2⟩, ⟨o3, o4, o5, o6, o7⟩, o10, o11⟩
theorem rdk_rmsg : RdK 33 KM msgOk := by
  intro H enc W fuel cs x hx
  obtain ⟨y0, y1, y2, y3, y4, y5, y6, y7, y8, y9, y10, y11, n, hl, f0, f1, f2, f3, f4, f5, f6, f7, f8, f9, f10, f11⟩ := open_struct12 Try.underlying33 hx
  have c0 : Try.prog.cellsOf 22 = 1 := by kernel_rfl
  have c1 : Try.prog.cellsOf 3 = 1 := by kernel_rfl
  have c2 : Try.prog.cellsOf 4 = 1 := by kernel_rfl
  have c3 : Try.prog.cellsOf 23 = 1 := by kernel_rfl
  have c4 : Try.prog.cellsOf 27 = 4 := by kernel_rfl
  have c5 : Try.prog.cellsOf 33 = 15 := by kernel_rfl
  simp only [c0, c1, c2, c3, c4] at f0 f1 f2 f3 f4 f5 f6 f7 f8 f9 f10 f11
  obtain ⟨k, e0, o0⟩ := rdk_int H enc W _ _ _ f0
  obtain ⟨f, e1, o1⟩ := rdk_int H enc W _ _ _ f1
  obtain ⟨d, e2, o2⟩ := rdk_int H enc W _ _ _ f2
  obtain ⟨t, e3, o3⟩ := rdk_u64 H enc W _ _ _ f3
  obtain ⟨i, e4, o4⟩ := rdk_u64 H enc W _ _ _ f4
  obtain ⟨l, e5, o5⟩ := rdk_u64 H enc W _ _ _ f5
  obtain ⟨c, e6, o6⟩ := rdk_u64 H enc W _ _ _ f6
  obtain ⟨r, e7, o7⟩ := rdk_u64 H enc W _ _ _ f7
  obtain ⟨ok, e8, _⟩ := rdk_bool H enc W _ _ _ f8
  obtain ⟨fo, e9, _⟩ := rdk_bool H enc W _ _ _ f9
  obtain ⟨es, ⟨E, e, e10, he, hE⟩, o10⟩ := rdk_entries H enc W _ _ _ f10
  obtain ⟨sn, hsn, o11⟩ := rdk_snap H enc W _ _ _ f11
  obtain ⟨A, a, B, b, e11, hS⟩ := KS_open hsn
  have e0 : _ = [Value.int .i64 k] := e0
  have e1 : _ = [Value.int .i64 f] := e1
  have e2 : _ = [Value.int .i64 d] := e2
  have e3 : _ = [Value.int .u64 (t : Int)] := e3
  have e4 : _ = [Value.int .u64 (i : Int)] := e4
  have e5 : _ = [Value.int .u64 (l : Int)] := e5
  have e6 : _ = [Value.int .u64 (c : Int)] := e6
  have e7 : _ = [Value.int .u64 (r : Int)] := e7
  have e8 : _ = [Value.bool ok] := e8
  have e9 : _ = [Value.bool fo] := e9
  rw [c5] at hl
  match cs, hl with
  | [a0, a1, a2, a3, a4, a5, a6, a7, a8, a9, a10, a11, a12, a13, a14], _ =>
    simp only [List.drop_zero, List.drop_succ_cons, List.take_succ_cons, List.take_zero, List.cons.injEq, and_true] at e0 e1 e2 e3 e4 e5 e6 e7 e8 e9 e10 e11
    obtain ⟨e11, e12, e13, e14⟩ := e11
    subst e0 e1 e2 e3 e4 e5 e6 e7 e8 e9 e10 e11 e12 e13 e14
    exact ⟨⟨k, f, d, t, i, l, c, r, ok, fo, es, sn⟩, KM_mk ⟨he, hE, hS⟩, ⟨o0, o1, o2⟩, ⟨o3, o4, o5, o6, o7⟩, o10, o11⟩
/-- A block of a message's cells. -/
theorem blk15 {W : World} {g : Nat} {c0 c1 c2 c3 c4 c5 c6 c7 c8 c9 c10 c11 c12 c13 c14 : Value} {t : TypeId} {fr : Nat × Nat} (h : W.heap[g]? = some (.cells #[c0, c1, c2, c3, c4, c5, c6, c7, c8, c9, c10, c11, c12, c13, c14] t fr)) :
    W.cell? ⟨g, 0, none⟩ = some c0 ∧ W.cell? ⟨g, 1, none⟩ = some c1 ∧ W.cell? ⟨g, 2, none⟩ = some c2 ∧ W.cell? ⟨g, 3, none⟩ = some c3 ∧ W.cell? ⟨g, 4, none⟩ = some c4 ∧ W.cell? ⟨g, 5, none⟩ = some c5 ∧ W.cell? ⟨g, 6, none⟩ = some c6 ∧ W.cell? ⟨g, 7, none⟩ = some c7 ∧
    W.cell? ⟨g, 8, none⟩ = some c8 ∧ W.cell? ⟨g, 9, none⟩ = some c9 ∧ W.cell? ⟨g, 10, none⟩ = some c10 ∧ W.cell? ⟨g, 11, none⟩ = some c11 ∧ W.cell? ⟨g, 12, none⟩ = some c12 ∧ W.cell? ⟨g, 13, none⟩ = some c13 ∧ W.cell? ⟨g, 14, none⟩ = some c14 := by
  refine ⟨?_, ?_, ?_, ?_, ?_, ?_, ?_, ?_, ?_, ?_, ?_, ?_, ?_, ?_, ?_⟩ <;> simp [World.cell?, h]
theorem blk4 {W : World} {g : Nat} {c0 c1 c2 c3 : Value} {t : TypeId} {fr : Nat × Nat} (h : W.heap[g]? = some (.cells #[c0, c1, c2, c3] t fr)) :
    W.cell? ⟨g, 0, none⟩ = some c0 ∧ W.cell? ⟨g, 1, none⟩ = some c1 ∧ W.cell? ⟨g, 2, none⟩ = some c2 ∧ W.cell? ⟨g, 3, none⟩ = some c3 := by
  refine ⟨?_, ?_, ?_, ?_⟩ <;> simp [World.cell?, h]
theorem blk_below {W W' : World} {g : Nat} {o : Obj} (h : W.heap[g]? = some o) (hB : Below W.heap.size W W') : W'.heap[g]? = some o := (hB.block g (Array.getElem?_eq_some_iff.1 h).1).trans h
end Go.Proofs.Ytoccidpocagkjaa
