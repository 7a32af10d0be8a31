/- A range over a function, at the wide fence, with nothing hidden: the loop's record and the block for the rounds' deferred calls are the caller's own to carry (so what the iterator hands a round may lie in memory). -/
import Derived.RangeFuncNested
import Derived.RangeFuncBound
import Derived.RangeFuncCalls
import Derived.RangeFuncLeaves
import Derived.Shelf.Abstract
import Derived.Shelf.RegionOpen
import Derived.WalkKit
import Derived.OwnWalkIn
import Derived.TacticsInMore
import Derived.LoopNIn
import Derived.LoopIn
import Derived.Test.YtoccidpocagkjaaWho
set_option linter.unusedVariables false
set_option linter.unusedSimpArgs false
namespace Go.Proofs.Ytoccidpocagkjaa
open Go.RowKit Go.Shelf Go.Proofs.YtoccidpocagkjaaW.PrintWords Cf

/-- A loop's blocks: the record, ready; the block for deferred calls. -/
def Turns (W : World) (l D : Nat) (r : Loop) : Prop := W.heap[l]? = some (.loop r) ∧ W.heap[D]? = some (.deferred (some []))
theorem Turns.below {W W' : World} {l D : Nat} {r : Loop} (h : Turns W l D r) (hb : Below W.heap.size W W') : Turns W' l D r :=
  ⟨(hb.block l (Array.getElem?_eq_some_iff.1 h.1).1).trans h.1, (hb.block D (Array.getElem?_eq_some_iff.1 h.2).1).trans h.2⟩
theorem Turns.keeps {W W' : World} {l D : Nat} {r : Loop} (h : Turns W l D r) (hb : KeepsOthers W W') : Turns W' l D r :=
  ⟨hb.same l _ h.1 rfl, hb.same D _ h.2 rfl⟩
theorem Turns.put {W : World} {l D : Nat} {r : Loop} (h : Turns W l D r) (r' : Loop) : Turns (W.putObj l (.loop r')) l D r' := by
  refine ⟨World.putObj_heap_same (Array.getElem?_eq_some_iff.1 h.1).1, (World.putObj_heap_other ?_).trans h.2⟩
  rintro rfl
  have := h.1.symm.trans h.2
  cases this
/-- Whatever is cells, and what is below the record, lies as it lay when the record is turned. -/
theorem put_cell {W : World} {l : Nat} {r r' : Loop} {a : Addr} {v : Value} (hl : W.heap[l]? = some (.loop r)) (h : W.cell? a = some v) : (W.putObj l (.loop r')).cell? a = some v :=
  cell_kept h (grownBy_putObj' W l (.loop r')) (fun k e => by cases e; exact ⟨_, hl, rfl⟩)
theorem put_frozen {W : World} {l : Nat} {r r' : Loop} {a : Addr} {v : Value} (hl : W.heap[l]? = some (.loop r)) (h : W.cell? a = some v) (hf : W.frozen? a = false) : (W.putObj l (.loop r')).frozen? a = false :=
  (frozen_kept h (grownBy_putObj' W l (.loop r')) (fun k e => by cases e; exact ⟨_, hl, rfl⟩)).trans hf
theorem put_below {n₀ : Nat} {w W : World} {l : Nat} {o' : Obj} (h : Below n₀ w W) (hl : n₀ ≤ l) (hn : n₀ ≤ w.heap.size) : Below n₀ w (W.putObj l o') :=
  h.grown (grownBy_putObj' W l o') (Nat.le_trans hn h.size) (fun k e => by cases e; exact hl)
/-- A box of the call's own. -/
def Bx (W : World) (b : Nat) (v : Value) : Prop := W.cell? ⟨b, 0, none⟩ = some v ∧ W.frozen? ⟨b, 0, none⟩ = false
theorem Bx.at {W : World} {b : Nat} {v : Value} {t : TypeId} (h : W.heap[b]? = some (.cells #[v] t (0, 0))) : Bx W b v := by
  constructor <;> simp [World.cell?, World.frozen?, h]
theorem Bx.new (W : World) (v : Value) (t : TypeId) : Bx (W.alloc (.cells #[v] t)) W.heap.size v := Bx.at (World.alloc_heap_new W _)
theorem Bx.alloc {W : World} {b : Nat} {v : Value} (h : Bx W b v) (o : Obj) : Bx (W.alloc o) b v :=
  ⟨cell_kept h.1 (World.grownBy_alloc W o none) (fun r e => by cases e), (frozen_kept h.1 (World.grownBy_alloc W o none) (fun r e => by cases e)).trans h.2⟩
theorem Bx.below {W W' : World} {b : Nat} {v : Value} (h : Bx W b v) (hB : Below W.heap.size W W') : Bx W' b v :=
  ⟨pw_cell_below hB h.1, (hB.frozen (World.block_lt_of_cell? W ⟨b, 0, none⟩ h.1)).trans h.2⟩
theorem Bx.put {W : World} {b l : Nat} {v : Value} {o o' : Obj} (h : Bx W b v) (hl : W.heap[l]? = some o) (ho : o.isCells = false) : Bx (W.putObj l o') b v :=
  ⟨cell_kept h.1 (grownBy_putObj' W l o') (fun k e => by cases e; exact ⟨_, hl, ho⟩), (frozen_kept h.1 (grownBy_putObj' W l o') (fun k e => by cases e; exact ⟨_, hl, ho⟩)).trans h.2⟩
theorem Bx.set {W : World} {b : Nat} {v : Value} (h : Bx W b v) (v' : Value) : Bx (W.setCell ⟨b, 0, none⟩ v') b v' :=
  ⟨World.cell?_setCell_same' _ _ _ (by rw [h.1]; rfl), by rw [World.frozen?_setCell]; exact h.2⟩
theorem Turns.set {W : World} {l D : Nat} {r : Loop} (h : Turns W l D r) (a : Addr) (v : Value) : Turns (W.setCell a v) l D r := h.keeps (KeepsOthers.setCell W a v)
theorem Turns.alloc {W : World} {l D : Nat} {r : Loop} (h : Turns W l D r) (o : Obj) : Turns (W.alloc o) l D r := h.keeps (KeepsOthers.alloc W o)
/-- Bytes read on where every cell lies as it lay. -/
theorem RdB.keep {W W' : World} {A : Option Addr} {n : Nat} {xs : List UInt8} (h : RdB W A n xs) (hk : ∀ a v, W.cell? a = some v → W'.cell? a = some v) : RdB W' A n xs := by
  have hx : xs.length = n := h.1
  refine Kd.C_of_reads (enc := fun b : UInt8 => Value.int .u8 (b.toNat : Int)) (d := (0 : UInt8)) (h1 := fun _ => rfl) ⟨h.1, h.2.1, fun hn => ?_⟩
  obtain ⟨ad, e, _⟩ := KB_at h 0 (by omega)
  refine ⟨ad, e, fun j hj => ?_⟩
  obtain ⟨ad', e', hc⟩ := KB_at h j (by omega)
  rw [e] at e'
  injection e' with e'
  subst e'
  rw [hk _ _ hc]
  simp [List.getD_eq_getElem?_getD, show j < xs.length by omega]

/-- One round: how the body may be left (rb: the record, busy). -/
def TurnPost (l D : Nat) (r rb : Loop) (R : Ending → World → Prop) : Exit → Act → World → Prop
  | .normal, _, W => Turns W l D rb ∧ R (.returned (.bool true)) (W.putObj l (.loop r))
  | .ret, _, W => Turns W l D rb ∧ R (.returned (.bool false)) (W.putObj l (.loop { r with state := .done, pending := some .ret }))
  | .exit id, _, W => Turns W l D rb ∧ R (.returned (.bool false)) (W.putObj l (.loop { r with state := .done, pending := some (.exit id) }))
  | .goto t, _, W => Turns W l D rb ∧ R (.returned (.bool false)) (W.putObj l (.loop { r with state := .done, pending := some (.goto t) }))
  | .panic _, _, _ => False
  | .outgrown, _, _ => False

theorem turn_same {r : Loop} (h1 : r.state = .ready) (h2 : r.pending = none) : ({ r with state := .ready, pending := none } : Loop) = r := by
  cases r
  simp only at h1 h2
  subst h1 h2
  rfl
theorem turn_none {r : Loop} (h2 : r.pending = none) : ({ r with pending := none } : Loop) = r := by
  cases r
  simp only at h2
  subst h2
  rfl
theorem turn_yield {P : Program} {n l D : Nat} {r : Loop} {args : Array Value} {W : World} {R : Ending → World → Prop} {ps : Array Tmp} {assign body : Code} {tmps : Array Value} (hl : Turns W l D r) (hr : r.state = .ready) (hpe : r.pending = none)
    (hr3 : r.params = ps) (hr4 : r.assign = assign) (hr5 : r.body = body) (hr6 : r.tmps = tmps) (hs : args.size = ps.size)
    (h : ∀ rb : Loop, rb = { r with state := .busy } → assign.wpIn (Fence.wide.inRound l) n P (Exit.then (fun a₁ W' => Turns W' l D r ∧ body.wpIn (Fence.wide.inRound l) n P (TurnPost l D r rb R) a₁ (W'.putObj l (.loop rb))) (fun _ _ _ => False)) { tmps := (ps.zip args).foldl (fun t (p, v) => t.setIfInBounds p v) tmps, defers := [] } W) :
    YieldAt Fence.wide n P l args W R := by
  subst hr3 hr4 hr5 hr6
  have h := h _ rfl
  have hy := run_yield (P := P) (args := args) hl.1 hs
  refine ⟨r.fn, _, r.assign, r.body, hy, ?_⟩
  refine roundIn_of_wpIn (n := n) (P := P) (F := Fence.wide) (show Fence.wide.fn r.fn from trivial) ?_
  refine wpIn_mono h ?_
  intro e a2 W2 hp
  cases e with
  | normal =>
    refine ⟨_, run_beginRound hp.1.1 hr, ?_⟩
    refine wpIn_mono hp.2 ?_
    intro e a3 W3 hp
    have hq := turn_same hr hpe
    cases e with
    | normal =>
      have he := run_endRound (P := P) none hp.1.1
      refine ⟨_, _, he, ?_⟩
      have hp2 := hp.2
      rw [← hq] at hp2
      exact hp2
    | ret => exact ⟨_, _, run_endRound (some .ret) hp.1.1, hp.2⟩
    | exit id => exact ⟨_, _, run_endRound (some (.exit id)) hp.1.1, hp.2⟩
    | goto t => exact ⟨_, _, run_endRound (some (.goto t)) hp.1.1, hp.2⟩
    | panic _ => exact hp.elim
    | outgrown => exact hp.elim
  | ret => exact hp.elim
  | exit id => exact hp.elim
  | goto t => exact hp.elim
  | panic _ => exact hp.elim
  | outgrown => exact hp.elim

/-- The statement. -/
theorem turn_range {P : Program} {n : Nat} {g : Operand} {ps : Array Tmp} {assign body : Code} {Q : Exit → Act → World → Prop} {a : Act} {w : World} {gf : Nat} {lb : Array Value}
    (hg : a.eval g = .func (.func gf) #[] lb) (eg : ∀ args w, (callFunc gf args).run P w = .ok (.enter gf args) w)
    (h : ∀ (l D : Nat) (r : Loop) (W1 : World), w.heap.size ≤ D → D < l → r.state = .ready → r.pending = none → r.params = ps → r.assign = assign → r.body = body → r.tmps = a.tmps → Turns W1 l D r → Below w.heap.size w W1 →
      Calls P gf (#[.func (.yield l) #[] #[]] ++ lb) W1 fun e W => (∃ v, e = .returned v) ∧
        ((Turns W l D r ∧ Q .normal { a with defers := { target := .collected D, args := #[] } :: a.defers } (W.putObj l (.loop { r with state := .exhausted }))) ∨
         (∃ c, Turns W l D { r with state := .done, pending := some c } ∧ c.wpIn Fence.wide n P Q { a with defers := { target := .collected D, args := #[] } :: a.defers } (W.putObj l (.loop { r with pending := some c, state := .exhausted }))))) :
    (Code.rangeFunc g ps assign body).wpIn Fence.wide n P Q a w := by
  refine wpIn_rangeFunc ?_
  intro fn hfn
  obtain ⟨r, hr⟩ : ∃ r : Loop, r = { state := .ready, pending := none, fn, tmps := a.tmps, params := ps, assign, body, defers := w.heap.size } := ⟨_, rfl⟩
  obtain ⟨W1, hW1⟩ : ∃ W1, (w.alloc (.deferred (some []))).alloc (.loop r) = W1 := ⟨_, rfl⟩
  have hb : Below w.heap.size w W1 := by rw [← hW1]; exact ((Below.refl _ w).alloc (Nat.le_refl _) _).alloc (by simp) _
  have hT : Turns W1 (w.heap.size + 1) w.heap.size r := by
    rw [← hW1]
    refine ⟨?_, (Below.heap_alloc _ _ _ (by simp)).trans (World.alloc_heap_new w _)⟩
    have := World.alloc_heap_new (w.alloc (.deferred (some []))) (.loop r)
    rwa [World.size_alloc] at this
  have he := run_enterLoop_outer (P := P) (w := w) fn a.tmps ps assign body
  rw [← hr, hW1] at he
  have hc := h (w.heap.size + 1) w.heap.size r W1 (Nat.le_refl _) (Nat.lt_succ_self _) (by rw [hr]) (by rw [hr]) (by rw [hr]) (by rw [hr]) (by rw [hr]) (by rw [hr]) hT hb
  clear h
  refine ⟨w.heap.size + 1, [{ target := .collected w.heap.size, args := #[] }], W1, { target := .fn (.func gf) lb, args := #[.func (.yield (w.heap.size + 1)) #[] #[]] }, W1, gf, #[.func (.yield (w.heap.size + 1)) #[] #[]] ++ lb, W1, he, ?c1, ?c2, ?c3, ?c4, ?c5⟩
  case c1 =>
    simp only [resolve, hg]
    simp [go_sem]
  case c2 => exact fun _ _ => trivial
  case c3 => simp [invoke, go_sem, eg]
  case c4 => exact fun h => by simp [Fence.wide] at h
  case c5 =>
    refine callsIn_wide.2 (hc.mono ?_)
    rintro e W ⟨⟨v, rfl⟩, hw⟩
    rcases hw with ⟨ht, hq⟩ | ⟨c, ht, hq⟩
    · have hp : r.pending = none := by rw [hr]
      have := run_endLoop (P := P) ht.1 (by rw [hr]; simp)
      rw [hp] at this hq
      exact ⟨none, _, this, hq⟩
    · exact ⟨_, _, run_endLoop ht.1 (by simp), hq⟩
end Go.Proofs.Ytoccidpocagkjaa
