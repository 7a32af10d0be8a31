/- A wire message and a snapshot, in plain Lean: what is sound, what is written, what is read. -/
import Derived.Test.YtoccidpocagkjaaMsg
import Derived.Test.YtoccidpocagkjaaMwr
set_option linter.unusedVariables false
set_option linter.unusedSimpArgs false
namespace Cf
/-- A snapshot. -/
structure Sn where
  index : Nat
  term : Nat
  members : List Int
  data : List UInt8
deriving DecidableEq
def sn0 : Sn := ⟨0, 0, [], []⟩
/-- A message. -/
structure Wm where
  kind : Int
  frm : Int
  dst : Int
  term : Nat
  index : Nat
  logTerm : Nat
  commit : Nat
  round : Nat
  ok : Bool
  force : Bool
  ents : List Ent
  snap : Sn
deriving DecidableEq
def wm0 : Wm := ⟨0, 0, 0, 0, 0, 0, 0, 0, false, false, [], sn0⟩

/-! ### Sound -/
/-- Rising, each a node's number. -/
def risB (last : Int) : List Int → Bool
  | [] => true
  | n :: r => decide (last < n) && decide (n < 7) && risB n r
def membersB (l : List Int) : Bool := decide (0 < l.length) && decide (l.length ≤ 7) && risB (-1) l
def snSound (s : Sn) : Bool := decide (1 ≤ s.index) && decide (s.index < 576460752303423488) && decide (1 ≤ s.term) && decide (s.term ≤ 1152921504606846976) && membersB s.members && decide (s.data.length ≤ 32768)
/-- Are bytes a row of members? -/
def memB (xs : List UInt8) : Bool := rend (rnum 127 (xs, false)).2 && !((rnum 127 (xs, false)).1 == 0)
def okB (e : Ent) : Bool := soundB e && (!(e.kind == 3) || memB e.data)
/-- The reference's row. -/
def rowB (lo hi : Nat) : List Ent → Bool
  | [] => true
  | e :: r => okB e && decide (lo ≤ e.term) && decide (e.term ≤ hi) && rowB e.term hi r
/-- The program's row. -/
def rowQ (lo : Nat) : List Ent → Bool
  | [] => true
  | e :: r => okB e && decide (lo ≤ e.term) && rowQ e.term r
def lastT (lo : Nat) : List Ent → Nat
  | [] => lo
  | e :: r => lastT e.term r
theorem rowQ_le {l : List Ent} : ∀ {lo : Nat}, rowQ lo l = true → lo ≤ lastT lo l := by
  induction l with
  | nil => intro lo _; exact Nat.le_refl _
  | cons e r ih =>
    intro lo h
    simp only [rowQ, Bool.and_eq_true, decide_eq_true_eq] at h
    exact Nat.le_trans h.1.2 (ih h.2)
theorem rowB_eq (hi : Nat) (l : List Ent) : ∀ lo : Nat, (lo ≤ hi ∧ rowB lo hi l = true) ↔ (rowQ lo l = true ∧ lastT lo l ≤ hi) := by
  induction l with
  | nil => intro lo; simp only [rowB, rowQ, lastT, and_true, true_and]
  | cons e r ih =>
    intro lo
    have h := ih e.term
    simp only [rowB, rowQ, lastT, Bool.and_eq_true, decide_eq_true_eq] at h ⊢
    constructor
    · rintro ⟨h1, ⟨⟨h2, h3⟩, h4⟩, h5⟩
      obtain ⟨h6, h7⟩ := h.1 ⟨h4, h5⟩
      exact ⟨⟨⟨h2, h3⟩, h6⟩, h7⟩
    · rintro ⟨⟨⟨h1, h2⟩, h3⟩, h4⟩
      obtain ⟨h5, h6⟩ := h.2 ⟨h3, h4⟩
      exact ⟨by omega, ⟨⟨h1, h2⟩, h5⟩, h6⟩
/-- The fields that a kind has. -/
def hasIndex (k : Int) : Bool := k == 1 || k == 3 || k == 5 || k == 6
def hasPlace (k : Int) : Bool := k == 1 || k == 3 || k == 5
def hasRound (k : Int) : Bool := k == 5 || k == 6 || k == 7
def hasOk (k : Int) : Bool := k == 2 || k == 4 || k == 6
def plainW (m : Wm) : Wm :=
  ⟨m.kind, m.frm, m.dst, m.term, if hasIndex m.kind then m.index else 0, if hasPlace m.kind then m.logTerm else 0, if m.kind == 5 then m.commit else 0, if hasRound m.kind then m.round else 0,
   if hasOk m.kind then m.ok else false, if m.kind == 3 then m.force else false, if m.kind == 5 then m.ents else [], if m.kind == 7 then m.snap else sn0⟩
/-- The program's test of the fields that a kind has not. -/
def spareB (m : Wm) : Bool :=
  (hasIndex m.kind || m.index == 0) && (hasPlace m.kind || m.logTerm == 0) && (m.kind == 5 || m.commit == 0) && (hasRound m.kind || m.round == 0) &&
  (hasOk m.kind || !m.ok) && (m.kind == 3 || !m.force) && (m.kind == 5 || m.ents.length == 0) && (m.kind == 7 || decide (m.snap = sn0))
theorem spareB_eq (m : Wm) : spareB m = decide (m = plainW m) := by
  obtain ⟨k, f, d, t, i, lt, c, r, ok, fo, es, sn⟩ := m
  rw [Bool.eq_iff_iff]
  simp only [spareB, plainW, Wm.mk.injEq, Bool.and_eq_true, Bool.or_eq_true, decide_eq_true_eq, beq_iff_eq, true_and]
  have p : ∀ (b : Bool) (x : Nat), (b = true ∨ x = 0) ↔ x = if b = true then x else 0 := fun b x => by cases b <;> simp
  have q : ∀ (b x : Bool), (b = true ∨ (!x) = true) ↔ x = if b = true then x else false := fun b x => by cases b <;> cases x <;> simp
  have e : ∀ (b : Bool) (l : List Ent), (b = true ∨ l.length = 0) ↔ l = if b = true then l else [] := fun b l => by cases b <;> cases l <;> simp
  have s : ∀ (b : Bool) (x : Sn), (b = true ∨ x = sn0) ↔ x = if b = true then x else sn0 := fun b x => by cases b <;> simp
  have e1 := p (hasIndex k) i
  have e2 := p (hasPlace k) lt
  have e3 := p (k == 5) c
  have e4 := p (hasRound k) r
  have e5 := q (hasOk k) ok
  have e6 := q (k == 3) fo
  have e7 := e (k == 5) es
  have e8 := s (k == 7) sn
  simp only [beq_iff_eq] at e3 e6 e7 e8
  rw [← e1, ← e2, ← e3, ← e4, ← e5, ← e6, ← e7, ← e8]
  simp only [and_assoc]
def nodeB (n : Int) : Bool := decide (0 ≤ n) && decide (n < 7)
/-- The program's rows. -/
def entsB (m : Wm) : Bool := rowQ m.logTerm m.ents && (decide (m.ents.length ≤ 8) && decide (lastT m.logTerm m.ents ≤ m.term) && decide (m.index ≤ 576460752303423488) && decide (m.index + m.ents.length ≤ 576460752303423488))
def headB (m : Wm) : Bool := decide (1 ≤ m.kind) && decide (m.kind ≤ 8) && nodeB m.frm && nodeB m.dst && !(m.frm == m.dst)
def soundP (m : Wm) : Bool :=
  headB m && (decide (1 ≤ m.term) && decide (m.term ≤ 1152921504606846976) && decide (m.commit ≤ 576460752303423488) && decide (m.round ≤ 1152921504606846976) && entsB m) &&
  (!(m.kind == 7) || (snSound m.snap && decide (m.snap.term ≤ m.term))) && spareB m
def soundW (m : Wm) : Bool :=
  headB m && (decide (1 ≤ m.term) && decide (m.term ≤ 1152921504606846976)) &&
  (decide (m.logTerm ≤ m.term) && decide (m.index ≤ 576460752303423488) && decide (m.commit ≤ 576460752303423488) && decide (m.round ≤ 1152921504606846976) && decide (m.ents.length ≤ 8) && rowB m.logTerm m.term m.ents && decide (m.index + m.ents.length ≤ 576460752303423488)) &&
  (!(m.kind == 7) || (snSound m.snap && decide (m.snap.term ≤ m.term))) && decide (m = plainW m)
theorem soundP_eq (m : Wm) : soundP m = soundW m := by
  have h := rowB_eq m.term m.ents m.logTerm
  rw [Bool.eq_iff_iff]
  simp only [soundP, soundW, entsB, spareB_eq, Bool.and_eq_true, decide_eq_true_eq] at h ⊢
  constructor
  · rintro ⟨⟨⟨h1, ⟨⟨⟨h2, h3⟩, h4⟩, h5⟩, h6, ⟨⟨h7, h8⟩, h9⟩, h10⟩, h11⟩, h12⟩
    obtain ⟨h13, h14⟩ := h.2 ⟨h6, h8⟩
    exact ⟨⟨⟨⟨h1, h2, h3⟩, ⟨⟨⟨⟨⟨h13, h9⟩, h4⟩, h5⟩, h7⟩, h14⟩, h10⟩, h11⟩, h12⟩
  · rintro ⟨⟨⟨⟨h1, h2, h3⟩, ⟨⟨⟨⟨⟨h4, h5⟩, h6⟩, h7⟩, h8⟩, h9⟩, h10⟩, h11⟩, h12⟩
    obtain ⟨h13, h14⟩ := h.1 ⟨h4, h9⟩
    exact ⟨⟨⟨h1, ⟨⟨⟨h2, h3⟩, h6⟩, h7⟩, h13, ⟨⟨h8, h14⟩, h5⟩, h10⟩, h11⟩, h12⟩

/-! ### Written -/
def flagB (b : Bool) : List UInt8 := numB (if b then 1 else 0)
def memsT (l : List Int) : List UInt8 := (l.map fun n => numB n.toNat).flatten
def snBody (s : Sn) : List UInt8 := numB s.index ++ numB s.term ++ numB s.members.length ++ memsT s.members ++ txtB s.data
def snB (s : Sn) : List UInt8 := wrp 4 (snBody s)
def entT (e : Ent) : List UInt8 := numB e.term ++ numB e.kind.toNat ++ txtB e.data
def entsT (l : List Ent) : List UInt8 := (l.map entT).flatten
def fieldsB (m : Wm) : List UInt8 :=
  if m.kind = 1 then numB m.index ++ numB m.logTerm
  else if m.kind = 2 ∨ m.kind = 4 then flagB m.ok
  else if m.kind = 3 then numB m.index ++ numB m.logTerm ++ flagB m.force
  else if m.kind = 5 then numB m.index ++ numB m.logTerm ++ numB m.commit ++ numB m.round ++ numB m.ents.length ++ entsT m.ents
  else if m.kind = 6 then flagB m.ok ++ numB m.index ++ numB m.round
  else if m.kind = 7 then numB m.round ++ txtB (snB m.snap)
  else []
def bodyW (m : Wm) : List UInt8 := numB m.kind.toNat ++ numB m.frm.toNat ++ numB m.dst.toNat ++ numB m.term ++ fieldsB m
def wireW (m : Wm) : List UInt8 := wrp 5 (bodyW m)

/-! ### Read: q: the greatest number that is read of a node -/
def rflag (s : RS) : Bool × RS := ((rnum 1 s).1 == 1, (rnum 1 s).2)
def rmems (q : Nat) : Nat → RS → List Int × RS
  | 0, s => ([], s)
  | n + 1, s => (((rnum q s).1 : Int) :: (rmems q n (rnum q s).2).1, (rmems q n (rnum q s).2).2)
def snGet (q : Nat) (s : RS) : Sn × RS :=
  let a := rnum 576460752303423488 s
  let b := rnum 1152921504606846976 a.2
  let c := rnum 7 b.2
  let d := rmems q c.1 c.2
  let e := rtext 32768 d.2
  (⟨a.1, b.1, d.1, e.1⟩, e.2)
def frB (xs : List UInt8) : Bool := (tak xs).2.2.2 == 0 && (tak xs).2.2.1 == xs.length
def frK (xs : List UInt8) : UInt8 := if frB xs then (tak xs).1 else 0
def frL (xs : List UInt8) : List UInt8 := if frB xs then (tak xs).2.1 else []
def snRead (q : Nat) (xs : List UInt8) : Sn × Bool :=
  if frK xs = 4 ∧ rend (snGet q (frL xs, false)).2 = true ∧ snSound (snGet q (frL xs, false)).1 = true then ((snGet q (frL xs, false)).1, true) else (sn0, false)
def rent (s : RS) : Ent × RS :=
  let a := rnum 1152921504606846976 s
  let b := rnum 3 a.2
  let c := rtext 4096 b.2
  (⟨a.1, (b.1 : Int), c.1⟩, c.2)
def rents : Nat → RS → List Ent × RS
  | 0, s => ([], s)
  | n + 1, s => ((rent s).1 :: (rents n (rent s).2).1, (rents n (rent s).2).2)
def half : Nat := 576460752303423488
def top : Nat := 1152921504606846976
/-- A kind's own fields. -/
def wfill (q : Nat) (m : Wm) (s : RS) : Wm × RS :=
  if m.kind = 2 ∨ m.kind = 4 then ({ m with ok := (rflag s).1 }, (rflag s).2)
  else if m.kind = 6 then ({ m with ok := (rflag s).1, index := (rnum half (rflag s).2).1, round := (rnum top (rnum half (rflag s).2).2).1 }, (rnum top (rnum half (rflag s).2).2).2)
  else if m.kind = 7 then
    ({ m with round := (rnum top s).1, snap := (snRead q (rtext 65536 (rnum top s).2).1).1 }, if (snRead q (rtext 65536 (rnum top s).2).1).2 then (rtext 65536 (rnum top s).2).2 else ([], true))
  else if m.kind = 1 then ({ m with index := (rnum half s).1, logTerm := (rnum top (rnum half s).2).1 }, (rnum top (rnum half s).2).2)
  else if m.kind = 3 then ({ m with index := (rnum half s).1, logTerm := (rnum top (rnum half s).2).1, force := (rflag (rnum top (rnum half s).2).2).1 }, (rflag (rnum top (rnum half s).2).2).2)
  else if m.kind = 5 then
    let a := rnum half s
    let b := rnum top a.2
    let c := rnum half b.2
    let d := rnum top c.2
    let e := rnum 8 d.2
    let f := rents e.1 e.2
    ({ m with index := a.1, logTerm := b.1, commit := c.1, round := d.1, ents := f.1 }, f.2)
  else (m, s)
def whead (q : Nat) (s : RS) : Wm × RS :=
  let a := rnum 8 s
  let b := rnum q a.2
  let c := rnum q b.2
  let d := rnum top c.2
  (⟨a.1, b.1, c.1, d.1, 0, 0, 0, 0, false, false, [], sn0⟩, d.2)
def wget (q : Nat) (s : RS) : Wm × RS := wfill q (whead q s).1 (whead q s).2
def wread (q : Nat) (xs : List UInt8) : Wm × Bool :=
  if frK xs = 5 ∧ rend (wget q (frL xs, false)).2 = true ∧ soundW (wget q (frL xs, false)).1 = true then ((wget q (frL xs, false)).1, true) else (wm0, false)
end Cf
