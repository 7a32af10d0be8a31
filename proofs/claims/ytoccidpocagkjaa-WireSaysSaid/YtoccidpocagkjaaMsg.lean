/- What a segment's bytes say, in plain Lean. -/
import Derived.Test.YtoccidpocagkjaaMql
import Derived.Test.YtoccidpocagkjaaMal
set_option linter.unusedVariables false
set_option linter.unusedSimpArgs false
namespace Cf
/-- An entry. -/
structure Ent where
  term : Nat
  kind : Int
  data : List UInt8
deriving DecidableEq
def soundB (e : Ent) : Bool := decide (1 ≤ e.term) && decide (e.term ≤ 1152921504606846976) && decide (1 ≤ e.kind) && decide (e.kind ≤ 3) && decide (e.data.length ≤ 4096)
/-- With what a segment begins; 0: it is none. -/
def hedN (k : UInt8) (body : List UInt8) : Nat := if k = 1 ∧ rend (rnum 1152921504606846976 (body, false)).2 = true then (rnum 1152921504606846976 (body, false)).1 else 0
/-- A line's four parts, and what is left. -/
def linP (body : List UInt8) : Nat × Ent × RS :=
  let a := rnum 18446744073709551615 (body, false)
  let b := rnum 1152921504606846976 a.2
  let c := rnum 3 b.2
  let d := rtext 4096 c.2
  (a.1, ⟨b.1, (c.1 : Int), d.1⟩, d.2)
def linB (k : UInt8) (body : List UInt8) (i : Nat) : Bool := (k == 2) && rend (linP body).2.2 && ((linP body).1 == i) && soundB (linP body).2.1
end Cf
