/- frame: Whole; the chapter's example. -/
import Derived.Test.YtakneimkadjiiaaRfr
set_option linter.unusedVariables false
set_option linter.unusedSimpArgs false
namespace Go.Proofs.Ytakneimkadjiiaa
open Go.RowKit Go.Proofs.YtakneimkadjiiaaW.PrintWords Cf
attribute [local go_sem] str_beq str_bne

/-- Are bytes one frame? -/
def wholeB (xs : List UInt8) : Bool := (tak xs).2.2.2 == 0 && (tak xs).2.2.1 == xs.length
def wholeK (xs : List UInt8) : UInt8 := if wholeB xs then (tak xs).1 else 0
def wholeL (xs : List UInt8) : List UInt8 := if wholeB xs then (tak xs).2.1 else []

theorem tak_wrp' (k : UInt8) (xs : List UInt8) (hk : k ≠ 0) (h : xs.length ≤ 65536) : tak (wrp k xs) = (k, xs, xs.length + 8, 0) := by
  have := tak_wrp k xs [] hk h
  rwa [List.append_nil] at this
end Go.Proofs.Ytakneimkadjiiaa
