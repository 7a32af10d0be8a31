/- Rows of entries that come in as data. -/
import Derived.Test.YtoccidpocagkjaaRdk
import Derived.Test.YtoccidpocagkjaaErs
import Derived.Deep.Strs
set_option linter.unusedVariables false
set_option linter.unusedSimpArgs false
namespace Go.Proofs.Ytoccidpocagkjaa
open Go.RowKit Go.Proofs.YtoccidpocagkjaaW.PrintWords Cf

def entOk (e : Ent) : Prop := e.term < 18446744073709551616 ∧ -9223372036854775808 ≤ e.kind ∧ e.kind ≤ 9223372036854775807
theorem rdk_entry : RdK 50 KE entOk := by
  intro H enc W fuel cs x hx
  have ht := Try.underlying50
  obtain ⟨y0, y1, y2, n, -, hl, h0, h1, h2⟩ := Deep.trod_struct3 ht hx
  have c3 : Try.prog.cellsOf 50 = 3 := by kernel_rfl
  have c0 : Try.prog.cellsOf 22 = 1 := by kernel_rfl
  have c1 : Try.prog.cellsOf 3 = 1 := by kernel_rfl
  have c2 : Try.prog.cellsOf 25 = 1 := by kernel_rfl
  rw [c3] at hl
  simp only [c0, c1, c2] at h0 h1 h2
  match cs, hl with
  | [a, b, d], _ =>
    simp only [List.drop_zero, List.drop_succ_cons, List.take_succ_cons, List.take_zero] at h0 h1 h2
    obtain ⟨z0, e0, _, w0⟩ := DataW.trod_int Try.underlying22 h0
    obtain ⟨z1, e1, _, w1⟩ := DataW.trod_int Try.underlying3 h1
    obtain ⟨ys, ⟨A, c, e2, hlc, hC⟩, _⟩ := rdk_bytes H enc W _ _ _ h2
    have m0 : IntKind.u64.min = 0 := rfl
    have m1 : IntKind.u64.max = 18446744073709551615 := rfl
    have m2 : IntKind.i64.min = -9223372036854775808 := rfl
    have m3 : IntKind.i64.max = 9223372036854775807 := rfl
    simp only [Lit.wf, Bool.and_eq_true, decide_eq_true_eq] at w0 w1
    obtain ⟨z, rfl⟩ := Int.eq_ofNat_of_zero_le (show 0 ≤ z0 by omega)
    simp only [List.cons.injEq, and_true] at e0 e1 e2
    subst e0 e1 e2
    exact ⟨⟨z, z1, ys⟩, ⟨[_], [_, _], rfl, rfl, [_], [_], rfl, rfl, A, c, rfl, hlc, hC⟩, by dsimp only; omega, by dsimp only; omega, by dsimp only; omega⟩
theorem rdk_entries : RdK 23 (Kd.slice 50 KE) (fun l => ∀ x ∈ l, entOk x) := rdk_slice Try.underlying23 (by kernel_rfl) rdk_entry
end Go.Proofs.Ytoccidpocagkjaa
