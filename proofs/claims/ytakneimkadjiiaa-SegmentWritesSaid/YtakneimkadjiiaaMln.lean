/- A segment that is written is read, in plain Lean. -/
import Derived.Test.YtakneimkadjiiaaMsg3
import Derived.Test.YtakneimkadjiiaaMwr
set_option linter.unusedVariables false
set_option linter.unusedSimpArgs false
namespace Cf
def hedW (i : Nat) : List UInt8 := wrp 1 (numB i)
def linT (i : Nat) (e : Ent) : List UInt8 := numB i ++ numB e.term ++ numB e.kind.toNat ++ txtB e.data
def linW (i : Nat) (e : Ent) : List UInt8 := wrp 2 (linT i e)
theorem soundB_ok {e : Ent} (h : soundB e = true) : 1 ≤ e.term ∧ e.term ≤ 1152921504606846976 ∧ 1 ≤ e.kind ∧ e.kind ≤ 3 ∧ e.data.length ≤ 4096 := by
  simpa [soundB, and_assoc] using h
theorem linT_len (i : Nat) (e : Ent) (h : soundB e = true) (hi : i < 18446744073709551616) : (linT i e).length ≤ 4200 := by
  obtain ⟨h1, h2, h3, h4, h5⟩ := soundB_ok h
  have a := numB_len hi
  have b := numB_len (show e.term < 18446744073709551616 by omega)
  have c := numB_len (show e.kind.toNat < 18446744073709551616 by omega)
  have d := txtB_len e.data (by omega)
  simp only [linT, List.length_append]
  omega
theorem hedN_numB {f : Nat} (h : f ≤ 1152921504606846976) : hedN 1 (numB f) = f := by
  have e : rnum 1152921504606846976 (numB f, false) = (f, [], false) := by
    have := rnum_numB h (by decide) [] false
    rwa [List.append_nil] at this
  unfold hedN
  rw [e]
  rfl
theorem linP_linT (i : Nat) (e : Ent) (h : soundB e = true) (hi : i < 18446744073709551616) : linP (linT i e) = (i, e, ([], false)) := by
  obtain ⟨h1, h2, h3, h4, h5⟩ := soundB_ok h
  have e1 : rnum 18446744073709551615 (linT i e, false) = (i, numB e.term ++ (numB e.kind.toNat ++ txtB e.data), false) := by
    rw [linT, List.append_assoc, List.append_assoc]
    exact rnum_numB (by omega) (by decide) _ _
  have e2 : rnum 1152921504606846976 (numB e.term ++ (numB e.kind.toNat ++ txtB e.data), false) = (e.term, numB e.kind.toNat ++ txtB e.data, false) := rnum_numB h2 (by decide) _ _
  have e3 : rnum 3 (numB e.kind.toNat ++ txtB e.data, false) = (e.kind.toNat, txtB e.data, false) := rnum_numB (by omega) (by decide) _ _
  have e4 : rtext 4096 (txtB e.data, false) = (e.data, [], false) := by
    have := rtext_txtB h5 (by decide) [] false
    rwa [List.append_nil] at this
  unfold linP
  simp only [e1, e2, e3, e4]
  have : ((e.kind.toNat : Nat) : Int) = e.kind := by omega
  rw [this]
theorem linB_linT (i : Nat) (e : Ent) (h : soundB e = true) (hi : i < 18446744073709551616) : linB 2 (linT i e) i = true := by
  unfold linB
  rw [linP_linT i e h hi]
  simp [rend, h]
theorem frs_hedW (f : Nat) (h : f < 18446744073709551616) (rest : List UInt8) : frs (hedW f ++ rest) = (1, numB f) :: frs rest :=
  frs_wrp 1 (numB f) rest (by decide) (by have := numB_len h; omega)
theorem frs_linW (i : Nat) (e : Ent) (h : soundB e = true) (hi : i < 18446744073709551616) (rest : List UInt8) : frs (linW i e ++ rest) = (2, linT i e) :: frs rest :=
  frs_wrp 2 (linT i e) rest (by decide) (by have := linT_len i e h hi; omega)
def linesW : Nat → List Ent → List UInt8
  | _, [] => []
  | i, e :: r => linW i e ++ linesW (i + 1) r
theorem linesW_snoc (i : Nat) (l : List Ent) (e : Ent) : linesW i (l ++ [e]) = linesW i l ++ linW (i + l.length) e := by
  induction l generalizing i with
  | nil => simp [linesW]
  | cons x l ih =>
    simp only [List.cons_append, linesW, ih, List.append_assoc, List.length_cons]
    congr 3
    omega
theorem linesW_append (i : Nat) (l m : List Ent) : linesW i (l ++ m) = linesW i l ++ linesW (i + l.length) m := by
  induction l generalizing i with
  | nil => simp [linesW]
  | cons x l ih =>
    simp only [List.cons_append, linesW, ih, List.append_assoc, List.length_cons]
    congr 3
    omega
theorem linW_len (i : Nat) (e : Ent) : (linW i e).length = (linT i e).length + 8 := wrp_length _ _
theorem segGo_lines (f : Nat) (hf : f ≠ 0) (es : List Ent) : ∀ (l : List Ent) (g : Nat) (rest : List UInt8), (∀ e ∈ es, soundB e = true) → f + l.length + es.length ≤ 18446744073709551616 →
    segGo ⟨f, l, g⟩ (frs (linesW (f + l.length) es ++ rest)) = segGo ⟨f, l ++ es, g + (linesW (f + l.length) es).length⟩ (frs rest) := by
  induction es with
  | nil => intro l g rest _ _; simp [linesW]
  | cons e es ih =>
    intro l g rest hs hi
    have he := hs e (by simp)
    have hi2 : f + l.length < 18446744073709551616 := by simp at hi; omega
    have hstep : segStep ⟨f, l, g⟩ (2, linT (f + l.length) e) = some ⟨f, l ++ [e], g + ((linT (f + l.length) e).length + 8)⟩ := by
      unfold segStep
      rw [if_neg hf, if_pos (linB_linT _ e he hi2), linP_linT _ e he hi2]
    rw [linesW, List.append_assoc, frs_linW _ e he hi2, segGo, hstep]
    have := ih (l ++ [e]) (g + ((linT (f + l.length) e).length + 8)) rest (fun x hx => hs x (by simp [hx])) (by simp at hi ⊢; omega)
    simp only [List.length_append, List.length_singleton] at this
    rw [show f + (l.length + 1) = f + l.length + 1 by omega] at this
    dsimp only
    rw [this, List.length_append, linW_len]
    simp [Nat.add_assoc]
theorem segOf_lines (f : Nat) (hf : f ≠ 0) (hf2 : f ≤ 1152921504606846976) (es : List Ent) (rest : List UInt8) (hs : ∀ e ∈ es, soundB e = true) (hi : f + es.length ≤ 18446744073709551616) :
    segOf (hedW f ++ linesW f es ++ rest) = segGo ⟨f, es, (hedW f).length + (linesW f es).length⟩ (frs rest) := by
  have hstep : segStep seg0 (1, numB f) = some ⟨f, [], (hedW f).length⟩ := by
    unfold segStep
    rw [if_pos (show seg0.first = 0 from rfl), hedN_numB hf2, if_neg hf, hedW, wrp_length]
    simp [seg0]
  rw [segOf, List.append_assoc, frs_hedW f (by omega), segGo, hstep]
  dsimp only
  have := segGo_lines f hf es [] (hedW f).length rest hs (by simpa using hi)
  simpa using this
end Cf
