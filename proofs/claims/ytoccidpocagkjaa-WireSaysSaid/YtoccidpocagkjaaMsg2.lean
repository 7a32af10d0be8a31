/- A segment as it is read, in plain Lean. -/
import Derived.Test.YtoccidpocagkjaaMsg
set_option linter.unusedVariables false
set_option linter.unusedSimpArgs false
namespace Cf
/-- What has been read: the first index (0: not the head yet), the entries, how many bytes are good. -/
structure Seg where
  first : Nat
  l : List Ent
  good : Nat
deriving DecidableEq
def seg0 : Seg := ⟨0, [], 0⟩
/-- A frame more; none: it stops there. -/
def segStep (s : Seg) (x : UInt8 × List UInt8) : Option Seg :=
  if s.first = 0 then (if hedN x.1 x.2 = 0 then none else some ⟨hedN x.1 x.2, s.l, s.good + (x.2.length + 8)⟩)
  else if linB x.1 x.2 (s.first + s.l.length) = true then some ⟨s.first, s.l ++ [(linP x.2).2.1], s.good + (x.2.length + 8)⟩ else none
/-- All frames went. -/
def segRun : Seg → List (UInt8 × List UInt8) → Option Seg
  | s, [] => some s
  | s, x :: r => match segStep s x with
    | none => none
    | some t => segRun t r
/-- As far as it goes. -/
def segGo : Seg → List (UInt8 × List UInt8) → Seg
  | s, [] => s
  | s, x :: r => match segStep s x with
    | none => s
    | some t => segGo t r
theorem segRun_snoc {s t : Seg} {pre : List (UInt8 × List UInt8)} (h : segRun s pre = some t) (x : UInt8 × List UInt8) : segRun s (pre ++ [x]) = segStep t x := by
  induction pre generalizing s with
  | nil =>
    simp only [segRun, Option.some.injEq] at h
    subst h
    simp only [List.nil_append, segRun]
    cases segStep s x <;> rfl
  | cons y r ih =>
    simp only [segRun, List.cons_append] at h ⊢
    cases hs : segStep s y with
    | none => rw [hs] at h; simp at h
    | some u =>
      rw [hs] at h
      exact ih h
theorem segGo_run {s t : Seg} {pre : List (UInt8 × List UInt8)} (h : segRun s pre = some t) (rest : List (UInt8 × List UInt8)) : segGo s (pre ++ rest) = segGo t rest := by
  induction pre generalizing s with
  | nil =>
    simp only [segRun, Option.some.injEq] at h
    subst h
    rfl
  | cons y r ih =>
    simp only [segRun, List.cons_append, segGo] at h ⊢
    cases hs : segStep s y with
    | none => rw [hs] at h; simp at h
    | some u =>
      rw [hs] at h
      exact ih h
theorem segGo_stop {s t : Seg} {pre : List (UInt8 × List UInt8)} {x : UInt8 × List UInt8} (h : segRun s pre = some t) (hx : segStep t x = none) (rest : List (UInt8 × List UInt8)) : segGo s (pre ++ x :: rest) = t := by
  rw [segGo_run h, segGo, hx]
theorem segGo_end {s t : Seg} {pre : List (UInt8 × List UInt8)} (h : segRun s pre = some t) : segGo s pre = t := by
  have := segGo_run h []
  rwa [List.append_nil] at this
/-- A segment, as bytes are read. -/
def segOf (xs : List UInt8) : Seg := segGo seg0 (frs xs)
theorem hedN_le (k : UInt8) (b : List UInt8) : hedN k b ≤ 1152921504606846976 := by
  have h : ∀ s, (rnum 1152921504606846976 s).1 ≤ 1152921504606846976 := by
    rintro ⟨xs, b⟩
    cases xs with
    | nil => exact Nat.zero_le _
    | cons x r =>
      simp only [rnum]
      split
      · exact Nat.zero_le _
      · split
        · exact Nat.zero_le _
        · omega
  unfold hedN
  split
  · exact h _
  · exact Nat.zero_le _
/-- What a run keeps: the bound of the first index; entries are fewer than bytes. -/
theorem segStep_inv {s t : Seg} {x : UInt8 × List UInt8} (h : segStep s x = some t) (h1 : s.first ≤ 1152921504606846976) (h2 : 8 * s.l.length ≤ s.good) : t.first ≤ 1152921504606846976 ∧ 8 * t.l.length ≤ t.good ∧ t.first ≠ 0 ∧ t.good = s.good + (x.2.length + 8) := by
  unfold segStep at h
  split at h
  · split at h
    · cases h
    · rename_i h3 h4
      simp only [Option.some.injEq] at h
      subst h
      exact ⟨hedN_le _ _, by dsimp only; omega, h4, rfl⟩
  · split at h
    · rename_i h3 h4
      simp only [Option.some.injEq] at h
      subst h
      exact ⟨h1, by dsimp only; rw [List.length_append, List.length_singleton]; omega, h3, rfl⟩
    · cases h
theorem segRun_inv {pre : List (UInt8 × List UInt8)} : ∀ {s t : Seg}, segRun s pre = some t → s.first ≤ 1152921504606846976 → 8 * s.l.length ≤ s.good → t.first ≤ 1152921504606846976 ∧ 8 * t.l.length ≤ t.good ∧ t.good = s.good + flen pre := by
  induction pre with
  | nil =>
    intro s t h h1 h2
    simp only [segRun, Option.some.injEq] at h
    subst h
    exact ⟨h1, h2, by rw [flen_nil]; rfl⟩
  | cons x r ih =>
    intro s t h h1 h2
    simp only [segRun] at h
    cases hs : segStep s x with
    | none => rw [hs] at h; cases h
    | some u =>
      rw [hs] at h
      obtain ⟨a, b, -, c⟩ := segStep_inv hs h1 h2
      obtain ⟨d, e, f⟩ := ih h a b
      exact ⟨d, e, by rw [f, c, flen_cons]; omega⟩
end Cf
