/- A segment that is cut off or whose last three bytes were turned: what is read of it, in plain Lean. -/
import Derived.Test.YtakneimkadjiiaaMln
set_option linter.unusedVariables false
set_option linter.unusedSimpArgs false
namespace Cf
theorem tak_short {x : List UInt8} (h : x.length < 8) : (tak x).2.2.2 ≠ 0 := by
  intro e
  obtain ⟨body, _, _, _, _, _, _, h7, _⟩ := tak_ok e
  omega
theorem frs_short {x : List UInt8} (h : x.length < 8) : frs x = [] := frs_bad (tak_short h)
theorem wrp_take (k : UInt8) (y : List UInt8) : (wrp k y).take (y.length + 5) = hed k y.length ++ y := by
  unfold wrp sld
  rw [List.take_append_of_le_length (by rw [List.length_append, hed_length]; omega), List.take_of_length_le (by rw [List.length_append, hed_length]; omega)]
theorem getD_of_take {x y : List UInt8} {n i : Nat} (h : x.take n = y.take n) (hi : i < n) : x.getD i 0 = y.getD i 0 := by
  have := congrArg (fun l => l.getD i 0) h
  simpa [List.getD_eq_getElem?_getD, List.getElem?_take, hi] using this
theorem vl_of_take {x y : List UInt8} {n : Nat} (h : x.take n = y.take n) (hn : 5 ≤ n) : vl x = vl y := by
  unfold vl
  rw [getD_of_take h (show 2 < n by omega), getD_of_take h (show 3 < n by omega), getD_of_take h (show 4 < n by omega)]
theorem vl_wrp' (k : UInt8) (B : List UInt8) (h : B.length ≤ 65536) : vl (wrp k B) = B.length := by
  have := vl_wrp k B [] (by omega)
  rwa [List.append_nil] at this
/-- Bytes with a frame's head but too short are no frame. -/
theorem tak_less {x : List UInt8} {k : UInt8} {B : List UInt8} {n : Nat} (hB : B.length ≤ 65536) (h : x.take n = (wrp k B).take n) (hn : 5 ≤ n) (hl : x.length < B.length + 8) : (tak x).2.2.2 ≠ 0 := by
  intro e
  obtain ⟨body, _, h2, _, _, _, _, h7, _⟩ := tak_ok e
  rw [vl_of_take h hn, vl_wrp' k B hB] at h2
  omega
/-- Bytes with a frame's head and body are that frame, or none. -/
theorem tak_else {x : List UInt8} {k : UInt8} {B : List UInt8} (hB : B.length ≤ 65536) (h : x.take (B.length + 5) = (wrp k B).take (B.length + 5)) (hne : x.take (B.length + 8) ≠ wrp k B) : (tak x).2.2.2 ≠ 0 := by
  intro e
  obtain ⟨body, h1, h2, h3, h4, h5, h6, h7, h8, _⟩ := tak_ok e
  rw [vl_of_take h (by omega), vl_wrp' k B hB] at h2
  have hk : (tak x).1 = k := by
    rw [h4, getD_of_take h (show 1 < B.length + 5 by omega)]
    rfl
  rw [h2, hk] at h8
  have h9 := congrArg (List.take (B.length + 5)) h8
  rw [List.take_take, Nat.min_eq_left (by omega), h, wrp_take] at h9
  have h10 := wrp_take k body
  rw [h2] at h10
  rw [h10] at h9
  have : B = body := List.append_cancel_left h9
  subst this
  exact hne h8
/-- Where a cut falls. -/
theorem lines_cut (i : Nat) (es : List Ent) (p : Nat) (hp : p < (linesW i es).length) : ∃ (j q : Nat) (hj : j < es.length), q < (linW (i + j) es[j]).length ∧ p = (linesW i (es.take j)).length + q ∧ (linesW i es).take p = linesW i (es.take j) ++ (linW (i + j) es[j]).take q := by
  induction es generalizing i p with
  | nil => simp [linesW] at hp
  | cons e es ih =>
    rw [linesW] at hp ⊢
    by_cases h : p < (linW i e).length
    · exact ⟨0, p, by simp, by simpa using h, by simp [linesW], by simp [linesW, List.take_append_of_le_length (Nat.le_of_lt h)]⟩
    · obtain ⟨j, q, hj, hq, hpe, ht⟩ := ih (i + 1) (p - (linW i e).length) (by rw [List.length_append] at hp; omega)
      refine ⟨j + 1, q, by simpa using hj, ?_, ?_, ?_⟩
      · simpa [Nat.add_assoc, Nat.add_comm 1 j] using hq
      · simp only [List.take_succ_cons, linesW, List.length_append]
        omega
      · rw [List.take_append, List.take_of_length_le (by omega), ht]
        simp [linesW, Nat.add_assoc, Nat.add_comm 1 j]
/-- What is read of a segment that is cut off. -/
theorem seg_cut (f : Nat) (hf : f ≠ 0) (hf2 : f ≤ 1152921504606846976) (es : List Ent) (hs : ∀ e ∈ es, soundB e = true) (hi : f + es.length ≤ 18446744073709551616) (j q : Nat) (hj : j < es.length) (hq : q < (linW (f + j) es[j]).length) :
    segOf (hedW f ++ (linesW f (es.take j) ++ (linW (f + j) es[j]).take q)) = ⟨f, es.take j, (hedW f).length + (linesW f (es.take j)).length⟩ := by
  have h1 := segOf_lines f hf hf2 (es.take j) ((linW (f + j) es[j]).take q) (fun e he => hs e (List.mem_of_mem_take he)) (by rw [List.length_take]; omega)
  have h2 : frs ((linW (f + j) es[j]).take q) = [] := by
    refine frs_bad ?_
    have hb := linT_len (f + j) es[j] (hs _ (List.getElem_mem hj)) (by omega)
    rw [linW_len] at hq
    have := tak_torn 2 (linT (f + j) es[j]) q (by decide) (by omega) hq
    rw [linW, this]
    simp
  rw [← List.append_assoc, h1, h2]
  rfl
/-- .. and of one whose last three bytes are other ones besides. -/
theorem seg_turn (f : Nat) (hf : f ≠ 0) (hf2 : f ≤ 1152921504606846976) (es : List Ent) (hs : ∀ e ∈ es, soundB e = true) (hi : f + es.length ≤ 18446744073709551616) (j q : Nat) (hj : j < es.length) (hq : q < (linW (f + j) es[j]).length) (S : List UInt8)
    (hl : S.length = (linesW f (es.take j)).length + q) (h3 : 3 ≤ S.length) (hS : S.take (S.length - 3) = (linesW f (es.take j) ++ (linW (f + j) es[j]).take q).take (S.length - 3)) :
    ∃ j', j' ≤ j ∧ j ≤ j' + 1 ∧ (segOf (hedW f ++ S)).first = f ∧ (segOf (hedW f ++ S)).l = es.take j' := by
  have hbl := fun (j : Nat) (hj : j < es.length) => linT_len (f + j) es[j] (hs _ (List.getElem_mem hj)) (by omega)
  by_cases h : 3 ≤ q
  · -- the torn rest alone is turned
    refine ⟨j, Nat.le_refl _, Nat.le_succ _, ?_⟩
    have hpre : S.take (linesW f (es.take j)).length = linesW f (es.take j) := by
      have := congrArg (List.take (linesW f (es.take j)).length) hS
      rw [List.take_take, List.take_take, Nat.min_eq_left (by omega), List.take_append_of_le_length (Nat.le_refl _), List.take_length] at this
      exact this
    obtain ⟨r, hr⟩ : ∃ r, S = linesW f (es.take j) ++ r := ⟨S.drop (linesW f (es.take j)).length, by
      have := List.take_append_drop (linesW f (es.take j)).length S
      rw [hpre] at this
      exact this.symm⟩
    have hrl : r.length = q := by rw [hr, List.length_append] at hl; omega
    have hrt : r.take (q - 3) = (linW (f + j) es[j]).take (q - 3) := by
      have := congrArg (List.drop (linesW f (es.take j)).length) hS
      rw [hr, List.length_append, hrl] at this
      rw [show (linesW f (es.take j)).length + q - 3 = (linesW f (es.take j)).length + (q - 3) by omega] at this
      rw [List.take_length_add_append, List.take_length_add_append, List.drop_left, List.drop_left, List.take_take, Nat.min_eq_left (by omega)] at this
      exact this
    have h1 := segOf_lines f hf hf2 (es.take j) r (fun e he => hs e (List.mem_of_mem_take he)) (by rw [List.length_take]; omega)
    have h2 : frs r = [] := by
      by_cases h8 : q < 8
      · exact frs_short (by omega)
      · refine frs_bad (tak_less (k := 2) (B := linT (f + j) es[j]) (n := q - 3) (by have := hbl j hj; omega) hrt (by omega) ?_)
        rw [linW_len] at hq
        omega
    rw [hr, ← List.append_assoc, h1, h2]
    exact ⟨rfl, rfl⟩
  · -- the last whole line may be turned
    have hj0 : j ≠ 0 := by
      rintro rfl
      simp [linesW] at hl
      omega
    obtain ⟨i, rfl⟩ : ∃ i, j = i + 1 := ⟨j - 1, by omega⟩
    have hji : i < es.length := by omega
    have hti : es.take (i + 1) = es.take i ++ [es[i]] := List.take_succ_eq_append_getElem hji
    have hlin : linesW f (es.take (i + 1)) = linesW f (es.take i) ++ linW (f + i) es[i] := by
      rw [hti, linesW_snoc, List.length_take, Nat.min_eq_left (Nat.le_of_lt hji)]
    have hwl := linW_len (f + i) es[i]
    rw [hlin] at hl hS
    have hlen : S.length = (linesW f (es.take i)).length + ((linW (f + i) es[i]).length + q) := by rw [hl, List.length_append]; omega
    have hpre : S.take (linesW f (es.take i)).length = linesW f (es.take i) := by
      have := congrArg (List.take (linesW f (es.take i)).length) hS
      rw [List.take_take, List.take_take, Nat.min_eq_left (by omega), List.append_assoc, List.take_append_of_le_length (Nat.le_refl _), List.take_length] at this
      exact this
    obtain ⟨X, hX⟩ : ∃ X, S = linesW f (es.take i) ++ X := ⟨S.drop (linesW f (es.take i)).length, by
      have := List.take_append_drop (linesW f (es.take i)).length S
      rw [hpre] at this
      exact this.symm⟩
    have hXl : X.length = (linW (f + i) es[i]).length + q := by rw [hX, List.length_append] at hlen; omega
    have hXt : X.take ((linT (f + i) es[i]).length + 5) = (linW (f + i) es[i]).take ((linT (f + i) es[i]).length + 5) := by
      have := congrArg (List.drop (linesW f (es.take i)).length) hS
      rw [hX, List.length_append, hXl, show (linesW f (es.take i)).length + ((linW (f + i) es[i]).length + q) - 3 = (linesW f (es.take i)).length + ((linW (f + i) es[i]).length + q - 3) by omega, List.append_assoc,
        List.take_length_add_append, List.take_length_add_append, List.drop_left, List.drop_left] at this
      have := congrArg (List.take ((linT (f + i) es[i]).length + 5)) this
      rw [List.take_take, List.take_take, Nat.min_eq_left (by omega), List.take_append_of_le_length (by omega)] at this
      exact this
    have hb := hbl i hji
    have h1 := segOf_lines f hf hf2 (es.take i) X (fun e he => hs e (List.mem_of_mem_take he)) (by rw [List.length_take]; omega)
    by_cases hw : X.take ((linT (f + i) es[i]).length + 8) = linW (f + i) es[i]
    · refine ⟨i + 1, Nat.le_refl _, Nat.le_succ _, ?_⟩
      obtain ⟨r, hr⟩ : ∃ r, X = linW (f + i) es[i] ++ r := ⟨X.drop ((linT (f + i) es[i]).length + 8), by
        have := List.take_append_drop ((linT (f + i) es[i]).length + 8) X
        rw [hw] at this
        exact this.symm⟩
      have hrl : r.length = q := by rw [hr, List.length_append] at hXl; omega
      have h2 := segOf_lines f hf hf2 (es.take (i + 1)) r (fun e he => hs e (List.mem_of_mem_take he)) (by rw [List.length_take]; omega)
      rw [hX, hr, ← List.append_assoc (linesW f (es.take i)), ← hlin, ← List.append_assoc, h2, frs_short (by omega)]
      exact ⟨rfl, rfl⟩
    · refine ⟨i, Nat.le_succ _, Nat.le_refl _, ?_⟩
      have h2 : frs X = [] := frs_bad (tak_else (k := 2) (B := linT (f + i) es[i]) (by omega) hXt hw)
      rw [hX, ← List.append_assoc, h1, h2]
      exact ⟨rfl, rfl⟩
end Cf
