/- Frames, in plain Lean: what is wrapped, what is taken, the frames with which bytes begin. -/
import Derived.Test.YtoccidpocagkjaaMth
set_option linter.unusedVariables false
set_option linter.unusedSimpArgs false
namespace Cf
theorem len3_val {n : Nat} (h : n < 16777216) : (UInt8.ofNat (n / 65536)).toNat * 65536 + (UInt8.ofNat (n / 256)).toNat * 256 + (UInt8.ofNat n).toNat = n := sum3_val h
/-- A frame's head: the mark, the kind, the length. -/
def hed (k : UInt8) (n : Nat) : List UInt8 := 0x66 :: k :: sum3 n
def wrp (k : UInt8) (xs : List UInt8) : List UInt8 := sld (hed k xs.length ++ xs)
theorem hed_length (k : UInt8) (n : Nat) : (hed k n).length = 5 := rfl
theorem wrp_length (k : UInt8) (xs : List UInt8) : (wrp k xs).length = xs.length + 8 := by
  rw [wrp, sld_length, List.length_append, hed_length]
  omega
/-- The length that a head tells. -/
def vl (b : List UInt8) : Nat := (b.getD 2 0).toNat * 65536 + (b.getD 3 0).toNat * 256 + (b.getD 4 0).toNat
theorem vl_lt (b : List UInt8) : vl b < 16777216 := by
  have h2 := (b.getD 2 0).toNat_lt
  have h3 := (b.getD 3 0).toNat_lt
  have h4 := (b.getD 4 0).toNat_lt
  unfold vl
  omega
def badB (b : List UInt8) : Bool := (decide (5 ≤ b.length) && decide (65536 < vl b)) || (decide (2 ≤ b.length) && (b.getD 1 0 == 0)) || (decide (1 ≤ b.length) && (b.getD 0 0 != 0x66))
def tornB (b : List UInt8) : Bool := decide (b.length < 5) || decide (b.length < vl b + 8)
/-- What frame.size tells: how long the frame is, and an error's number. -/
def siz (b : List UInt8) : Nat × Nat := if badB b then (0, 20) else if tornB b then (0, 23) else (vl b + 8, 0)
/-- What is taken: kind, body, length, error. -/
def tak (b : List UInt8) : UInt8 × List UInt8 × Nat × Nat :=
  if (siz b).2 ≠ 0 then (0, [], 0, (siz b).2) else
  if opnB (b.take (siz b).1) then (b.getD 1 0, (b.take (vl b + 5)).drop 5, vl b + 8, 0) else (0, [], 0, 22)
theorem siz_ok {b : List UInt8} (h : (siz b).2 = 0) : badB b = false ∧ tornB b = false ∧ (siz b).1 = vl b + 8 := by
  unfold siz at h ⊢
  split at h
  · simp at h
  · split at h
    · simp at h
    · rename_i h1 h2
      exact ⟨by simpa using h1, by simpa using h2, by rw [if_neg h1, if_neg h2]⟩
theorem tornB_no {b : List UInt8} (h : tornB b = false) : 5 ≤ b.length ∧ vl b + 8 ≤ b.length := by
  simp only [tornB, Bool.or_eq_false_iff, decide_eq_false_iff_not] at h
  omega
theorem badB_no {b : List UInt8} (h : badB b = false) (h5 : 5 ≤ b.length) : vl b ≤ 65536 ∧ b.getD 1 0 ≠ 0 ∧ b.getD 0 0 = 0x66 := by
  simp only [badB, Bool.or_eq_false_iff, Bool.and_eq_false_iff, decide_eq_false_iff_not, beq_eq_false_iff_ne, bne_eq_false_iff_eq] at h
  obtain ⟨⟨h1, h2⟩, h3⟩ := h
  exact ⟨by omega, by rcases h2 with h2 | h2; · omega
                      · exact h2, by rcases h3 with h3 | h3; · omega
                                     · exact h3⟩
theorem take5 {b : List UInt8} (h5 : 5 ≤ b.length) (h0 : b.getD 0 0 = 0x66) : b.take (vl b + 5) = hed (b.getD 1 0) (vl b) ++ (b.take (vl b + 5)).drop 5 := by
  obtain ⟨b0, b1, b2, b3, b4, r, rfl⟩ : ∃ b0 b1 b2 b3 b4 r, b = b0 :: b1 :: b2 :: b3 :: b4 :: r := by
    rcases b with _ | ⟨b0, _ | ⟨b1, _ | ⟨b2, _ | ⟨b3, _ | ⟨b4, r⟩⟩⟩⟩⟩
    case cons.cons.cons.cons.cons => exact ⟨b0, b1, b2, b3, b4, r, rfl⟩
    all_goals simp at h5
  have e : [b2, b3, b4] = sum3 (vl (b0 :: b1 :: b2 :: b3 :: b4 :: r)) := (sum3_eq (vl_lt _) b2 b3 b4).1 rfl
  simp only [List.getD_cons_zero] at h0
  subst h0
  unfold hed
  rw [← e]
  simp
/-- What is taken is a frame. -/
theorem tak_ok {b : List UInt8} (h : (tak b).2.2.2 = 0) : ∃ body, (tak b).2.1 = body ∧ body.length = vl b ∧ body.length ≤ 65536 ∧ (tak b).1 = b.getD 1 0 ∧ (tak b).1 ≠ 0 ∧ (tak b).2.2.1 = body.length + 8 ∧ body.length + 8 ≤ b.length ∧ b.take (body.length + 8) = wrp (tak b).1 body ∧ opnB (b.take (body.length + 8)) = true := by
  unfold tak at h ⊢
  split at h
  · rename_i h1
    exact absurd h h1
  · rename_i h1
    have h1 : (siz b).2 = 0 := by simpa using h1
    split at h
    · rename_i h2
      rw [if_neg (by simp [h1]), if_pos h2]
      obtain ⟨hb, ht, hs⟩ := siz_ok h1
      obtain ⟨h5, hv⟩ := tornB_no ht
      obtain ⟨hv2, hk, h0⟩ := badB_no hb h5
      have hl : ((b.take (vl b + 5)).drop 5).length = vl b := by rw [List.length_drop, List.length_take]; omega
      refine ⟨_, rfl, hl, by rw [hl]; exact hv2, rfl, hk, by simp [hl], by rw [hl]; exact hv, ?_, by rw [hl, ← hs]; exact h2⟩
      rw [hl]
      rw [hs] at h2
      simp only [opnB, Bool.and_eq_true, decide_eq_true_eq, beq_iff_eq] at h2
      have hl2 : (b.take (vl b + 8)).length = vl b + 8 := by rw [List.length_take]; omega
      rw [hl2] at h2
      refine h2.2.symm.trans ?_
      unfold wrp
      refine congrArg sld ?_
      rw [hl]
      rw [List.take_take, show min (vl b + 8 - 3) (vl b + 8) = vl b + 5 by omega]
      exact take5 h5 h0
    · simp at h
theorem vl_wrp (k : UInt8) (xs more : List UInt8) (h : xs.length < 16777216) : vl (wrp k xs ++ more) = xs.length := by
  have := len3_val h
  simpa [vl, wrp, sld, hed, sum3] using this
/-- Take undoes Wrap, whatever follows. -/
theorem tak_wrp (k : UInt8) (xs more : List UInt8) (hk : k ≠ 0) (h : xs.length ≤ 65536) : tak (wrp k xs ++ more) = (k, xs, xs.length + 8, 0) := by
  have hv := vl_wrp k xs more (by omega)
  have hw := wrp_length k xs
  have hg0 : (wrp k xs ++ more).getD 0 0 = 0x66 := rfl
  have hg1 : (wrp k xs ++ more).getD 1 0 = k := rfl
  have hb : badB (wrp k xs ++ more) = false := by
    unfold badB
    rw [hv, hg0, hg1]
    simp [hk]
    omega
  have ht : tornB (wrp k xs ++ more) = false := by
    unfold tornB
    rw [hv, List.length_append, hw]
    simp
    omega
  have hs : siz (wrp k xs ++ more) = (xs.length + 8, 0) := by
    unfold siz
    rw [hb, ht, hv]
    rfl
  have htk : (wrp k xs ++ more).take (xs.length + 8) = wrp k xs := by
    rw [← hw]
    simp
  unfold tak
  rw [hs, if_neg (by simp), htk, if_pos (by rw [wrp]; exact opnB_sld _), hv, hg1]
  have h5 : (wrp k xs ++ more).take (xs.length + 5) = hed k xs.length ++ xs := by
    have : (hed k xs.length ++ xs).length = xs.length + 5 := by rw [List.length_append, hed_length]; omega
    rw [wrp, sld, List.append_assoc, ← this, List.take_left]
  rw [h5]
  rfl
end Cf
