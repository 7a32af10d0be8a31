/- A wire message that is written is read, and what is read is what was written; in plain Lean. -/
import Derived.Test.YtoccidpocagkjaaMwm
set_option linter.unusedVariables false
set_option linter.unusedSimpArgs false
namespace Cf
/-! ### A bad reader stays bad -/
theorem rnum_bad {most : Nat} {s : RS} (h : s.2 = true) : (rnum most s).2.2 = true := by
  obtain ⟨xs, b⟩ := s
  cases xs with
  | nil => rfl
  | cons x r =>
    simp only [rnum]
    split
    · rfl
    · split
      · rfl
      · exact h
theorem rraw_bad {n : Nat} {s : RS} (h : s.2 = true) : (rraw n s).2.2 = true := by
  unfold rraw
  split
  · rfl
  · exact h
theorem rtext_bad {most : Nat} {s : RS} (h : s.2 = true) : (rtext most s).2.2 = true := by
  unfold rtext
  split
  · rfl
  · exact rraw_bad (rnum_bad h)
theorem rflag_bad {s : RS} (h : s.2 = true) : (rflag s).2.2 = true := rnum_bad h
theorem rmems_bad {q : Nat} : ∀ {n : Nat} {s : RS}, s.2 = true → (rmems q n s).2.2 = true
  | 0, _, h => h
  | n + 1, _, h => rmems_bad (n := n) (rnum_bad h)
theorem rent_bad {s : RS} (h : s.2 = true) : (rent s).2.2 = true := rtext_bad (rnum_bad (rnum_bad h))
theorem rents_bad : ∀ {n : Nat} {s : RS}, s.2 = true → (rents n s).2.2 = true
  | 0, _, h => h
  | n + 1, _, h => rents_bad (n := n) (rent_bad h)
theorem wfill_bad {q : Nat} {m : Wm} {s : RS} (h : s.2 = true) : (wfill q m s).2.2 = true := by
  unfold wfill
  split
  · exact rflag_bad h
  split
  · exact rnum_bad (rnum_bad (rflag_bad h))
  split
  · dsimp only
    split
    · exact rtext_bad (rnum_bad h)
    · rfl
  split
  · exact rnum_bad (rnum_bad h)
  split
  · exact rflag_bad (rnum_bad (rnum_bad h))
  split
  · exact rents_bad (rnum_bad (rnum_bad (rnum_bad (rnum_bad (rnum_bad h)))))
  · exact h
/-! ### The greatest number read of a node does not matter -/
theorem rnum_low {q p : Nat} {s : RS} (hqp : q ≤ p) (h : (rnum p s).1 ≤ q) : rnum q s = rnum p s := by
  obtain ⟨xs, b⟩ := s
  cases xs with
  | nil => rfl
  | cons x r =>
    simp only [rnum] at h ⊢
    split
    · rfl
    · rename_i hb
      rw [if_neg hb] at h
      by_cases hp : p < beN (r.take x.toNat)
      · rw [if_pos hp, if_pos (by omega)]
      · rw [if_neg hp] at h ⊢
        rw [if_neg (by simpa using h)]
theorem rnum_high {q p : Nat} {s : RS} (h : q < (rnum p s).1) : (rnum q s).2.2 = true := by
  obtain ⟨xs, b⟩ := s
  cases xs with
  | nil => exact absurd h (by simp [rnum])
  | cons x r =>
    simp only [rnum] at h ⊢
    split
    · rfl
    · rename_i hb
      rw [if_neg hb] at h
      split
      · rfl
      · rename_i hq
        split at h
        · exact absurd h (by simp)
        · exact absurd h (by simpa using hq)
theorem rmems_67 : ∀ (n : Nat) (s : RS), rmems 6 n s = rmems 7 n s ∨ ((rmems 6 n s).2.2 = true ∧ ∃ x ∈ (rmems 7 n s).1, (6 : Int) < x)
  | 0, s => .inl rfl
  | n + 1, s => by
    by_cases h : (rnum 7 s).1 ≤ 6
    · have e := rnum_low (by decide) h
      rcases rmems_67 n (rnum 7 s).2 with h2 | ⟨h2, x, hx, hx6⟩
      · left
        simp only [rmems]
        rw [e, h2]
      · right
        simp only [rmems]
        rw [e]
        exact ⟨h2, x, List.mem_cons_of_mem _ hx, hx6⟩
    · right
      simp only [rmems]
      exact ⟨rmems_bad (rnum_high (p := 7) (by omega)), _, List.mem_cons_self, by omega⟩
theorem risB_lt {l : List Int} : ∀ {k : Int}, risB k l = true → ∀ x ∈ l, k < x ∧ x < 7 := by
  induction l with
  | nil => intro k _ x hx; cases hx
  | cons n r ih =>
    intro k h x hx
    simp only [risB, Bool.and_eq_true, decide_eq_true_eq] at h
    rcases List.mem_cons.1 hx with rfl | hx
    · exact h.1
    · have := ih h.2 x hx
      exact ⟨by omega, this.2⟩
theorem membersB_lt {l : List Int} (h : membersB l = true) : l.length ≤ 7 ∧ 0 < l.length ∧ ∀ x ∈ l, 0 ≤ x ∧ x < 7 := by
  simp only [membersB, Bool.and_eq_true, decide_eq_true_eq] at h
  exact ⟨h.1.2, h.1.1, fun x hx => by have := risB_lt h.2 x hx; omega⟩
theorem rend_good {s : RS} (h : rend s = true) : s = ([], false) := by
  obtain ⟨xs, b⟩ := s
  cases b <;> cases xs <;> simp_all [rend]
theorem rend_bad {s : RS} (h : s.2 = true) : rend s = false := by simp [rend, h]
theorem snSound_ok {s : Sn} (h : snSound s = true) : 1 ≤ s.index ∧ s.index < 576460752303423488 ∧ 1 ≤ s.term ∧ s.term ≤ 1152921504606846976 ∧ membersB s.members = true ∧ s.data.length ≤ 32768 := by
  simpa [snSound, and_assoc] using h
theorem snRead_67 (xs : List UInt8) : snRead 6 xs = snRead 7 xs := by
  rcases rmems_67 (rnum 7 (rnum 1152921504606846976 (rnum 576460752303423488 (frL xs, false)).2).2).1 (rnum 7 (rnum 1152921504606846976 (rnum 576460752303423488 (frL xs, false)).2).2).2 with h | ⟨h, x, hx, hx6⟩
  · have e : snGet 6 (frL xs, false) = snGet 7 (frL xs, false) := by
      simp only [snGet]
      rw [h]
    unfold snRead
    rw [e]
  · have h6 : rend (snGet 6 (frL xs, false)).2 = false := rend_bad (rtext_bad h)
    have h7 : snSound (snGet 7 (frL xs, false)).1 = false := by
      rw [← Bool.not_eq_true]
      intro hs
      have := (membersB_lt (snSound_ok hs).2.2.2.2.1).2.2 x hx
      omega
    unfold snRead
    rw [if_neg (by rw [h6]; simp), if_neg (by rw [h7]; simp)]
theorem wfill_67 (m : Wm) (s : RS) : wfill 6 m s = wfill 7 m s := by
  unfold wfill
  rw [snRead_67]
theorem wfill_who (q : Nat) (m : Wm) (s : RS) : (wfill q m s).1.frm = m.frm ∧ (wfill q m s).1.dst = m.dst ∧ (wfill q m s).1.kind = m.kind ∧ (wfill q m s).1.term = m.term := by
  unfold wfill
  repeat' split
  all_goals exact ⟨rfl, rfl, rfl, rfl⟩
theorem soundW_head {m : Wm} (h : soundW m = true) : (1 ≤ m.kind ∧ m.kind ≤ 8) ∧ (0 ≤ m.frm ∧ m.frm < 7) ∧ (0 ≤ m.dst ∧ m.dst < 7) ∧ m.frm ≠ m.dst := by
  simp only [soundW, headB, nodeB, Bool.and_eq_true, decide_eq_true_eq, Bool.not_eq_true', beq_eq_false_iff_ne] at h
  obtain ⟨⟨⟨⟨⟨⟨⟨⟨h1, h2⟩, h3⟩, h4⟩, h5⟩, _⟩, _⟩, _⟩, _⟩ := h
  exact ⟨⟨h1, h2⟩, h3, h4, h5⟩
theorem wread_67 (xs : List UInt8) : wread 6 xs = wread 7 xs := by
  have e : ∀ s : RS, whead 6 s = whead 7 s ∨ ((whead 6 s).2.2 = true ∧ (6 < (whead 7 s).1.frm ∨ 6 < (whead 7 s).1.dst)) := by
    intro s
    by_cases h : (rnum 7 (rnum 8 s).2).1 ≤ 6
    · have e1 := rnum_low (by decide) h
      by_cases h2 : (rnum 7 (rnum 7 (rnum 8 s).2).2).1 ≤ 6
      · have e2 := rnum_low (by decide) h2
        left
        simp only [whead]
        rw [e1, e2]
      · right
        simp only [whead]
        rw [e1]
        exact ⟨rnum_bad (rnum_high (p := 7) (by omega)), .inr (by omega)⟩
    · right
      simp only [whead]
      exact ⟨rnum_bad (rnum_bad (rnum_high (p := 7) (by omega))), .inl (by omega)⟩
  rcases e (frL xs, false) with h | ⟨h, h7⟩
  · have e : wget 6 (frL xs, false) = wget 7 (frL xs, false) := by
      unfold wget
      rw [h, wfill_67]
    unfold wread
    rw [e]
  · have h6 : rend (wget 6 (frL xs, false)).2 = false := rend_bad (wfill_bad h)
    have hs : soundW (wget 7 (frL xs, false)).1 = false := by
      rw [← Bool.not_eq_true]
      intro hs
      obtain ⟨_, h1, h2, _⟩ := soundW_head hs
      obtain ⟨e1, e2, _⟩ := wfill_who 7 (whead 7 (frL xs, false)).1 (whead 7 (frL xs, false)).2
      unfold wget at h1 h2
      rw [e1] at h1
      rw [e2] at h2
      omega
    unfold wread
    rw [if_neg (by rw [h6]; simp), if_neg (by rw [hs]; simp)]
/-! ### What is written is read -/
theorem numB_lenS {n : Nat} (h : n < 18446744073709551616) : (numB n).length ≤ 9 := numB_len h
theorem memsT_len : ∀ {l : List Int}, (∀ x ∈ l, 0 ≤ x ∧ x < 7) → (memsT l).length ≤ 9 * l.length
  | [], _ => by simp [memsT]
  | n :: r, h => by
    have h1 := numB_len (show n.toNat < 18446744073709551616 by have := h n (by simp); omega)
    have h2 := memsT_len (l := r) (fun x hx => h x (by simp [hx]))
    simp only [memsT, List.map_cons, List.flatten_cons, List.length_append, List.length_cons] at h2 ⊢
    omega
theorem rmems_memsT : ∀ {l : List Int} {q : Nat} (r : List UInt8) (b : Bool), 6 ≤ q → q ≤ 7 → (∀ x ∈ l, 0 ≤ x ∧ x < 7) → rmems q l.length (memsT l ++ r, b) = (l, r, b)
  | [], _, _, _, _, _, _ => by simp [memsT, rmems]
  | n :: t, q, r, b, hq, hq7, h => by
    have hn := h n (by simp)
    have e : rnum q (memsT (n :: t) ++ r, b) = (n.toNat, memsT t ++ r, b) := by
      have := rnum_numB (show n.toNat ≤ q by omega) (show q < 18446744073709551616 by omega) (memsT t ++ r) b
      rw [← this]
      simp [memsT]
    simp only [List.length_cons, rmems]
    rw [e]
    dsimp only
    rw [rmems_memsT (l := t) r b hq hq7 (fun x hx => h x (by simp [hx]))]
    simp only [Prod.mk.injEq, List.cons.injEq, and_true]
    omega
theorem snBody_len {s : Sn} (h : snSound s = true) : (snBody s).length ≤ 33000 := by
  obtain ⟨h1, h2, h3, h4, h5, h6⟩ := snSound_ok h
  obtain ⟨m1, m2, m3⟩ := membersB_lt h5
  have a := numB_len (show s.index < 18446744073709551616 by omega)
  have b := numB_len (show s.term < 18446744073709551616 by omega)
  have c := numB_len (show s.members.length < 18446744073709551616 by omega)
  have d := memsT_len m3
  have e := txtB_len s.data (by omega)
  simp only [snBody, List.length_append]
  omega
theorem snGet_snBody {s : Sn} {q : Nat} (hq : 6 ≤ q) (hq7 : q ≤ 7) (h : snSound s = true) : snGet q (snBody s, false) = (s, [], false) := by
  obtain ⟨h1, h2, h3, h4, h5, h6⟩ := snSound_ok h
  obtain ⟨m1, m2, m3⟩ := membersB_lt h5
  have e1 : rnum 576460752303423488 (snBody s, false) = (s.index, numB s.term ++ (numB s.members.length ++ (memsT s.members ++ txtB s.data)), false) := by
    rw [snBody, List.append_assoc, List.append_assoc, List.append_assoc]
    exact rnum_numB (by omega) (by decide) _ _
  have e2 := rnum_numB (show s.term ≤ 1152921504606846976 by omega) (by decide) (numB s.members.length ++ (memsT s.members ++ txtB s.data)) false
  have e3 := rnum_numB (show s.members.length ≤ 7 by omega) (by decide) (memsT s.members ++ txtB s.data) false
  have e4 := rmems_memsT (txtB s.data) false hq hq7 m3
  have e5 := rtext_txtB (show s.data.length ≤ 32768 by omega) (by decide) [] false
  rw [List.append_nil] at e5
  simp only [snGet]
  rw [e1, e2, e3]
  dsimp only
  rw [e4]
  dsimp only
  rw [e5]
theorem fr_wrp (k : UInt8) (xs : List UInt8) (hk : k ≠ 0) (h : xs.length ≤ 65536) : frB (wrp k xs) = true ∧ frK (wrp k xs) = k ∧ frL (wrp k xs) = xs := by
  have e : tak (wrp k xs) = (k, xs, xs.length + 8, 0) := by
    have := tak_wrp k xs [] hk h
    rwa [List.append_nil] at this
  have hb : frB (wrp k xs) = true := by
    unfold frB
    rw [e, wrp_length]
    simp
  refine ⟨hb, ?_, ?_⟩
  · unfold frK
    rw [if_pos hb, e]
  · unfold frL
    rw [if_pos hb, e]
theorem snRead_snB {s : Sn} {q : Nat} (hq : 6 ≤ q) (hq7 : q ≤ 7) (h : snSound s = true) : snRead q (snB s) = (s, true) := by
  obtain ⟨_, h2, h3⟩ := fr_wrp 4 (snBody s) (by decide) (by have := snBody_len h; omega)
  have e := snGet_snBody hq hq7 h
  unfold snRead snB
  rw [h2, h3, e, if_pos ⟨rfl, rfl, h⟩]
theorem okB_sound {e : Ent} (h : okB e = true) : 1 ≤ e.term ∧ e.term ≤ 1152921504606846976 ∧ 1 ≤ e.kind ∧ e.kind ≤ 3 ∧ e.data.length ≤ 4096 := by
  simp only [okB, Bool.and_eq_true] at h
  simpa [soundB, and_assoc] using h.1
theorem rent_entT {e : Ent} (h : okB e = true) (r : List UInt8) (b : Bool) : rent (entT e ++ r, b) = (e, r, b) := by
  obtain ⟨h1, h2, h3, h4, h5⟩ := okB_sound h
  have e1 : rnum 1152921504606846976 (entT e ++ r, b) = (e.term, numB e.kind.toNat ++ (txtB e.data ++ r), b) := by
    rw [entT, List.append_assoc, List.append_assoc]
    exact rnum_numB (by omega) (by decide) _ _
  have e2 := rnum_numB (show e.kind.toNat ≤ 3 by omega) (by decide) (txtB e.data ++ r) b
  have e3 := rtext_txtB (show e.data.length ≤ 4096 by omega) (by decide) r b
  simp only [rent]
  rw [e1, e2]
  dsimp only
  rw [e3]
  obtain ⟨t, k, d⟩ := e
  dsimp only at *
  congr 2
  omega
theorem rents_entsT : ∀ {l : List Ent} (r : List UInt8) (b : Bool), (∀ e ∈ l, okB e = true) → rents l.length (entsT l ++ r, b) = (l, r, b)
  | [], r, b, _ => by simp [entsT, rents]
  | e :: t, r, b, h => by
    have h1 : rent (entsT (e :: t) ++ r, b) = (e, entsT t ++ r, b) := by
      rw [← rent_entT (h e (by simp)) (entsT t ++ r) b]
      simp [entsT]
    simp only [List.length_cons, rents]
    rw [h1]
    dsimp only
    rw [rents_entsT (l := t) r b (fun x hx => h x (by simp [hx]))]
theorem entsT_len : ∀ {l : List Ent}, (∀ e ∈ l, okB e = true) → (entsT l).length ≤ 4200 * l.length
  | [], _ => by simp [entsT]
  | e :: t, h => by
    obtain ⟨h1, h2, h3, h4, h5⟩ := okB_sound (h e (by simp))
    have a := numB_len (show e.term < 18446744073709551616 by omega)
    have b := numB_len (show e.kind.toNat < 18446744073709551616 by omega)
    have c := txtB_len e.data (by omega)
    have d := entsT_len (l := t) (fun x hx => h x (by simp [hx]))
    simp only [entsT, entT, List.map_cons, List.flatten_cons, List.length_append, List.length_cons] at d ⊢
    omega
theorem rowB_ok {hi : Nat} {l : List Ent} : ∀ {lo : Nat}, rowB lo hi l = true → ∀ e ∈ l, okB e = true := by
  induction l with
  | nil => intro lo _ e he; cases he
  | cons x r ih =>
    intro lo h e he
    simp only [rowB, Bool.and_eq_true] at h
    rcases List.mem_cons.1 he with rfl | he
    · exact h.1.1.1
    · exact ih h.2 e he
/-- What soundness says. -/
theorem soundW_ok {m : Wm} (h : soundW m = true) : (1 ≤ m.term ∧ m.term ≤ top) ∧ m.logTerm ≤ top ∧ m.index ≤ half ∧ m.commit ≤ half ∧ m.round ≤ top ∧ m.ents.length ≤ 8 ∧ (∀ e ∈ m.ents, okB e = true) ∧ (m.kind = 7 → snSound m.snap = true) ∧ m = plainW m := by
  simp only [soundW, Bool.and_eq_true, decide_eq_true_eq, Bool.or_eq_true, Bool.not_eq_true', beq_eq_false_iff_ne] at h
  obtain ⟨⟨⟨⟨_, h1, h2⟩, ⟨⟨⟨⟨⟨h3, h4⟩, h5⟩, h6⟩, h7⟩, h8⟩, h9⟩, h10⟩, h11⟩ := h
  exact ⟨⟨h1, h2⟩, Nat.le_trans h3 h2, h4, h5, h6, h7, rowB_ok h8, fun hk => by
    rcases h10 with h10 | h10
    · exact absurd hk h10
    · exact h10.1, h11⟩
theorem flagB_len (b : Bool) : (flagB b).length ≤ 9 := by cases b <;> exact numB_len (by decide)
theorem rflag_flagB (b c : Bool) (r : List UInt8) : rflag (flagB b ++ r, c) = (b, r, c) := by
  unfold rflag flagB
  have := rnum_numB (most := 1) (n := if b then 1 else 0) (by cases b <;> decide) (by decide) r c
  rw [this]
  cases b <;> rfl
theorem bodyW_len {m : Wm} (h : soundW m = true) : (bodyW m).length ≤ 65000 := by
  obtain ⟨k1, k2, k3, _⟩ := soundW_head h
  obtain ⟨h1, h2, h3, h4, h5, h6, h7, h8, _⟩ := soundW_ok h
  have ht : top = 1152921504606846976 := rfl
  have hh : half = 576460752303423488 := rfl
  have a1 := numB_len (show m.kind.toNat < 18446744073709551616 by omega)
  have a2 := numB_len (show m.frm.toNat < 18446744073709551616 by omega)
  have a3 := numB_len (show m.dst.toNat < 18446744073709551616 by omega)
  have a4 := numB_len (show m.term < 18446744073709551616 by omega)
  have a5 := numB_len (show m.index < 18446744073709551616 by omega)
  have a6 := numB_len (show m.logTerm < 18446744073709551616 by omega)
  have a7 := numB_len (show m.commit < 18446744073709551616 by omega)
  have a8 := numB_len (show m.round < 18446744073709551616 by omega)
  have a9 := numB_len (show m.ents.length < 18446744073709551616 by omega)
  have b1 := flagB_len m.ok
  have b2 := flagB_len m.force
  have b3 := entsT_len h7
  have b4 : m.kind = 7 → (txtB (snB m.snap)).length ≤ 33100 := fun hk => by
    have c1 := snBody_len (h8 hk)
    have c2 : (snB m.snap).length = (snBody m.snap).length + 8 := wrp_length 4 _
    have c3 := txtB_len (snB m.snap) (by omega)
    omega
  have hf : (fieldsB m).length ≤ 64000 := by
    unfold fieldsB
    split
    · rw [List.length_append]; omega
    split
    · omega
    split
    · rw [List.length_append, List.length_append]; omega
    split
    · rw [List.length_append, List.length_append, List.length_append, List.length_append, List.length_append]; omega
    split
    · rw [List.length_append, List.length_append]; omega
    split
    · rename_i hk
      have := b4 hk
      rw [List.length_append]; omega
    · simp
  simp only [bodyW, List.length_append]
  omega
theorem whead_bodyW {m : Wm} {q : Nat} (hq : 6 ≤ q) (hq7 : q ≤ 7) (h : soundW m = true) : whead q (bodyW m, false) = (⟨m.kind, m.frm, m.dst, m.term, 0, 0, 0, 0, false, false, [], sn0⟩, fieldsB m, false) := by
  obtain ⟨k1, k2, k3, _⟩ := soundW_head h
  obtain ⟨h1, _⟩ := soundW_ok h
  have ht : top = 1152921504606846976 := rfl
  have e1 : rnum 8 (bodyW m, false) = (m.kind.toNat, numB m.frm.toNat ++ (numB m.dst.toNat ++ (numB m.term ++ fieldsB m)), false) := by
    rw [bodyW, List.append_assoc, List.append_assoc, List.append_assoc]
    exact rnum_numB (by omega) (by decide) _ _
  have e2 := rnum_numB (show m.frm.toNat ≤ q by omega) (by omega) (numB m.dst.toNat ++ (numB m.term ++ fieldsB m)) false
  have e3 := rnum_numB (show m.dst.toNat ≤ q by omega) (by omega) (numB m.term ++ fieldsB m) false
  have e4 := rnum_numB (show m.term ≤ top by omega) (by decide) (fieldsB m) false
  simp only [whead]
  rw [e1, e2]
  dsimp only
  rw [e3]
  dsimp only
  rw [e4]
  dsimp only
  rw [Int.toNat_of_nonneg (by omega), Int.toNat_of_nonneg (by omega), Int.toNat_of_nonneg (by omega)]
theorem wget_bodyW {m : Wm} {q : Nat} (hq : 6 ≤ q) (hq7 : q ≤ 7) (h : soundW m = true) : wget q (bodyW m, false) = (m, [], false) := by
  obtain ⟨k1, k2, k3, _⟩ := soundW_head h
  obtain ⟨h1, h2, h3, h4, h5, h6, h7, h8, h9⟩ := soundW_ok h
  unfold wget
  rw [whead_bodyW hq hq7 h]
  dsimp only
  have hx : ∀ (k : Int), m.kind = k → m = plainW { m with kind := k } := fun k hk => by subst hk; exact h9
  have hp : ∀ (n most : Nat) (r : List UInt8), n ≤ most → most < 18446744073709551616 → rnum most (numB n ++ r, false) = (n, r, false) := fun n most r a b => rnum_numB a b r false
  have hp0 : ∀ (n most : Nat), n ≤ most → most < 18446744073709551616 → rnum most (numB n, false) = (n, [], false) := fun n most a b => by
    have := rnum_numB a b [] false
    rwa [List.append_nil] at this
  have hf0 : ∀ b : Bool, rflag (flagB b, false) = (b, [], false) := fun b => by
    have := rflag_flagB b false []
    rwa [List.append_nil] at this
  have hth : top < 18446744073709551616 := by decide
  have hhh : half < 18446744073709551616 := by decide
  have fi : ∀ r, rnum half (numB m.index ++ r, false) = (m.index, r, false) := fun r => hp _ _ _ h3 hhh
  have fl : ∀ r, rnum top (numB m.logTerm ++ r, false) = (m.logTerm, r, false) := fun r => hp _ _ _ h2 hth
  have fl0 : rnum top (numB m.logTerm, false) = (m.logTerm, [], false) := hp0 _ _ h2 hth
  have fc : ∀ r, rnum half (numB m.commit ++ r, false) = (m.commit, r, false) := fun r => hp _ _ _ h4 hhh
  have fr : ∀ r, rnum top (numB m.round ++ r, false) = (m.round, r, false) := fun r => hp _ _ _ h5 hth
  have fr0 : rnum top (numB m.round, false) = (m.round, [], false) := hp0 _ _ h5 hth
  have fn : ∀ r, rnum 8 (numB m.ents.length ++ r, false) = (m.ents.length, r, false) := fun r => hp _ _ _ h6 (by decide)
  have fe : rents m.ents.length (entsT m.ents, false) = (m.ents, [], false) := by
    have := rents_entsT [] false h7
    rwa [List.append_nil] at this
  have fo : ∀ r, rflag (flagB m.ok ++ r, false) = (m.ok, r, false) := fun r => rflag_flagB _ _ _
  have fs : m.kind = 7 → rtext 65536 (txtB (snB m.snap), false) = (snB m.snap, [], false) := fun hk => by
    have c1 := snBody_len (h8 hk)
    have c2 : (snB m.snap).length = (snBody m.snap).length + 8 := wrp_length 4 _
    have := rtext_txtB (show (snB m.snap).length ≤ 65536 by omega) (by decide) [] false
    rwa [List.append_nil] at this
  have ft : m.kind = 7 → snRead q (snB m.snap) = (m.snap, true) := fun hk => snRead_snB hq hq7 (h8 hk)
  have hk : m.kind = 1 ∨ m.kind = 2 ∨ m.kind = 3 ∨ m.kind = 4 ∨ m.kind = 5 ∨ m.kind = 6 ∨ m.kind = 7 ∨ m.kind = 8 := by omega
  rcases hk with hk | hk | hk | hk | hk | hk | hk | hk
  case inr.inr.inr.inr.inr.inr.inl =>
    have hm := hx _ hk
    have fs := fs hk
    have ft := ft hk
    simp only [plainW, hasIndex, hasPlace, hasRound, hasOk] at hm
    simp only [wfill, fieldsB, hk]
    simp at hm ⊢
    simp only [fr, fs, ft]
    exact ⟨hm.symm, rfl⟩
  all_goals
    have hm := hx _ hk
    simp only [plainW, hasIndex, hasPlace, hasRound, hasOk] at hm
    simp only [wfill, fieldsB, hk]
    simp at hm ⊢
  all_goals
    first | exact hm.symm | (simp only [fi, fl, fl0, fc, fr, fr0, fn, fe, fo, hf0]; first | exact hm.symm | exact ⟨hm.symm, rfl⟩ | exact ⟨hm.symm, trivial⟩)
theorem wread_wireW {m : Wm} {q : Nat} (hq : 6 ≤ q) (hq7 : q ≤ 7) (h : soundW m = true) : wread q (wireW m) = (m, true) := by
  obtain ⟨_, h2, h3⟩ := fr_wrp 5 (bodyW m) (by decide) (by have := bodyW_len h; omega)
  have e := wget_bodyW hq hq7 h
  unfold wread wireW
  rw [h2, h3, e, if_pos ⟨rfl, rfl, h⟩]
/-! ### What is read is what was written -/
theorem good_of {α : Type} {f : RS → α × RS} (hf : ∀ {s : RS}, s.2 = true → (f s).2.2 = true) {s : RS} (h : (f s).2.2 = false) : s.2 = false := by
  cases hs : s.2 with
  | false => rfl
  | true => rw [hf hs] at h; cases h
theorem beN_pos : ∀ {l : List UInt8}, l ≠ [] → l.getD 0 0 ≠ 0 → beN l ≠ 0 := by
  intro l
  suffices ∀ n (l : List UInt8), l.length = n → l ≠ [] → l.getD 0 0 ≠ 0 → beN l ≠ 0 from this l.length l rfl
  intro n
  induction n with
  | zero => intro l h hn; exact absurd (List.eq_nil_of_length_eq_zero h) hn
  | succ n ih =>
    intro l h hn h0
    rcases List.eq_nil_or_concat l with rfl | ⟨m, b, rfl⟩
    · exact absurd rfl hn
    · rw [List.concat_eq_append] at h h0 ⊢
      rw [beN_snoc]
      cases m with
      | nil =>
        intro e
        refine h0 (UInt8.toNat_inj.1 ?_)
        have : (0 : UInt8).toNat = 0 := rfl
        simp [beN] at e ⊢
        omega
      | cons x t =>
        have := ih (x :: t) (by simpa using h) (by simp) (by simpa using h0)
        omega
theorem beB_beN : ∀ {l : List UInt8}, (l ≠ [] → l.getD 0 0 ≠ 0) → beB (beN l) = l := by
  intro l
  suffices ∀ n (l : List UInt8), l.length = n → (l ≠ [] → l.getD 0 0 ≠ 0) → beB (beN l) = l from this l.length l rfl
  intro n
  induction n with
  | zero =>
    intro l h _
    obtain rfl := List.eq_nil_of_length_eq_zero h
    exact beB_zero
  | succ n ih =>
    intro l h h0
    rcases List.eq_nil_or_concat l with rfl | ⟨m, b, rfl⟩
    · simp at h
    · rw [List.concat_eq_append] at h h0 ⊢
      have hne := beN_pos (l := m ++ [b]) (by simp) (h0 (by simp))
      have hb := b.toNat_lt
      rw [beB_pos hne, beN_snoc, show (beN m * 256 + b.toNat) / 256 = beN m by omega, ih m (by simpa using h) ?_]
      · congr 2
        refine UInt8.toNat_inj.1 ?_
        rw [UInt8.toNat_ofNat']
        omega
      · intro hm
        cases m with
        | nil => exact absurd rfl hm
        | cons x t => simpa using h0 (by simp)
theorem rnum_inv {most : Nat} {s : RS} (h : (rnum most s).2.2 = false) : s.1 = numB (rnum most s).1 ++ (rnum most s).2.1 := by
  obtain ⟨xs, b⟩ := s
  cases xs with
  | nil => simp [rnum] at h
  | cons x r =>
    simp only [rnum] at h ⊢
    split at h
    · cases h
    · rename_i hb
      rw [if_neg hb]
      split at h
      · cases h
      · rename_i hm
        rw [if_neg hm]
        simp only [Bool.not_eq_true, numBad, Bool.or_eq_false_iff, Bool.and_eq_false_iff, decide_eq_false_iff_not, beq_eq_false_iff_ne] at hb
        obtain ⟨⟨h8, hl⟩, h0⟩ := hb
        have hl2 : (r.take x.toNat).length = x.toNat := by rw [List.length_take]; omega
        have e := beB_beN (l := r.take x.toNat) (fun hn => by
          have hx : 0 < x.toNat := by
            rcases Nat.eq_zero_or_pos x.toNat with h | h
            · rw [h] at hn; simp at hn
            · exact h
          rcases h0 with h0 | h0
          · exact absurd hx h0
          · intro e
            refine h0 ?_
            rw [List.getD_eq_getElem?_getD, List.getElem?_take, if_pos hx] at e
            rw [List.getD_eq_getElem?_getD]
            exact e)
        dsimp only
        rw [numB, e, hl2, List.cons_append, List.take_append_drop]
        congr 1
        refine UInt8.toNat_inj.1 ?_
        have := x.toNat_lt
        rw [UInt8.toNat_ofNat']
        omega
theorem rtext_inv {most : Nat} {s : RS} (h : (rtext most s).2.2 = false) : s.1 = txtB (rtext most s).1 ++ (rtext most s).2.1 := by
  unfold rtext at h ⊢
  split at h
  · cases h
  · rename_i hl
    rw [if_neg hl]
    have e := rnum_inv (good_of (f := rraw _) rraw_bad h)
    unfold rraw at h ⊢
    split at h
    · cases h
    · rename_i hl2
      rw [if_neg hl2]
      dsimp only
      rw [e, txtB, List.length_take, Nat.min_eq_left (by omega), List.append_assoc, List.take_append_drop]
theorem rflag_inv {s : RS} (h : (rflag s).2.2 = false) : s.1 = flagB (rflag s).1 ++ (rflag s).2.1 := by
  unfold rflag at h ⊢
  have e := rnum_inv h
  have hle : (rnum 1 s).1 ≤ 1 := by
    obtain ⟨xs, b⟩ := s
    cases xs with
    | nil => exact Nat.zero_le _
    | cons x r =>
      simp only [rnum]
      split
      · exact Nat.zero_le _
      · split
        · exact Nat.zero_le _
        · omega
  dsimp only at h ⊢
  rw [e]
  congr 1
  unfold flagB
  congr 1
  rcases (show (rnum 1 s).1 = 0 ∨ (rnum 1 s).1 = 1 by omega) with h | h <;> rw [h] <;> rfl
theorem rmems_inv {q : Nat} : ∀ {n : Nat} {s : RS}, (rmems q n s).2.2 = false → s.1 = memsT (rmems q n s).1 ++ (rmems q n s).2.1 ∧ (rmems q n s).1.length = n
  | 0, s, h => by simp [rmems, memsT]
  | n + 1, s, h => by
    simp only [rmems] at h ⊢
    obtain ⟨e2, e3⟩ := rmems_inv (q := q) (n := n) h
    have e1 := rnum_inv (good_of (f := rmems q n) rmems_bad h)
    rw [e1, e2]
    simp only [memsT, List.map_cons, List.flatten_cons, List.append_assoc, List.length_cons, e3, and_true, Int.toNat_natCast]
theorem rent_inv {s : RS} (h : (rent s).2.2 = false) : s.1 = entT (rent s).1 ++ (rent s).2.1 := by
  simp only [rent] at h ⊢
  have e3 := rtext_inv h
  have g3 := good_of (f := rtext 4096) rtext_bad h
  have e2 := rnum_inv g3
  have e1 := rnum_inv (good_of (f := rnum 3) rnum_bad g3)
  rw [e1, e2, e3]
  simp only [entT, Int.toNat_natCast, List.append_assoc]
theorem rents_inv : ∀ {n : Nat} {s : RS}, (rents n s).2.2 = false → s.1 = entsT (rents n s).1 ++ (rents n s).2.1 ∧ (rents n s).1.length = n
  | 0, s, h => by simp [rents, entsT]
  | n + 1, s, h => by
    simp only [rents] at h ⊢
    obtain ⟨e2, e3⟩ := rents_inv (n := n) h
    have e1 := rent_inv (good_of (f := rents n) rents_bad h)
    rw [e1, e2]
    simp only [entsT, List.map_cons, List.flatten_cons, List.append_assoc, List.length_cons, e3, and_true]
end Cf
