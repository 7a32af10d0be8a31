/- quill's Reader, by its contracts. -/
import Derived.Test.YtoccidpocagkjaaMql
import Derived.Test.YtoccidpocagkjaaItr
set_option linter.unusedVariables false
set_option linter.unusedSimpArgs false
namespace Go.Proofs.Ytoccidpocagkjaa
open Go.RowKit Go.Proofs.YtoccidpocagkjaaW.PrintWords Cf
attribute [local go_sem] str_beq str_bne
variable {B : Nat}

theorem RdB.grown {W W' : World} {A : Option Addr} {n g : Nat} {xs : List UInt8} (h : RdB W A n xs) (hg : W.grownBy W' (some g)) (hne : 0 < n → ∀ ad, A = some ad → ad.block ≠ g) : RdB W' A n xs := by
  have hx : xs.length = n := h.1
  refine Kd.C_of_reads (enc := fun b : UInt8 => Value.int .u8 (b.toNat : Int)) (d := (0 : UInt8)) (h1 := fun _ => rfl) ⟨h.1, h.2.1, fun hn => ?_⟩
  obtain ⟨ad, e, _⟩ := KB_at h 0 (by omega)
  refine ⟨ad, e, fun j hj => ?_⟩
  obtain ⟨ad', e', hc⟩ := KB_at h j (by omega)
  rw [e] at e'
  injection e' with e'
  subst e'
  have hb : (ad.add j).block = ad.block := by unfold Addr.add; split <;> rfl
  have hlt := World.block_lt_of_cell? W _ hc
  rw [World.cell?_of_block (hg.block _ hlt (by rw [hb]; intro e2; injection e2 with e2; exact hne hn ad e e2)), hc]
  simp [List.getD_eq_getElem?_getD, show j < xs.length by omega]

theorem ct_upE (A : Option Addr) (n c : Nat) (lo : Int) (h1 : 0 ≤ lo) (h2 : lo ≤ n) (hc : n ≤ c) : ∃ A' : Option Addr, (∀ W : World, (Instr.slice 25 (.slice A n c) (some (.int .i64 lo)) none none).run Try.prog W = .ok (.slice A' (n - lo.toNat) (c - lo.toNat)) W) ∧
    (∀ (w : World) (xs : List UInt8), xs.length = n → RdB w A n xs → RdB w A' (n - lo.toNat) (xs.drop lo.toNat)) ∧ (∀ g : Nat, (∀ ad, A = some ad → ad.block < g) → ∀ ad, A' = some ad → ad.block < g) := by
  refine ⟨_, ct_up A n c lo h1 h2 hc, fun w xs hx h => ?_, fun B h ad e => ?_⟩
  · subst hx
    have := rd_up (c := c) h lo.toNat (by omega) hc
    rwa [List.length_drop] at this
  · split at e
    · exact h ad e
    · cases A with
      | none => cases e
      | some a =>
        have e' : a.add lo.toNat = ad := by simpa using e
        have hb : (a.add lo.toNat).block = a.block := by unfold Addr.add; split <;> rfl
        rw [← e', hb]
        exact h a rfl
theorem clone_at (A : Option Addr) (n c : Nat) (xs : List UInt8) (w : World) (hC : RdB w A n xs) (hc : n ≤ c) (hl : n ≤ 140737488355328) :
    Calls Try.prog 61 #[.slice A n c] w fun e w' => ∃ A' c', e = .returned (.slice A' n c') ∧ n ≤ c' ∧ OwB w' w.heap.size (.slice A' n c') xs ∧ Below w.heap.size w w' := by
  obtain rfl : xs.length = n := hC.1
  exact clone_walk A c xs w hC hc hl
/-- A reader in memory (B: what it reads lies below B, the reader at or beyond it). -/
def Rs (B : Nat) (W : World) (g : Nat) (s : RS) : Prop := ∃ A c, W.cell? ⟨g, 0, none⟩ = some (.slice A s.1.length c) ∧ RdB W A s.1.length s.1 ∧ s.1.length ≤ c ∧ (B ≤ g ∧ (0 < s.1.length → ∀ ad, A = some ad → ad.block < B)) ∧
  W.cell? ⟨g, 1, none⟩ = some (.bool s.2) ∧ W.frozen? ⟨g, 0, none⟩ = false ∧ W.frozen? ⟨g, 1, none⟩ = false
theorem Rs.lt {W : World} {g : Nat} {s : RS} (h : Rs B W g s) : g < W.heap.size := by
  obtain ⟨A, c, h0, _⟩ := h
  exact World.block_lt_of_cell? W _ h0
theorem Rs.below {W W' : World} {g : Nat} {s : RS} (h : Rs B W g s) (hB : Below W.heap.size W W') : Rs B W' g s := by
  have hg := h.lt
  obtain ⟨A, c, h0, hR, hc, hne, h1, f0, f1⟩ := h
  exact ⟨A, c, pw_cell_below hB h0, Kd.C_below hR hB, hc, hne, pw_cell_below hB h1, (hB.frozen (p := ⟨g, 0, none⟩) hg).trans f0, (hB.frozen (p := ⟨g, 1, none⟩) hg).trans f1⟩
theorem below_grown {W W' : World} {g : Option Nat} (hB : Below W.heap.size W W') : W.grownBy W' g := ⟨hB.os, hB.tape, hB.output, hB.size, fun k hk _ => hB.block k hk⟩
theorem Rs.at {W : World} {g c : Nat} {ty : TypeId} {xs : List UInt8} {b : Bool} {A : Option Addr} (h : W.heap[g]? = some (.cells #[.slice A xs.length c, .bool b] ty (0, 0))) (hR : RdB W A xs.length xs) (hc : xs.length ≤ c) (hB : B ≤ g) (hne : 0 < xs.length → ∀ ad, A = some ad → ad.block < B) : Rs B W g (xs, b) :=
  ⟨A, c, by simp [World.cell?, h], hR, hc, ⟨hB, hne⟩, by simp [World.cell?, h], by simp [World.frozen?, h], by simp [World.frozen?, h]⟩
theorem set_grown {W W' : World} {g j : Nat} (h : W.grownBy W' (some g)) (v : Value) : W.grownBy (W'.setCell ⟨g, j, none⟩ v) (some g) :=
  ⟨h.os, h.tape, h.output, by simpa using h.size, fun k hk hne => (Below.heap_setCell W' ⟨g, j, none⟩ v k (fun e => hne (by rw [e]))).trans (h.block k hk hne)⟩
theorem cell_set_at {W : World} {g j k : Nat} {u v : Value} (h : W.cell? ⟨g, k, none⟩ = some u) (hne : j ≠ k) : (W.setCell ⟨g, j, none⟩ v).cell? ⟨g, k, none⟩ = some u := by
  rw [World.cell?_setCell_other _ _ _ _ (fun e => hne (by injection e))]
  exact h

theorem Rs.set0 {W : World} {g n c : Nat} {s : RS} {A : Option Addr} {xs : List UInt8} (h : Rs B W g s) (hn : xs.length = n) (hR : RdB W A n xs) (hc : n ≤ c) (hne : 0 < n → ∀ ad, A = some ad → ad.block < B) : Rs B (W.setCell ⟨g, 0, none⟩ (.slice A n c)) g (xs, s.2) := by
  obtain ⟨A0, c0, h0, hR0, hc0, hne0, h1, f0, f1⟩ := h
  subst hn
  exact ⟨A, c, World.cell?_setCell_same' _ _ _ (by rw [h0]; rfl), hR.grown (grown_set W g 0 _) (fun hp ad e => Nat.ne_of_lt (Nat.lt_of_lt_of_le (hne hp ad e) hne0.1)), hc, ⟨hne0.1, hne⟩, cell_set_at h1 (by decide), by rw [World.frozen?_setCell]; exact f0, by rw [World.frozen?_setCell]; exact f1⟩
theorem Rs.set1 {W : World} {g : Nat} {s : RS} (h : Rs B W g s) (b : Bool) : Rs B (W.setCell ⟨g, 1, none⟩ (.bool b)) g (s.1, b) := by
  obtain ⟨A0, c0, h0, hR0, hc0, hne0, h1, f0, f1⟩ := h
  exact ⟨A0, c0, cell_set_at h0 (by decide), hR0.grown (grown_set W g 1 _) (fun hp ad e => Nat.ne_of_lt (Nat.lt_of_lt_of_le (hne0.2 hp ad e) hne0.1)), hc0, hne0, World.cell?_setCell_same' _ _ _ (by rw [h1]; rfl), by rw [World.frozen?_setCell]; exact f0, by rw [World.frozen?_setCell]; exact f1⟩

set_option maxHeartbeats 1000000 in
theorem rfail_walk (g : Nat) (s : RS) (W : World) (h : Rs B W g s) :
    Calls Try.prog 67 #[.pointer (some ⟨g, 0, none⟩)] W fun e W' => e = .returned (.tuple #[]) ∧ Rs B W' g ([], true) ∧ W.grownBy W' (some g) := by
  have H := Lib.hid h
  obtain ⟨A, c, h0, hR, hc, hne, h1, f0, f1⟩ := h
  clear hR
  go_enter Try.func67, Try.ntmps67
  go_wp2
  go_end0
  exact ⟨rfl, Rs.set1 (Rs.set0 (xs := []) H.out rfl (RdB.nil W) (Nat.le_refl _) (fun _ ad e => by cases e)) true, set_grown (grown_set W g 0 _) _⟩
set_option maxHeartbeats 1000000 in
theorem rleft_walk (g : Nat) (s : RS) (W : World) (h : Rs B W g s) :
    Calls Try.prog 83 #[.pointer (some ⟨g, 0, none⟩)] W fun e W' => e = .returned (.int .i64 s.1.length) ∧ W' = W := by
  obtain ⟨A, c, h0, hR, hc, hne, h1, f0, f1⟩ := h
  clear hR
  go_enter Try.func83, Try.ntmps83
  go_wp2
  go_ret
  exact ⟨rfl, rfl⟩
set_option maxHeartbeats 1000000 in
theorem rend_walk (g : Nat) (s : RS) (W : World) (h : Rs B W g s) :
    Calls Try.prog 41 #[.pointer (some ⟨g, 0, none⟩)] W fun e W' => e = .returned (.int .i64 (if rend s then 0 else 20)) ∧ W' = W := by
  obtain ⟨A, c, h0, hR, hc, hne, h1, f0, f1⟩ := h
  obtain ⟨xs, b⟩ := s
  dsimp only at *
  clear hR
  cases b with
  | true =>
    have e : rend (xs, true) = false := rfl
    rw [e]
    go_enter Try.func41, Try.ntmps41
    go_wp2
    go_ret
    exact ⟨rfl, rfl⟩
  | false =>
    cases xs with
    | nil =>
      have e : rend (([] : List UInt8), false) = true := rfl
      rw [e]
      go_enter Try.func41, Try.ntmps41
      go_wp2
      go_ret
      exact ⟨rfl, rfl⟩
    | cons x xs =>
      have e : rend (x :: xs, false) = false := rfl
      rw [e]
      have hp : (0 : Int) < (xs.length : Int) + 1 := by omega
      go_enter Try.func41, Try.ntmps41
      go_wp2
      go_ret
      exact ⟨rfl, rfl⟩

set_option maxHeartbeats 2000000 in
theorem rnumber_nil (g most : Nat) (b : Bool) (W : World) (h : Rs B W g ([], b)) :
    Calls Try.prog 63 #[.pointer (some ⟨g, 0, none⟩), .int .u64 most, .bool false] W fun e W' => e = .returned (.tuple #[.int .u64 0, .bool false]) ∧ Rs B W' g ([], true) ∧ W.grownBy W' (some g) := by
  have H := Lib.hid h
  clear h
  go_enter Try.func63, Try.ntmps63
  go_wp2_with fail
  refine (rleft_walk _ _ _ H.out).mono ?_
  rintro e w1 ⟨rfl, rfl⟩
  go_wp2_with fail
  refine (rfail_walk _ _ _ H.out).mono ?_
  rintro e w2 ⟨rfl, hR2, hg⟩
  have HR2 := Lib.hid hR2
  clear hR2
  go_wp2
  go_ret2
  exact ⟨rfl, HR2.out, hg⟩
set_option maxHeartbeats 2000000 in
theorem rnumber_bad (g most : Nat) (x : UInt8) (r : List UInt8) (b : Bool) (W : World) (h : Rs B W g (x :: r, b)) (hb : numBad x.toNat r = true) :
    Calls Try.prog 63 #[.pointer (some ⟨g, 0, none⟩), .int .u64 most, .bool false] W fun e W' => e = .returned (.tuple #[.int .u64 0, .bool false]) ∧ Rs B W' g ([], true) ∧ W.grownBy W' (some g) := by
  have H := Lib.hid h
  obtain ⟨A, c, h0, hR, hc, hne, h1, f0, f1⟩ := h
  have hne := hne.2 (by simp)
  obtain ⟨bl, off, rfl, hcs⟩ := KB_cellsD hR (by simp)
  have k0 := hcs 0 (by simp)
  rw [Nat.add_zero] at k0
  simp only [List.getD_cons_zero] at k0
  have hx := x.toNat_lt
  simp only [numBad, Bool.or_eq_true, Bool.and_eq_true, decide_eq_true_eq, beq_iff_eq] at hb
  have hl : (((x :: r).length : Nat) : Int) = (r.length : Int) + 1 := by simp
  simp only at hc h0 h1
  have hlp : ((r.length : Int) + 1 == 0) = false := by rw [beq_eq_false_iff_ne]; omega
  have k1 : 0 < r.length → W.cell? ⟨bl, off + 1, none⟩ = some (.int .u8 ((r.getD 0 0).toNat : Nat)) := fun h => by
    have := hcs 1 (by simp; omega)
    simpa using this
  have i0 : (0 : Int) < (r.length : Int) + 1 := by omega
  clear hR hcs
  by_cases h8 : 8 < x.toNat
  · clear hb k1
    go_enter Try.func63, Try.ntmps63
    go_wp2_with fail
    refine (rleft_walk _ _ _ H.out).mono ?_
    rintro e w1 ⟨rfl, rfl⟩
    go_wp2_with fail
    refine (rfail_walk _ _ _ H.out).mono ?_
    rintro e w2 ⟨rfl, hR2, hg⟩
    have HR2 := Lib.hid hR2
    clear hR2
    go_wp2
    go_ret2
    exact ⟨rfl, HR2.out, hg⟩
  by_cases hl2 : r.length < x.toNat
  · clear hb k1
    go_enter Try.func63, Try.ntmps63
    go_wp2_with fail
    refine (rleft_walk _ _ _ H.out).mono ?_
    rintro e w1 ⟨rfl, rfl⟩
    go_wp2_with fail
    refine (rfail_walk _ _ _ H.out).mono ?_
    rintro e w2 ⟨rfl, hR2, hg⟩
    have HR2 := Lib.hid hR2
    clear hR2
    go_wp2
    go_ret2
    exact ⟨rfl, HR2.out, hg⟩
  obtain ⟨hx0, hr0⟩ : 0 < x.toNat ∧ r.getD 0 0 = 0 := by
    rcases hb with (hb | hb) | hb
    · exact absurd hb h8
    · exact absurd hb hl2
    · exact hb
  have k2 := k1 (by omega)
  rw [hr0] at k2
  have i1 : (1 : Int) < (r.length : Int) + 1 := by omega
  clear k1 hr0
  go_enter Try.func63, Try.ntmps63
  go_wp2_with fail
  refine (rleft_walk _ _ _ H.out).mono ?_
  rintro e w1 ⟨rfl, rfl⟩
  go_wp2_with fail
  refine (rfail_walk _ _ _ H.out).mono ?_
  rintro e w2 ⟨rfl, hR2, hg⟩
  have HR2 := Lib.hid hR2
  clear hR2
  go_wp2
  go_ret2
  exact ⟨rfl, HR2.out, hg⟩

theorem or_u64 (n c : Nat) (hn : n < 72057594037927936) (hc : c < 256) : bits .or .u64 (IntKind.u64.wrap ((n : Int) * 256)) (IntKind.u64.wrap (c : Int)) = ((n * 256 + c : Nat) : Int) := by
  rw [IntWalk.u64_in _ ⟨by omega, by omega⟩, IntWalk.u64_in _ ⟨by omega, by omega⟩, show ((n : Int) * 256) = ((n * 256 : Nat) : Int) by omega]
  rw [(bits_nat .u64 64 (by decide) (fun m h0 h1 => IntWalk.u64_in m (by
    have e : (2 : Int) ^ 64 = 18446744073709551616 := by decide
    rw [e] at h1
    omega)) (n * 256) c (by omega) (by omega)).2, nat_join 8 _ _ (by omega) (by omega)]

set_option maxHeartbeats 2000000 in
theorem rnumber_ok (g most : Nat) (x : UInt8) (r : List UInt8) (b : Bool) (W : World) (h : Rs B W g (x :: r, b)) (hb : numBad x.toNat r = false) (hm : most < 18446744073709551616) :
    Calls Try.prog 63 #[.pointer (some ⟨g, 0, none⟩), .int .u64 most, .bool false] W fun e W' => e = .returned (.tuple #[.int .u64 (rnum most (x :: r, b)).1, .bool false]) ∧ Rs B W' g (rnum most (x :: r, b)).2 ∧ W.grownBy W' (some g) := by
  have H := Lib.hid h
  have HNB := Lib.hid hb
  obtain ⟨A, c, h0, hR, hc, hne, h1, f0, f1⟩ := h
  have hne := hne.2 (by simp)
  obtain ⟨bl, off, rfl, hcs⟩ := KB_cellsD hR (by simp)
  have k0 := hcs 0 (by simp)
  rw [Nat.add_zero] at k0
  simp only [List.getD_cons_zero] at k0
  have hx := x.toNat_lt
  simp only [numBad, Bool.or_eq_false_iff, Bool.and_eq_false_iff, decide_eq_false_iff_not, beq_eq_false_iff_ne] at hb
  obtain ⟨⟨h8, hl2⟩, hr0⟩ := hb
  have hl : (((x :: r).length : Nat) : Int) = (r.length : Int) + 1 := by simp
  simp only at hc h0 h1
  have hlp : ((r.length : Int) + 1 == 0) = false := by rw [beq_eq_false_iff_ne]; omega
  have k1 : 0 < r.length → W.cell? ⟨bl, off + 1, none⟩ = some (.int .u8 ((r.getD 0 0).toNat : Nat)) := fun h => by
    have := hcs 1 (by simp; omega)
    simpa using this
  have i0 : (0 : Int) < (r.length : Int) + 1 := by omega
  have hRX := Lib.hid hR
  clear hcs hR
  have hk : x.toNat ≤ r.length := by omega
  have hx8 : x.toNat ≤ 8 := by omega
  have hcs : (x.toNat : Int) < (r.length : Int) + 1 := by omega
  clear h8 hl2
  obtain ⟨y, hy⟩ : ∃ y, r.getD 0 0 = y := ⟨_, rfl⟩
  rw [hy] at hr0 k1
  clear hy
  by_cases hx0 : 0 < x.toNat
  · have hr1 : ((y.toNat : Int) == 0) = false := by
      rw [beq_eq_false_iff_ne]
      intro e
      rcases hr0 with hr0 | hr0
      · exact hr0 hx0
      · refine hr0 (UInt8.toNat_inj.1 ?_)
        have : (0 : UInt8).toNat = 0 := rfl
        omega
    have k2 := k1 (by omega)
    have i1 : (1 : Int) < (r.length : Int) + 1 := by omega
    clear k1 hr0
    go_enter Try.func63, Try.ntmps63
    go_wp2_with fail
    refine (rleft_walk _ _ _ H.out).mono ?_
    rintro e w1 ⟨rfl, rfl⟩
    have hc1 : ¬ c = 1 := by simp at hc; omega
    go_wp2_with fail
    go_loopw [6, 10, 62] (fun n _ i wr => wr = w1 ∧ ∃ k : Nat, k ≤ x.toNat ∧ i = .int .i64 k ∧ n = .int .u64 (beN (r.take k) : Nat))
      (fun _ _ i _ => x.toNat - (intOf i).toNat)
    case atStart => exact ⟨rfl, 0, by omega, rfl, rfl⟩
    case round =>
      obtain ⟨rfl, k, hkx, rfl, rfl⟩ := hrel
      by_cases hlt : k < x.toNat
      · have hki : (k : Int) < (x.toNat : Int) := by omega
        have hck : wr.cell? ⟨bl, off + 1 + k, none⟩ = some (.int .u8 ((r.getD k 0).toNat : Nat)) := by
          obtain ⟨b2, o2, e2, hcc⟩ := KB_cellsD hRX.out (by simp)
          injection e2 with e2
          injection e2 with e3 e4
          subst e3 e4
          have := hcc (k + 1) (by simp; omega)
          simpa [Nat.add_assoc, Nat.add_comm 1 k] using this
        go_wp2
        refine ⟨⟨trivial, k + 1, by omega, by go_num, ?_⟩, by simp [intOf]; omega⟩
        have hb := r.getD k 0 |>.toNat_lt
        rw [beN_step r k (by omega), ← or_u64 _ _ (beN_take_lt r k (by omega)) hb]
        simp [List.getD_eq_getElem?_getD]
      · obtain rfl : k = x.toNat := by omega
        have hbn := beN_take8 r x.toNat hx8
        have hrn : rnum most (x :: r, b) = if most < beN (r.take x.toNat) then (0, [], true) else (beN (r.take x.toNat), r.drop x.toNat, b) := by
          simp only [rnum]
          rw [if_neg (by rw [HNB.out]; decide)]
        have HRN := Lib.hid hrn
        clear hrn
        generalize beN (r.take x.toNat) = v at *
        by_cases hmv : most < v
        · have hmi : (most : Int) < (v : Int) := by omega
          go_wp2_with fail
          refine (rfail_walk _ _ _ H.out).mono ?_
          rintro e w2 ⟨rfl, hR2, hg⟩
          have HR2 := Lib.hid hR2
          clear hR2
          go_wp2
          go_ret2
          rw [HRN.out, if_pos hmv]
          exact ⟨rfl, HR2.out, hg⟩
        · have hmi : ¬ (most : Int) < (v : Int) := by omega
          obtain ⟨A4, e4, hr4, hn4⟩ := ct_upE (some ⟨bl, off, none⟩) (r.length + 1) c ((x.toNat : Int) + 1) (by omega) (by omega) (by simpa using hc)
          rw [show ((x.toNat : Int) + 1).toNat = x.toNat + 1 by omega] at e4 hr4
          have hr5 := hr4 wr (x :: r) (by simp) (by have := hRX.out; simpa using this)
          rw [show r.length + 1 - (x.toNat + 1) = r.length - x.toNat by omega] at e4 hr5
          rw [List.drop_succ_cons] at hr5
          have HR5 := Lib.hid hr5
          have HN4 := Lib.hid (hn4 B hne)
          clear hr4 hr5 hn4
          go_wp2
          go_ret2
          rw [HRN.out, if_neg hmv]
          refine ⟨rfl, ?_, grown_set wr g 0 _⟩
          exact Rs.set0 H.out List.length_drop HR5.out (by simp at hc; omega) (fun _ => HN4.out)
  · clear k1 hr0
    have hxi : ¬ (0 : Int) < (x.toNat : Int) := by omega
    have hrn : rnum most (x :: r, b) = if most < 0 then (0, [], true) else (0, r, b) := by
      simp only [rnum]
      rw [if_neg (by rw [HNB.out]; decide), show x.toNat = 0 by omega]
      rfl
    have HRN := Lib.hid hrn
    clear hrn
    obtain ⟨A4, e4, hr4, hn4⟩ := ct_upE (some ⟨bl, off, none⟩) (r.length + 1) c ((x.toNat : Int) + 1) (by omega) (by omega) (by simpa using hc)
    rw [show ((x.toNat : Int) + 1).toNat = x.toNat + 1 by omega, show r.length + 1 - (x.toNat + 1) = r.length by omega] at e4
    rw [show ((x.toNat : Int) + 1).toNat = x.toNat + 1 by omega, show r.length + 1 - (x.toNat + 1) = r.length by omega] at hr4
    have hr5 := hr4 W (x :: r) (by simp) (by have := hRX.out; simpa using this)
    rw [List.drop_succ_cons, show x.toNat = 0 by omega, List.drop_zero] at hr5
    have HR5 := Lib.hid hr5
    have HN4 := Lib.hid (hn4 B hne)
    have hcl : r.length ≤ c - (x.toNat + 1) := by simp at hc; omega
    obtain ⟨A6, e6⟩ : ∃ A6, ∀ W : World, (Instr.slice 25 (.slice (some ⟨bl, off, none⟩) (r.length + 1) c) (some (.int .i64 1)) (some (.int .i64 ((x.toNat : Int) + 1))) none).run Try.prog W = .ok (.slice A6 0 (c - 1)) W := by
      refine ⟨if c = (1 : Int).toNat then some ⟨bl, off, none⟩ else (some ⟨bl, off, none⟩ : Option Addr).map (·.add (1 : Int).toNat), fun W => ?_⟩
      have := ct_mid (some ⟨bl, off, none⟩) (r.length + 1) c 1 ((x.toNat : Int) + 1) (by omega) (by omega) (by omega) (by simpa using hc) W
      rw [show ((x.toNat : Int) + 1).toNat - (1 : Int).toNat = 0 by omega] at this
      exact this
    clear hr4 hr5 hn4
    go_enter Try.func63, Try.ntmps63
    go_wp2_with fail
    refine (rleft_walk _ _ _ H.out).mono ?_
    rintro e w1 ⟨rfl, rfl⟩
    go_wp2_with fail
    all_goals
      go_loopw [6, 10, 62] (fun n _ i wr => wr = w1 ∧ i = .int .i64 0 ∧ n = .int .u64 0)
        (fun _ _ i _ => 0)
      case atStart => exact ⟨rfl, rfl, rfl⟩
      case round =>
        obtain ⟨rfl, rfl, rfl⟩ := hrel
        by_cases hmv : most < 0
        · omega
        · have hmi : ¬ (most : Int) < 0 := by omega
          go_wp2
          go_ret2
          rw [HRN.out, if_neg hmv]
          refine ⟨rfl, ?_, grown_set wr g 0 _⟩
          exact Rs.set0 H.out rfl HR5.out hcl (fun _ => HN4.out)

theorem rnumber_walk (g most : Nat) (s : RS) (W : World) (h : Rs B W g s) (hm : most < 18446744073709551616) :
    Calls Try.prog 63 #[.pointer (some ⟨g, 0, none⟩), .int .u64 most, .bool false] W fun e W' => e = .returned (.tuple #[.int .u64 (rnum most s).1, .bool false]) ∧ Rs B W' g (rnum most s).2 ∧ W.grownBy W' (some g) := by
  obtain ⟨xs, b⟩ := s
  cases xs with
  | nil => exact rnumber_nil g most b W h
  | cons x r =>
    cases hb : numBad x.toNat r with
    | true =>
      have e : rnum most (x :: r, b) = (0, [], true) := by simp only [rnum]; rw [if_pos hb]
      rw [e]
      exact rnumber_bad g most x r b W h hb
    | false => exact rnumber_ok g most x r b W h hb hm
set_option maxHeartbeats 1000000 in
theorem rnum_walk (g most : Nat) (s : RS) (W : World) (h : Rs B W g s) (hm : most < 18446744073709551616) :
    Calls Try.prog 39 #[.pointer (some ⟨g, 0, none⟩), .int .u64 most] W fun e W' => e = .returned (.int .u64 (rnum most s).1) ∧ Rs B W' g (rnum most s).2 ∧ W.grownBy W' (some g) := by
  have HN := Lib.hid (rnumber_walk g most s W h hm)
  clear h
  generalize rnum most s = q at *
  go_enter Try.func39, Try.ntmps39
  go_wp2_with fail
  refine (HN.out).mono ?_
  rintro e w1 ⟨rfl, hR, hg⟩
  have HR := Lib.hid hR
  clear hR
  go_wp2
  go_ret
  exact ⟨rfl, HR.out, hg⟩
theorem rnum_le (most : Nat) (s : RS) : (rnum most s).1 ≤ most := by
  obtain ⟨xs, b⟩ := s
  cases xs with
  | nil => exact Nat.zero_le _
  | cons x r =>
    simp only [rnum]
    split
    · exact Nat.zero_le _
    · split
      · exact Nat.zero_le _
      · omega
set_option maxHeartbeats 2000000 in
/-- Raw: the bytes are a copy of the call's own. -/
theorem rraw_walk (g n : Nat) (s : RS) (W : World) (h : Rs B W g s) (hn : n ≤ 140737488355328) :
    Calls Try.prog 84 #[.pointer (some ⟨g, 0, none⟩), .int .i64 n] W fun e W' => ∃ A' c', e = .returned (.slice A' (rraw n s).1.length c') ∧ RdB W' A' (rraw n s).1.length (rraw n s).1 ∧ (rraw n s).1.length ≤ c' ∧ (∀ ad, A' = some ad → W.heap.size ≤ ad.block) ∧ Rs B W' g (rraw n s).2 ∧ W.grownBy W' (some g) := by
  have H := Lib.hid h
  obtain ⟨A, c, h0, hR, hc, hne, h1, f0, f1⟩ := h
  have HRX := Lib.hid hR
  have hmx := Kd.C_max hR
  clear hR
  by_cases hl : s.1.length < n
  · have e : rraw n s = ([], [], true) := by rw [rraw, if_pos hl]
    rw [e]
    have hli : (s.1.length : Int) < (n : Int) := by omega
    go_enter Try.func84, Try.ntmps84
    go_wp2_with fail
    refine (rleft_walk _ _ _ H.out).mono ?_
    rintro e w1 ⟨rfl, rfl⟩
    go_wp2_with fail
    refine (rfail_walk _ _ _ H.out).mono ?_
    rintro e w2 ⟨rfl, hR2, hg⟩
    have HR2 := Lib.hid hR2
    clear hR2
    go_wp2
    go_ret
    exact ⟨none, 0, rfl, RdB.nil _, Nat.le_refl _, (fun ad e => by cases e), HR2.out, hg⟩
  · have e : rraw n s = (s.1.take n, s.1.drop n, s.2) := by rw [rraw, if_neg hl]
    rw [e]
    have hli : ¬ (s.1.length : Int) < (n : Int) := by omega
    have e4 := ct_lo A s.1.length c n (by omega) (by omega) hc
    rw [Int.toNat_natCast] at e4
    obtain ⟨A5, e5, hr5, hn5⟩ := ct_upE A s.1.length c n (by omega) (by omega) hc
    rw [Int.toNat_natCast] at e5 hr5
    have htl : (s.1.take n).length = n := by rw [List.length_take]; omega
    have HR4 := Lib.hid (rd_lo HRX.out n (by omega))
    have HR5 := Lib.hid (hr5 W s.1 rfl HRX.out)
    have HN5 := Lib.hid (fun hp : 0 < s.1.length - n => hn5 B (hne.2 (by omega)))
    clear hr5 hn5
    go_enter Try.func84, Try.ntmps84
    go_wp2_with fail
    refine (rleft_walk _ _ _ H.out).mono ?_
    rintro e w1 ⟨rfl, rfl⟩
    go_wp2_with fail
    have hr4 := HR4.out
    rw [htl] at hr4
    refine (clone_at A n c _ _ hr4 (by omega) hn).mono ?_
    rintro e w2 ⟨A2, c2, rfl, hc2, hO2, hB2⟩
    have H2 := Lib.hid (H.out.below hB2)
    have HO2 := Lib.hid hO2
    have q0 := pw_cell_below hB2 h0
    have q1 := (hB2.frozen (p := ⟨g, 0, none⟩) H.out.lt).trans f0
    have HR6 := Lib.hid (Kd.C_below HR5.out hB2)
    clear hr4 hO2
    go_wp2
    go_ret
    have hba : ∀ ad, A2 = some ad → w1.heap.size ≤ ad.block := OwB.base HO2.out
    refine ⟨A2, c2, by dsimp only; rw [htl]; rfl, ?_, by rw [htl]; exact hc2, hba, Rs.set0 H2.out List.length_drop HR6.out (by omega) HN5.out, set_grown (below_grown hB2) _⟩
    exact RdB.grown (by rw [htl]; exact HO2.out.rd) (grown_set w2 g 0 _) (fun _ ad e => by have h1 := hba ad e; have h2 := H.out.lt; omega)
set_option maxHeartbeats 2000000 in
theorem rtext_walk (g most : Nat) (s : RS) (W : World) (h : Rs B W g s) (hm : most ≤ 1000000000) :
    Calls Try.prog 66 #[.pointer (some ⟨g, 0, none⟩), .int .i64 most] W fun e W' => e = .returned (.string (str (rtext most s).1)) ∧ Rs B W' g (rtext most s).2 ∧ W.grownBy W' (some g) := by
  have HN := Lib.hid (rnum_walk g most s W h (by omega))
  have hle := rnum_le most s
  have ht : rtext most s = if (rnum most s).2.1.length < (rnum most s).1 then ([], [], true) else rraw (rnum most s).1 (rnum most s).2 := rfl
  generalize rtext most s = q at *
  generalize rnum most s = p at *
  obtain ⟨n, s2⟩ := p
  dsimp only at HN ht hle
  have hmi : ¬ (most : Int) < 0 := by omega
  have hmw : IntKind.u64.wrap (most : Int) = (most : Int) := IntWalk.u64_in _ ⟨by omega, by omega⟩
  have hnw : IntKind.i64.wrap (n : Int) = (n : Int) := IntWalk.i64_in _ (by omega)
  clear h
  by_cases hl : s2.1.length < n
  · rw [if_pos hl] at ht
    have HQ := Lib.hid ht
    clear ht
    have hlw : IntKind.u64.wrap (s2.1.length : Int) = (s2.1.length : Int) := IntWalk.u64_in _ ⟨by omega, by omega⟩
    have hli : (s2.1.length : Int) < (n : Int) := by omega
    go_enter Try.func66, Try.ntmps66
    go_wp2_with fail
    refine (HN.out).mono ?_
    rintro e w1 ⟨rfl, hR, hg⟩
    have HR := Lib.hid hR
    clear hR
    go_wp2_with fail
    refine (rleft_walk _ _ _ HR.out).mono ?_
    rintro e w2 ⟨rfl, rfl⟩
    go_wp2_with fail
    refine (rfail_walk _ _ _ HR.out).mono ?_
    rintro e w3 ⟨rfl, hR3, hg3⟩
    have HR3 := Lib.hid hR3
    clear hR3
    go_wp2
    go_ret
    rw [HQ.out]
    exact ⟨rfl, HR3.out, hg.trans hg3⟩
  · rw [if_neg hl] at ht
    have HQ := Lib.hid ht
    clear ht
    go_enter Try.func66, Try.ntmps66
    go_wp2_with fail
    refine (HN.out).mono ?_
    rintro e w1 ⟨rfl, hR, hg⟩
    have HR := Lib.hid hR
    have hmx : s2.1.length ≤ 9223372036854775807 := by obtain ⟨A, c, _, h, _⟩ := hR; exact Kd.C_max h
    have hlw : IntKind.u64.wrap (s2.1.length : Int) = (s2.1.length : Int) := IntWalk.u64_in _ ⟨by omega, by omega⟩
    have hli : ¬ (s2.1.length : Int) < (n : Int) := by omega
    clear hR hmx
    go_wp2_with fail
    refine (rleft_walk _ _ _ HR.out).mono ?_
    rintro e w2 ⟨rfl, rfl⟩
    go_wp2_with fail
    have hRW := rraw_walk g n s2 _ HR.out (by omega)
    rw [← HQ.out] at hRW
    refine hRW.mono ?_
    rintro e w3 ⟨A3, c3, rfl, hR3, hc3, hA3, hS3, hg3⟩
    have k3 := conv_str (c := c3) hR3
    have HS3 := Lib.hid hS3
    clear hR3 hS3 hRW
    go_wp2
    go_ret
    exact ⟨rfl, HS3.out, hg.trans hg3⟩
theorem rd_lt {w : World} {A : Option Addr} {n : Nat} {xs : List UInt8} (h : RdB w A n xs) (hp : 0 < n) : ∀ ad, A = some ad → ad.block < w.heap.size := fun ad e => by
  have hx : xs.length = n := h.1
  obtain ⟨ad', e', hcl⟩ := KB_at h 0 (by omega)
  have hlt := World.block_lt_of_cell? w _ hcl
  have hb : (ad'.add 0).block = ad'.block := by unfold Addr.add; split <;> rfl
  rw [e] at e'
  injection e' with e'
  subst e'
  rw [hb] at hlt
  exact hlt
set_option maxHeartbeats 1000000 in
/-- Open, of bytes that lie below B. -/
theorem ropenb_walk (A : Option Addr) (n c : Nat) (xs : List UInt8) (w : World) (hC : RdB w A n xs) (hc : n ≤ c) (hB : B ≤ w.heap.size) (hA : 0 < n → ∀ ad, A = some ad → ad.block < B) :
    Calls Try.prog 37 #[.slice A n c] w fun e w' => ∃ g, e = .returned (.pointer (some ⟨g, 0, none⟩)) ∧ g = w.heap.size ∧ Rs B w' g (xs, false) ∧ Below w.heap.size w w' := by
  obtain rfl : xs.length = n := hC.1
  have HC := Lib.hid hC
  have HA := Lib.hid hA
  clear hC hA
  go_enter Try.func37, Try.ntmps37
  go_wp2
  go_ret
  refine ⟨w.heap.size, rfl, rfl, ?_, (Below.refl _ w).alloc (Nat.le_refl _) _⟩
  have hn := World.alloc_heap_new w (.cells #[.slice A xs.length c, .bool false] 101)
  exact Rs.at hn (Kd.C_alloc HC.out _) hc hB HA.out
theorem ropenq_walk (A : Option Addr) (n c : Nat) (xs : List UInt8) (w : World) (hC : RdB w A n xs) (hc : n ≤ c) :
    Calls Try.prog 37 #[.slice A n c] w fun e w' => ∃ g, e = .returned (.pointer (some ⟨g, 0, none⟩)) ∧ g = w.heap.size ∧ Rs w.heap.size w' g (xs, false) ∧ Below w.heap.size w w' :=
  ropenb_walk A n c xs w hC hc (Nat.le_refl _) (fun hp => rd_lt hC hp)
end Go.Proofs.Ytoccidpocagkjaa
