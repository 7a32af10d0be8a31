/- The reference of frame: Take. -/
import Derived.Test.YtoccidpocagkjaaFrm
import Derived.Deep.RegionLaw
set_option linter.unusedVariables false
set_option linter.unusedSimpArgs false
namespace Go.Proofs.Ytoccidpocagkjaa
open Go.RowKit Go.Proofs.YtoccidpocagkjaaW.PrintWords Cf
attribute [local go_sem] str_beq str_bne

theorem KB_cellsD {w : World} {A : Option Addr} {n : Nat} {xs : List UInt8} (h : RdB w A n xs) (hp : 0 < xs.length) : ∃ b off, A = some ⟨b, off, none⟩ ∧ ∀ (k : Nat), k < xs.length → w.cell? ⟨b, off + k, none⟩ = some (.int .u8 (((xs.getD k 0).toNat : Nat) : Int)) := by
  obtain ⟨b, off, e, hc⟩ := KB_cells h hp
  refine ⟨b, off, e, fun k hk => ?_⟩
  rw [hc k hk]
  simp [List.getD_eq_getElem?_getD, hk]
theorem u8_ne (x : UInt8) (n : Int) (h0 : 0 ≤ n) (hn : n < 256) (h : x ≠ UInt8.ofNat n.toNat) : ((x.toNat : Int) == n) = false ∧ ((x.toNat : Int) != n) = true := by
  have hne : (x.toNat : Int) ≠ n := by
    intro e
    refine h (UInt8.toNat_inj.1 ?_)
    rw [UInt8.toNat_ofNat']
    omega
  exact ⟨by simpa using hne, by simpa using hne⟩
theorem tak_20 {xs : List UInt8} (h : badB xs = true) : tak xs = (0, [], 0, 20) := by simp [tak, siz, h]
theorem tak_23 {xs : List UInt8} (h : badB xs = false) (h2 : tornB xs = true) : tak xs = (0, [], 0, 23) := by simp [tak, siz, h, h2]
/-- What the reference hands back at an error. -/
def ErrT (w w' : World) (e : Ending) (n : Nat) : Prop := e = .returned (.tuple #[.int .u8 0, .slice none 0 0, .int .i64 0, .int .i64 n]) ∧ Below w.heap.size w w'

theorem vl_eq {xs : List UInt8} {x2 x3 x4 : UInt8} (h2 : xs.getD 2 0 = x2) (h3 : xs.getD 3 0 = x3) (h4 : xs.getD 4 0 = x4) : vl xs = x2.toNat * 65536 + x3.toNat * 256 + x4.toNat := by
  unfold vl
  rw [h2, h3, h4]

set_option maxHeartbeats 2000000 in
theorem rtake_bad (A : Option Addr) (n c : Nat) (xs : List UInt8) (w : World) (hC : RdB w A n xs) (hb : badB xs = true) :
    Calls Try.prog 44 #[.slice A n c] w fun e w' => ErrT w w' e 20 := by
  obtain rfl : xs.length = n := hC.1
  have hpos : 0 < xs.length := by
    rcases xs with _ | ⟨x, r⟩
    · simp [badB] at hb
    · simp
  obtain ⟨b, off, rfl, hcs⟩ := KB_cellsD hC hpos
  have hm := Kd.C_max hC
  have z0 : ((xs.length : Int) == 0) = false := by simp; intro h; rw [h] at hpos; simp at hpos
  obtain ⟨x0, hx0⟩ : ∃ x0, xs.getD 0 0 = x0 := ⟨_, rfl⟩
  obtain ⟨x1, hx1⟩ : ∃ x1, xs.getD 1 0 = x1 := ⟨_, rfl⟩
  have k0 := hcs 0 hpos
  rw [Nat.add_zero, hx0] at k0
  have l0 := x0.toNat_lt
  by_cases h0 : x0 = 0x66
  · subst h0
    simp only [badB, hx0, hx1, bne_self_eq_false, Bool.and_false, Bool.or_false, Bool.or_eq_true, Bool.and_eq_true, decide_eq_true_eq, beq_iff_eq] at hb
    have h2l : 2 ≤ xs.length := by rcases hb with hb | hb <;> omega
    have k1 := hcs 1 (by omega)
    rw [hx1] at k1
    have l1 := x1.toNat_lt
    by_cases h1 : x1 = 0
    · subst h1
      clear hb hC hcs hx0 hx1
      go_enter Try.func44, Try.ntmps44
      go_wp2
      refine bodyPost_ret (v := .tuple #[.int .u8 0, .slice none 0 0, .int .i64 0, .int .i64 20]) (by simp [results, Try.results44, go_sem]) rfl ?_
      exact ⟨rfl, Below.refl _ _⟩
    · have hb : 5 ≤ xs.length ∧ 65536 < vl xs := by
        rcases hb with hb | hb
        · exact hb
        · exact absurd hb.2 h1
      obtain ⟨h5, hv⟩ := hb
      obtain ⟨x2, hx2⟩ : ∃ x2, xs.getD 2 0 = x2 := ⟨_, rfl⟩
      obtain ⟨x3, hx3⟩ : ∃ x3, xs.getD 3 0 = x3 := ⟨_, rfl⟩
      obtain ⟨x4, hx4⟩ : ∃ x4, xs.getD 4 0 = x4 := ⟨_, rfl⟩
      have k2 := hcs 2 (by omega)
      have k3 := hcs 3 (by omega)
      have k4 := hcs 4 (by omega)
      rw [hx2] at k2
      rw [hx3] at k3
      rw [hx4] at k4
      have hve := vl_eq hx2 hx3 hx4
      have l2 := x2.toNat_lt
      have l3 := x3.toNat_lt
      have l4 := x4.toNat_lt
      have hv' : (65536 : Int) < (x2.toNat : Int) * 65536 + (x3.toNat : Int) * 256 + (x4.toNat : Int) := by omega
      have e1 := u8_ne x1 0 (by omega) (by omega) h1
      have w2 : IntKind.i64.wrap (x2.toNat : Int) = (x2.toNat : Int) := IntWalk.i64_in _ (by omega)
      have w3 : IntKind.i64.wrap (x3.toNat : Int) = (x3.toNat : Int) := IntWalk.i64_in _ (by omega)
      have w4 : IntKind.i64.wrap (x4.toNat : Int) = (x4.toNat : Int) := IntWalk.i64_in _ (by omega)
      have v2 : IntKind.i64.wrap ((x2.toNat : Int) * 65536) = (x2.toNat : Int) * 65536 := IntWalk.i64_in _ (by omega)
      have v3 : IntKind.i64.wrap ((x3.toNat : Int) * 256) = (x3.toNat : Int) * 256 := IntWalk.i64_in _ (by omega)
      have v4 : IntKind.i64.wrap ((x2.toNat : Int) * 65536 + (x3.toNat : Int) * 256) = (x2.toNat : Int) * 65536 + (x3.toNat : Int) * 256 := IntWalk.i64_in _ (by omega)
      have v5 : IntKind.i64.wrap ((x2.toNat : Int) * 65536 + (x3.toNat : Int) * 256 + (x4.toNat : Int)) = (x2.toNat : Int) * 65536 + (x3.toNat : Int) * 256 + (x4.toNat : Int) := IntWalk.i64_in _ (by omega)
      have i2 : (2 : Int) < (xs.length : Int) := by omega
      have i3 : (3 : Int) < (xs.length : Int) := by omega
      have i4 : (4 : Int) < (xs.length : Int) := by omega
      obtain ⟨e1a, e1b⟩ := e1
      clear hC hcs hx0 hx1 hx2 hx3 hx4 hve h1 hv
      go_enter Try.func44, Try.ntmps44
      go_wp2
      go_quiet (fail)
      go_wp2
      refine bodyPost_ret (v := .tuple #[.int .u8 0, .slice none 0 0, .int .i64 0, .int .i64 20]) (by simp [results, Try.results44, go_sem]) rfl ?_
      exact ⟨rfl, pw_below_drewN (Below.refl _ _) _⟩
  · obtain ⟨ea, eb⟩ := u8_ne x0 102 (by omega) (by omega) h0
    clear hC hcs hb h0 hx0 hx1
    go_enter Try.func44, Try.ntmps44
    go_wp2
    refine bodyPost_ret (v := .tuple #[.int .u8 0, .slice none 0 0, .int .i64 0, .int .i64 20]) (by simp [results, Try.results44, go_sem]) rfl ?_
    exact ⟨rfl, Below.refl _ _⟩

theorem badB_false {xs : List UInt8} (hb : badB xs = false) : (1 ≤ xs.length → xs.getD 0 0 = 0x66) ∧ (2 ≤ xs.length → xs.getD 1 0 ≠ 0) ∧ (5 ≤ xs.length → vl xs ≤ 65536) := by
  simp only [badB, Bool.or_eq_false_iff, Bool.and_eq_false_iff, decide_eq_false_iff_not, beq_eq_false_iff_ne, bne_eq_false_iff_eq] at hb
  obtain ⟨⟨h1, h2⟩, h3⟩ := hb
  exact ⟨fun h => by rcases h3 with h3 | h3; · omega
                     · exact h3, fun h => by rcases h2 with h2 | h2; · omega
                                             · exact h2, fun h => by omega⟩
set_option maxHeartbeats 2000000 in
theorem rtake_torn (A : Option Addr) (n c : Nat) (xs : List UInt8) (w : World) (hC : RdB w A n xs) (hb : badB xs = false) (ht : tornB xs = true) :
    Calls Try.prog 44 #[.slice A n c] w fun e w' => ErrT w w' e 23 := by
  obtain rfl : xs.length = n := hC.1
  obtain ⟨hb0, hb1, hb5⟩ := badB_false hb
  simp only [tornB, Bool.or_eq_true, decide_eq_true_eq] at ht
  by_cases hpos : 0 < xs.length
  · obtain ⟨b, off, rfl, hcs⟩ := KB_cellsD hC hpos
    have hm := Kd.C_max hC
    have z0 : ((xs.length : Int) == 0) = false := by simp; intro h; rw [h] at hpos; simp at hpos
    have k0 := hcs 0 hpos
    rw [Nat.add_zero, hb0 hpos] at k0
    by_cases h2l : 2 ≤ xs.length
    · obtain ⟨x1, hx1⟩ : ∃ x1, xs.getD 1 0 = x1 := ⟨_, rfl⟩
      have k1 := hcs 1 (by omega)
      rw [hx1] at k1
      have l1 := x1.toNat_lt
      have hne := hb1 h2l
      rw [hx1] at hne
      obtain ⟨e1a, e1b⟩ := u8_ne x1 0 (by omega) (by omega) hne
      by_cases h5l : 5 ≤ xs.length
      · have hv := hb5 h5l
        obtain ⟨x2, hx2⟩ : ∃ x2, xs.getD 2 0 = x2 := ⟨_, rfl⟩
        obtain ⟨x3, hx3⟩ : ∃ x3, xs.getD 3 0 = x3 := ⟨_, rfl⟩
        obtain ⟨x4, hx4⟩ : ∃ x4, xs.getD 4 0 = x4 := ⟨_, rfl⟩
        have k2 := hcs 2 (by omega)
        have k3 := hcs 3 (by omega)
        have k4 := hcs 4 (by omega)
        rw [hx2] at k2
        rw [hx3] at k3
        rw [hx4] at k4
        have hve := vl_eq hx2 hx3 hx4
        have l2 := x2.toNat_lt
        have l3 := x3.toNat_lt
        have l4 := x4.toNat_lt
        have hv' : (x2.toNat : Int) * 65536 + (x3.toNat : Int) * 256 + (x4.toNat : Int) ≤ 65536 := by omega
        have hvt : (xs.length : Int) < (x2.toNat : Int) * 65536 + (x3.toNat : Int) * 256 + (x4.toNat : Int) + 8 := by omega
        have w2 : IntKind.i64.wrap (x2.toNat : Int) = (x2.toNat : Int) := IntWalk.i64_in _ (by omega)
        have w3 : IntKind.i64.wrap (x3.toNat : Int) = (x3.toNat : Int) := IntWalk.i64_in _ (by omega)
        have w4 : IntKind.i64.wrap (x4.toNat : Int) = (x4.toNat : Int) := IntWalk.i64_in _ (by omega)
        have v2 : IntKind.i64.wrap ((x2.toNat : Int) * 65536) = (x2.toNat : Int) * 65536 := IntWalk.i64_in _ (by omega)
        have v3 : IntKind.i64.wrap ((x3.toNat : Int) * 256) = (x3.toNat : Int) * 256 := IntWalk.i64_in _ (by omega)
        have v4 : IntKind.i64.wrap ((x2.toNat : Int) * 65536 + (x3.toNat : Int) * 256) = (x2.toNat : Int) * 65536 + (x3.toNat : Int) * 256 := IntWalk.i64_in _ (by omega)
        have v5 : IntKind.i64.wrap ((x2.toNat : Int) * 65536 + (x3.toNat : Int) * 256 + (x4.toNat : Int)) = (x2.toNat : Int) * 65536 + (x3.toNat : Int) * 256 + (x4.toNat : Int) := IntWalk.i64_in _ (by omega)
        have i1 : (1 : Int) < (xs.length : Int) := by omega
        have i2 : (2 : Int) < (xs.length : Int) := by omega
        have i3 : (3 : Int) < (xs.length : Int) := by omega
        have i4 : (4 : Int) < (xs.length : Int) := by omega
        clear hC hcs hx1 hx2 hx3 hx4 hve hne hv hb0 hb1 hb5 ht hb
        go_enter Try.func44, Try.ntmps44
        go_wp2
        go_quiet (fail)
        go_wp2
        refine bodyPost_ret (v := .tuple #[.int .u8 0, .slice none 0 0, .int .i64 0, .int .i64 23]) (by simp [results, Try.results44, go_sem]) rfl ?_
        exact ⟨rfl, pw_below_drewN (Below.refl _ _) _⟩
      · clear hC hcs hx1 hne hb0 hb1 hb5 ht hb
        go_enter Try.func44, Try.ntmps44
        go_wp2
        refine bodyPost_ret (v := .tuple #[.int .u8 0, .slice none 0 0, .int .i64 0, .int .i64 23]) (by simp [results, Try.results44, go_sem]) rfl ?_
        exact ⟨rfl, Below.refl _ _⟩
    · clear hC hcs hb0 hb1 hb5 ht hb
      go_enter Try.func44, Try.ntmps44
      go_wp2
      refine bodyPost_ret (v := .tuple #[.int .u8 0, .slice none 0 0, .int .i64 0, .int .i64 23]) (by simp [results, Try.results44, go_sem]) rfl ?_
      exact ⟨rfl, Below.refl _ _⟩
  · obtain rfl : xs = [] := List.eq_nil_of_length_eq_zero (by omega)
    clear hC hb0 hb1 hb5 ht hb
    go_enter Try.func44, Try.ntmps44
    go_wp2
    refine bodyPost_ret (v := .tuple #[.int .u8 0, .slice none 0 0, .int .i64 0, .int .i64 23]) (by simp [results, Try.results44, go_sem]) rfl ?_
    exact ⟨rfl, Below.refl _ _⟩

theorem opnB_wrp {xs : List UInt8} (hb : badB xs = false) (ht : tornB xs = false) : opnB (xs.take (vl xs + 8)) = true ↔ wrp (xs.getD 1 0) ((xs.take (vl xs + 5)).drop 5) = xs.take (vl xs + 8) := by
  constructor
  · intro h
    have hs : siz xs = (vl xs + 8, 0) := by simp [siz, hb, ht]
    have hT : tak xs = (xs.getD 1 0, (xs.take (vl xs + 5)).drop 5, vl xs + 8, 0) := by
      unfold tak
      rw [hs, if_neg (by simp), if_pos h]
    obtain ⟨body, h1, h2, h3, h4, h5, h6, h7, h8, h9⟩ := tak_ok (b := xs) (by rw [hT])
    rw [hT] at h1 h4 h6 h8
    dsimp only at h1 h4 h6 h8
    rw [h1, ← h8, h2]
  · intro h
    rw [← h, wrp]
    exact opnB_sld _
/-- The sums of a head, as the walk asks them. -/
theorem head_wraps (x2 x3 x4 : UInt8) (v : Nat) (hv : v = x2.toNat * 65536 + x3.toNat * 256 + x4.toNat) :
    IntKind.i64.wrap (x2.toNat : Int) = (x2.toNat : Int) ∧ IntKind.i64.wrap (x3.toNat : Int) = (x3.toNat : Int) ∧ IntKind.i64.wrap (x4.toNat : Int) = (x4.toNat : Int) ∧
    IntKind.i64.wrap ((x2.toNat : Int) * 65536) = (x2.toNat : Int) * 65536 ∧ IntKind.i64.wrap ((x3.toNat : Int) * 256) = (x3.toNat : Int) * 256 ∧
    IntKind.i64.wrap ((x2.toNat : Int) * 65536 + (x3.toNat : Int) * 256) = (x2.toNat : Int) * 65536 + (x3.toNat : Int) * 256 ∧
    IntKind.i64.wrap ((x2.toNat : Int) * 65536 + (x3.toNat : Int) * 256 + (x4.toNat : Int)) = (v : Int) := by
  have l2 := x2.toNat_lt
  have l3 := x3.toNat_lt
  have l4 := x4.toNat_lt
  refine ⟨IntWalk.i64_in _ (by omega), IntWalk.i64_in _ (by omega), IntWalk.i64_in _ (by omega), IntWalk.i64_in _ (by omega), IntWalk.i64_in _ (by omega), IntWalk.i64_in _ (by omega), ?_⟩
  rw [IntWalk.i64_in _ (by omega)]
  omega
set_option maxHeartbeats 4000000 in
set_option maxRecDepth 100000 in
theorem rtake_core (b off n c v : Nat) (x1 x2 x3 x4 : UInt8) (os ys : List UInt8) (w : World) (hc : n ≤ c) (h5 : 5 ≤ n) (hv : v ≤ 65536) (hvn : v + 8 ≤ n) (hve : v = x2.toNat * 65536 + x3.toNat * 256 + x4.toNat) (hx1 : x1 ≠ 0) (hn : n ≤ 9223372036854775807)
    (k0 : w.cell? ⟨b, off, none⟩ = some (.int .u8 102)) (k1 : w.cell? ⟨b, off + 1, none⟩ = some (.int .u8 (x1.toNat : Int))) (k2 : w.cell? ⟨b, off + 2, none⟩ = some (.int .u8 (x2.toNat : Int))) (k3 : w.cell? ⟨b, off + 3, none⟩ = some (.int .u8 (x3.toNat : Int))) (k4 : w.cell? ⟨b, off + 4, none⟩ = some (.int .u8 (x4.toNat : Int)))
    (hB : RdB w (some ⟨b, off + 5, none⟩) v ys) (hO : RdB w (some ⟨b, off, none⟩) (v + 8) os) :
    Calls Try.prog 44 #[.slice (some ⟨b, off, none⟩) n c] w fun e w' => (wrp x1 ys ≠ os ∧ ErrT w w' e 22) ∨ (wrp x1 ys = os ∧ ∃ A' c', e = .returned (.tuple #[.int .u8 x1.toNat, .slice A' ys.length c', .int .i64 ((v : Int) + 8), .int .i64 0]) ∧
      ys.length ≤ c' ∧ OwB w' w.heap.size (.slice A' ys.length c') ys ∧ Below w.heap.size w w') := by
  obtain ⟨e1a, e1b⟩ := u8_ne x1 0 (by omega) (by omega) hx1
  obtain ⟨w2, w3, w4, v2, v3, v4, v5⟩ := head_wraps x2 x3 x4 v hve
  have l1 := x1.toNat_lt
  have z0 : ((n : Int) == 0) = false := by simp; omega
  have i1 : (1 : Int) < (n : Int) := by omega
  have i2 : (2 : Int) < (n : Int) := by omega
  have i3 : (3 : Int) < (n : Int) := by omega
  have i4 : (4 : Int) < (n : Int) := by omega
  have hco := ct_lo (some ⟨b, off, none⟩) n c ((v : Int) + 8) (by omega) (by omega) hc
  rw [show ((v : Int) + 8).toNat = v + 8 by omega] at hco
  have v8 : IntKind.i64.wrap ((v : Int) + 8) = (v : Int) + 8 := IntWalk.i64_in _ (by omega)
  have c8 : ¬ (c : Int) < (v : Int) + 8 := by omega
  have HB := Lib.hid hB
  have HO := Lib.hid hO
  clear hve hx1 hB hO
  by_cases hs : wrp x1 ys = os
  · have HS := Lib.hid hs
    have hsb : (wrp x1 ys != os) = false := by simp [hs]
    have hsc : (wrp x1 ys == os) = true := by simp [hs]
    clear hs
    go_enter Try.func44, Try.ntmps44
    go_wp2
    go_quiet (fail)
    go_wp2
    generalize hW : w.drewN nq = W
    have hBW : Below w.heap.size w W := by subst hW; exact pw_below_drewN (Below.refl _ _) _
    have q1 : W.drew.cell? ⟨b, off + 1, none⟩ = some (.int .u8 (x1.toNat : Int)) := by subst hW; exact k1
    have co := conv_str (c := c) (Kd.C_drew (Kd.C_below HO.out hBW))
    have HBD := Lib.hid (Kd.C_drew (Kd.C_below HB.out hBW))
    have HOD := Lib.hid (Kd.C_drew (Kd.C_below HO.out hBW))
    clear hW
    go_region_with (go_at_call 42; refine (bytes_at _ _ _ _ _ _ HBD.out (by omega)).mono ?_; rintro e w5 ⟨A6, c6, rfl, hc6, hO6, hb6⟩; have t6 := conv_str (c := c6) hO6.reads.2.2; have t7 := conv_str (c := c) (Kd.C_below HOD.out hb6))
    all_goals
      go_wp2
      have hB6 := below_step (below_drew hBW) hb6
      have q6 := pw_cell_below (below_drew (below_alloc hB6 (.cells #[] 5))) k1
      have HBE := Lib.hid (Kd.C_below HBD.out hb6)
      have q5 := pw_cell_below (below_drew hB6) k1
      go_region_law (refine ap_row_step (w0 := w) w.heap.size rfl (Operand.tmp 67) (Operand.tmp 68) rfl _ [] ys (some ⟨b, off + 5, none⟩) v (c - 5) rfl rfl (Kd.R_drew (OwB.lit w5 _ hB6.size [] _ rfl (by simp))) (Kd.C_drew (Kd.C_alloc HBE.out _)) (below_drew (below_alloc hB6 _)) (Nat.le_trans hB6.size (by simp)) (by simp; omega) ?_; intro z7 A7 c7 w7 hz7 hc7 hO7 hB7 _; have q7 := pw_cell_below hB7 k1)
      all_goals
        go_wp2
        obtain rfl : z7 = ys := hz7
        refine bodyPost_ret (v := .tuple #[.int .u8 (x1.toNat : Int), .slice A7 z7.length c7, .int .i64 ((v : Int) + 8), .int .i64 0]) (by simp [results, Try.results44, go_sem]) rfl ?_
        exact .inr ⟨HS.out, A7, c7, rfl, hc7, hO7, by first | exact hB7 | exact below_drew hB7⟩
  · have hsb : (wrp x1 ys != os) = true := by simp [hs]
    have hsc : (wrp x1 ys == os) = false := by simp [hs]
    have HS := Lib.hid hs
    clear hs
    go_enter Try.func44, Try.ntmps44
    go_wp2
    go_quiet (fail)
    go_wp2
    generalize hW : w.drewN nq = W
    have hBW : Below w.heap.size w W := by subst hW; exact pw_below_drewN (Below.refl _ _) _
    have q1 : W.drew.cell? ⟨b, off + 1, none⟩ = some (.int .u8 (x1.toNat : Int)) := by subst hW; exact k1
    have co := conv_str (c := c) (Kd.C_drew (Kd.C_below HO.out hBW))
    have HBD := Lib.hid (Kd.C_drew (Kd.C_below HB.out hBW))
    have HOD := Lib.hid (Kd.C_drew (Kd.C_below HO.out hBW))
    clear hW
    go_region_with (go_at_call 42; refine (bytes_at _ _ _ _ _ _ HBD.out (by omega)).mono ?_; rintro e w5 ⟨A6, c6, rfl, hc6, hO6, hb6⟩; have t6 := conv_str (c := c6) hO6.reads.2.2; have t7 := conv_str (c := c) (Kd.C_below HOD.out hb6))
    all_goals
      go_wp2
      refine bodyPost_ret (v := .tuple #[.int .u8 0, .slice none 0 0, .int .i64 0, .int .i64 22]) (by simp [results, Try.results44, go_sem]) rfl ?_
      exact .inl ⟨HS.out, rfl, below_step (below_drew hBW) hb6⟩
theorem rtake_at (A : Option Addr) (n c : Nat) (xs : List UInt8) (w : World) (hC : RdB w A n xs) (hc : n ≤ c) :
    Calls Try.prog 44 #[.slice A n c] w fun e w' => ∃ A' c', e = .returned (.tuple #[.int .u8 (tak xs).1.toNat, .slice A' (tak xs).2.1.length c', .int .i64 (tak xs).2.2.1, .int .i64 (tak xs).2.2.2]) ∧
      (tak xs).2.1.length ≤ c' ∧ RdB w' A' (tak xs).2.1.length (tak xs).2.1 ∧ (∀ ad, A' = some ad → w.heap.size ≤ ad.block) ∧ Below w.heap.size w w' := by
  obtain rfl : xs.length = n := hC.1
  have herr : ∀ k e w', tak xs = (0, [], 0, k) → ErrT w w' e k → ∃ A' c', e = .returned (.tuple #[.int .u8 (tak xs).1.toNat, .slice A' (tak xs).2.1.length c', .int .i64 (tak xs).2.2.1, .int .i64 (tak xs).2.2.2]) ∧
      (tak xs).2.1.length ≤ c' ∧ RdB w' A' (tak xs).2.1.length (tak xs).2.1 ∧ (∀ ad, A' = some ad → w.heap.size ≤ ad.block) ∧ Below w.heap.size w w' := by
    intro k e w' hT ⟨he, hB⟩
    rw [hT]
    exact ⟨none, 0, he, Nat.le_refl _, Kd.C_nil _ _, (fun ad e => by cases e), hB⟩
  cases hb : badB xs with
  | true => exact (rtake_bad A _ c xs w hC hb).mono fun e w' h => herr 20 e w' (tak_20 hb) h
  | false =>
    cases ht : tornB xs with
    | true => exact (rtake_torn A _ c xs w hC hb ht).mono fun e w' h => herr 23 e w' (tak_23 hb ht) h
    | false =>
      obtain ⟨hb0, hb1, hb5⟩ := badB_false hb
      obtain ⟨h5, hvl⟩ := tornB_no ht
      have hO := opnB_wrp hb ht
      have hs : siz xs = (vl xs + 8, 0) := by simp [siz, hb, ht]
      have hv := hb5 h5
      obtain ⟨b, off, rfl, hcs⟩ := KB_cellsD hC (by omega)
      have k0 := hcs 0 (by omega)
      rw [Nat.add_zero, hb0 (by omega)] at k0
      have hRB : RdB w (some ⟨b, off + 5, none⟩) (vl xs) ((xs.take (vl xs + 5)).drop 5) := by
        have r1 := rd_lo hC (vl xs + 5) (by omega)
        have e1 : (xs.take (vl xs + 5)).length = vl xs + 5 := by rw [List.length_take]; omega
        have r2 := rd_up (c := c) r1 5 (by omega) (by omega)
        rw [List.length_drop, e1, if_neg (by omega), Nat.add_sub_cancel] at r2
        simpa [add_off] using r2
      have hRO : RdB w (some ⟨b, off, none⟩) (vl xs + 8) (xs.take (vl xs + 8)) := by
        have r1 := rd_lo hC (vl xs + 8) hvl
        have e1 : (xs.take (vl xs + 8)).length = vl xs + 8 := by rw [List.length_take]; omega
        rwa [e1] at r1
      refine (rtake_core b off xs.length c (vl xs) (xs.getD 1 0) (xs.getD 2 0) (xs.getD 3 0) (xs.getD 4 0) _ _ w hc h5 hv hvl rfl (hb1 (by omega)) (Kd.C_max hC) k0 (hcs 1 (by omega)) (hcs 2 (by omega)) (hcs 3 (by omega)) (hcs 4 (by omega)) hRB hRO).mono ?_
      rintro e w' (⟨hne, hE⟩ | ⟨heq, A', c', rfl, hc', hO', hB⟩)
      · refine herr 22 e w' ?_ hE
        unfold tak
        rw [hs, if_neg (by simp), if_neg (fun h => hne (hO.1 h))]
      · have hT : tak xs = (xs.getD 1 0, (xs.take (vl xs + 5)).drop 5, vl xs + 8, 0) := by
          unfold tak
          rw [hs, if_neg (by simp), if_pos (hO.2 heq)]
        rw [hT]
        exact ⟨A', c', by rw [show (((vl xs + 8 : Nat)) : Int) = (vl xs : Int) + 8 by omega]; rfl, hc', hO'.reads.2.2, OwB.base hO', hB⟩
end Go.Proofs.Ytoccidpocagkjaa
