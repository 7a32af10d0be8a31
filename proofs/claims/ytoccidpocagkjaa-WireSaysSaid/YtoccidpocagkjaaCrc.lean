/- The package crc24: each function by its contract. -/
import Derived.Test.YtoccidpocagkjaaBas
import Derived.Test.YtoccidpocagkjaaMth
set_option linter.unusedVariables false
set_option linter.unusedSimpArgs false
namespace Go.Proofs.Ytoccidpocagkjaa
open Go.RowKit Go.Proofs.YtoccidpocagkjaaW.PrintWords Cf

theorem and_mask (s : Nat) (h : s < 33554432) : bits .and .u32 ((s : Int) * 2) 16777215 = ((s * 2 % 16777216 : Nat) : Int) := by
  have e : ((s : Int) * 2) = ((s * 2 : Nat) : Int) := by omega
  rw [e, show (16777215 : Int) = ((16777215 : Nat) : Int) from rfl, u32_and_nat _ _ (by omega) (by omega)]
  have := Nat.and_two_pow_sub_one_eq_mod (s * 2) 24
  simp at this
  rw [this]
theorem step_walk (g : Nat) (s : Nat) (h1 : s < 16777216) (w : World) (hb : w.heap[g]? = some (.cells #[.int .u32 s] 46 (0, 0))) :
    Calls Try.prog 93 #[.pointer (some ⟨g, 0, none⟩)] w fun e w' => e = .returned (.tuple #[]) ∧ w'.heap[g]? = some (.cells #[.int .u32 (stp s)] 46 (0, 0)) ∧ w.grownBy w' (some g) := by
  have hc := cell_of_one hb
  have hf := free_of_one hb
  have HB := Lib.hid hb
  clear hb
  by_cases h : s * 2 / 16777216 = 0
  · have ht : ((s : Int) * 2 / 16777216 != 0) = false := by simp; omega
    have fin : stp s = s * 2 := by simp [stp, h]
    have HF := Lib.hid fin
    clear fin h
    go_enter Try.func93, Try.ntmps93
    go_wp2
    go_end0
    refine ⟨rfl, ?_, grown_set _ _ _ _⟩
    rw [HF.out]
    exact one_setCell HB.out
  · have ht : ((s : Int) * 2 / 16777216 != 0) = true := by simp; omega
    have fin : stp s = (s * 2 % 16777216) ^^^ 8801531 := by simp [stp, h]
    have HF := Lib.hid fin
    clear fin h
    go_enter Try.func93, Try.ntmps93
    go_wp2
    go_end0
    refine ⟨rfl, ?_, (grown_set _ _ _ _).trans (grown_set _ _ _ _)⟩
    rw [HF.out, and_mask s (by omega), show (8801531 : Int) = ((8801531 : Nat) : Int) from rfl, u32_xor_nat _ _ (by omega) (by omega)]
    exact one_setCell (one_setCell HB.out)
theorem xor_in (s : Nat) (h : s < 16777216) (c : UInt8) : bits .xor .u32 (s : Int) ((c.toNat : Int) * 65536) = ((s ^^^ c.toNat * 65536 : Nat) : Int) := by
  have := c.toNat_lt
  rw [show ((c.toNat : Int) * 65536) = ((c.toNat * 65536 : Nat) : Int) by omega, u32_xor_nat _ _ (by omega) (by omega)]

set_option maxHeartbeats 1000000 in
theorem on_walk (s : Nat) (hs : s < 4294967296) (A : Option Addr) (c : Nat) (xs : List UInt8) (w : World) (hC : RdB w A xs.length xs) :
    Calls Try.prog 90 #[.int .u32 s, .slice A xs.length c] w fun e w' => e = .returned (.int .u32 (crc (s % 16777216) xs)) ∧ Below w.heap.size w w' := by
  have hm : xs.length ≤ 9223372036854775807 := Kd.C_max hC
  have HC := Lib.hid hC
  clear hC
  have em : bits .and .u32 (s : Int) 16777215 = ((s % 16777216 : Nat) : Int) := by
    rw [show (16777215 : Int) = ((16777215 : Nat) : Int) from rfl, u32_and_nat _ _ (by omega) (by omega)]
    have := Nat.and_two_pow_sub_one_eq_mod s 24
    simp at this
    rw [this]
  have hs0 : s % 16777216 < 16777216 := Nat.mod_lt _ (by decide)
  generalize s % 16777216 = s0 at *
  have EM := Lib.hid em
  clear em
  have hmf : ∀ (fn : Fn) (first cap : Array Value) (w : World), (Instr.makeFunc fn first cap).run Try.prog w = .ok (.func fn first cap) w := fun _ _ _ _ => rfl
  go_enter Try.func90, Try.ntmps90
  go_wp2
  rw [EM.out]
  go_loopw [7, 13, 22] (fun _ i _ wr => ∃ k : Nat, k ≤ xs.length ∧ i = .int .i64 k ∧ wr.heap[w.heap.size]? = some (.cells #[.int .u32 (crc s0 (xs.take k) : Nat)] 46 (0, 0)) ∧ Below w.heap.size w wr)
    (fun _ i _ _ => xs.length - (intOf i).toNat)
  case atStart => exact ⟨0, Nat.zero_le _, rfl, by simpa [crc] using heap_alloc_new w _, (Below.refl _ _).alloc (Nat.le_refl _) _⟩
  case round =>
    obtain ⟨k, hk, rfl, hb, hB⟩ := hrel
    by_cases hlt : k < xs.length
    · obtain ⟨ad, rfl, hcl⟩ := KB_at (Kd.C_below HC.out hB) k hlt
      have hc := cell_of_one hb
      have hf := free_of_one hb
      have hl : crc s0 (xs.take k) < 16777216 := crc_lt hs0 _
      have hx : xs[k].toNat < 256 := xs[k].toNat_lt
      have HB := Lib.hid hb
      clear hb
      have hmix := mix_lt hl xs[k]
      go_wp2
      rw [xor_in _ hl]
      have hb2 := one_setCell (u := .int .u32 ((crc s0 (xs.take k) ^^^ xs[k].toNat * 65536 : Nat) : Int)) HB.out
      have hB2 : Below w.heap.size w (wr.setCell ⟨w.heap.size, 0, none⟩ (.int .u32 ((crc s0 (xs.take k) ^^^ xs[k].toNat * 65536 : Nat) : Int))) := hB.setCell (Nat.le_refl _) _
      have HT := Lib.hid (show crc s0 (xs.take (k + 1)) = stpn 8 (crc s0 (xs.take k) ^^^ xs[k].toNat * 65536) by
        rw [List.take_succ_eq_append_getElem hlt, crc_snoc, byt])
      generalize wr.setCell ⟨w.heap.size, 0, none⟩ (.int .u32 ((crc s0 (xs.take k) ^^^ xs[k].toNat * 65536 : Nat) : Int)) = w2 at *
      generalize crc s0 (xs.take k) ^^^ xs[k].toNat * 65536 = s2 at *
      have HC2 := Lib.hid hb2
      clear hb2 hc hf HB hB
      go_loopw [22] (fun i wr => ∃ j : Nat, j ≤ 8 ∧ i = .int .i64 j ∧ wr.heap[w.heap.size]? = some (.cells #[.int .u32 (stpn j s2 : Nat)] 46 (0, 0)) ∧ Below w.heap.size w wr)
        (fun i _ => 8 - (intOf i).toNat)
      case atStart => exact ⟨0, by omega, rfl, HC2.out, hB2⟩
      case round =>
        clear HC2 hB2
        obtain ⟨j, hj, rfl, hb, hB⟩ := hrel
        have hl2 : stpn j s2 < 16777216 := stpn_lt hmix
        have HB := Lib.hid hb
        clear hb
        by_cases hlt2 : j < 8
        · go_wp2_with (go_at_call 93; refine (step_walk _ _ hl2 _ HB.out).mono ?_; rintro e w3 ⟨rfl, hb3, hg3⟩)
          go_roundw
          case rel => exact ⟨j + 1, by omega, by go_num, hb3, hB.grown hg3 hB.size (by simp)⟩
          case measure => simp [intOf]; omega
        · go_wp2
          go_roundw
          case rel =>
            obtain rfl : j = 8 := by omega
            exact ⟨k + 1, by omega, by go_num, by rw [HT.out]; exact HB.out, hB⟩
          case measure => simp [intOf]; omega
    · have hkk : k = xs.length := by omega
      subst hkk
      rw [List.take_length] at hb
      have hc := cell_of_one hb
      clear hb
      go_wp2
      go_ret
      exact ⟨rfl, hB⟩

/-- A row of byte slices that is read. -/
abbrev KBs : Kd (List UInt8) := Kd.slice 5 KB
theorem KBs_at {w : World} {A : Option Addr} {n : Nat} {ps : List (List UInt8)} (h : KBs.C w A n ps) (k : Nat) (hk : k < ps.length) :
    ∃ ad A' c', A = some ad ∧ w.cell? (ad.add k) = some (.slice A' ps[k].length c') ∧ ps[k].length ≤ c' ∧ RdB w A' ps[k].length ps[k] := by
  obtain ⟨ad, cs, e, _, hK, hc⟩ := Kd.C_get h ([] : List UInt8) (k : Int) (by omega) (by rw [← h.1]; omega)
  have hg : ps.getD (k : Int).toNat [] = ps[k] := by simp [List.getD_eq_getElem?_getD, hk]
  rw [hg] at hK
  obtain ⟨A', c', rfl, hl, hr⟩ := hK
  exact ⟨ad, A', c', e, by simpa [Kd.slice] using hc 0 _ rfl, hl, hr⟩

set_option maxHeartbeats 1000000 in
theorem sum_walk (A : Option Addr) (c : Nat) (ps : List (List UInt8)) (w : World) (hC : KBs.C w A ps.length ps) :
    Calls Try.prog 80 #[.slice A ps.length c] w fun e w' => e = .returned (.int .u32 (crc 11994318 ps.flatten)) ∧ Below w.heap.size w w' := by
  have hm : ps.length ≤ 9223372036854775807 := Kd.C_max hC
  have HC := Lib.hid hC
  clear hC
  go_enter Try.func80, Try.ntmps80
  go_wp2
  go_loopw [3, 8] (fun s i wr => ∃ k : Nat, k ≤ ps.length ∧ i = .int .i64 k ∧ s = .int .u32 (crc 11994318 (ps.take k).flatten : Nat) ∧ Below w.heap.size w wr)
    (fun _ i _ => ps.length - (intOf i).toNat)
  case atStart => exact ⟨0, Nat.zero_le _, rfl, rfl, Below.refl _ _⟩
  case round =>
    obtain ⟨k, hk, rfl, rfl, hB⟩ := hrel
    have hl : crc 11994318 (ps.take k).flatten < 16777216 := crc_lt (by decide) _
    by_cases hlt : k < ps.length
    · obtain ⟨ad, A', c', rfl, hcl, hle, hR⟩ := KBs_at (Kd.C_below HC.out hB) k hlt
      have HR := Lib.hid hR
      clear hR
      have HT := Lib.hid (show crc 11994318 (ps.take (k + 1)).flatten = crc (crc 11994318 (ps.take k).flatten % 16777216) ps[k] by
        rw [List.take_succ_eq_append_getElem hlt, List.flatten_append, crc_append, Nat.mod_eq_of_lt hl]
        simp)
      generalize crc 11994318 (ps.take k).flatten = s0 at *
      go_wp2_with (go_at_call 90; refine (on_walk s0 (by omega) _ _ _ _ HR.out).mono ?_; rintro e w3 ⟨rfl, hb3⟩)
      go_roundw
      case rel => exact ⟨k + 1, by omega, by go_num, by rw [HT.out], below_then hB hB.size hb3⟩
      case measure => simp [intOf]; omega
    · obtain rfl : k = ps.length := by omega
      rw [List.take_length]
      go_wp2
      go_ret
      exact ⟨rfl, hB⟩

theorem KBs_one {w : World} {A : Option Addr} {c : Nat} {xs : List UInt8} (h : RdB w A xs.length xs) (hc : xs.length ≤ c) :
    KBs.C (w.alloc (.cells #[.slice A xs.length c] 25)) (some ⟨w.heap.size, 0, none⟩) [xs].length [xs] := by
  refine ⟨rfl, by simp, fun _ => ⟨_, rfl, fun j p hj => ?_⟩⟩
  match j, hj with
  | 0, hj =>
    obtain rfl : xs = p := by simpa using hj
    refine ⟨[.slice A xs.length c], rfl, ⟨A, c, rfl, hc, Kd.C_alloc h _⟩, fun i u hu => ?_⟩
    match i, hu with
    | 0, hu =>
      obtain rfl : Value.slice A xs.length c = u := by simpa using hu
      simp [Kd.slice, Addr.add, World.cell?_alloc_at]
theorem fits_walk (s : Int) (A : Option Addr) (c : Nat) (xs : List UInt8) (w : World) (hC : RdB w A xs.length xs) (hc : xs.length ≤ c) :
    Calls Try.prog 91 #[.slice A xs.length c, .int .u32 s] w fun e w' => e = .returned (.bool ((crc 11994318 xs : Int) == s)) ∧ Below w.heap.size w w' := by
  have H := Lib.hid (KBs_one hC hc)
  clear hC hc
  go_enter Try.func91, Try.ntmps91
  go_wp2_with (go_at_call 80; refine (sum_walk _ _ _ _ H.out).mono ?_; rintro e w3 ⟨rfl, hb3⟩)
  go_ret
  exact ⟨by simp, (below_alloc (Below.refl _ _) _).trans (hb3.mono (by simp))⟩

theorem clone_walk (A : Option Addr) (c : Nat) (xs : List UInt8) (w : World) (hC : RdB w A xs.length xs) (hc : xs.length ≤ c) (hl : xs.length ≤ 140737488355328) :
    Calls Try.prog 61 #[.slice A xs.length c] w fun e w' => ∃ A' c', e = .returned (.slice A' xs.length c') ∧ xs.length ≤ c' ∧ OwB w' w.heap.size (.slice A' xs.length c') xs ∧ Below w.heap.size w w' := by
  have qT : ∀ (w : World) (a : Option Addr) (n c n' c' : Nat), (binOp .eql 25 (.slice a n c) (.slice none n' c')).run Try.prog w = .ok (.bool a.isNone) w := fun w a n c n' c' => Lib.run_eql_slice_nil w _ _ a n c n' c' Try.underlying25
  have HC := Lib.hid hC
  clear hC
  cases A with
  | none =>
    have he : xs = [] := by
      by_cases h : 0 < xs.length
      · obtain ⟨ad, e, _⟩ := KB_at HC.out 0 h
        cases e
      · exact List.eq_nil_of_length_eq_zero (by omega)
    subst he
    go_enter Try.func61, Try.ntmps61
    go_wp2
    go_ret
    exact ⟨none, 0, rfl, Nat.le_refl _, OwB.nil _ _, Below.refl _ _⟩
  | some ad =>
    go_enter Try.func61, Try.ntmps61
    go_wp2_with (at_builtin; refine ap_row (w0 := w) w.heap.size rfl _ _ rfl _ [] xs (some ad) xs.length c rfl rfl ?c1 ?c2 ?c3 ?c4 ?c5 ?_)
    case c1 => exact OwB.lit w _ (Nat.le_refl _) [] _ rfl (by simp)
    case c2 => exact Kd.C_alloc HC.out _
    case c3 => exact below_alloc (Below.refl _ _) _
    case c4 => simp
    case c5 => simpa using hl
    intro zs A' c' w1 hz hc' hO hB _
    obtain rfl : zs = xs := hz
    go_wp2
    go_ret
    exact ⟨A', c', rfl, hc', hO, hB⟩

theorem lit3 (n : Nat) (h : n < 16777216) : ((sum3 n).map fun b => Value.int .u8 (b.toNat : Int)).toArray = #[.int .u8 ((n : Int) / 65536), .int .u8 ((n : Int) / 256 % 256), .int .u8 ((n : Int) % 256)] := by
  simp [sum3, UInt8.toNat_ofNat']
  omega
theorem sum3_length (n : Nat) : (sum3 n).length = 3 := rfl

set_option maxHeartbeats 1000000 in
theorem seal_walk (A : Option Addr) (c : Nat) (xs : List UInt8) (w : World) (hC : RdB w A xs.length xs) (hc : xs.length ≤ c) (hl : xs.length + 3 ≤ 140737488355328) :
    Calls Try.prog 60 #[.slice A xs.length c] w fun e w' => ∃ A' c', e = .returned (.slice A' (sld xs).length c') ∧ (sld xs).length ≤ c' ∧ OwB w' w.heap.size (.slice A' (sld xs).length c') (sld xs) ∧ Below w.heap.size w w' := by
  have HC := Lib.hid hC
  have H1 := Lib.hid (KBs_one hC hc)
  clear hC
  have hlt : crc 11994318 xs < 16777216 := crc_lt (by decide) _
  have hmk := mk_cap ((xs.length : Int) + 3) (by omega) (by omega)
  have ht : ((xs.length : Int) + 3).toNat = xs.length + 3 := by omega
  rw [ht] at hmk
  clear ht
  have HS := Lib.hid (show sld xs = xs ++ sum3 (crc 11994318 xs) from rfl)
  go_enter Try.func60, Try.ntmps60
  go_wp2_with (first
    | (go_at_call 80; refine (sum_walk _ _ _ _ H1.out).mono ?_; rintro e w3 ⟨rfl, hb3⟩; simp only [List.flatten_cons, List.flatten_nil, List.append_nil])
    | (at_builtin; refine ap_row (w0 := w) w.heap.size rfl (Operand.tmp 12) (Operand.tmp 13) rfl _ [] xs A xs.length c rfl rfl ?c1 ?c2 ?c3 ?c4 ?c5 ?_))
  case c1 => exact OwB.cap _ _ _ (by have := hb3.size; simp at this; omega) (by omega)
  case c2 => exact Kd.C_alloc (Kd.C_below HC.out ((below_alloc (Below.refl _ _) _).trans (hb3.mono (by simp)))) _
  case c3 => exact below_alloc ((below_alloc (Below.refl _ _) _).trans (hb3.mono (by simp))) _
  case c4 => have := hb3.size; simp at this ⊢; omega
  case c5 => simp; omega
  intro z1 A1 c1 w4 hz1 hc1 hO1 hB1 _
  obtain rfl : z1 = xs := hz1
  clear hb3
  have HO1 := Lib.hid hO1
  clear hO1
  go_wp2_with (at_builtin; refine ap_row (w0 := w) w.heap.size rfl (Operand.tmp 14) (Operand.tmp 23) rfl _ z1 (sum3 (crc 11994318 z1)) (some ⟨w4.heap.size, 0, none⟩) 3 3 rfl rfl ?d1 ?d2 ?d3 ?d4 ?d5 ?_)
  case d1 => exact Kd.R_alloc HO1.out _
  case d2 => exact (OwB.lit w4 w4.heap.size (Nat.le_refl _) (sum3 (crc 11994318 z1)) _ (by rw [lit3 _ hlt]) (by simp [sum3])).reads.2.2
  case d3 => exact below_alloc hB1 _
  case d4 => have := hB1.size; simp; omega
  case d5 => simpa using hl
  intro z2 A2 c2 w5 hz2 hc2 hO2 hB2 _
  obtain rfl : z2 = sld z1 := hz2
  go_wp2
  go_ret
  exact ⟨A2, c2, rfl, hc2, hO2, hB2⟩
theorem or3 (x y z : Nat) (hx : x < 256) (hy : y < 256) (hz : z < 256) : bits .or .u32 (bits .or .u32 ((x : Int) * 65536) ((y : Int) * 256)) (z : Int) = ((x * 65536 + y * 256 + z : Nat) : Int) := by
  rw [show ((x : Int) * 65536) = ((x * 65536 : Nat) : Int) by omega, show ((y : Int) * 256) = ((y * 256 : Nat) : Int) by omega, u32_or_nat _ _ (by omega) (by omega),
    nat_join 16 _ _ (by omega) (by omega), u32_or_nat _ _ (by omega) (by omega), nat_join 8 _ _ (by omega) (by omega)]
theorem open_short (A : Option Addr) (c : Nat) (xs : List UInt8) (w : World) (h3 : xs.length < 3) :
    Calls Try.prog 82 #[.slice A xs.length c] w fun e w' => e = .returned (.tuple #[.slice none 0 0, .bool false]) ∧ w' = w := by
  go_enter Try.func82, Try.ntmps82
  go_wp2
  go_ret2
  exact ⟨rfl, rfl⟩
set_option maxHeartbeats 1000000 in
theorem open_walk (A : Option Addr) (m c : Nat) (xs : List UInt8) (x0 x1 x2 : UInt8) (w : World) (hC : RdB w A (xs ++ [x0, x1, x2]).length (xs ++ [x0, x1, x2])) (hc : xs.length + 3 ≤ c) (hl : xs.length ≤ 140737488355328) :
    Calls Try.prog 82 #[.slice A (xs.length + 3) c] w fun e w' => Below w.heap.size w w' ∧
      ((crc 11994318 xs ≠ x0.toNat * 65536 + x1.toNat * 256 + x2.toNat ∧ e = .returned (.tuple #[.slice none 0 0, .bool false])) ∨
       (crc 11994318 xs = x0.toNat * 65536 + x1.toNat * 256 + x2.toNat ∧ ∃ A' c', e = .returned (.tuple #[.slice A' xs.length c', .bool true]) ∧ xs.length ≤ c' ∧ OwB w' w.heap.size (.slice A' xs.length c') xs)) := by
  have hcut := ct_lo A (xs.length + 3) c (xs.length : Int) (by omega) (by omega) hc
  simp only [Int.toNat_natCast] at hcut
  have hR : RdB w A xs.length xs := by
    have := rd_lo hC xs.length (by simp)
    simpa using this
  obtain ⟨b, off, rfl, hcs⟩ := KB_cells hC (by simp)
  have k0 := hcs xs.length (by simp)
  have k1 := hcs (xs.length + 1) (by simp)
  have k2 := hcs (xs.length + 2) (by simp)
  simp at k0 k1 k2
  clear hcs
  have b0 := x0.toNat_lt
  have b1 := x1.toNat_lt
  have b2 := x2.toNat_lt
  have hm := Kd.C_max hC
  simp at hm
  clear hC
  have HR := Lib.hid hR
  clear hR
  have i0 : (xs.length : Int) < (xs.length : Int) + 3 := by omega
  have i1 : (xs.length : Int) + 1 < (xs.length : Int) + 3 := by omega
  have i2 : (xs.length : Int) + 2 < (xs.length : Int) + 3 := by omega
  have j0 : 0 ≤ (xs.length : Int) := by omega
  have j1 : 0 ≤ (xs.length : Int) + 1 := by omega
  have j2 : 0 ≤ (xs.length : Int) + 2 := by omega
  have t1 : ((xs.length : Int) + 1).toNat = xs.length + 1 := by omega
  have t2 : ((xs.length : Int) + 2).toNat = xs.length + 2 := by omega
  have v1 : IntKind.i64.wrap ((xs.length : Int) + 1) = (xs.length : Int) + 1 := IntWalk.i64_in _ (by omega)
  have v2 : IntKind.i64.wrap ((xs.length : Int) + 2) = (xs.length : Int) + 2 := IntWalk.i64_in _ (by omega)
  have w0' : IntKind.u32.wrap ((x0.toNat : Int)) = (x0.toNat : Int) := by rw [IntKind.wrap_u32]; omega
  have w1' : IntKind.u32.wrap ((x1.toNat : Int)) = (x1.toNat : Int) := by rw [IntKind.wrap_u32]; omega
  have w2' : IntKind.u32.wrap ((x2.toNat : Int)) = (x2.toNat : Int) := by rw [IntKind.wrap_u32]; omega
  have w3' : IntKind.u32.wrap ((x0.toNat : Int) * 65536) = (x0.toNat : Int) * 65536 := by rw [IntKind.wrap_u32]; omega
  have w4' : IntKind.u32.wrap ((x1.toNat : Int) * 256) = (x1.toNat : Int) * 256 := by rw [IntKind.wrap_u32]; omega
  have o3 := or3 x0.toNat x1.toNat x2.toNat b0 b1 b2
  have O3 := Lib.hid o3
  clear o3
  generalize x0.toNat * 65536 + x1.toNat * 256 + x2.toNat = s at *
  by_cases he : crc 11994318 xs = s
  · have heB : ((crc 11994318 xs : Int) == (s : Int)) = true := by simp [he]
    have HE := Lib.hid he
    clear he
    go_enter Try.func82, Try.ntmps82
    go_wp2
    go_quiet (fail)
    rw [O3.out]
    go_wp2_with (first
      | (go_at_call 91; refine (fits_walk _ _ _ _ _ (Kd.C_drewN HR.out _) (by omega)).mono ?_; rintro e w3 ⟨rfl, hb3⟩)
      | (go_at_call 61; refine (clone_walk _ _ _ _ (Kd.C_below (Kd.C_drewN HR.out _) hb3) (by omega) hl).mono ?_; rintro e w4 ⟨A', c', rfl, hc', hO, hb4⟩))
    go_ret2
    exact ⟨below_step (below_step (pw_below_drewN (Below.refl _ _) _) hb3) hb4, .inr ⟨HE.out, A', c', rfl, hc', hO.lower (by have := hb3.size; simp at this; omega)⟩⟩
  · have heB : ((crc 11994318 xs : Int) == (s : Int)) = false := by simp; omega
    have HE := Lib.hid he
    clear he
    go_enter Try.func82, Try.ntmps82
    go_wp2
    go_quiet (fail)
    rw [O3.out]
    go_wp2_with (first
      | (go_at_call 91; refine (fits_walk _ _ _ _ _ (Kd.C_drewN HR.out _) (by omega)).mono ?_; rintro e w3 ⟨rfl, hb3⟩))
    go_ret2
    exact ⟨below_step (pw_below_drewN (Below.refl _ _) _) hb3, .inl ⟨HE.out, rfl⟩⟩

theorem open_at (A : Option Addr) (n c : Nat) (xs : List UInt8) (w : World) (hC : RdB w A n xs) (hc : n ≤ c) (hl : n ≤ 140737488355328) :
    Calls Try.prog 82 #[.slice A n c] w fun e w' => ∃ A' c', e = .returned (.tuple #[.slice A' (opnL xs).length c', .bool (opnB xs)]) ∧ (opnL xs).length ≤ c' ∧ OwB w' w.heap.size (.slice A' (opnL xs).length c') (opnL xs) ∧ Below w.heap.size w w' := by
  obtain rfl : xs.length = n := hC.1
  by_cases h3 : 3 ≤ xs.length
  · obtain ⟨ys, x, y, z, rfl⟩ := split3 h3
    have hlen : (ys ++ [x, y, z]).length = ys.length + 3 := by simp
    rw [hlen] at hc hl ⊢
    refine (open_walk A 0 c ys x y z w hC hc (by omega)).mono ?_
    rintro e w' ⟨hB, ⟨hne, rfl⟩ | ⟨he, A', c', rfl, hc', hO⟩⟩
    · have hb : opnB (ys ++ [x, y, z]) = false := by
        rw [← Bool.not_eq_true, opnB_three]
        exact hne
      have hl' : opnL (ys ++ [x, y, z]) = [] := by simp [opnL, hb]
      rw [hb, hl']
      exact ⟨none, 0, rfl, Nat.le_refl _, OwB.nil _ _, hB⟩
    · have hb := opnB_three.2 he
      rw [hb, opnL_three hb]
      exact ⟨A', c', rfl, hc', hO, hB⟩
  · have hb : opnB xs = false := by simp [opnB, h3]
    have hl' : opnL xs = [] := by simp [opnL, hb]
    refine (open_short A c xs w (by omega)).mono ?_
    rintro e w' ⟨rfl, rfl⟩
    rw [hb, hl']
    exact ⟨none, 0, rfl, Nat.le_refl _, OwB.nil _ _, Below.refl _ _⟩
theorem open_sld (A : Option Addr) (n c : Nat) (xs : List UInt8) (w : World) (hC : RdB w A n (sld xs)) (hc : n ≤ c) (hl : n ≤ 140737488355328) :
    Calls Try.prog 82 #[.slice A n c] w fun e w' => ∃ A' c', e = .returned (.tuple #[.slice A' xs.length c', .bool true]) ∧ xs.length ≤ c' ∧ OwB w' w.heap.size (.slice A' xs.length c') xs ∧ Below w.heap.size w w' := by
  refine (open_at A n c _ w hC hc hl).mono ?_
  rw [opnB_sld, opnL_sld]
  exact fun _ _ h => h
end Go.Proofs.Ytoccidpocagkjaa
