/- The reference's numbers and texts; its Head, Line. -/
import Derived.Test.YtakneimkadjiiaaSln
set_option linter.unusedVariables false
set_option linter.unusedSimpArgs false
namespace Go.Proofs.Ytakneimkadjiiaa
open Go.RowKit Go.Proofs.YtakneimkadjiiaaW.PrintWords Cf
attribute [local go_sem] str_beq str_bne

/-- append(v, s...), s a string. -/
theorem ap_str {ops : Array Oper} {rest : List Oper} {o : Oper} {a : Act} {Q : Exit → Act → World → Prop} {w0 W : World} (base : Nat) (hgd : o.guard = none) (s x : Operand)
    (ho : o.op = .call { callee := .builtin .append, args := #[s, x], argTypes := #[22, 9] })
    (v : Value) (xs ys : List UInt8) (hs : a.eval s = v) (hx : a.eval x = .string (str ys))
    (HO : OwB W base v xs) (HB : Below base w0 W) (hbase : base ≤ W.heap.size) (hl : xs.length + ys.length ≤ 140737488355328)
    (h : ∀ zs A' c' w1, Hid (zs = xs ++ ys) → zs.length ≤ c' → OwB w1 base (.slice A' zs.length c') zs → Below base w0 w1 → W.grownBy w1 v.ownBlock → wpList Try.prog ops Q rest (a.put o.dst (.slice A' zs.length c')) w1) :
    wpList Try.prog ops Q (o :: rest) a W := by
  have e1 : encs (fun b : UInt8 => Value.int .u8 (b.toNat : Int)) xs = nums .u8 (xs.map fun b => (b.toNat : Int)) := by simp [encs, nums]
  have ho1 := Kd.own_of_R HO
  rw [e1] at ho1
  refine print_append_str (w0 := w0) base hgd s x 22 9 5 ho Try.underlying22 Try.underlying9 info_u8 v (xs.map fun b => (b.toNat : Int)) (str ys) hs hx (by rw [List.length_map]; exact ho1) HB hbase (by rw [List.length_map, str_size]; exact hl) ?_
  intro v1 w1 hown hB hg
  have e2 : (xs.map fun b => (b.toNat : Int)) ++ bytesOf (str ys) = (xs ++ ys).map fun b => (b.toNat : Int) := by rw [str_bytes, List.map_append]
  rw [e2, List.length_map] at hown
  have e3 : nums .u8 ((xs ++ ys).map fun b => (b.toNat : Int)) = encs (fun b : UInt8 => Value.int .u8 (b.toNat : Int)) (xs ++ ys) := by simp [encs, nums, Function.comp_def]
  rw [e3] at hown
  have hR : OwB w1 base v1 (xs ++ ys) := Kd.R_of_own hown (fun _ _ => trivial)
  obtain ⟨A', c', rfl, hc, _⟩ := OwB.form hR
  exact h _ A' c' w1 rfl hc hR hB hg
set_option maxHeartbeats 2000000 in
theorem rnumw_walk (n : Nat) (w : World) (hn : n < 18446744073709551616) :
    Calls Try.prog 33 #[.int .u64 n] w fun e w' => ∃ A c, e = .returned (.slice A (numB n).length c) ∧ (numB n).length ≤ c ∧ OwB w' w.heap.size (.slice A (numB n).length c) (numB n) ∧ Below w.heap.size w w' := by
  have h8 := beB_len8 hn
  go_enter Try.func33, Try.ntmps33
  go_wp2_with fail
  go_loopw [0, 3] (fun f v wr => ∃ (m : Nat) (tail : List UInt8), f = .int .u64 m ∧ m ≤ n ∧ beB n = beB m ++ tail ∧ (∃ A c, v = .slice A tail.length c ∧ tail.length ≤ c ∧ OwB wr w.heap.size (.slice A tail.length c) tail) ∧ Below w.heap.size w wr)
    (fun f _ _ => (intOf f).toNat)
  case atStart => exact ⟨n, [], rfl, Nat.le_refl _, by simp, ⟨none, 0, rfl, Nat.le_refl _, OwB.nil _ _⟩, Below.refl _ _⟩
  case round =>
    obtain ⟨m, tail, rfl, hm, hb, ⟨A, c, rfl, hc, hO⟩, hB⟩ := hrel
    have hlen := congrArg List.length hb
    rw [List.length_append] at hlen
    have HO := Lib.hid hO
    have HB := Lib.hid hB
    have htl : tail.length ≤ 8 := by omega
    by_cases hm0 : m = 0
    · subst hm0
      rw [beB_zero, List.nil_append] at hb
      have HF := Lib.hid hb
      have HL := Lib.hid (show tail.length = (beB n).length by rw [hb])
      have HZ := Lib.hid (show (((UInt8.ofNat tail.length).toNat : Nat) : Int) = (tail.length : Int) by rw [UInt8.toNat_ofNat']; omega)
      have HN := Lib.hid (show [UInt8.ofNat tail.length] ++ tail = numB n by rw [numB, hb]; rfl)
      clear hO hB hb hlen
      generalize UInt8.ofNat tail.length = z at *
      go_wp2_with (at_builtin; refine ap_row (w0 := w) w.heap.size rfl (Operand.tmp 17) (Operand.tmp 18) rfl _ [z] tail A tail.length c rfl rfl ?d1 ?d2 ?d3 ?d4 ?d5 ?_)
      case d1 => exact OwB.lit wr _ HB.out.size [z] _ (by simp [HZ.out]) (by simp)
      case d2 => exact Kd.C_alloc HO.out.rd _
      case d3 => exact HB.out.alloc HB.out.size _
      case d4 => exact (HB.out.alloc HB.out.size _).size
      case d5 => simp; omega
      intro zs A1 c1 w1 hz hc1 hO1 hB1 hg1
      have hzn : zs = numB n := by rw [hz.out]; exact HN.out
      have HZN := Lib.hid hzn
      have HO1 := Lib.hid hO1
      clear hg1 hO1 hzn
      go_wp2
      go_ret
      rw [← HZN.out]
      exact ⟨A1, c1, rfl, hc1, HO1.out, hB1⟩
    · have hm1 : (0 : Int) < (m : Int) := by omega
      have HX := Lib.hid (show beB n = beB (m / 256) ++ (UInt8.ofNat m :: tail) by rw [hb, beB_pos hm0]; simp)
      obtain ⟨z, hz⟩ : ∃ z, UInt8.ofNat m = z := ⟨_, rfl⟩
      have HZ := Lib.hid (show (z.toNat : Int) = (m : Int) % 256 by rw [← hz, UInt8.toNat_ofNat']; omega)
      rw [hz] at HX
      clear hO hB hb hlen hz
      go_wp2_with (at_builtin; refine ap_row (w0 := w) w.heap.size rfl (Operand.tmp 9) (Operand.tmp 10) rfl _ [z] tail A tail.length c rfl rfl ?c1 ?c2 ?c3 ?c4 ?c5 ?_)
      case c1 => exact OwB.lit wr _ HB.out.size [z] _ (by simp [HZ.out]) (by simp)
      case c2 => exact Kd.C_alloc HO.out.rd _
      case c3 => exact HB.out.alloc HB.out.size _
      case c4 => exact (HB.out.alloc HB.out.size _).size
      case c5 => simp; omega
      intro zs A1 c1 w1 hz hc1 hO1 hB1 hg1
      have HX1 := Lib.hid (show beB n = beB (m / 256) ++ zs by rw [HX.out, hz.out])
      have HO1 := Lib.hid hO1
      clear hg1 hO1
      go_wp2
      go_roundw
      case rel => exact ⟨m / 256, zs, congrArg (Value.int .u64) (by omega), by omega, HX1.out, ⟨A1, c1, rfl, hc1, HO1.out⟩, hB1⟩
      case measure => simp [intOf]; omega
set_option maxHeartbeats 1000000 in
theorem rtextw_walk (s : List UInt8) (w : World) (hs : s.length ≤ 100000000) :
    Calls Try.prog 34 #[.string (str s)] w fun e w' => ∃ A c, e = .returned (.slice A (txtB s).length c) ∧ (txtB s).length ≤ c ∧ OwB w' w.heap.size (.slice A (txtB s).length c) (txtB s) ∧ Below w.heap.size w w' := by
  have hsz := str_size s
  have hlw : IntKind.u64.wrap (s.length : Int) = (s.length : Int) := IntWalk.u64_in _ ⟨by omega, by omega⟩
  have hn : (numB s.length).length ≤ 9 := numB_len (by omega)
  have HN := Lib.hid (rnumw_walk s.length w (by omega))
  have HT := Lib.hid (show txtB s = numB s.length ++ s from rfl)
  go_enter Try.func34, Try.ntmps34
  go_wp2_with fail
  refine (HN.out).mono ?_
  rintro e w1 ⟨A1, c1, rfl, hc1, hO1, hB1⟩
  have HO1 := Lib.hid hO1
  clear hO1
  go_wp2_with (at_builtin; refine ap_str (w0 := w) w.heap.size rfl (Operand.tmp 6) (Operand.tmp 7) rfl _ (numB s.length) s rfl rfl ?c1 ?c2 ?c3 ?c4 ?_)
  case c1 => exact HO1.out
  case c2 => exact hB1
  case c3 => exact hB1.size
  case c4 => omega
  intro zs A2 c2 w2 hz hc2 hO2 hB2 hg2
  have HZ := Lib.hid (show zs = txtB s by rw [hz.out]; rfl)
  have HO2 := Lib.hid hO2
  clear hO2 hg2
  go_wp2
  go_ret
  rw [← HZ.out]
  exact ⟨A2, c2, rfl, hc2, HO2.out, hB2⟩
set_option maxHeartbeats 1000000 in
theorem rhed_walk (i : Nat) (w : World) (hi : i < 18446744073709551616) :
    Calls Try.prog 13 #[.int .u64 i] w fun e w' => ∃ A c, e = .returned (.slice A (hedW i).length c) ∧ (hedW i).length ≤ c ∧ OwB w' w.heap.size (.slice A (hedW i).length c) (hedW i) ∧ Below w.heap.size w w' := by
  have HN := Lib.hid (rnumw_walk i w hi)
  have hn := numB_len hi
  have HW := Lib.hid (show hedW i = wrp 1 (numB i) from rfl)
  generalize hedW i = z at *
  go_enter Try.func13, Try.ntmps13
  go_wp2_with fail
  refine (HN.out).mono ?_
  rintro e w1 ⟨A1, c1, rfl, hc1, hO1, hB1⟩
  have HO1 := Lib.hid hO1
  clear hO1
  go_wp2_with fail
  refine (bytes_at A1 _ c1 1 (numB i) _ HO1.out.rd (by omega)).mono ?_
  rw [← HW.out]
  rintro e w2 ⟨A2, c2, rfl, hc2, hO2, hB2⟩
  have HO2 := Lib.hid hO2
  clear hO2
  go_wp2
  go_ret
  exact ⟨A2, c2, rfl, hc2, HO2.out.lower hB1.size, below_step hB1 hB2⟩
set_option maxHeartbeats 2000000 in
theorem rline_walk (i : Nat) (e : Ent) (A : Option Addr) (c : Nat) (w : World) (hi : i < 18446744073709551616) (h : soundB e = true) (hR : RdB w A e.data.length e.data) :
    Calls Try.prog 14 #[.int .u64 i, entV e A c] w fun e' w' => ∃ A c, e' = .returned (.slice A (linW i e).length c) ∧ (linW i e).length ≤ c ∧ OwB w' w.heap.size (.slice A (linW i e).length c) (linW i e) ∧ Below w.heap.size w w' := by
  obtain ⟨s1, s2, s3, s4, s5⟩ := soundB_ok h
  have HR := Lib.hid hR
  have hw : linW i e = wrp 2 (linT i e) := rfl
  have hlt := linT_len i e h hi
  have HLT := Lib.hid (show linT i e = numB i ++ numB e.term ++ numB e.kind.toNat ++ txtB e.data from rfl)
  have HW := Lib.hid hw
  have hkw : IntKind.u64.wrap e.kind = e.kind := IntWalk.u64_in _ ⟨by omega, by omega⟩
  have hkn : e.kind = ((e.kind.toNat : Nat) : Int) := by omega
  have a := numB_len hi
  have b := numB_len (show e.term < 18446744073709551616 by omega)
  have d := numB_len (show e.kind.toNat < 18446744073709551616 by omega)
  have f := txtB_len e.data (by omega)
  generalize linW i e = z at *
  generalize linT i e = body at *
  obtain ⟨tm, kd, dt⟩ := e
  dsimp only at *
  obtain ⟨kn, rfl⟩ : ∃ kn : Nat, kd = kn := ⟨_, hkn⟩
  simp only [Int.toNat_natCast] at HLT d
  have HN1 := Lib.hid (fun w => rnumw_walk i w hi)
  have HN2 := Lib.hid (fun w => rnumw_walk tm w (by omega))
  have HN3 := Lib.hid (fun w => rnumw_walk kn w (by omega))
  have HN4 := Lib.hid (fun w => rtextw_walk dt w (by omega))
  clear h hR hw hkn
  generalize numB i = b1 at *
  generalize numB tm = b2 at *
  generalize numB kn = b3 at *
  generalize txtB dt = b4 at *
  have HE := Lib.hid (Eb.at (World.alloc_heap_new w (.cells #[.int .u64 tm, .int .i64 kn, .slice A dt.length c] 38)))
  have HB1 := Lib.hid (below_alloc (Below.refl _ w) (.cells #[.int .u64 tm, .int .i64 kn, .slice A dt.length c] 38))
  have hz1 : w.heap.size < (w.alloc (.cells #[.int .u64 tm, .int .i64 kn, .slice A dt.length c] 38)).heap.size := by rw [World.size_alloc]; omega
  go_enter Try.func14, Try.ntmps14
  go_wp2_with fail
  generalize w.alloc (.cells #[.int .u64 tm, .int .i64 kn, .slice A dt.length c] 38) = w1 at *
  obtain ⟨⟨a0, a1, a2⟩, f0, f1, f2⟩ := HE.out
  go_region_law (first
    | (go_simp; (with_reducible refine (HN1.out _).mono ?_); rintro e w2 ⟨A2, c2, rfl, hc2, hO2, hB2⟩; have HO2 := Lib.hid hO2; have HB2 := Lib.hid hB2; have HE2 := ((HE.out.below (below_drew (Below.refl _ _))).below hB2); (obtain ⟨⟨x0, x1, x2⟩, y0, y1, y2⟩ := HE2); clear hO2 hB2)
    | (go_simp; (with_reducible refine (HN2.out _).mono ?_); rintro e w3 ⟨A3, c3, rfl, hc3, hO3, hB3⟩; have HO3 := Lib.hid hO3; have HB3 := Lib.hid hB3; have HO23 := Lib.hid (Kd.R_below HO2.out HB3.out); have hs3 := Nat.le_trans HB2.out.size HB3.out.size; clear hO3 hB3)
    | (refine ap_row_step (w0 := w3) w1.heap.size rfl (Operand.tmp 7) (Operand.tmp 10) rfl _ b1 b2 A3 b2.length c3 rfl rfl HO23.out HO3.out.rd (Below.refl _ _) hs3 (by omega) ?_; intro z4 A4 c4 w4 hz4 hc4 hO4 hB4 hg4; have HO4 := Lib.hid hO4; have HB4 := Lib.hid hB4; clear hO4 hB4 hg4))
  all_goals
    have HBX := Lib.hid (((below_step HB1.out (below_step (below_drew (Below.refl _ _)) (below_step HB2.out HB3.out)))).trans (HB4.out.mono (Nat.le_of_lt hz1)))
    have HEX := Lib.hid ((((HE.out.below (below_drew (Below.refl _ _))).below HB2.out).below HB3.out).block (HB4.out.block w.heap.size hz1))
    obtain ⟨⟨t0, t1, t2⟩, t3, t4, t5⟩ := HEX.out
    have hz4l : z4.length ≤ 18 := by rw [hz4.out, List.length_append]; omega
    have hs4 : w1.heap.size ≤ w4.heap.size := Nat.le_trans hs3 HB4.out.size
    have s4 := conv_str (c := c) (Kd.C_below HR.out HBX.out)
    clear hs3
    go_wp2_with fail
    refine (HN3.out _).mono ?_
    rintro e w5 ⟨A5, c5, rfl, hc5, hO5, hB5⟩
    have HO5 := Lib.hid hO5
    have HB5 := Lib.hid (below_step HBX.out hB5)
    have HO45 := Lib.hid (Kd.R_below HO4.out hB5)
    have HEY := Lib.hid (HEX.out.below hB5)
    have hs5 : w1.heap.size ≤ w5.heap.size := Nat.le_trans hs4 hB5.size
    clear hO5 hB5 s4
    go_wp2_with (at_builtin; refine ap_row (w0 := w5) w1.heap.size rfl (Operand.tmp 12) (Operand.tmp 16) rfl _ z4 b3 A5 b3.length c5 rfl rfl HO45.out HO5.out.rd (Below.refl _ _) hs5 (by omega) ?_)
    intro z6 A6 c6 w6 hz6 hc6 hO6 hB6 hg6
    have HO6 := Lib.hid hO6
    have HB6 := Lib.hid (HB5.out.trans (hB6.mono (Nat.le_of_lt hz1)))
    have HEZ := Lib.hid (HEY.out.block (hB6.block w.heap.size hz1))
    have hs6 : w1.heap.size ≤ w6.heap.size := Nat.le_trans hs5 hB6.size
    have hz6l : z6.length ≤ 27 := by rw [hz6.out, List.length_append]; omega
    have s6 := conv_str (c := c) (Kd.C_below HR.out HB6.out)
    clear hO6 hB6 hg6
    obtain ⟨⟨v0, v1, v2⟩, v3, v4, v5⟩ := HEZ.out
    go_wp2_with fail
    refine (HN4.out _).mono ?_
    rintro e w7 ⟨A7, c7, rfl, hc7, hO7, hB7⟩
    have HO7 := Lib.hid hO7
    have HB7 := Lib.hid (below_step HB6.out hB7)
    have HO67 := Lib.hid (Kd.R_below HO6.out hB7)
    have hs7 : w1.heap.size ≤ w7.heap.size := Nat.le_trans hs6 hB7.size
    clear hO7 hB7 s6
    go_wp2_with (at_builtin; refine ap_row (w0 := w7) w1.heap.size rfl (Operand.tmp 18) (Operand.tmp 22) rfl _ z6 b4 A7 b4.length c7 rfl rfl HO67.out HO7.out.rd (Below.refl _ _) hs7 (by omega) ?_)
    intro z8 A8 c8 w8 hz8 hc8 hO8 hB8 hg8
    have HO8 := Lib.hid hO8
    have HB8 := Lib.hid (HB7.out.trans (hB8.mono (Nat.le_of_lt hz1)))
    have HZ8 := Lib.hid (show z8 = body by rw [hz8.out, hz6.out, hz4.out, HLT.out])
    have hs8 : w1.heap.size ≤ w8.heap.size := Nat.le_trans hs7 hB8.size
    have hz8l : z8.length ≤ 5000 := by rw [HZ8.out]; omega
    clear hO8 hB8 hg8
    go_wp2_with fail
    refine (bytes_at A8 _ c8 2 z8 _ HO8.out.rd (by omega)).mono ?_
    rw [HZ8.out, ← HW.out]
    rintro e w9 ⟨A9, c9, rfl, hc9, hO9, hB9⟩
    have HO9 := Lib.hid hO9
    have HB9 := Lib.hid (below_step HB8.out hB9)
    clear hO9 hB9
    go_wp2
    go_ret
    exact ⟨A9, c9, rfl, hc9, HO9.out.lower HB8.out.size, HB9.out⟩
end Go.Proofs.Ytakneimkadjiiaa
