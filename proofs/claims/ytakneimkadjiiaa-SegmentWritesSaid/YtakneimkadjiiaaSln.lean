/- segment.Head, Line. -/
import Derived.Test.YtakneimkadjiiaaWrt
import Derived.Test.YtakneimkadjiiaaMln
set_option linter.unusedVariables false
set_option linter.unusedSimpArgs false
namespace Go.Proofs.Ytakneimkadjiiaa
open Go.RowKit Go.Proofs.YtakneimkadjiiaaW.PrintWords Cf
attribute [local go_sem] str_beq str_bne

theorem numsB_one (a : Nat) : numsB [a] = numB a := by simp [numsB]
theorem numsB_three (a b c : Nat) : numsB [a, b, c] = numB a ++ numB b ++ numB c := by simp [numsB]
set_option maxHeartbeats 1000000 in
theorem seghed_walk (i : Nat) (w : World) (hi : i < 18446744073709551616) :
    Calls Try.prog 21 #[.int .u64 i] w fun e w' => ∃ A c, e = .returned (.slice A (hedW i).length c) ∧ (hedW i).length ≤ c ∧ OwB w' w.heap.size (.slice A (hedW i).length c) (hedW i) ∧ Below w.heap.size w w' := by
  have H1 := Lib.hid ((Ws.new w 74).below (below_alloc (Below.refl _ _) (.cells #[.int .u64 i] 24)))
  have HB1 := Lib.hid (below_step (below_alloc (Below.refl _ w) (.cells #[.slice none 0 0] 74)) (below_alloc (Below.refl _ _) (.cells #[.int .u64 i] 24)))
  have hn := numB_len hi
  have hw : hedW i = wrp 1 (numB i) := rfl
  have HW := Lib.hid hw
  generalize hedW i = z at *
  clear hw
  go_enter Try.func21, Try.ntmps21
  go_wp2_with fail
  refine (wnum_walk w.heap.size (w.heap.size + 1) 1 [i] [] _ H1.out (by have := World.alloc_heap_new (w.alloc (.cells #[.slice none 0 0] 74)) (.cells #[.int .u64 i] 24); rwa [World.size_alloc] at this) (by simpa using hi) (by simp) (by simp)).mono ?_
  rintro e w1 ⟨rfl, hS1, hK1⟩
  have HS1 := Lib.hid (show Ws w1 w.heap.size (numB i) by simpa [numsB_one] using hS1)
  have HB2 := Lib.hid (HB1.out.trans hK1.1)
  clear hS1 hK1
  go_wp2_with fail
  refine (wbytes_walk w.heap.size (numB i) _ HS1.out (by omega)).mono ?_
  rintro e w2 ⟨A2, c2, rfl, hc2, hO2, hB2⟩
  have HO2 := Lib.hid hO2
  have HB3 := Lib.hid (below_then HB2.out HB2.out.size hB2)
  clear hO2 hB2
  go_wp2_with fail
  refine (wrap_ok A2 c2 1 (numB i) _ HO2.out.rd (by decide) (by omega)).mono ?_
  rw [← HW.out]
  rintro e w3 ⟨A3, c3, rfl, hc3, hO3, hB3⟩
  have HO3 := Lib.hid hO3
  have HB4 := Lib.hid (below_then HB3.out HB3.out.size hB3)
  clear hO3 hB3
  go_wp2
  go_ret
  exact ⟨A3, c3, rfl, hc3, HO3.out.lower HB3.out.size, HB4.out⟩
set_option maxHeartbeats 2000000 in
theorem segline_bad (i : Nat) (e : Ent) (A : Option Addr) (c : Nat) (w : World) (h1 : e.term < 18446744073709551616) (h : soundB e = false) :
    Calls Try.prog 22 #[.int .u64 i, entV e A c] w fun e w' => e = .returned (.tuple #[.slice none 0 0, .int .i64 2]) ∧ Below w.heap.size w w' := by
  have HS := Lib.hid (fun w => sound_walk e A c w h1)
  have HV := Lib.hid h
  clear h
  go_enter Try.func22, Try.ntmps22
  go_wp2_with fail
  refine (HS.out _).mono ?_
  rw [HV.out]
  rintro e w1 ⟨rfl, hB1⟩
  have HB1 := Lib.hid (below_step (below_alloc (Below.refl _ w) _) hB1)
  clear hB1
  go_wp2
  go_ret2
  exact ⟨rfl, HB1.out⟩
set_option maxHeartbeats 2000000 in
theorem segline_ok (i : Nat) (e : Ent) (A : Option Addr) (c : Nat) (w : World) (hi : i < 18446744073709551616) (h : soundB e = true) (hR : RdB w A e.data.length e.data) :
    Calls Try.prog 22 #[.int .u64 i, entV e A c] w fun e' w' => ∃ A c, e' = .returned (.tuple #[.slice A (linW i e).length c, .int .i64 0]) ∧ (linW i e).length ≤ c ∧ OwB w' w.heap.size (.slice A (linW i e).length c) (linW i e) ∧ Below w.heap.size w w' := by
  obtain ⟨s1, s2, s3, s4, s5⟩ := soundB_ok h
  have HS := Lib.hid (fun w => sound_walk e A c w (by omega))
  have HV := Lib.hid h
  have HR := Lib.hid hR
  have hw : linW i e = wrp 2 (linT i e) := rfl
  have hlt := linT_len i e h hi
  have HLT := Lib.hid (show linT i e = numB i ++ numB e.term ++ numB e.kind.toNat ++ txtB e.data from rfl)
  have HW := Lib.hid hw
  have hkw : IntKind.u64.wrap e.kind = e.kind := IntWalk.u64_in _ ⟨by omega, by omega⟩
  have hkn : e.kind = ((e.kind.toNat : Nat) : Int) := by omega
  have a := numB_len hi
  have b := numB_len (show e.term < 18446744073709551616 by omega)
  have d := numB_len (show e.kind.toNat < 18446744073709551616 by omega)
  generalize linW i e = z at *
  generalize linT i e = body at *
  obtain ⟨tm, kd, dt⟩ := e
  dsimp only at *
  obtain ⟨kn, rfl⟩ : ∃ kn : Nat, kd = kn := ⟨_, hkn⟩
  simp only [Int.toNat_natCast] at HLT d
  clear h hR hw hkn
  have HE := Lib.hid (Eb.at (World.alloc_heap_new w (.cells #[.int .u64 tm, .int .i64 kn, .slice A dt.length c] 38)))
  have HR1 := Lib.hid (Kd.C_alloc HR.out (.cells #[.int .u64 tm, .int .i64 kn, .slice A dt.length c] 38))
  go_enter Try.func22, Try.ntmps22
  go_wp2_with fail
  refine (HS.out _).mono ?_
  rw [HV.out]
  rintro e w1 ⟨rfl, hB1⟩
  have HE1 := Lib.hid (HE.out.below hB1)
  have HR1 := Lib.hid (Kd.C_below HR1.out hB1)
  have HB1 := Lib.hid (below_step (below_alloc (Below.refl _ w) _) hB1)
  have hz1 : w.heap.size < w1.heap.size := HE1.out.lt
  have hE2 := (HE1.out.below (below_alloc (Below.refl _ w1) (.cells #[.slice none 0 0] 74)))
  obtain ⟨⟨a0, a1, a2⟩, f0, f1, f2⟩ := hE2
  have HW2 := Lib.hid (Ws.new w1 74)
  clear hB1
  go_wp2_with fail
  have HWS := Lib.hid (HW2.out.below (below_alloc (Below.refl _ _) (.cells #[.int .u64 i, .int .u64 tm, .int .u64 kn] 24)))
  have HBW := Lib.hid (below_step HB1.out (below_step (below_alloc (Below.refl _ w1) (.cells #[.slice none 0 0] 74)) (below_alloc (Below.refl _ _) (.cells #[.int .u64 i, .int .u64 tm, .int .u64 kn] 24))))
  have HEW := Lib.hid ((HE1.out.below (below_alloc (Below.refl _ w1) (.cells #[.slice none 0 0] 74))).below (below_alloc (Below.refl _ _) (.cells #[.int .u64 i, .int .u64 tm, .int .u64 kn] 24)))
  refine (wnum_walk w1.heap.size (w1.heap.size + 1) 3 [i, tm, kn] [] _ HWS.out (by have := World.alloc_heap_new (w1.alloc (.cells #[.slice none 0 0] 74)) (.cells #[.int .u64 i, .int .u64 tm, .int .u64 kn] 24); rwa [World.size_alloc] at this) (by simp; omega) (by simp) (by simp)).mono ?_
  rintro e w2 ⟨rfl, hS2, hK2⟩
  have HS2 := Lib.hid (show Ws w2 w1.heap.size (numB i ++ numB tm ++ numB kn) by simpa [numsB_three] using hS2)
  have HB2 := Lib.hid (HBW.out.trans (hK2.1.mono (Nat.le_of_lt hz1)))
  have HEX := Lib.hid (HEW.out.block (hK2.1.block w.heap.size hz1))
  have k2 := conv_str (c := c) (Kd.C_below HR.out HB2.out)
  clear hS2 hK2 a0 a1 a2 f0 f1 f2
  obtain ⟨⟨a0, a1, a2⟩, f0, f1, f2⟩ := HEX.out
  go_wp2_with fail
  refine (wtext_walk w1.heap.size dt (numB i ++ numB tm ++ numB kn) _ HS2.out (by omega) (by simp only [List.length_append]; omega)).mono ?_
  rintro e w3 ⟨rfl, hS3, hK3⟩
  have HS3 := Lib.hid (show Ws w3 w1.heap.size body by rw [HLT.out]; exact hS3)
  have HB3 := Lib.hid (HB2.out.trans (hK3.1.mono (Nat.le_of_lt hz1)))
  clear hS3 hK3 k2 a0 a1 a2 f0 f1 f2
  go_wp2_with fail
  refine (wbytes_walk w1.heap.size body _ HS3.out (by omega)).mono ?_
  rintro e w4 ⟨A2, c2, rfl, hc2, hO2, hB2⟩
  have HO2 := Lib.hid hO2
  have HB4 := Lib.hid (below_then HB3.out HB3.out.size hB2)
  clear hO2 hB2
  go_wp2_with fail
  refine (wrap_ok A2 c2 2 body _ HO2.out.rd (by decide) (by omega)).mono ?_
  rw [← HW.out]
  rintro e w5 ⟨A3, c3, rfl, hc3, hO3, hB3⟩
  have HO3 := Lib.hid hO3
  have HB5 := Lib.hid (below_then HB4.out HB4.out.size hB3)
  clear hO3 hB3
  go_wp2
  go_ret2
  exact ⟨A3, c3, rfl, hc3, HO3.out.lower HB4.out.size, HB5.out⟩
end Go.Proofs.Ytakneimkadjiiaa
