/- The reference's All: the frames as a row of structs. -/
import Derived.Test.YtjbaodmjakeohaaEnd
set_option linter.unusedVariables false
set_option linter.unusedSimpArgs false
namespace Go.Proofs.Ytjbaodmjakeohaa
open Go.RowKit Go.Proofs.YtjbaodmjakeohaaW.PrintWords Cf
attribute [local go_sem] str_beq str_bne

def KS : Kd (List UInt8) := Kd.scalar (fun xs => Value.string (str xs)) (fun _ => rfl)
/-- A frame, as the reference tells it. -/
def KF : Kd (UInt8 × List UInt8) := Kd.pair KB KS
theorem info_frame : (Try.prog.info? 57).map (fun i => (i.zero, i.size, i.bytes)) = some (some (.agg #[.int .u8 0, .string ⟨#[]⟩]), 2, 24) := by kernel_rfl
theorem KF_M (w : World) (base : Nat) (ok : Nat → Prop) (k : UInt8) (bd : List UInt8) : KF.M w base ok (k, bd) [.int .u8 (k.toNat : Int), .string (str bd)] := ⟨[_], [_], rfl, rfl, rfl⟩
theorem KF_at {w : World} {A : Option Addr} {n : Nat} {fs : List (UInt8 × List UInt8)} (h : KF.C w A n fs) (i : Nat) (hi : i < fs.length) :
    ∃ b off, A = some ⟨b, off, none⟩ ∧ w.cell? ⟨b, off + i * 2, none⟩ = some (.int .u8 ((fs[i].1.toNat : Nat) : Int)) ∧ w.cell? ⟨b, off + (i * 2 + 1), none⟩ = some (.string (str fs[i].2)) := by
  obtain ⟨⟨b, off, spot⟩, c, e, hcl, ⟨c0, c1, hc, h0, h1⟩, hat⟩ := Kd.C_get h (0, []) (i : Int) (by omega) (by have := h.1; omega)
  obtain ⟨ad, d, e', hdl, ⟨d0, d1, hd, g0, g1⟩, hbt⟩ := Kd.C_get h (0, []) 0 (by omega) (by have := h.1; omega)
  have h0 : c0 = [Value.int .u8 (((fs.getD (i : Int).toNat (0, [])).1.toNat : Nat) : Int)] := h0
  have h1 : c1 = [Value.string (str (fs.getD (i : Int).toNat (0, [])).2)] := h1
  have g0 : d0 = [Value.int .u8 (((fs.getD (0 : Int).toNat (0, [])).1.toNat : Nat) : Int)] := g0
  have g1 : d1 = [Value.string (str (fs.getD (0 : Int).toNat (0, [])).2)] := g1
  subst h0 h1 hc g0 g1 hd
  rw [e] at e'
  injection e' with e'
  subst e'
  have hg : fs.getD (i : Int).toNat (0, []) = fs[i] := by simp [List.getD_eq_getElem?_getD, hi]
  have a0 := hat 0 _ rfl
  have a1 := hat 1 _ rfl
  have b0 := hbt 0 _ rfl
  rw [hg] at a0 a1
  have hs : spot = none := by simpa [Addr.add] using World.cell?_spot b0
  subst hs
  rw [add_off] at a0 a1
  exact ⟨b, off, e, a0, a1⟩

set_option maxRecDepth 100000 in
set_option maxHeartbeats 2000000 in
theorem rall_walk (A : Option Addr) (n c : Nat) (xs : List UInt8) (w : World) (hC : RdB w A n xs) (hc : n ≤ c) (hl : n ≤ 1000000000) :
    Calls Try.prog 28 #[.slice A n c] w fun e w' => ∃ A' c', e = .returned (.tuple #[.slice A' (frs xs).length c', .int .i64 (flen (frs xs)), .int .i64 (fer xs)]) ∧ KF.R 57 w' w.heap.size (fun _ => True) (.slice A' (frs xs).length c') (frs xs) ∧ Below w.heap.size w w' := by
  obtain rfl : xs.length = n := hC.1
  have HC := Lib.hid hC
  clear hC
  go_enter Try.func28, Try.ntmps28
  go_wp2_with fail
  go_loopw [5, 6] (fun v t wr => ∃ pre a, t = .int .i64 (a : Nat) ∧ Onto xs pre a ∧ KF.R 57 wr w.heap.size (fun _ => True) v pre ∧ Below w.heap.size w wr)
    (fun _ t _ => xs.length - (intOf t).toNat)
  case atStart => exact ⟨[], 0, rfl, onto_start xs, Kd.R_nil _ _ _ _ _, Below.refl _ _⟩
  case round =>
    obtain ⟨pre, a, rfl, ho, hR, hB⟩ := hrel
    obtain ⟨A0, c0, rfl⟩ := Kd.R_slice hR
    have ha := ho.1
    have hpl : 8 * pre.length ≤ a := by have := flen_ge pre; have := ho.2.2; omega
    by_cases hlt : a < xs.length
    · obtain ⟨A4, e4, hr4, -⟩ := ct_up' A xs.length c a (by omega) (by omega) (by omega)
      rw [Int.toNat_natCast] at e4 hr4
      have HT := Lib.hid (rtake_at A4 (xs.length - a) (c - a) (xs.drop a) wr (hr4 _ _ rfl (Kd.C_below HC.out hB)) (by omega))
      have hstep := fun ht => onto_step ho hlt ht
      have hst := Lib.hid (fun ht => onto_stop ho hlt ht)
      generalize tak (xs.drop a) = tk at *
      obtain ⟨k, bd, m, en⟩ := tk
      dsimp only at HT hstep hst
      have HR := Lib.hid hR
      have hi : (a : Int) < (xs.length : Int) := by omega
      clear hr4 hR
      by_cases hen : en = 0
      · subst hen
        obtain ⟨ho2, hm, hma⟩ := hstep rfl
        have HO2 := Lib.hid ho2
        have hm8 : 8 ≤ m := by omega
        clear hstep ho2 hst hm
        go_wp2_with fail
        refine (HT.out).mono ?_
        rintro e w2 ⟨A2, c2, rfl, hc2, hR2, hA2, hB2⟩
        dsimp only at hc2 hR2 ⊢
        have s2 := conv_str (c := c2) hR2
        have HR2 := Lib.hid (Kd.R_below HR.out hB2)
        have hB3 := below_step hB hB2
        clear hR2 hA2 HT HR
        go_wp2_with (at_builtin; refine Kd.R_append KF (w0 := w) w.heap.size rfl (Operand.tmp 29) (Operand.tmp 34) 50 57 (.agg #[.int .u8 0, .string ⟨#[]⟩]) 24 rfl Try.underlying50 info_frame rfl (by decide) (by decide) _ pre (k, bd) [.int .u8 (k.toNat : Int), .string (str bd)] (fun _ => True) (fun _ => False) rfl rfl (KF_M _ _ _ _ _) (fun _ h => h.elim) (fun _ _ => trivial) HR2.out hB3 hB3.size ?c1 ?_)
        case c1 => omega
        intro v1 w5 hR5 hB5 hg5 _
        have HR5 := Lib.hid hR5
        clear hR5 hg5
        go_wp2
        go_roundw
        case rel => exact ⟨_, a + m, by go_num, HO2.out, HR5.out, hB5⟩
        case measure => simp [intOf]; omega
      · have hne : ((en : Int) != 0) = true := by simp; exact hen
        have HS := Lib.hid (hst.out hen)
        clear hst hstep
        go_wp2_with fail
        refine (HT.out).mono ?_
        rintro e w2 ⟨A2, c2, rfl, hc2, hR2, hA2, hB2⟩
        have HR2 := Lib.hid (Kd.R_below HR.out hB2)
        have hB3 := below_step hB hB2
        clear hR2 hA2 HT HR
        go_wp2
        refine bodyPost_ret (v := .tuple #[.slice A0 pre.length c0, .int .i64 a, .int .i64 en]) (by simp [results, Try.results28, go_sem]) rfl ?_
        obtain ⟨r1, r2, r3⟩ := HS.out
        rw [r2, r3, r1]
        exact ⟨A0, c0, rfl, HR2.out, hB3⟩
    · have hi : ¬ (a : Int) < (xs.length : Int) := by omega
      have HS := Lib.hid (onto_end ho (by omega))
      have HR := Lib.hid hR
      clear hR
      go_wp2
      refine bodyPost_ret (v := .tuple #[.slice A0 pre.length c0, .int .i64 a, .int .i64 0]) (by simp [results, Try.results28, go_sem]) rfl ?_
      obtain ⟨r1, r2, -, r3⟩ := HS.out
      rw [r2, r3, r1]
      exact ⟨A0, c0, rfl, HR.out, hB⟩
end Go.Proofs.Ytjbaodmjakeohaa
