/- segment.First, and the reference's. -/
import Derived.Test.YtakneimkadjiiaaMfs
import Derived.Test.YtakneimkadjiiaaCnv
import Derived.Test.YtakneimkadjiiaaItr
import Derived.Lib.Strings
import Derived.Lib.Slices
import Derived.Lib.Walk
import Derived.Lib.Bytealg
set_option linter.unusedVariables false
set_option linter.unusedSimpArgs false
namespace Go.Proofs.Ytakneimkadjiiaa
open Go.RowKit Go.Proofs.YtakneimkadjiiaaW.PrintWords Cf
attribute [local go_sem] str_beq str_bne

set_option maxHeartbeats 1000000 in
set_option maxRecDepth 100000 in
theorem idxlite_walk (s : ByteArray) (c : Int) (w : World) :
    Calls Try.prog 56 #[.string s, .int .u8 c] w fun e w' => e = .returned (.int .i64 (Lib.indexByte s.data.toList c.toNat.toUInt8)) ∧ w' = w := by
  go_enter Try.func56, Try.ntmps56
  go_wp2
  rw [run_callFunc_extern Try.func67 (by kernel_rfl) (by kernel_rfl) (by kernel_rfl) (e := Extern.BytealgIndexByte.indexByte) (by kernel_rfl), Lib.run_indexByteString]
  simp only [Result.andThen]
  rw [Oper.upon_value]
  go_wp2
  go_ret
  exact ⟨rfl, rfl⟩
set_option maxHeartbeats 1000000 in
theorem idxbyte_walk (s : ByteArray) (c : Int) (w : World) :
    Calls Try.prog 35 #[.string s, .int .u8 c] w fun e w' => e = .returned (.int .i64 (Lib.indexByte s.data.toList c.toNat.toUInt8)) ∧ w' = w := by
  go_enter Try.func35, Try.ntmps35
  go_wp2_with (go_at_call 56; refine (idxlite_walk _ _ _).mono ?_; rintro e w' ⟨rfl, rfl⟩)
  go_ret
  exact ⟨rfl, rfl⟩
def idxI (c : UInt8) : Int := match unhex c with | some d => (d : Int) | none => -1
theorem idxhex_walk (c : UInt8) (w : World) :
    Calls Try.prog 35 #[.string ⟨#[48, 49, 50, 51, 52, 53, 54, 55, 56, 57, 97, 98, 99, 100, 101, 102]⟩, .int .u8 c.toNat] w fun e w' => e = .returned (.int .i64 (idxI c)) ∧ w' = w := by
  refine (idxbyte_walk _ _ w).mono ?_
  rintro e w' ⟨rfl, rfl⟩
  have : ((c.toNat : Int)).toNat.toUInt8 = c := by simp
  rw [this, show (ByteArray.mk #[48, 49, 50, 51, 52, 53, 54, 55, 56, 57, 97, 98, 99, 100, 101, 102]).data.toList = [48, 49, 50, 51, 52, 53, 54, 55, 56, 57, 97, 98, 99, 100, 101, 102] from rfl, idx_unhex]
  exact ⟨rfl, rfl⟩
theorem str_drop (xs : List UInt8) (k : Nat) : (str xs).extract k xs.length = str (xs.drop k) := by
  apply ByteArray.ext
  simp [str, List.take_of_length_le]
def fstOut : Option Nat → Nat × Bool
  | none => (0, false)
  | some n => (n, decide (0 < n))
theorem firstL_eq {xs : List UInt8} (h1 : xs.length = 16) (h2 : xs.getD 0 0 = 76) : firstL xs = fstOut (fstGo 0 (xs.drop 1)) := by
  unfold firstL
  rw [if_neg (by intro h; rcases h with h | h; exact h h1; exact h h2)]
  cases fstGo 0 (xs.drop 1) <;> rfl
theorem or16 (m d : Nat) (hm : m < 1152921504606846976) (hd : d < 16) : bits .or .u64 ((m : Int) * 16) (d : Int) = ((m * 16 + d : Nat) : Int) := by
  rw [show ((m : Int) * 16) = ((m * 16 : Nat) : Int) by omega]
  rw [(bits_nat .u64 64 (by decide) (fun m h0 h1 => IntWalk.u64_in m (by
    have e : (2 : Int) ^ 64 = 18446744073709551616 := by decide
    rw [e] at h1
    omega)) (m * 16) d (by omega) (by omega)).2, nat_join 4 _ _ (by omega) (by omega)]
theorem fst_bound {l : List UInt8} {m : Nat} (h : fstGo 0 l = some m) (hl : l.length ≤ 15) : m < 1152921504606846976 := by
  have h1 := fstGo_lt (n := 0) (k := 0) (by decide) h
  have h2 : (16 : Nat) ^ (0 + l.length) ≤ 16 ^ 15 := Nat.pow_le_pow_right (by decide) (by omega)
  have h3 : (16 : Nat) ^ 15 = 1152921504606846976 := by decide
  omega
theorem fst_bound14 {l : List UInt8} {m : Nat} (h : fstGo 0 l = some m) (hl : l.length ≤ 14) : m < 72057594037927936 := by
  have h1 := fstGo_lt (n := 0) (k := 0) (by decide) h
  have h2 : (16 : Nat) ^ (0 + l.length) ≤ 16 ^ 14 := Nat.pow_le_pow_right (by decide) (by omega)
  have h3 : (16 : Nat) ^ 14 = 72057594037927936 := by decide
  omega
set_option maxHeartbeats 2000000 in
set_option maxRecDepth 100000 in
theorem segfirst_walk (xs : List UInt8) (w : World) (hl : xs.length ≤ 1000000) :
    Calls Try.prog 15 #[.string (str xs)] w fun e w' => e = .returned (.tuple #[.int .u64 ((firstL xs).1 : Nat), .bool (firstL xs).2]) ∧ Below w.heap.size w w' := by
  have hsz := str_size xs
  by_cases h1 : xs.length = 16
  · have h1' : ((xs.length : Int) != 16) = false := by rw [bne_eq_false_iff_eq]; omega
    have h0 : 0 < xs.length := by omega
    have q0 : ∀ h : 0 < (str xs).size, (str xs)[0]'h = xs.getD 0 0 := fun h => by
      rw [List.getD_eq_getElem?_getD, List.getElem?_eq_getElem h0]
      rfl
    by_cases h2 : xs.getD 0 0 = 76
    · rw [h2] at q0
      have es := str_drop xs 1
      obtain ⟨c7, e7, hr7, hb7, hc7⟩ := conv_bytes (xs.drop 1) w (by rw [List.length_drop]; omega)
      have hl15 : (xs.drop 1).length = 15 := by rw [List.length_drop]; omega
      have hfl := firstL_eq h1 h2
      have HF := Lib.hid hfl
      generalize xs.drop 1 = ys at *
      have HR7 := Lib.hid hr7
      have HB7 := Lib.hid hb7
      have HL := Lib.hid hl15
      have hyl : 0 < ys.length ∧ ys.length ≤ 15 := by omega
      obtain ⟨w2, hw2⟩ : ∃ w2, Lib.bytesWorld w 5 (str ys) = w2 := ⟨_, rfl⟩
      rw [hw2] at e7
      rw [hw2] at HR7 HB7
      clear hr7 hb7 hw2 hl15 hfl h2 h1
      obtain ⟨hy0, hy15⟩ := hyl
      go_enter Try.func15, Try.ntmps15
      go_wp2_with fail
      clear q0 es e7
      go_loop [2, 19] (fun n i => ∃ k m : Nat, n = .int .u64 m ∧ i = .int .i64 k ∧ k ≤ ys.length ∧ fstGo 0 (ys.take k) = some m)
        (fun _ i => ys.length - (intOf i).toNat)
      case atStart => exact ⟨0, 0, rfl, rfl, Nat.zero_le _, rfl⟩
      case round =>
        obtain ⟨k, m, rfl, rfl, hk, hm⟩ := hrel
        by_cases hlt : k < ys.length
        · have hi : (k : Int) < (ys.length : Int) := by omega
          obtain ⟨b, off, eA, hcs⟩ := KB_cellsD HR7.out hy0
          injection eA with eA
          injection eA with eA1 eA2
          subst eA1 eA2
          have hcell := hcs k hlt
          rw [Nat.zero_add] at hcell
          have hm14 := fst_bound14 hm (by rw [List.length_take]; omega)
          have hst : fstGo 0 (ys.take (k + 1)) = (unhex (ys.getD k 0)).map fun d => m * 16 + d := by
            rw [List.take_succ_eq_append_getElem hlt, fstGo_snoc, hm]
            simp [List.getD_eq_getElem?_getD, hlt]
          have HST := Lib.hid hst
          have HM := Lib.hid hm
          have hcl := (ys.getD k 0).toNat_lt
          have HCON := Lib.hid (fun h : fstGo 0 (ys.take (k + 1)) = none => show fstGo 0 ys = none by
            have := fstGo_none h (ys.drop (k + 1))
            rwa [List.take_append_drop] at this)
          generalize ys.getD k 0 = ch at *
          clear hst hm hcs
          cases hu : unhex ch with
          | none =>
            have HI := Lib.hid (show idxI ch = -1 by unfold idxI; rw [hu])
            have HQ := Lib.hid (show firstL xs = (0, false) by rw [HF.out, HCON.out (by rw [HST.out, hu]; rfl)]; rfl)
            clear hu
            go_wp2_with fail
            refine (idxhex_walk ch _).mono ?_
            rw [HI.out]
            rintro e w3 ⟨rfl, rfl⟩
            go_wp2
            go_ret2
            rw [HQ.out]
            exact ⟨rfl, HB7.out⟩
          | some d =>
            have HI := Lib.hid (show idxI ch = (d : Int) by unfold idxI; rw [hu])
            have hd := unhex_lt hu
            have HN := Lib.hid (show fstGo 0 (ys.take (k + 1)) = some (m * 16 + d) by rw [HST.out, hu]; rfl)
            have ho := or16 m d (by omega) hd
            clear hu
            go_wp2_with fail
            refine (idxhex_walk ch _).mono ?_
            rw [HI.out]
            rintro e w3 ⟨rfl, rfl⟩
            go_wp2
            exact ⟨⟨k + 1, m * 16 + d, congrArg (Value.int .u64) (by omega), by go_num, by omega, HN.out⟩, by simp [intOf]; omega⟩
        · have hi : ¬ (k : Int) < (ys.length : Int) := by omega
          have hm0 : fstGo 0 ys = some m := by rwa [List.take_of_length_le (by omega)] at hm
          have HQ := Lib.hid (show firstL xs = (m, decide (0 < m)) by rw [HF.out, hm0]; rfl)
          clear hm hm0
          by_cases h0m : m = 0
          · subst h0m
            go_wp2
            go_ret2
            rw [HQ.out]
            exact ⟨rfl, HB7.out⟩
          · have hp : (0 : Int) < (m : Int) := by omega
            have HD := Lib.hid (show decide (0 < m) = true by simp; omega)
            go_wp2
            go_ret2
            rw [HQ.out, HD.out]
            exact ⟨rfl, HB7.out⟩
    · have hf : firstL xs = (0, false) := by unfold firstL; rw [if_pos (.inr h2)]
      have HF := Lib.hid hf
      have h2' : (((xs.getD 0 0).toNat : Int) != 76) = true := by
        rw [bne_iff_ne]
        intro e
        refine h2 (UInt8.toNat_inj.1 ?_)
        have : (76 : UInt8).toNat = 76 := rfl
        omega
      generalize xs.getD 0 0 = x0 at *
      clear hf h2 h1
      go_enter Try.func15, Try.ntmps15
      go_wp2
      go_ret2
      rw [HF.out]
      exact ⟨rfl, Below.refl _ _⟩
  · have hf : firstL xs = (0, false) := by unfold firstL; rw [if_pos (.inl h1)]
    have HF := Lib.hid hf
    have h1' : ((xs.length : Int) != 16) = true := by rw [bne_iff_ne]; omega
    clear hf h1
    go_enter Try.func15, Try.ntmps15
    go_wp2
    go_ret2
    rw [HF.out]
    exact ⟨rfl, Below.refl _ _⟩
set_option maxHeartbeats 2000000 in
set_option maxRecDepth 100000 in
theorem reffirst_walk (xs : List UInt8) (w : World) (hl : xs.length ≤ 1000000) :
    Calls Try.prog 16 #[.string (str xs)] w fun e w' => e = .returned (.tuple #[.int .u64 ((firstL xs).1 : Nat), .bool (firstL xs).2]) ∧ Below w.heap.size w w' := by
  have hsz := str_size xs
  by_cases h1 : xs.length = 16
  · have h1' : ((xs.length : Int) != 16) = false := by rw [bne_eq_false_iff_eq]; omega
    have h0 : 0 < xs.length := by omega
    have qs : ∀ k, k < xs.length → ∀ h : k < (str xs).size, (str xs)[k]'h = xs.getD k 0 := fun k hk h => by
      rw [List.getD_eq_getElem?_getD, List.getElem?_eq_getElem hk]
      rfl
    have q0 := qs 0 h0
    by_cases h2 : xs.getD 0 0 = 76
    · rw [h2] at q0
      have hfl := firstL_eq h1 h2
      have HF := Lib.hid hfl
      have hdr : ∀ k, (xs.drop 1).getD k 0 = xs.getD (k + 1) 0 := fun k => by
        rw [List.getD_eq_getElem?_getD, List.getElem?_drop, Nat.add_comm, List.getD_eq_getElem?_getD]
      have hl15 : (xs.drop 1).length = 15 := by rw [List.length_drop]; omega
      have HDR := Lib.hid hdr
      have HQS := Lib.hid qs
      have HL1 := Lib.hid h1
      generalize xs.drop 1 = ys at *
      have HL := Lib.hid hl15
      clear hfl h2 h1 hdr hl15 qs
      go_enter Try.func16, Try.ntmps16
      go_wp2_with fail
      clear q0
      go_loop [4, 5] (fun n i => ∃ k m : Nat, n = .int .u64 m ∧ i = .int .i64 ((k : Int) + 1) ∧ k ≤ 15 ∧ fstGo 0 (ys.take k) = some m)
        (fun _ i => 16 - (intOf i).toNat)
      case atStart => exact ⟨0, 0, rfl, rfl, Nat.zero_le _, rfl⟩
      case round =>
        obtain ⟨k, m, rfl, rfl, hk, hm⟩ := hrel
        by_cases hlt : k < 15
        · have hi : (k : Int) + 1 < 16 := by omega
          have hly := HL.out
          have hqk := HQS.out (k + 1) (by have := HL1.out; omega)
          have hm14 := fst_bound14 hm (by rw [List.length_take]; omega)
          have hst : fstGo 0 (ys.take (k + 1)) = (unhex (ys.getD k 0)).map fun d => m * 16 + d := by
            rw [List.take_succ_eq_append_getElem (by omega), fstGo_snoc, hm]
            simp [List.getD_eq_getElem?_getD, show k < ys.length by omega]
          rw [HDR.out k] at hst
          have HST := Lib.hid hst
          have HM := Lib.hid hm
          have hcl := (xs.getD (k + 1) 0).toNat_lt
          have HCON := Lib.hid (fun h : fstGo 0 (ys.take (k + 1)) = none => show fstGo 0 ys = none by
            have := fstGo_none h (ys.drop (k + 1))
            rwa [List.take_append_drop] at this)
          have hkl : k + 1 < xs.length := by have := HL1.out; omega
          generalize xs.getD (k + 1) 0 = ch at *
          clear hst hm hly
          by_cases c1 : 48 ≤ ch.toNat ∧ ch.toNat ≤ 57
          · have HN := Lib.hid (show fstGo 0 (ys.take (k + 1)) = some (m * 16 + (ch.toNat - 48)) by
              rw [HST.out]
              unfold unhex
              rw [if_pos c1]
              rfl)
            obtain ⟨c1a, c1b⟩ := c1
            go_wp2
            exact ⟨⟨k + 1, m * 16 + (ch.toNat - 48), congrArg (Value.int .u64) (by omega), by go_num, by omega, HN.out⟩, by simp [intOf]; omega⟩
          · by_cases c2 : 97 ≤ ch.toNat ∧ ch.toNat ≤ 102
            · have HN := Lib.hid (show fstGo 0 (ys.take (k + 1)) = some (m * 16 + (ch.toNat - 87)) by
                rw [HST.out]
                unfold unhex
                rw [if_neg c1, if_pos c2]
                rfl)
              obtain ⟨c2a, c2b⟩ := c2
              have c3 : ¬ (ch.toNat : Int) ≤ 57 := by omega
              clear c1
              go_wp2
              exact ⟨⟨k + 1, m * 16 + (ch.toNat - 87), congrArg (Value.int .u64) (by omega), congrArg (Value.int .i64) (by omega), by omega, HN.out⟩, by simp [intOf]; omega⟩
            · have HQ := Lib.hid (show firstL xs = (0, false) by
                rw [HF.out, HCON.out (by rw [HST.out]; unfold unhex; rw [if_neg c1, if_neg c2]; rfl)]
                rfl)
              rcases (show ch.toNat < 48 ∨ (57 < ch.toNat ∧ ch.toNat < 97) ∨ 102 < ch.toNat by omega) with g | ⟨g, g'⟩ | g
              · clear c1 c2
                have g1 : ¬ (48 : Int) ≤ ch.toNat := by omega
                have g2 : ¬ (97 : Int) ≤ ch.toNat := by omega
                go_wp2
                go_ret2
                rw [HQ.out]
                exact ⟨rfl, Below.refl _ _⟩
              · clear c1 c2
                have g1 : ¬ (ch.toNat : Int) ≤ 57 := by omega
                have g2 : ¬ (97 : Int) ≤ ch.toNat := by omega
                go_wp2
                go_ret2
                rw [HQ.out]
                exact ⟨rfl, Below.refl _ _⟩
              · clear c1 c2
                have g1 : ¬ (ch.toNat : Int) ≤ 57 := by omega
                have g2 : ¬ (ch.toNat : Int) ≤ 102 := by omega
                go_wp2
                go_ret2
                rw [HQ.out]
                exact ⟨rfl, Below.refl _ _⟩
        · have hi : ¬ (k : Int) + 1 < 16 := by omega
          have hm0 : fstGo 0 ys = some m := by rwa [List.take_of_length_le (by have := HL.out; omega)] at hm
          have HQ := Lib.hid (show firstL xs = (m, decide (0 < m)) by rw [HF.out, hm0]; rfl)
          clear hm hm0
          by_cases h0m : m = 0
          · subst h0m
            go_wp2
            go_ret2
            rw [HQ.out]
            exact ⟨rfl, Below.refl _ _⟩
          · have hp : (0 : Int) < (m : Int) := by omega
            have HD := Lib.hid (show decide (0 < m) = true by simp; omega)
            go_wp2
            go_ret2
            rw [HQ.out, HD.out]
            exact ⟨rfl, Below.refl _ _⟩
    · have hf : firstL xs = (0, false) := by unfold firstL; rw [if_pos (.inr h2)]
      have HF := Lib.hid hf
      have h2' : (((xs.getD 0 0).toNat : Int) != 76) = true := by
        rw [bne_iff_ne]
        intro e
        refine h2 (UInt8.toNat_inj.1 ?_)
        have : (76 : UInt8).toNat = 76 := rfl
        omega
      generalize xs.getD 0 0 = x0 at *
      clear hf h2 h1 qs
      go_enter Try.func16, Try.ntmps16
      go_wp2
      go_ret2
      rw [HF.out]
      exact ⟨rfl, Below.refl _ _⟩
  · have hf : firstL xs = (0, false) := by unfold firstL; rw [if_pos (.inl h1)]
    have HF := Lib.hid hf
    have h1' : ((xs.length : Int) != 16) = true := by rw [bne_iff_ne]; omega
    clear hf h1
    go_enter Try.func16, Try.ntmps16
    go_wp2
    go_ret2
    rw [HF.out]
    exact ⟨rfl, Below.refl _ _⟩
end Go.Proofs.Ytakneimkadjiiaa
