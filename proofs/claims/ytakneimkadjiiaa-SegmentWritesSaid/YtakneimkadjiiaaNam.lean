/- segment.Name, and the reference's. -/
import Derived.Test.YtakneimkadjiiaaMnm
import Derived.Test.YtakneimkadjiiaaCnv
import Derived.Test.YtakneimkadjiiaaItr
set_option linter.unusedVariables false
set_option linter.unusedSimpArgs false
namespace Go.Proofs.Ytakneimkadjiiaa
open Go.RowKit Go.Proofs.YtakneimkadjiiaaW.PrintWords Cf
attribute [local go_sem] str_beq str_bne

def zer16 : Array Value := #[.int .u8 0, .int .u8 0, .int .u8 0, .int .u8 0, .int .u8 0, .int .u8 0, .int .u8 0, .int .u8 0, .int .u8 0, .int .u8 0, .int .u8 0, .int .u8 0, .int .u8 0, .int .u8 0, .int .u8 0, .int .u8 0]
theorem mk16 (W : World) : (Instr.makeSlice 22 (.int .i64 16) (.int .i64 16)).run Try.prog W = .ok (.slice (some ⟨W.heap.size, 0, none⟩) 16 16) (W.alloc (.cells zer16 5)) := by
  obtain ⟨i0, hi, hzz⟩ := Option.map_eq_some_iff.1 info_u8
  simp only [Prod.mk.injEq] at hzz
  obtain ⟨hz0, hz1, hz2⟩ := hzz
  have := run_make (P := Try.prog) W 22 5 i0 (.int .u8 0) Try.underlying22 hi hz0 .i64 .i64 16 16 (by omega) (by omega) (by rw [hz2]; omega) (by omega)
  have hm : madeCells #[.int .u8 0] 16 = zer16 := by kernel_rfl
  rw [this, hz1, show (Value.int .u8 0).cells = #[.int .u8 0] from rfl, show (16 : Int).toNat * 1 = 16 from rfl, hm]
  rfl
theorem hexT (d : Nat) (h : d < 16) : (#[Value.int .u8 48, .int .u8 49, .int .u8 50, .int .u8 51, .int .u8 52, .int .u8 53, .int .u8 54, .int .u8 55, .int .u8 56, .int .u8 57, .int .u8 97, .int .u8 98, .int .u8 99, .int .u8 100, .int .u8 101, .int .u8 102] : Array Value)[d]? = some (.int .u8 ((hexD d).toNat : Nat)) := by
  have : d = 0 ∨ d = 1 ∨ d = 2 ∨ d = 3 ∨ d = 4 ∨ d = 5 ∨ d = 6 ∨ d = 7 ∨ d = 8 ∨ d = 9 ∨ d = 10 ∨ d = 11 ∨ d = 12 ∨ d = 13 ∨ d = 14 ∨ d = 15 := by omega
  rcases this with rfl | rfl | rfl | rfl | rfl | rfl | rfl | rfl | rfl | rfl | rfl | rfl | rfl | rfl | rfl | rfl <;> rfl
set_option maxHeartbeats 2000000 in
theorem segname_walk (n : Nat) (w : World) (hn : n < 18446744073709551616) :
    Calls Try.prog 17 #[.int .u64 n] w fun e w' => e = .returned (.string (str (nameL n))) ∧ Below w.heap.size w w' := by
  by_cases h1 : n < 1
  · have hnm : nameL n = [] := by unfold nameL; rw [if_pos (.inl h1)]
    have HN := Lib.hid hnm
    have hi1 : decide ((n : Int) < 1) = true := by simp; omega
    clear hnm h1
    go_enter Try.func17, Try.ntmps17
    go_wp2
    go_ret
    exact ⟨by rw [HN.out]; rfl, Below.refl _ _⟩
  by_cases h2 : 1152921504606846976 ≤ n
  · have hnm : nameL n = [] := by unfold nameL; rw [if_pos (.inr h2)]
    have HN := Lib.hid hnm
    have hi1 : decide ((n : Int) < 1) = false := by simp; omega
    have hi2 : decide (1152921504606846976 ≤ (n : Int)) = true := by simp; omega
    clear hnm h1 h2
    go_enter Try.func17, Try.ntmps17
    go_wp2
    go_ret
    exact ⟨by rw [HN.out]; rfl, Below.refl _ _⟩
  have hnm : nameL n = 76 :: hexs 15 n := by unfold nameL; rw [if_neg (by omega)]
  have HN := Lib.hid hnm
  have hi1 : decide ((n : Int) < 1) = false := by simp; omega
  have hi2 : decide (1152921504606846976 ≤ (n : Int)) = false := by simp; omega
  have hmk := mk16
  clear hnm
  go_enter Try.func17, Try.ntmps17
  go_wp2
  obtain ⟨W2, hW2⟩ : ∃ W2, (w.alloc (.cells #[Value.int .u8 48, .int .u8 49, .int .u8 50, .int .u8 51, .int .u8 52, .int .u8 53, .int .u8 54, .int .u8 55, .int .u8 56, .int .u8 57, .int .u8 97, .int .u8 98, .int .u8 99, .int .u8 100, .int .u8 101, .int .u8 102] 68)).alloc (.cells (zer16.setIfInBounds 0 (.int .u8 76)) 5) = W2 := ⟨_, rfl⟩
  have hT : ∀ d, d < 16 → W2.cell? ⟨w.heap.size, d, none⟩ = some (.int .u8 ((hexD d).toNat : Nat)) := by
    intro d hd
    rw [← hW2]
    refine pw_cell_below (below_alloc (Below.refl _ _) _) ?_
    rw [blk_cell (World.alloc_heap_new w _) d]
    exact hexT d hd
  have hO : OwB W2 (w.heap.size + 1) (.slice (some ⟨w.heap.size + 1, 0, none⟩) 16 16) (76 :: List.replicate 15 0) := by
    rw [← hW2]
    have := OwB.lit (w.alloc (.cells #[Value.int .u8 48, .int .u8 49, .int .u8 50, .int .u8 51, .int .u8 52, .int .u8 53, .int .u8 54, .int .u8 55, .int .u8 56, .int .u8 57, .int .u8 97, .int .u8 98, .int .u8 99, .int .u8 100, .int .u8 101, .int .u8 102] 68)) (w.heap.size + 1) (by rw [World.size_alloc]; exact Nat.le_refl _) (76 :: List.replicate 15 0) (zer16.setIfInBounds 0 (.int .u8 76)) rfl (by simp)
    rwa [World.size_alloc] at this
  have hB : Below w.heap.size w W2 := by
    rw [← hW2]
    exact below_step (below_alloc (Below.refl _ w) _) (below_alloc (Below.refl _ _) _)
  rw [hW2]
  clear hW2
  have HT := Lib.hid hT
  have HO := Lib.hid hO
  have HB := Lib.hid hB
  clear hT hO hB hmk
  go_loopw [0, 5] (fun f i wr => ∃ (k m : Nat) (tail : List UInt8), f = .int .u64 m ∧ i = .int .i64 k ∧ m < 18446744073709551616 ∧ k ≤ 15 ∧ hexs 15 n = hexs k m ++ tail ∧ (∀ d, d < 16 → wr.cell? ⟨w.heap.size, d, none⟩ = some (.int .u8 ((hexD d).toNat : Nat))) ∧
      OwB wr (w.heap.size + 1) (.slice (some ⟨w.heap.size + 1, 0, none⟩) 16 16) (76 :: (List.replicate k 0 ++ tail)) ∧ Below w.heap.size w wr)
    (fun _ i _ => (intOf i).toNat)
  case atStart => exact ⟨15, n, [], rfl, rfl, hn, by omega, by simp, HT.out, by simpa using HO.out, HB.out⟩
  case round =>
    obtain ⟨k, m, tail, rfl, rfl, hm, hk, hx, hT, hO, hB⟩ := hrel
    have hl := (OwB.reads hO).1
    simp only [List.length_cons, List.length_append, List.length_replicate] at hl
    by_cases hk0 : k = 0
    · subst hk0
      have HF := Lib.hid (show 76 :: (List.replicate 0 0 ++ tail) = nameL n by rw [HN.out, hx]; simp [hexs])
      have s1 := conv_str (c := 16) (show RdB wr (some ⟨w.heap.size + 1, 0, none⟩) 16 (nameL n) by rw [← HF.out]; exact hO.rd)
      have HB := Lib.hid hB
      clear hx hT hO hB hl
      go_wp2
      go_ret
      exact ⟨rfl, HB.out⟩
    · obtain ⟨j, hj⟩ : ∃ j, k = j + 1 := ⟨k - 1, by omega⟩
      have hd := hT (m % 16) (Nat.mod_lt _ (by decide))
      obtain ⟨v0, q0, q1⟩ : ∃ v0, wr.cell? ⟨w.heap.size + 1, k, none⟩ = some v0 ∧ wr.frozen? ⟨w.heap.size + 1, k, none⟩ = false := ⟨_, (hO.cell k (by simp; omega)).1, (hO.cell k (by simp; omega)).2⟩
      have HX := Lib.hid (show hexs 15 n = hexs j (m / 16) ++ (hexD (m % 16) :: tail) by rw [hx, hj, hexs]; simp)
      have hp := hO.put k (hexD (m % 16))
      rw [show (76 :: (List.replicate k 0 ++ tail)).set k (hexD (m % 16)) = 76 :: (List.replicate j 0 ++ (hexD (m % 16) :: tail)) by rw [hj]; exact rep_set _ _ _] at hp
      have HP := Lib.hid hp
      have HT := Lib.hid hT
      have HB := Lib.hid hB
      have HJ := Lib.hid hj
      have hm16 : m % 16 < 16 := Nat.mod_lt _ (by decide)
      have hk1 : 0 < k := by omega
      clear hx hT hO hB hp hk0 hj hl
      generalize hexD (m % 16) = dg at *
      go_wp2
      go_roundw
      case rel =>
        refine ⟨j, m / 16, dg :: tail, congrArg (Value.int .u64) (by omega), congrArg (Value.int .i64) (by have := HJ.out; omega), by omega, by have := HJ.out; omega, HX.out, fun d hd => ?_, HP.out, HB.out.setCell (p := ⟨w.heap.size + 1, k, none⟩) (by simp) _⟩
        rw [World.cell?_setCell_other _ _ _ _ (by simp)]
        exact HT.out d hd
      case measure => simp [intOf]; omega
set_option maxHeartbeats 2000000 in
theorem refname_walk (n : Nat) (w : World) (hn : n < 18446744073709551616) :
    Calls Try.prog 18 #[.int .u64 n] w fun e w' => e = .returned (.string (str (nameL n))) ∧ Below w.heap.size w w' := by
  by_cases h1 : n < 1
  · have hnm : nameL n = [] := by unfold nameL; rw [if_pos (.inl h1)]
    have HN := Lib.hid hnm
    have hi1 : decide ((n : Int) < 1) = true := by simp; omega
    clear hnm h1
    go_enter Try.func18, Try.ntmps18
    go_wp2
    go_ret
    exact ⟨by rw [HN.out]; rfl, Below.refl _ _⟩
  by_cases h2 : 1152921504606846976 ≤ n
  · have hnm : nameL n = [] := by unfold nameL; rw [if_pos (.inr h2)]
    have HN := Lib.hid hnm
    have hi1 : decide ((n : Int) < 1) = false := by simp; omega
    have hi2 : decide (1152921504606846976 ≤ (n : Int)) = true := by simp; omega
    clear hnm h1 h2
    go_enter Try.func18, Try.ntmps18
    go_wp2
    go_ret
    exact ⟨by rw [HN.out]; rfl, Below.refl _ _⟩
  have hnm : nameL n = 76 :: hexs 15 n := by unfold nameL; rw [if_neg (by omega)]
  have HN := Lib.hid hnm
  have hi1 : decide ((n : Int) < 1) = false := by simp; omega
  have hi2 : decide (1152921504606846976 ≤ (n : Int)) = false := by simp; omega
  have hmk := mk16
  clear hnm
  go_enter Try.func18, Try.ntmps18
  go_wp2
  obtain ⟨W2, hW2⟩ : ∃ W2, w.alloc (.cells (zer16.setIfInBounds 0 (.int .u8 76)) 5) = W2 := ⟨_, rfl⟩
  have hO : OwB W2 w.heap.size (.slice (some ⟨w.heap.size, 0, none⟩) 16 16) (76 :: List.replicate 15 0) := by
    rw [← hW2]
    exact OwB.lit w w.heap.size (Nat.le_refl _) (76 :: List.replicate 15 0) (zer16.setIfInBounds 0 (.int .u8 76)) rfl (by simp)
  have hB : Below w.heap.size w W2 := by
    rw [← hW2]
    exact below_alloc (Below.refl _ w) _
  rw [hW2]
  clear hW2
  have HO := Lib.hid hO
  have HB := Lib.hid hB
  clear hO hB hmk
  go_loopw [0, 4] (fun f i wr => ∃ (k m : Nat) (tail : List UInt8), f = .int .u64 m ∧ i = .int .i64 k ∧ m < 18446744073709551616 ∧ k ≤ 15 ∧ hexs 15 n = hexs k m ++ tail ∧
      OwB wr w.heap.size (.slice (some ⟨w.heap.size, 0, none⟩) 16 16) (76 :: (List.replicate k 0 ++ tail)) ∧ Below w.heap.size w wr)
    (fun _ i _ => (intOf i).toNat)
  case atStart => exact ⟨15, n, [], rfl, rfl, hn, by omega, by simp, by simpa using HO.out, HB.out⟩
  case round =>
    obtain ⟨k, m, tail, rfl, rfl, hm, hk, hx, hO, hB⟩ := hrel
    have hl := (OwB.reads hO).1
    simp only [List.length_cons, List.length_append, List.length_replicate] at hl
    by_cases hk0 : k = 0
    · subst hk0
      have HF := Lib.hid (show 76 :: (List.replicate 0 0 ++ tail) = nameL n by rw [HN.out, hx]; simp [hexs])
      have s1 := conv_str (c := 16) (show RdB wr (some ⟨w.heap.size, 0, none⟩) 16 (nameL n) by rw [← HF.out]; exact hO.rd)
      have HB := Lib.hid hB
      clear hx hO hB hl
      go_wp2
      go_ret
      exact ⟨rfl, HB.out⟩
    · obtain ⟨j, hj⟩ : ∃ j, k = j + 1 := ⟨k - 1, by omega⟩
      obtain ⟨v0, q0, q1⟩ : ∃ v0, wr.cell? ⟨w.heap.size, k, none⟩ = some v0 ∧ wr.frozen? ⟨w.heap.size, k, none⟩ = false := ⟨_, (hO.cell k (by simp; omega)).1, (hO.cell k (by simp; omega)).2⟩
      have HX := Lib.hid (show hexs 15 n = hexs j (m / 16) ++ (hexD (m % 16) :: tail) by rw [hx, hj, hexs]; simp)
      have hp := hO.put k (hexD (m % 16))
      rw [show (76 :: (List.replicate k 0 ++ tail)).set k (hexD (m % 16)) = 76 :: (List.replicate j 0 ++ (hexD (m % 16) :: tail)) by rw [hj]; exact rep_set _ _ _] at hp
      have HP := Lib.hid hp
      have HB := Lib.hid hB
      have HJ := Lib.hid hj
      have hm16 : m % 16 < 16 := Nat.mod_lt _ (by decide)
      have hk1 : 0 < k := by omega
      by_cases hd : m % 16 < 10
      · have hdi : decide ((m : Int) % 16 < 10) = true := by simp; omega
        have HDG := Lib.hid (show (((hexD (m % 16)).toNat : Nat) : Int) = 48 + (m : Int) % 16 by unfold hexD; rw [if_pos hd, UInt8.toNat_ofNat']; omega)
        clear hx hO hB hp hk0 hj hl hd
        generalize hexD (m % 16) = dg at *
        rw [HDG.out] at HP
        go_wp2
        go_roundw
        case rel => exact ⟨j, m / 16, dg :: tail, congrArg (Value.int .u64) (by omega), congrArg (Value.int .i64) (by have := HJ.out; omega), by omega, by have := HJ.out; omega, HX.out, HP.out, HB.out.setCell (p := ⟨w.heap.size, k, none⟩) (Nat.le_refl _) _⟩
        case measure => simp [intOf]; omega
      · have hdi : decide ((m : Int) % 16 < 10) = false := by simp; omega
        have HDG := Lib.hid (show (((hexD (m % 16)).toNat : Nat) : Int) = 97 + (m : Int) % 16 - 10 by unfold hexD; rw [if_neg hd, UInt8.toNat_ofNat']; omega)
        clear hx hO hB hp hk0 hj hl
        generalize hexD (m % 16) = dg at *
        rw [HDG.out] at HP
        go_wp2
        go_roundw
        case rel => exact ⟨j, m / 16, dg :: tail, congrArg (Value.int .u64) (by omega), congrArg (Value.int .i64) (by have := HJ.out; omega), by omega, by have := HJ.out; omega, HX.out, HP.out, HB.out.setCell (p := ⟨w.heap.size, k, none⟩) (Nat.le_refl _) _⟩
        case measure => simp [intOf]; omega
end Go.Proofs.Ytakneimkadjiiaa
