/- quill's Writer. -/
import Derived.Test.YtoccidpocagkjaaMwr
import Derived.Test.YtoccidpocagkjaaErs
import Derived.Test.YtoccidpocagkjaaCnv
import Derived.Test.YtoccidpocagkjaaItr
import Derived.Deep.RegionLaw
set_option linter.unusedVariables false
set_option linter.unusedSimpArgs false
namespace Go.Proofs.Ytoccidpocagkjaa
open Go.RowKit Go.Proofs.YtoccidpocagkjaaW.PrintWords Cf
attribute [local go_sem] str_beq str_bne

/-- A writer in memory. -/
def Ws (W : World) (g : Nat) (xs : List UInt8) : Prop := ∃ A c, W.cell? ⟨g, 0, none⟩ = some (.slice A xs.length c) ∧ W.frozen? ⟨g, 0, none⟩ = false ∧ xs.length ≤ c ∧ OwB W (g + 1) (.slice A xs.length c) xs
/-- What stays: below the writer all; else what is no block of bytes. -/
def WK (g : Nat) (W W' : World) : Prop := Below g W W' ∧ ∀ i, i < W.heap.size → i ≠ g → (∀ cells, W.heap[i]? ≠ some (.cells cells 5 (0, 0))) → W'.heap[i]? = W.heap[i]?
theorem WK.refl (g : Nat) (W : World) : WK g W W := ⟨Below.refl _ _, fun _ _ _ _ => rfl⟩
theorem WK.trans {g : Nat} {a b c : World} (h : WK g a b) (k : WK g b c) : WK g a c :=
  ⟨h.1.trans k.1, fun i hi hne ht => (k.2 i (Nat.lt_of_lt_of_le hi h.1.size) hne (fun cells => by rw [h.2 i hi hne ht]; exact ht cells)).trans (h.2 i hi hne ht)⟩
theorem WK.of_below {g : Nat} {a b : World} (h : Below a.heap.size a b) (hg : g ≤ a.heap.size) : WK g a b := ⟨h.mono hg, fun i hi _ _ => h.block i hi⟩
theorem WK.set {g : Nat} {a b : World} (h : WK g a b) (v : Value) : WK g a (b.setCell ⟨g, 0, none⟩ v) :=
  ⟨h.1.setCell (p := ⟨g, 0, none⟩) (Nat.le_refl _) v, fun i hi hne ht => (Below.heap_setCell b ⟨g, 0, none⟩ v i hne).trans (h.2 i hi hne ht)⟩
/-- An append to the writer's own row. -/
theorem WK.grown {g n c : Nat} {a b : World} {A : Option Addr} {xs : List UInt8} (hO : OwB a (g + 1) (.slice A n c) xs) (hs : g ≤ a.heap.size) (hg : a.grownBy b (Value.slice A n c).ownBlock) : WK g a b := by
  refine ⟨(Below.refl g a).grown hg hs (fun k e => by have := Kd.R_base hO k e; omega), fun i hi hne ht => hg.block i hi (fun e => ?_)⟩
  obtain ⟨cells, hc⟩ := Kd.R_typed hO i e.symm
  exact ht cells hc
theorem Ws.lt {W : World} {g : Nat} {xs : List UInt8} (h : Ws W g xs) : g < W.heap.size := by
  obtain ⟨A, c, h0, _⟩ := h
  exact World.block_lt_of_cell? W _ h0
theorem Ws.below {W W' : World} {g : Nat} {xs : List UInt8} (h : Ws W g xs) (hB : Below W.heap.size W W') : Ws W' g xs := by
  have hg := h.lt
  obtain ⟨A, c, h0, f0, hc, hO⟩ := h
  exact ⟨A, c, pw_cell_below hB h0, (hB.frozen (p := ⟨g, 0, none⟩) hg).trans f0, hc, Kd.R_below hO hB⟩
theorem Ws.new (W : World) (t : TypeId) : Ws (W.alloc (.cells #[.slice none 0 0] t)) W.heap.size [] := by
  have h := Bx.new W (.slice none 0 0) t
  exact ⟨none, 0, h.1, h.2, Nat.le_refl _, OwB.nil _ _⟩
theorem Ws.set {W : World} {g n c : Nat} {ys : List UInt8} {A : Option Addr} (h : W.cell? ⟨g, 0, none⟩ = some (.slice A n c)) (hf : W.frozen? ⟨g, 0, none⟩ = false) {A' : Option Addr} {c' : Nat} (hO : OwB W (g + 1) (.slice A' ys.length c') ys) (hc : ys.length ≤ c') : Ws (W.setCell ⟨g, 0, none⟩ (.slice A' ys.length c')) g ys :=
  ⟨A', c', World.cell?_setCell_same' _ _ _ (by rw [h]; rfl), by rw [World.frozen?_setCell]; exact hf, hc, hO.far (p := ⟨g, 0, none⟩) (Nat.lt_succ_self g) _⟩

theorem cell_grown {W W' : World} {g j : Nat} {v : Value} {row : Option Nat} (h : W.cell? ⟨g, j, none⟩ = some v) (hg : W.grownBy W' row) (hne : some g ≠ row) : W'.cell? ⟨g, j, none⟩ = some v :=
  (World.cell?_of_block (w := W) (a := ⟨g, j, none⟩) (hg.block g (World.block_lt_of_cell? W ⟨g, j, none⟩ h) hne)).trans h
theorem frozen_grown {W W' : World} {g j : Nat} {row : Option Nat} (hl : g < W.heap.size) (h : W.frozen? ⟨g, j, none⟩ = false) (hg : W.grownBy W' row) (hne : some g ≠ row) : W'.frozen? ⟨g, j, none⟩ = false :=
  (World.frozen?_of_block (w := W) (a := ⟨g, j, none⟩) (hg.block g hl hne)).trans h
/-- Behind an append to the writer's row, its box holds what it held. -/
theorem box_app {W W1 : World} {g n c : Nat} {A : Option Addr} {xs : List UInt8} (h0 : W.cell? ⟨g, 0, none⟩ = some (.slice A n c)) (f0 : W.frozen? ⟨g, 0, none⟩ = false) (hO : OwB W (g + 1) (.slice A n c) xs) (hg : W.grownBy W1 (Value.slice A n c).ownBlock) :
    W1.cell? ⟨g, 0, none⟩ = some (.slice A n c) ∧ W1.frozen? ⟨g, 0, none⟩ = false := by
  have hne : some g ≠ (Value.slice A n c).ownBlock := fun e => by have := Kd.R_base hO g e.symm; omega
  exact ⟨cell_grown h0 hg hne, frozen_grown (World.block_lt_of_cell? W ⟨g, 0, none⟩ h0) f0 hg hne⟩
theorem shr_u64 (n k : Nat) : ((n : Int) / (2 : Int) ^ (8 * k)) = ((n / 256 ^ k : Nat) : Int) := by
  rw [Int.natCast_ediv]
  congr 1
  rw [show (256 : Nat) = 2 ^ 8 from rfl, ← Nat.pow_mul]
  simp
set_option maxHeartbeats 2000000 in
theorem wnumber_walk (g n m : Nat) (xs : List UInt8) (W : World) (h : Ws W g xs) (hn : n < 18446744073709551616) (hm : m ≤ 128) (hl : xs.length ≤ 1000000000) :
    Calls Try.prog 58 #[.pointer (some ⟨g, 0, none⟩), .int .u64 n, .int .u8 m] W fun e W' => e = .returned (.tuple #[]) ∧ Ws W' g (xs ++ (UInt8.ofNat (m + (beB n).length) :: beB n)) ∧ WK g W W' := by
  have H := Lib.hid h
  have h8 := beB_len8 hn
  clear h
  go_enter Try.func58, Try.ntmps58
  go_wp2_with fail
  go_loop [6, 7] (fun s x => ∃ k j : Nat, s = .int .i64 k ∧ x = .int .u64 j ∧ k + (beB j).length = (beB n).length ∧ k ≤ 8 ∧ j < 18446744073709551616)
    (fun _ x => (intOf x).toNat)
  case atStart => exact ⟨0, n, rfl, rfl, by omega, by omega, hn⟩
  case round =>
    obtain ⟨k, j, rfl, rfl, hkj, hk8, hj⟩ := hrel
    by_cases hj0 : j = 0
    · subst hj0
      rw [beB_zero] at hkj
      simp only [List.length_nil, Nat.add_zero] at hkj
      obtain ⟨A, c, h0, f0, hc, hO⟩ := H.out
      have HO := Lib.hid hO
      have hg := H.out.lt
      have HL := Lib.hid hkj
      obtain ⟨z, hz⟩ : ∃ z : UInt8, ((z.toNat : Nat) : Int) = (m : Int) + (k : Int) ∧ UInt8.ofNat (m + (beB n).length) = z := ⟨UInt8.ofNat (m + k), by rw [UInt8.toNat_ofNat']; omega, by rw [hkj]⟩
      obtain ⟨hz1, hz2⟩ := hz
      have HZ := Lib.hid hz1
      have HZ2 := Lib.hid hz2
      clear hO hkj hz1 hz2
      go_wp2_with (at_builtin; refine ap_row (w0 := W) (g + 1) rfl (Operand.tmp 20) (Operand.tmp 25) rfl _ xs [z] (some ⟨W.heap.size, 0, none⟩) 1 1 rfl rfl ?c1 ?c2 ?c3 ?c4 ?c5 ?_)
      case c1 => exact Kd.R_alloc HO.out _
      case c2 => exact RdB.blk W _ (0, 0) [z] _ (by simp [HZ.out]) (by simp)
      case c3 => exact (Below.refl _ _).alloc (by omega) _
      case c4 => omega
      case c5 => omega
      intro zs A1 c1 w1 hz hc1 hO1 hB1 hg1
      have hWK1 := (WK.of_below (below_alloc (Below.refl _ W) (.cells #[.int .u8 ((m : Int) + (k : Int))] 5)) (by omega)).trans (WK.grown (g := g) (Kd.R_alloc HO.out _) (by rw [World.size_alloc]; omega) hg1)
      obtain ⟨b0, b1⟩ := box_app (Bx.alloc (show Bx W g _ from ⟨h0, f0⟩) _).1 (Bx.alloc (show Bx W g _ from ⟨h0, f0⟩) _).2 (Kd.R_alloc HO.out _) hg1
      have hS2 := Ws.set b0 b1 hO1 hc1
      have hWK2 := hWK1.set (.slice A1 zs.length c1)
      have HS2 := Lib.hid hS2
      have HK2 := Lib.hid hWK2
      have hzl : zs.length ≤ 1000000001 := by rw [hz.out]; simp; omega
      clear hO1 hB1 hg1 hWK1 hS2 hWK2 h0 f0
      go_wp2_with fail
      generalize w1.setCell ⟨g, 0, none⟩ (.slice A1 zs.length c1) = w2 at *
      go_loopw [30] (fun i wr => ∃ j : Nat, i = .int .i64 j ∧ j ≤ k ∧ Ws wr g (zs ++ (beB n).take j) ∧ WK g W wr)
        (fun i _ => k - (intOf i).toNat)
      case atStart => exact ⟨0, rfl, Nat.zero_le _, by simpa using HS2.out, HK2.out⟩
      case round =>
        obtain ⟨j, rfl, hjk, hS, hK⟩ := hrel
        have HS := Lib.hid hS
        have HK := Lib.hid hK
        clear hS hK
        by_cases hlt : j < k
        · obtain ⟨A3, c3, h3, f3, hc3, hO3⟩ := HS.out
          have HO3 := Lib.hid hO3
          obtain ⟨d, hd⟩ : ∃ d, k = j + 1 + d := ⟨k - 1 - j, by omega⟩
          obtain ⟨y, hy⟩ : ∃ y, UInt8.ofNat (n / 256 ^ d) = y := ⟨_, rfl⟩
          have hget : (beB n).getD j 0 = y := by
            rw [beB_get n j (by have := HL.out; omega), ← hy, ← HL.out, show k - 1 - j = d by omega]
          have htk := Lib.hid (show zs ++ (beB n).take (j + 1) = (zs ++ (beB n).take j) ++ [y] by
            rw [List.take_succ_eq_append_getElem (by have := HL.out; omega), ← List.append_assoc]
            congr 2
            rw [← hget]
            simp [List.getD_eq_getElem?_getD, show j < (beB n).length by have := HL.out; omega])
          have e1 : IntKind.i64.wrap ((k : Int) - 1) = (k : Int) - 1 := IntWalk.i64_in _ (by omega)
          have e2 : IntKind.i64.wrap ((k : Int) - 1 - (j : Int)) = (d : Int) := by rw [IntWalk.i64_in _ (by omega)]; omega
          have e3 : IntKind.i64.wrap (8 * (d : Int)) = 8 * (d : Int) := IntWalk.i64_in _ (by omega)
          have hsh : Op.shift .shr .u64 (n : Int) .i64 (8 * (d : Int)) = pure (.int .u64 ((n / 256 ^ d : Nat) : Int)) := by
            rw [shift_shr .u64 .i64 _ _ (by omega) (by simp [IntKind.bits]; omega), show (8 * (d : Int)).toNat = 8 * d by omega, shr_u64]
          have e5 : IntKind.u8.wrap ((n / 256 ^ d : Nat) : Int) = (y.toNat : Int) := by
            rw [← hy, UInt8.toNat_ofNat']
            simp [IntKind.wrap, IntKind.bits, IntKind.signed]
          generalize n / 256 ^ d = q at *
          clear hO3 hget hy hd
          obtain ⟨ys, hys⟩ : ∃ ys, zs ++ (beB n).take j = ys := ⟨_, rfl⟩
          rw [hys] at h3 hc3 HO3 htk
          have hysl : ys.length ≤ 2000000000 := by rw [← hys, List.length_append]; have := List.length_take_le j (beB n); omega
          clear hys
          have hgr : g < wr.heap.size := HS.out.lt
          have HOa := Lib.hid (show OwB ((wr.alloc (.cells #[.int .u8 (y.toNat : Int)] 5)).drew) (g + 1) _ ys from Kd.R_drew (Kd.R_alloc HO3.out _))
          have HRa := Lib.hid (show RdB ((wr.alloc (.cells #[.int .u8 (y.toNat : Int)] 5)).drew) (some ⟨wr.heap.size, 0, none⟩) 1 [y] from Kd.C_drew (RdB.blk wr _ (0, 0) [y] _ (by simp) (by simp)))
          have HBa := Lib.hid (show Below (g + 1) wr ((wr.alloc (.cells #[.int .u8 (y.toNat : Int)] 5)).drew) from below_drew ((Below.refl _ _).alloc (by omega) _))
          have HWa := Lib.hid (show WK g W ((wr.alloc (.cells #[.int .u8 (y.toNat : Int)] 5)).drew) from HK.out.trans (WK.of_below (below_drew (below_alloc (Below.refl _ _) _)) (by omega)))
          have hsa : g + 1 ≤ ((wr.alloc (.cells #[.int .u8 (y.toNat : Int)] 5)).drew).heap.size := by show g + 1 ≤ (wr.alloc _).heap.size; rw [World.size_alloc]; omega
          have hx := (Bx.alloc (show Bx wr g _ from ⟨h3, f3⟩) (.cells #[.int .u8 (y.toNat : Int)] 5)).below (below_drew (Below.refl _ _))
          have HX := Lib.hid hx
          clear hx
          go_wp2
          go_region_law (refine ap_row_step (w0 := wr) (g + 1) rfl (Operand.tmp 37) (Operand.tmp 46) rfl _ ys [y] (some ⟨wr.heap.size, 0, none⟩) 1 1 rfl rfl HOa.out HRa.out HBa.out hsa (by omega) ?_; intro zs5 A5 c5 w5 hz5 hc5 hO5 hB5 hg5; (have hb5 := box_app HX.out.1 HX.out.2 HOa.out hg5); (have HW5 := Lib.hid ((HWa.out.trans (WK.grown HOa.out (by omega) hg5)).set (.slice A5 zs5.length c5))); (have HS5 := Lib.hid (Ws.set hb5.1 hb5.2 hO5 hc5)); obtain ⟨m0, m1⟩ := hb5; clear hO5 hB5 hg5)
          all_goals
            go_wp2
            exact ⟨⟨j + 1, by go_num, by omega, by rw [htk.out, ← hz5.out]; exact HS5.out, HW5.out⟩, by simp [intOf]; omega⟩
        · have HF := Lib.hid (show zs ++ (beB n).take j = xs ++ (UInt8.ofNat (m + (beB n).length) :: beB n) by
            rw [HZ2.out, hz.out, List.take_of_length_le (by have := HL.out; omega)]
            simp)
          go_wp2
          go_end0
          exact ⟨rfl, by rw [← HF.out]; exact HS.out, HK.out⟩
    · have hst := beB_step hj0
      have hj1 : (0 : Int) < (j : Int) := by omega
      have HK := Lib.hid (show (k + 1) + (beB (j / 256)).length = (beB n).length by omega)
      have hk9 : k < 8 := by omega
      clear hst hkj
      go_wp2
      exact ⟨⟨k + 1, j / 256, by go_num, congrArg (Value.int .u64) (by omega), HK.out, by omega, by omega⟩, by simp [intOf]; omega⟩
theorem Ws.len {W : World} {g : Nat} {xs : List UInt8} (h : Ws W g xs) : xs.length ≤ 9223372036854775807 := by
  obtain ⟨A, c, _, _, _, hO⟩ := h
  exact Kd.C_max (OwB.reads hO).2.2
def numsB (ns : List Nat) : List UInt8 := (ns.map numB).flatten
theorem numsB_snoc (ns : List Nat) (n : Nat) : numsB (ns ++ [n]) = numsB ns ++ numB n := by simp [numsB]
theorem numsB_len (ns : List Nat) (h : ∀ n ∈ ns, n < 18446744073709551616) : (numsB ns).length ≤ 9 * ns.length := by
  induction ns with
  | nil => simp [numsB]
  | cons n ns ih =>
    have h1 := numB_len (h n (by simp))
    have h2 := ih (fun k hk => h k (by simp [hk]))
    simp only [numsB, List.map_cons, List.flatten_cons, List.length_append, List.length_cons] at h2 ⊢
    omega
set_option maxHeartbeats 2000000 in
theorem wnum_walk (g h c : Nat) (ns : List Nat) (xs : List UInt8) (W : World) (H0 : Ws W g xs) (hh : W.heap[h]? = some (.cells (ns.map fun n : Nat => Value.int .u64 (n : Int)).toArray 22 (0, 0))) (hn : ∀ n ∈ ns, n < 18446744073709551616) (hns : ns.length ≤ 1000) (hl : xs.length ≤ 900000000) :
    Calls Try.prog 30 #[.pointer (some ⟨g, 0, none⟩), .slice (some ⟨h, 0, none⟩) ns.length c] W fun e W' => e = .returned (.tuple #[]) ∧ Ws W' g (xs ++ numsB ns) ∧ WK g W W' := by
  have H := Lib.hid H0
  have hne : h ≠ g := by
    rintro rfl
    obtain ⟨A, c, h0, _⟩ := H0
    rw [blk_cell hh 0] at h0
    simp at h0
  have hty : ∀ cells, W.heap[h]? ≠ some (.cells cells 5 (0, 0)) := fun cells e => by
    rw [hh] at e
    injection e with e
    injection e with _ e
    cases e
  have hlt := blk_lt hh
  have HH := Lib.hid hh
  have HT := Lib.hid hty
  have HN := Lib.hid hn
  clear H0 hh hty hn
  go_enter Try.func30, Try.ntmps30
  go_wp2_with fail
  go_loopw [10] (fun i wr => ∃ k : Nat, i = .int .i64 k ∧ k ≤ ns.length ∧ Ws wr g (xs ++ numsB (ns.take k)) ∧ WK g W wr)
    (fun i _ => ns.length - (intOf i).toNat)
  case atStart => exact ⟨0, rfl, Nat.zero_le _, by simpa [numsB] using H.out, WK.refl _ _⟩
  case round =>
    obtain ⟨k, rfl, hk, hS, hK⟩ := hrel
    by_cases hlt2 : k < ns.length
    · have HS := Lib.hid hS
      have HK := Lib.hid hK
      have hc := blk_cell ((hK.2 h hlt hne HT.out).trans HH.out) k
      have hc2 : wr.cell? ⟨h, k, none⟩ = some (.int .u64 ((ns[k] : Nat) : Int)) := by
        rw [hc]
        simp [hlt2]
      have HE := Lib.hid (show numsB (ns.take (k + 1)) = numsB (ns.take k) ++ numB ns[k] by rw [List.take_succ_eq_append_getElem hlt2, numsB_snoc])
      have hnk := HN.out ns[k] (List.getElem_mem hlt2)
      have hlen : (numsB (ns.take k)).length ≤ 9000 := by
        have := numsB_len (ns.take k) (fun n hn => HN.out n (List.mem_of_mem_take hn))
        have h2 := List.length_take_le k ns
        omega
      have hi : (k : Int) < (ns.length : Int) := by omega
      generalize ns[k] = n at *
      clear hS hK hc
      go_wp2_with fail
      refine (wnumber_walk g n 0 (xs ++ numsB (ns.take k)) _ HS.out hnk (by decide) (by rw [List.length_append]; omega)).mono ?_
      rintro e w2 ⟨rfl, hS2, hK2⟩
      have HS2 := Lib.hid hS2
      have HK2 := Lib.hid (HK.out.trans hK2)
      clear hS2 hK2 hlen
      go_wp2
      exact ⟨⟨k + 1, by go_num, by omega, by rw [HE.out, ← List.append_assoc]; simpa [numB] using HS2.out, HK2.out⟩, by simp [intOf]; omega⟩
    · have hi : ¬ (k : Int) < (ns.length : Int) := by omega
      have HS := Lib.hid (show Ws wr g (xs ++ numsB ns) by rw [List.take_of_length_le (by omega)] at hS; exact hS)
      have HK := Lib.hid hK
      clear hS hK
      go_wp2
      go_end0
      exact ⟨rfl, HS.out, HK.out⟩
set_option maxHeartbeats 1000000 in
theorem wraw_walk (g : Nat) (A : Option Addr) (n c : Nat) (ys xs : List UInt8) (W : World) (H0 : Ws W g xs) (hR : RdB W A n ys) (hl : xs.length + n ≤ 140737488355328) :
    Calls Try.prog 59 #[.pointer (some ⟨g, 0, none⟩), .slice A n c] W fun e W' => e = .returned (.tuple #[]) ∧ Ws W' g (xs ++ ys) ∧ WK g W W' := by
  have hg := H0.lt
  obtain ⟨B, d, h0, f0, hd, hO⟩ := H0
  have HO := Lib.hid hO
  have HR := Lib.hid hR
  clear hO hR
  go_enter Try.func59, Try.ntmps59
  go_wp2_with (at_builtin; refine ap_row (w0 := W) (g + 1) rfl (Operand.tmp 10) (Operand.tmp 11) rfl _ xs ys A n c rfl rfl ?c1 ?c2 ?c3 ?c4 ?c5 ?_)
  case c1 => exact HO.out
  case c2 => exact HR.out
  case c3 => exact Below.refl _ _
  case c4 => omega
  case c5 => omega
  intro zs A1 c1 w1 hz hc1 hO1 hB1 hg1
  have hW1 := (WK.grown HO.out (by omega) hg1).set (.slice A1 zs.length c1)
  obtain ⟨b0, b1⟩ := box_app h0 f0 HO.out hg1
  have HS := Lib.hid (Ws.set b0 b1 hO1 hc1)
  have HW := Lib.hid hW1
  clear hO1 hB1 hg1 hW1 h0 f0
  go_wp2
  go_end0
  exact ⟨rfl, by rw [← hz.out]; exact HS.out, HW.out⟩
set_option maxHeartbeats 1000000 in
theorem wtext_walk (g : Nat) (s xs : List UInt8) (W : World) (H0 : Ws W g xs) (hs : s.length ≤ 100000000) (hl : xs.length ≤ 100000000) :
    Calls Try.prog 32 #[.pointer (some ⟨g, 0, none⟩), .string (str s)] W fun e W' => e = .returned (.tuple #[]) ∧ Ws W' g (xs ++ txtB s) ∧ WK g W W' := by
  have hg := H0.lt
  have H1 := Lib.hid (H0.below (below_alloc (Below.refl _ _) (.cells #[.int .u64 s.length] 22)))
  have hsz := str_size s
  have hlw : IntKind.u64.wrap (s.length : Int) = (s.length : Int) := IntWalk.u64_in _ ⟨by omega, by omega⟩
  have hn : (numB s.length).length ≤ 9 := numB_len (by omega)
  clear H0
  go_enter Try.func32, Try.ntmps32
  go_wp2_with fail
  refine (wnum_walk g W.heap.size 1 [s.length] xs _ H1.out (World.alloc_heap_new W _) (by simp; omega) (by simp) (by omega)).mono ?_
  rintro e w1 ⟨rfl, hS1, hK1⟩
  have HS1 := Lib.hid hS1
  have HK1 := Lib.hid ((WK.of_below (below_alloc (Below.refl _ W) (.cells #[.int .u64 s.length] 22)) (by omega)).trans hK1)
  have hg1 := hS1.lt
  obtain ⟨c7, e7, hr7, hb7, hc7⟩ := conv_bytes s w1 (by omega)
  have HS7 := Lib.hid (HS1.out.below hb7)
  have HR7 := Lib.hid hr7
  have HK7 := Lib.hid (HK1.out.trans (WK.of_below hb7 (by omega)))
  obtain ⟨w2, hw2⟩ : ∃ w2, Lib.bytesWorld w1 5 (str s) = w2 := ⟨_, rfl⟩
  rw [hw2] at e7
  rw [hw2] at HS7 HR7 HK7
  clear hS1 hK1 hr7 hb7 hw2 hsz
  go_wp2_with fail
  refine (wraw_walk g _ _ _ s _ _ HS7.out HR7.out (by simp [numsB]; omega)).mono ?_
  rintro e w3 ⟨rfl, hS3, hK3⟩
  have HS3 := Lib.hid hS3
  have HK3 := Lib.hid (HK7.out.trans hK3)
  clear hS3 hK3
  go_wp2
  go_end0
  exact ⟨rfl, by have h := HS3.out; simpa [numsB, txtB, List.append_assoc] using h, HK3.out⟩
set_option maxHeartbeats 1000000 in
theorem wbytes_walk (g : Nat) (xs : List UInt8) (W : World) (H0 : Ws W g xs) (hl : xs.length ≤ 140737488355328) :
    Calls Try.prog 35 #[.pointer (some ⟨g, 0, none⟩)] W fun e W' => ∃ A c, e = .returned (.slice A xs.length c) ∧ xs.length ≤ c ∧ OwB W' W.heap.size (.slice A xs.length c) xs ∧ Below W.heap.size W W' := by
  obtain ⟨B, d, h0, f0, hd, hO⟩ := H0
  have HC := Lib.hid (clone_at B xs.length d xs W hO.rd hd hl)
  clear hO
  go_enter Try.func35, Try.ntmps35
  go_wp2_with fail
  refine (HC.out).mono ?_
  rintro e w1 ⟨A1, c1, rfl, hc1, hO1, hB1⟩
  have HO1 := Lib.hid hO1
  clear hO1
  go_wp2
  go_ret
  exact ⟨A1, c1, rfl, hc1, HO1.out, hB1⟩
end Go.Proofs.Ytoccidpocagkjaa
