/- quill's Writer: numbers written out, truths; a snapshot written. -/
import Derived.Test.YtoccidpocagkjaaSwb
import Derived.Test.YtoccidpocagkjaaWrt
import Derived.Test.YtoccidpocagkjaaMwl
set_option linter.unusedVariables false
set_option linter.unusedSimpArgs false
namespace Go.Proofs.Ytoccidpocagkjaa
open Go.RowKit Go.Proofs.YtoccidpocagkjaaW.PrintWords Cf
attribute [local go_sem] str_beq str_bne

theorem numsB_app (a b : List Nat) : numsB (a ++ b) = numsB a ++ numsB b := by simp [numsB]
theorem numsB_single (a : Nat) : numsB [a] = numB a := by simp [numsB]
/-- Num of numbers that are written out. -/
theorem wnumlit (g h0 c : Nat) (ns : List Nat) (xs : List UInt8) (W : World) (cs : Array Value) (hcs : cs = (ns.map fun n : Nat => Value.int .u64 (n : Int)).toArray) (H0 : Ws W g xs) (hh : W.heap.size = h0) (hn : ∀ n ∈ ns, n < 18446744073709551616) (hns : ns.length ≤ 1000) (hl : xs.length ≤ 900000000) :
    Calls Try.prog 30 #[.pointer (some ⟨g, 0, none⟩), .slice (some ⟨h0, 0, none⟩) ns.length c] (W.alloc (.cells cs 22)) fun e W' => e = .returned (.tuple #[]) ∧ Ws W' g (xs ++ numsB ns) ∧ WK g W W' := by
  subst hcs hh
  refine (wnum_walk g W.heap.size c ns xs _ (H0.below (below_alloc (Below.refl _ _) _)) (World.alloc_heap_new W _) hn hns hl).mono ?_
  rintro e W' ⟨rfl, h1, h2⟩
  exact ⟨rfl, h1, (WK.of_below (below_alloc (Below.refl _ W) _) (Nat.le_of_lt H0.lt)).trans h2⟩
set_option maxHeartbeats 2000000 in
theorem wflag_walk (g h c : Nat) (b : Bool) (xs : List UInt8) (W : World) (H0 : Ws W g xs) (hh : W.heap[h]? = some (.cells #[.bool b] 4 (0, 0))) (hl : xs.length ≤ 100000000) :
    Calls Try.prog 31 #[.pointer (some ⟨g, 0, none⟩), .slice (some ⟨h, 0, none⟩) 1 c] W fun e W' => e = .returned (.tuple #[]) ∧ Ws W' g (xs ++ flagB b) ∧ WK g W W' := by
  have H := Lib.hid H0
  have hc := blk_cell hh 0
  simp at hc
  have HN := Lib.hid (fun (n : Nat) (hn : n < 18446744073709551616) => wnumlit g W.heap.size 1 [n] xs W #[.int .u64 n] rfl H0 rfl (by simpa using hn) (by simp) (by omega))
  clear H0 hh
  go_enter Try.func31, Try.ntmps31
  go_wp2_with fail
  go_loopw [11] (fun i wr => (i = .int .i64 0 ∧ wr = W) ∨ (i = .int .i64 1 ∧ Hid (Ws wr g (xs ++ flagB b)) ∧ Hid (WK g W wr)))
    (fun i _ => 1 - (intOf i).toNat)
  case atStart => exact .inl ⟨rfl, rfl⟩
  case round =>
    rcases hrel with ⟨rfl, rfl⟩ | ⟨rfl, HS, HK⟩
    · cases b with
      | true =>
        go_wp2_with fail
        refine (HN.out 1 (by decide)).mono ?_
        rintro e w2 ⟨rfl, hS, hK⟩
        have HS := Lib.hid (show Ws w2 g (xs ++ flagB true) by rw [numsB_single] at hS; exact hS)
        have HK := Lib.hid hK
        clear hS hK
        go_wp2
        exact ⟨.inr ⟨rfl, HS, HK⟩, by simp [intOf]⟩
      | false =>
        go_wp2_with fail
        refine (HN.out 0 (by decide)).mono ?_
        rintro e w2 ⟨rfl, hS, hK⟩
        have HS := Lib.hid (show Ws w2 g (xs ++ flagB false) by rw [numsB_single] at hS; exact hS)
        have HK := Lib.hid hK
        clear hS hK
        go_wp2
        exact ⟨.inr ⟨rfl, HS, HK⟩, by simp [intOf]⟩
    · go_wp2
      go_end0
      exact ⟨rfl, HS.out, HK.out⟩
theorem blk4f {W : World} {g : Nat} {c0 c1 c2 c3 : Value} {t : TypeId} {fr : Nat × Nat} (h : W.heap[g]? = some (.cells #[c0, c1, c2, c3] t fr)) :
    W.cell? ⟨g, 0, none⟩ = some c0 ∧ W.cell? ⟨g, 1, none⟩ = some c1 ∧ W.cell? ⟨g, 2, none⟩ = some c2 ∧ W.cell? ⟨g, 3, none⟩ = some c3 := blk4 h
theorem WK.blk {g i : Nat} {a b : World} {o : Obj} (h : WK g a b) (hi : i < g) (ha : a.heap[i]? = some o) : b.heap[i]? = some o := (h.1.block i hi).trans ha
theorem memsT_take (l : List Int) (k : Nat) (hk : k < l.length) : memsT (l.take (k + 1)) = memsT (l.take k) ++ numB l[k].toNat := by
  rw [List.take_succ_eq_append_getElem hk]
  simp only [memsT, List.map_append, List.flatten_append, List.map_cons, List.map_nil, List.flatten_cons, List.flatten_nil, List.append_nil]
theorem memsT_take_len (l : List Int) (k : Nat) (h : ∀ x ∈ l, 0 ≤ x ∧ x < 7) (h7 : l.length ≤ 7) : (memsT (l.take k)).length ≤ 63 := by
  have h1 := memsT_len (l := l.take k) (fun x hx => h x (List.mem_of_mem_take hx))
  have h2 := List.length_take_le k l
  have h3 : (l.take k).length ≤ l.length := by rw [List.length_take]; omega
  omega
set_option maxRecDepth 100000 in
set_option maxHeartbeats 4000000 in
theorem snbytes_ok (s : Sn) (A : Option Addr) (a : Nat) (B : Option Addr) (b : Nat) (w : World) (h : SR w s A a B b) (ho : snOk s) (hs : snSound s = true) :
    Calls Try.prog 33 #[snV s A a B b] w fun e w' => ∃ A c, e = .returned (.tuple #[.slice A (snB s).length c, .int .i64 0]) ∧ (snB s).length ≤ c ∧ OwB w' w.heap.size (.slice A (snB s).length c) (snB s) ∧ Below w.heap.size w w' := by
  obtain ⟨s1, s2, s3, s4, s5, s6⟩ := snSound_ok hs
  obtain ⟨m1, m2, m3⟩ := membersB_lt s5
  have hbl := snBody_len hs
  have HSS := Lib.hid (fun w' (hb : Below w.heap.size w w') => snsound_walk s A a B b w' (h.below hb) ho)
  have HBD := Lib.hid (show snBody s = numB s.index ++ numB s.term ++ numB s.members.length ++ memsT s.members ++ txtB s.data from rfl)
  have HW := Lib.hid (show snB s = wrp 4 (snBody s) from rfl)
  have hx := numB_len (show s.index < 18446744073709551616 by omega)
  have hy := numB_len (show s.term < 18446744073709551616 by omega)
  have hz := numB_len (show s.members.length < 18446744073709551616 by omega)
  rw [hs] at HSS
  generalize snB s = z at *
  generalize snBody s = body at *
  obtain ⟨i, t, ms, ds⟩ := s
  dsimp only at *
  have HM3 := Lib.hid m3
  have hB1 := below_alloc (Below.refl _ w) (.cells #[.int .u64 i, .int .u64 t, .slice A ms.length a, .slice B ds.length b] 27)
  have HB1 := Lib.hid hB1
  have HK := Lib.hid (World.alloc_heap_new w (.cells #[.int .u64 i, .int .u64 t, .slice A ms.length a, .slice B ds.length b] 27))
  have HMS := Lib.hid (fun w' (hb : Below w.heap.size w w') => Kd.C_below h.2.1 hb)
  have HDS := Lib.hid (fun w' (hb : Below w.heap.size w w') => Kd.C_below h.2.2.2 hb)
  have hml : IntKind.u64.wrap (ms.length : Int) = (ms.length : Int) := IntWalk.u64_in _ ⟨by omega, by omega⟩
  have hmx := Kd.C_max h.2.1
  clear h ho hs hB1 m3 s5
  go_enter Try.func33, Try.ntmps33
  go_wp2_with fail
  refine (HSS.out _ HB1.out).mono ?_
  rintro e w1 ⟨rfl, hb1⟩
  have HB2 := Lib.hid (below_step HB1.out hb1)
  have HK1 := Lib.hid (blk_below HK.out hb1)
  have hz1 : w.heap.size < w1.heap.size := blk_lt HK1.out
  obtain ⟨b0, b1, b2, b3⟩ := blk4 (blk_below HK1.out (below_alloc (Below.refl _ w1) (.cells #[.slice none 0 0] 61)))
  have HW2 := Lib.hid (Ws.new w1 61)
  clear hb1
  go_wp2_with fail
  refine (wnumlit w1.heap.size (w1.heap.size + 1) 3 [i, t, ms.length] [] _ #[.int .u64 (i : Int), .int .u64 (t : Int), .int .u64 (ms.length : Int)] rfl HW2.out (World.size_alloc _ _) (by simp; omega) (by simp) (by simp)).mono ?_
  rintro e w2 ⟨rfl, hS2, hK2⟩
  have HS2 := Lib.hid (show Ws w2 w1.heap.size (numB i ++ numB t ++ numB ms.length) by simpa [numsB] using hS2)
  have HWK2 := Lib.hid (show WK w1.heap.size w1 w2 from (WK.of_below (below_alloc (Below.refl _ w1) _) (Nat.le_refl _)).trans hK2)
  clear hS2 hK2 b0 b1 b2 b3
  obtain ⟨b0, b1, b2, b3⟩ := blk4 (HWK2.out.blk hz1 HK1.out)
  go_wp2_with fail
  clear b0 b1 b2 b3
  go_loopw [23] (fun x wr => ∃ k : Nat, x = .int .i64 k ∧ k ≤ ms.length ∧ Hid (Ws wr w1.heap.size (numB i ++ numB t ++ numB ms.length ++ memsT (ms.take k))) ∧ Hid (WK w1.heap.size w1 wr))
    (fun x _ => ms.length - (intOf x).toNat)
  case atStart => exact ⟨0, rfl, Nat.zero_le _, Lib.hid (by simpa [memsT] using HS2.out), HWK2⟩
  case round =>
    obtain ⟨k, rfl, hk, HS, HWK⟩ := hrel
    have HBR := Lib.hid (show Below w.heap.size w wr from HB2.out.trans (HWK.out.1.mono (Nat.le_of_lt hz1)))
    by_cases hlt : k < ms.length
    · obtain ⟨bl, off, rfl, hca⟩ := KI_cells (HMS.out _ HBR.out) (by omega)
      have q0 := hca k hlt
      have hi1 : (k : Int) < (ms.length : Int) := by omega
      have hx3 := HM3.out ms[k] (List.getElem_mem hlt)
      have HT := Lib.hid (memsT_take ms k hlt)
      have htl := memsT_take_len ms k HM3.out m1
      clear hca
      generalize ms[k] = x at *
      obtain ⟨xn, rfl⟩ : ∃ xn : Nat, x = xn := ⟨x.toNat, by omega⟩
      rw [Int.toNat_natCast] at HT
      have hxw : IntKind.u64.wrap (xn : Int) = (xn : Int) := IntWalk.u64_in _ ⟨by omega, by omega⟩
      go_wp2_with fail
      refine (wnumlit w1.heap.size wr.heap.size 1 [xn] _ _ #[.int .u64 (xn : Int)] rfl HS.out rfl (by simp; omega) (by simp) (by simp only [List.length_append]; omega)).mono ?_
      rintro e w3 ⟨rfl, hS3, hK3⟩
      have HS3 := Lib.hid (show Ws w3 w1.heap.size (numB i ++ numB t ++ numB ms.length ++ memsT (ms.take (k + 1))) by rw [HT.out, ← List.append_assoc]; rw [numsB_single] at hS3; exact hS3)
      have HWK3 := Lib.hid (HWK.out.trans hK3)
      clear hS3 hK3
      go_wp2
      go_roundw
      case rel => exact ⟨k + 1, by go_num, by omega, HS3, HWK3⟩
      case measure => simp [intOf]; omega
    · have hi1 : ¬ (k : Int) < (ms.length : Int) := by omega
      have hta : ms.take k = ms := List.take_of_length_le (by omega)
      rw [hta] at HS
      have htl := memsT_take_len ms k HM3.out m1
      rw [hta] at htl
      obtain ⟨b0, b1, b2, b3⟩ := blk4 (HWK.out.blk hz1 HK1.out)
      have k2 := conv_str (c := b) (HDS.out _ HBR.out)
      clear hta
      go_wp2_with fail
      refine (wtext_walk w1.heap.size ds _ _ HS.out (by omega) (by simp only [List.length_append]; omega)).mono ?_
      rintro e w3 ⟨rfl, hS3, hK3⟩
      have HS3 := Lib.hid (show Ws w3 w1.heap.size body by rw [HBD.out]; exact hS3)
      have HB3 := Lib.hid (HBR.out.trans (hK3.1.mono (Nat.le_of_lt hz1)))
      clear hS3 hK3 k2 b0 b1 b2 b3
      go_wp2_with fail
      refine (wbytes_walk w1.heap.size body _ HS3.out (by omega)).mono ?_
      rintro e w4 ⟨A2, c2, rfl, hc2, hO2, hB2⟩
      have HO2 := Lib.hid hO2
      have HB4 := Lib.hid (below_then HB3.out HB3.out.size hB2)
      clear hO2 hB2
      go_wp2_with fail
      refine (wrap_ok A2 c2 4 body _ HO2.out.rd (by decide) (by omega)).mono ?_
      rw [← HW.out]
      rintro e w5 ⟨A3, c3, rfl, hc3, hO3, hB3⟩
      have HO3 := Lib.hid hO3
      have HB5 := Lib.hid (below_then HB4.out HB4.out.size hB3)
      clear hO3 hB3
      go_wp2
      go_ret2
      exact ⟨A3, c3, rfl, hc3, HO3.out.lower HB4.out.size, HB5.out⟩
end Go.Proofs.Ytoccidpocagkjaa
