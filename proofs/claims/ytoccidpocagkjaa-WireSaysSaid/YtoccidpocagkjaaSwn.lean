/- wire: Bytes. -/
import Derived.Test.YtoccidpocagkjaaSwg
import Derived.Test.YtoccidpocagkjaaSwm
set_option linter.unusedVariables false
set_option linter.unusedSimpArgs false
namespace Go.Proofs.Ytoccidpocagkjaa
open Go.RowKit Go.Proofs.YtoccidpocagkjaaW.PrintWords Cf
attribute [local go_sem] str_beq str_bne

set_option maxRecDepth 100000 in
set_option maxHeartbeats 2000000 in
theorem wbytes_bad (m : Wm) (E : Option Addr) (e : Nat) (A : Option Addr) (a : Nat) (B : Option Addr) (b : Nat) (w : World) (h : MR w m E e A a B b) (ho : msgOk m) (hs : soundW m = false) :
    Calls Try.prog 13 #[msgV m E e A a B b] w fun e' w' => e' = .returned (.tuple #[.slice none 0 0, .int .i64 2]) ∧ Below w.heap.size w w' := by
  have HSS := Lib.hid (fun w' (hb : Below w.heap.size w w') => soundP_walk m E e A a B b w' (h.below hb) ho)
  rw [soundP_eq, hs] at HSS
  clear ho hs
  obtain ⟨k, f, d, t, i, lt, c, r, ok, fo, es, ⟨si, st, sm, sd⟩⟩ := m
  have hB1 := below_alloc (Below.refl _ w) (.cells #[.int .i64 k, .int .i64 f, .int .i64 d, .int .u64 t, .int .u64 i, .int .u64 lt, .int .u64 c, .int .u64 r, .bool ok, .bool fo, .slice E es.length e, .int .u64 si, .int .u64 st, .slice A sm.length a, .slice B sd.length b] 29)
  have HB1 := Lib.hid hB1
  have HK := Lib.hid (World.alloc_heap_new w (.cells #[.int .i64 k, .int .i64 f, .int .i64 d, .int .u64 t, .int .u64 i, .int .u64 lt, .int .u64 c, .int .u64 r, .bool ok, .bool fo, .slice E es.length e, .int .u64 si, .int .u64 st, .slice A sm.length a, .slice B sd.length b] 29))
  have HM := Lib.hid (h.below hB1)
  have HM0 := Lib.hid h
  clear h hB1
  clear HM HM0
  go_enter Try.func13, Try.ntmps13
  go_wp2_with fail
  refine (HSS.out _ HB1.out).mono ?_
  rintro e' w1 ⟨rfl, hb1⟩
  have HB2 := Lib.hid (below_step HB1.out hb1)
  clear hb1
  go_wp2
  go_ret2
  exact ⟨rfl, HB2.out⟩
/-- What Bytes answers of a sound message. -/
def BytesP (z : List UInt8) (w : World) (e : Ending) (w' : World) : Prop := ∃ A c, e = .returned (.tuple #[.slice A z.length c, .int .i64 0]) ∧ z.length ≤ c ∧ OwB w' w.heap.size (.slice A z.length c) z ∧ Below w.heap.size w w'
theorem Eb.wk {g i : Nat} {a b : World} {x y z : Value} (h : Eb a i x y z) (hk : WK g a b) (hne : i ≠ g) (ht : ∀ cells, a.heap[i]? ≠ some (.cells cells 5 (0, 0))) : Eb b i x y z := h.block (hk.2 i h.lt hne ht)
theorem entsT_take (l : List Ent) (k : Nat) (hk : k < l.length) : entsT (l.take (k + 1)) = entsT (l.take k) ++ (numB l[k].term ++ numB l[k].kind.toNat ++ txtB l[k].data) := by
  rw [List.take_succ_eq_append_getElem hk]
  simp only [entsT, entT, List.map_append, List.flatten_append, List.map_cons, List.map_nil, List.flatten_cons, List.flatten_nil, List.append_nil]
theorem entsT_take_len (l : List Ent) (k : Nat) (h : ∀ x ∈ l, okB x = true) (h8 : l.length ≤ 8) : (entsT (l.take k)).length ≤ 33600 := by
  have h1 := entsT_len (l := l.take k) (fun x hx => h x (List.mem_of_mem_take hx))
  have h3 : (l.take k).length ≤ l.length := by rw [List.length_take]; omega
  omega
set_option maxRecDepth 100000 in
set_option maxHeartbeats 4000000 in
theorem wbytes_1 (m : Wm) (E : Option Addr) (e : Nat) (A : Option Addr) (a : Nat) (B : Option Addr) (b : Nat) (w : World) (h : MR w m E e A a B b) (ho : msgOk m) (hs : soundW m = true) (hk : m.kind = 1) :
    Calls Try.prog 13 #[msgV m E e A a B b] w (BytesP (wireW m) w) := by
  have HSS := Lib.hid (fun w' (hb : Below w.heap.size w w') => soundP_walk m E e A a B b w' (h.below hb) ho)
  rw [soundP_eq, hs] at HSS
  obtain ⟨k1, k2, k3, -⟩ := soundW_head hs
  obtain ⟨h1, h2, h3, h4, h5, h6, h7, h8, -⟩ := soundW_ok hs
  have ht : top = 1152921504606846976 := rfl
  have hh : half = 576460752303423488 := rfl
  have hbl := bodyW_len hs
  have HW := Lib.hid (show wireW m = wrp 5 (bodyW m) from rfl)
  have HBD := Lib.hid (show bodyW m = numB m.kind.toNat ++ numB m.frm.toNat ++ numB m.dst.toNat ++ numB m.term ++ fieldsB m from rfl)
  have hfb : fieldsB m = numB m.index ++ numB m.logTerm := by simp [fieldsB, hk]
  have HFB := Lib.hid hfb
  have e1 := numB_len (show m.index < 18446744073709551616 by omega)
  have e2 := numB_len (show m.logTerm < 18446744073709551616 by omega)
  have e3 := numB_len (show m.commit < 18446744073709551616 by omega)
  have e4 := numB_len (show m.round < 18446744073709551616 by omega)
  have e5 := numB_len (show m.ents.length < 18446744073709551616 by omega)
  have e6 := numB_len (show m.term < 18446744073709551616 by omega)
  have e7 := flagB_len m.ok
  have e8 := flagB_len m.force
  clear hfb hs ho
  generalize wireW m = z at *
  generalize bodyW m = body at *
  generalize fieldsB m = fb at *
  obtain ⟨k, f, d, t, i, lt, c, r, ok, fo, es, ⟨si, st, sm, sd⟩⟩ := m
  have hB1 := below_alloc (Below.refl _ w) (.cells #[.int .i64 k, .int .i64 f, .int .i64 d, .int .u64 t, .int .u64 i, .int .u64 lt, .int .u64 c, .int .u64 r, .bool ok, .bool fo, .slice E es.length e, .int .u64 si, .int .u64 st, .slice A sm.length a, .slice B sd.length b] 29)
  have HB1 := Lib.hid hB1
  have HK := Lib.hid (World.alloc_heap_new w (.cells #[.int .i64 k, .int .i64 f, .int .i64 d, .int .u64 t, .int .u64 i, .int .u64 lt, .int .u64 c, .int .u64 r, .bool ok, .bool fo, .slice E es.length e, .int .u64 si, .int .u64 st, .slice A sm.length a, .slice B sd.length b] 29))
  have HM := Lib.hid (h.below hB1)
  have HM0 := Lib.hid h
  clear h hB1
  dsimp only at *
  clear HM HM0
  have H7 := Lib.hid h7
  clear h7 h8
  subst hk
  obtain ⟨fn, rfl⟩ : ∃ n : Nat, f = n := ⟨f.toNat, by omega⟩
  obtain ⟨dn, rfl⟩ : ∃ n : Nat, d = n := ⟨d.toNat, by omega⟩
  have fw : IntKind.u64.wrap (fn : Int) = (fn : Int) := IntWalk.u64_in _ ⟨by omega, by omega⟩
  have dw : IntKind.u64.wrap (dn : Int) = (dn : Int) := IntWalk.u64_in _ ⟨by omega, by omega⟩
  have ew : IntKind.u64.wrap (es.length : Int) = (es.length : Int) := IntWalk.u64_in _ ⟨by omega, by omega⟩
  have e9 := numB_len (show fn < 18446744073709551616 by omega)
  have f1 := numB_len (show dn < 18446744073709551616 by omega)
  have f2 := numB_len (show 1 < 18446744073709551616 by omega)
  simp only [Int.toNat_natCast, show ((1 : Int)).toNat = 1 from rfl] at HBD
  have HTT := Lib.hid ht
  have HHH := Lib.hid hh
  clear ht hh
  go_enter Try.func13, Try.ntmps13
  go_wp2_with fail
  refine (HSS.out _ HB1.out).mono ?_
  rintro e' w1 ⟨rfl, hb1⟩
  have HB2 := Lib.hid (below_step HB1.out hb1)
  have HK1 := Lib.hid (blk_below HK.out hb1)
  have hz1 : w.heap.size < w1.heap.size := blk_lt HK1.out
  obtain ⟨b0, b1, b2, b3, b4, b5, b6, b7, b8, b9, b10, b11, b12, b13, b14⟩ := blk15 (blk_below HK1.out (below_alloc (Below.refl _ w1) (.cells #[.slice none 0 0] 61)))
  have HW2 := Lib.hid (Ws.new w1 61)
  clear hb1
  go_wp2_with fail
  refine (wnumlit w1.heap.size (w1.heap.size + 1) 4 [1, fn, dn, t] [] _ #[.int .u64 1, .int .u64 (fn : Int), .int .u64 (dn : Int), .int .u64 (t : Int)] rfl HW2.out (World.size_alloc _ _) (by have z1 := HTT.out; have z2 := HHH.out; simp; omega) (by simp) (by simp)).mono ?_
  rintro e' w2 ⟨rfl, hS, hK⟩
  have HS := Lib.hid (show Ws w2 w1.heap.size (numB 1 ++ numB fn ++ numB dn ++ numB t) by simpa [numsB] using hS)
  have HWK := Lib.hid (show WK w1.heap.size w1 w2 from (WK.of_below (below_alloc (Below.refl _ w1) _) (Nat.le_refl _)).trans hK)
  clear hS hK b0 b1 b2 b3 b4 b5 b6 b7 b8 b9 b10 b11 b12 b13 b14
  obtain ⟨b0, b1, b2, b3, b4, b5, b6, b7, b8, b9, b10, b11, b12, b13, b14⟩ := blk15 (HWK.out.blk hz1 HK1.out)
  go_wp2_with fail
  refine (wnumlit w1.heap.size w2.heap.size 2 [i, lt] _ _ #[.int .u64 (i : Int), .int .u64 (lt : Int)] rfl HS.out rfl (by have z1 := HTT.out; have z2 := HHH.out; simp; omega) (by simp) (by simp only [List.length_append]; omega)).mono ?_
  rintro e' w3 ⟨rfl, hS, hK⟩
  have HS := Lib.hid (show Ws w3 w1.heap.size (numB 1 ++ numB fn ++ numB dn ++ numB t ++ (numB i ++ (numB lt))) by simpa [numsB] using hS)
  have HWK := Lib.hid (HWK.out.trans hK)
  clear hS hK b0 b1 b2 b3 b4 b5 b6 b7 b8 b9 b10 b11 b12 b13 b14
  obtain ⟨b0, b1, b2, b3, b4, b5, b6, b7, b8, b9, b10, b11, b12, b13, b14⟩ := blk15 (HWK.out.blk hz1 HK1.out)
  have HB4 := Lib.hid (show Below w.heap.size w w3 from HB2.out.trans (HWK.out.1.mono (Nat.le_of_lt hz1)))
  have HS := Lib.hid (show Ws w3 w1.heap.size body by rw [HBD.out, HFB.out]; have h := HS.out; simpa only [List.append_assoc, List.append_nil] using h)
  go_wp2_with fail
  refine (wbytes_walk w1.heap.size body _ HS.out (by omega)).mono ?_
  rintro e' wb ⟨A2, c2, rfl, hc2, hO2, hBb⟩
  have HO2 := Lib.hid hO2
  have HB5 := Lib.hid (below_then HB4.out HB4.out.size hBb)
  clear hO2 hBb
  go_wp2_with fail
  refine (wrap_ok A2 c2 5 body _ HO2.out.rd (by decide) (by omega)).mono ?_
  rw [← HW.out]
  rintro e' wc ⟨A3, c3, rfl, hc3, hO3, hBc⟩
  have HO3 := Lib.hid hO3
  have HB6 := Lib.hid (below_then HB5.out HB5.out.size hBc)
  clear hO3 hBc
  go_wp2
  go_ret2
  exact ⟨A3, c3, rfl, hc3, HO3.out.lower HB5.out.size, HB6.out⟩
set_option maxRecDepth 100000 in
set_option maxHeartbeats 4000000 in
theorem wbytes_2 (m : Wm) (E : Option Addr) (e : Nat) (A : Option Addr) (a : Nat) (B : Option Addr) (b : Nat) (w : World) (h : MR w m E e A a B b) (ho : msgOk m) (hs : soundW m = true) (hk : m.kind = 2) :
    Calls Try.prog 13 #[msgV m E e A a B b] w (BytesP (wireW m) w) := by
  have HSS := Lib.hid (fun w' (hb : Below w.heap.size w w') => soundP_walk m E e A a B b w' (h.below hb) ho)
  rw [soundP_eq, hs] at HSS
  obtain ⟨k1, k2, k3, -⟩ := soundW_head hs
  obtain ⟨h1, h2, h3, h4, h5, h6, h7, h8, -⟩ := soundW_ok hs
  have ht : top = 1152921504606846976 := rfl
  have hh : half = 576460752303423488 := rfl
  have hbl := bodyW_len hs
  have HW := Lib.hid (show wireW m = wrp 5 (bodyW m) from rfl)
  have HBD := Lib.hid (show bodyW m = numB m.kind.toNat ++ numB m.frm.toNat ++ numB m.dst.toNat ++ numB m.term ++ fieldsB m from rfl)
  have hfb : fieldsB m = flagB m.ok := by simp [fieldsB, hk]
  have HFB := Lib.hid hfb
  have e1 := numB_len (show m.index < 18446744073709551616 by omega)
  have e2 := numB_len (show m.logTerm < 18446744073709551616 by omega)
  have e3 := numB_len (show m.commit < 18446744073709551616 by omega)
  have e4 := numB_len (show m.round < 18446744073709551616 by omega)
  have e5 := numB_len (show m.ents.length < 18446744073709551616 by omega)
  have e6 := numB_len (show m.term < 18446744073709551616 by omega)
  have e7 := flagB_len m.ok
  have e8 := flagB_len m.force
  clear hfb hs ho
  generalize wireW m = z at *
  generalize bodyW m = body at *
  generalize fieldsB m = fb at *
  obtain ⟨k, f, d, t, i, lt, c, r, ok, fo, es, ⟨si, st, sm, sd⟩⟩ := m
  have hB1 := below_alloc (Below.refl _ w) (.cells #[.int .i64 k, .int .i64 f, .int .i64 d, .int .u64 t, .int .u64 i, .int .u64 lt, .int .u64 c, .int .u64 r, .bool ok, .bool fo, .slice E es.length e, .int .u64 si, .int .u64 st, .slice A sm.length a, .slice B sd.length b] 29)
  have HB1 := Lib.hid hB1
  have HK := Lib.hid (World.alloc_heap_new w (.cells #[.int .i64 k, .int .i64 f, .int .i64 d, .int .u64 t, .int .u64 i, .int .u64 lt, .int .u64 c, .int .u64 r, .bool ok, .bool fo, .slice E es.length e, .int .u64 si, .int .u64 st, .slice A sm.length a, .slice B sd.length b] 29))
  have HM := Lib.hid (h.below hB1)
  have HM0 := Lib.hid h
  clear h hB1
  dsimp only at *
  clear HM HM0
  have H7 := Lib.hid h7
  clear h7 h8
  subst hk
  obtain ⟨fn, rfl⟩ : ∃ n : Nat, f = n := ⟨f.toNat, by omega⟩
  obtain ⟨dn, rfl⟩ : ∃ n : Nat, d = n := ⟨d.toNat, by omega⟩
  have fw : IntKind.u64.wrap (fn : Int) = (fn : Int) := IntWalk.u64_in _ ⟨by omega, by omega⟩
  have dw : IntKind.u64.wrap (dn : Int) = (dn : Int) := IntWalk.u64_in _ ⟨by omega, by omega⟩
  have ew : IntKind.u64.wrap (es.length : Int) = (es.length : Int) := IntWalk.u64_in _ ⟨by omega, by omega⟩
  have e9 := numB_len (show fn < 18446744073709551616 by omega)
  have f1 := numB_len (show dn < 18446744073709551616 by omega)
  have f2 := numB_len (show 2 < 18446744073709551616 by omega)
  simp only [Int.toNat_natCast, show ((2 : Int)).toNat = 2 from rfl] at HBD
  have HTT := Lib.hid ht
  have HHH := Lib.hid hh
  clear ht hh
  go_enter Try.func13, Try.ntmps13
  go_wp2_with fail
  refine (HSS.out _ HB1.out).mono ?_
  rintro e' w1 ⟨rfl, hb1⟩
  have HB2 := Lib.hid (below_step HB1.out hb1)
  have HK1 := Lib.hid (blk_below HK.out hb1)
  have hz1 : w.heap.size < w1.heap.size := blk_lt HK1.out
  obtain ⟨b0, b1, b2, b3, b4, b5, b6, b7, b8, b9, b10, b11, b12, b13, b14⟩ := blk15 (blk_below HK1.out (below_alloc (Below.refl _ w1) (.cells #[.slice none 0 0] 61)))
  have HW2 := Lib.hid (Ws.new w1 61)
  clear hb1
  go_wp2_with fail
  refine (wnumlit w1.heap.size (w1.heap.size + 1) 4 [2, fn, dn, t] [] _ #[.int .u64 2, .int .u64 (fn : Int), .int .u64 (dn : Int), .int .u64 (t : Int)] rfl HW2.out (World.size_alloc _ _) (by have z1 := HTT.out; have z2 := HHH.out; simp; omega) (by simp) (by simp)).mono ?_
  rintro e' w2 ⟨rfl, hS, hK⟩
  have HS := Lib.hid (show Ws w2 w1.heap.size (numB 2 ++ numB fn ++ numB dn ++ numB t) by simpa [numsB] using hS)
  have HWK := Lib.hid (show WK w1.heap.size w1 w2 from (WK.of_below (below_alloc (Below.refl _ w1) _) (Nat.le_refl _)).trans hK)
  clear hS hK b0 b1 b2 b3 b4 b5 b6 b7 b8 b9 b10 b11 b12 b13 b14
  obtain ⟨b0, b1, b2, b3, b4, b5, b6, b7, b8, b9, b10, b11, b12, b13, b14⟩ := blk15 (HWK.out.blk hz1 HK1.out)
  go_wp2_with fail
  refine (wflag_walk w1.heap.size w2.heap.size 1 ok _ _ (HS.out.below (below_alloc (Below.refl _ _) _)) (World.alloc_heap_new w2 _) (by simp only [List.length_append]; omega)).mono ?_
  rintro e' w3 ⟨rfl, hS, hK⟩
  have HS := Lib.hid hS
  have HWK := Lib.hid (HWK.out.trans ((WK.of_below (below_alloc (Below.refl _ w2) _) HWK.out.1.size).trans hK))
  clear hS hK b0 b1 b2 b3 b4 b5 b6 b7 b8 b9 b10 b11 b12 b13 b14
  obtain ⟨b0, b1, b2, b3, b4, b5, b6, b7, b8, b9, b10, b11, b12, b13, b14⟩ := blk15 (HWK.out.blk hz1 HK1.out)
  have HB4 := Lib.hid (show Below w.heap.size w w3 from HB2.out.trans (HWK.out.1.mono (Nat.le_of_lt hz1)))
  have HS := Lib.hid (show Ws w3 w1.heap.size body by rw [HBD.out, HFB.out]; have h := HS.out; simpa only [List.append_assoc, List.append_nil] using h)
  go_wp2_with fail
  refine (wbytes_walk w1.heap.size body _ HS.out (by omega)).mono ?_
  rintro e' wb ⟨A2, c2, rfl, hc2, hO2, hBb⟩
  have HO2 := Lib.hid hO2
  have HB5 := Lib.hid (below_then HB4.out HB4.out.size hBb)
  clear hO2 hBb
  go_wp2_with fail
  refine (wrap_ok A2 c2 5 body _ HO2.out.rd (by decide) (by omega)).mono ?_
  rw [← HW.out]
  rintro e' wc ⟨A3, c3, rfl, hc3, hO3, hBc⟩
  have HO3 := Lib.hid hO3
  have HB6 := Lib.hid (below_then HB5.out HB5.out.size hBc)
  clear hO3 hBc
  go_wp2
  go_ret2
  exact ⟨A3, c3, rfl, hc3, HO3.out.lower HB5.out.size, HB6.out⟩
set_option maxRecDepth 100000 in
set_option maxHeartbeats 4000000 in
theorem wbytes_3 (m : Wm) (E : Option Addr) (e : Nat) (A : Option Addr) (a : Nat) (B : Option Addr) (b : Nat) (w : World) (h : MR w m E e A a B b) (ho : msgOk m) (hs : soundW m = true) (hk : m.kind = 3) :
    Calls Try.prog 13 #[msgV m E e A a B b] w (BytesP (wireW m) w) := by
  have HSS := Lib.hid (fun w' (hb : Below w.heap.size w w') => soundP_walk m E e A a B b w' (h.below hb) ho)
  rw [soundP_eq, hs] at HSS
  obtain ⟨k1, k2, k3, -⟩ := soundW_head hs
  obtain ⟨h1, h2, h3, h4, h5, h6, h7, h8, -⟩ := soundW_ok hs
  have ht : top = 1152921504606846976 := rfl
  have hh : half = 576460752303423488 := rfl
  have hbl := bodyW_len hs
  have HW := Lib.hid (show wireW m = wrp 5 (bodyW m) from rfl)
  have HBD := Lib.hid (show bodyW m = numB m.kind.toNat ++ numB m.frm.toNat ++ numB m.dst.toNat ++ numB m.term ++ fieldsB m from rfl)
  have hfb : fieldsB m = numB m.index ++ (numB m.logTerm ++ flagB m.force) := by simp [fieldsB, hk]
  have HFB := Lib.hid hfb
  have e1 := numB_len (show m.index < 18446744073709551616 by omega)
  have e2 := numB_len (show m.logTerm < 18446744073709551616 by omega)
  have e3 := numB_len (show m.commit < 18446744073709551616 by omega)
  have e4 := numB_len (show m.round < 18446744073709551616 by omega)
  have e5 := numB_len (show m.ents.length < 18446744073709551616 by omega)
  have e6 := numB_len (show m.term < 18446744073709551616 by omega)
  have e7 := flagB_len m.ok
  have e8 := flagB_len m.force
  clear hfb hs ho
  generalize wireW m = z at *
  generalize bodyW m = body at *
  generalize fieldsB m = fb at *
  obtain ⟨k, f, d, t, i, lt, c, r, ok, fo, es, ⟨si, st, sm, sd⟩⟩ := m
  have hB1 := below_alloc (Below.refl _ w) (.cells #[.int .i64 k, .int .i64 f, .int .i64 d, .int .u64 t, .int .u64 i, .int .u64 lt, .int .u64 c, .int .u64 r, .bool ok, .bool fo, .slice E es.length e, .int .u64 si, .int .u64 st, .slice A sm.length a, .slice B sd.length b] 29)
  have HB1 := Lib.hid hB1
  have HK := Lib.hid (World.alloc_heap_new w (.cells #[.int .i64 k, .int .i64 f, .int .i64 d, .int .u64 t, .int .u64 i, .int .u64 lt, .int .u64 c, .int .u64 r, .bool ok, .bool fo, .slice E es.length e, .int .u64 si, .int .u64 st, .slice A sm.length a, .slice B sd.length b] 29))
  have HM := Lib.hid (h.below hB1)
  have HM0 := Lib.hid h
  clear h hB1
  dsimp only at *
  clear HM HM0
  have H7 := Lib.hid h7
  clear h7 h8
  subst hk
  obtain ⟨fn, rfl⟩ : ∃ n : Nat, f = n := ⟨f.toNat, by omega⟩
  obtain ⟨dn, rfl⟩ : ∃ n : Nat, d = n := ⟨d.toNat, by omega⟩
  have fw : IntKind.u64.wrap (fn : Int) = (fn : Int) := IntWalk.u64_in _ ⟨by omega, by omega⟩
  have dw : IntKind.u64.wrap (dn : Int) = (dn : Int) := IntWalk.u64_in _ ⟨by omega, by omega⟩
  have ew : IntKind.u64.wrap (es.length : Int) = (es.length : Int) := IntWalk.u64_in _ ⟨by omega, by omega⟩
  have e9 := numB_len (show fn < 18446744073709551616 by omega)
  have f1 := numB_len (show dn < 18446744073709551616 by omega)
  have f2 := numB_len (show 3 < 18446744073709551616 by omega)
  simp only [Int.toNat_natCast, show ((3 : Int)).toNat = 3 from rfl] at HBD
  have HTT := Lib.hid ht
  have HHH := Lib.hid hh
  clear ht hh
  go_enter Try.func13, Try.ntmps13
  go_wp2_with fail
  refine (HSS.out _ HB1.out).mono ?_
  rintro e' w1 ⟨rfl, hb1⟩
  have HB2 := Lib.hid (below_step HB1.out hb1)
  have HK1 := Lib.hid (blk_below HK.out hb1)
  have hz1 : w.heap.size < w1.heap.size := blk_lt HK1.out
  obtain ⟨b0, b1, b2, b3, b4, b5, b6, b7, b8, b9, b10, b11, b12, b13, b14⟩ := blk15 (blk_below HK1.out (below_alloc (Below.refl _ w1) (.cells #[.slice none 0 0] 61)))
  have HW2 := Lib.hid (Ws.new w1 61)
  clear hb1
  go_wp2_with fail
  refine (wnumlit w1.heap.size (w1.heap.size + 1) 4 [3, fn, dn, t] [] _ #[.int .u64 3, .int .u64 (fn : Int), .int .u64 (dn : Int), .int .u64 (t : Int)] rfl HW2.out (World.size_alloc _ _) (by have z1 := HTT.out; have z2 := HHH.out; simp; omega) (by simp) (by simp)).mono ?_
  rintro e' w2 ⟨rfl, hS, hK⟩
  have HS := Lib.hid (show Ws w2 w1.heap.size (numB 3 ++ numB fn ++ numB dn ++ numB t) by simpa [numsB] using hS)
  have HWK := Lib.hid (show WK w1.heap.size w1 w2 from (WK.of_below (below_alloc (Below.refl _ w1) _) (Nat.le_refl _)).trans hK)
  clear hS hK b0 b1 b2 b3 b4 b5 b6 b7 b8 b9 b10 b11 b12 b13 b14
  obtain ⟨b0, b1, b2, b3, b4, b5, b6, b7, b8, b9, b10, b11, b12, b13, b14⟩ := blk15 (HWK.out.blk hz1 HK1.out)
  go_wp2_with fail
  refine (wnumlit w1.heap.size w2.heap.size 2 [i, lt] _ _ #[.int .u64 (i : Int), .int .u64 (lt : Int)] rfl HS.out rfl (by have z1 := HTT.out; have z2 := HHH.out; simp; omega) (by simp) (by simp only [List.length_append]; omega)).mono ?_
  rintro e' w3 ⟨rfl, hS, hK⟩
  have HS := Lib.hid (show Ws w3 w1.heap.size (numB 3 ++ numB fn ++ numB dn ++ numB t ++ (numB i ++ (numB lt))) by simpa [numsB] using hS)
  have HWK := Lib.hid (HWK.out.trans hK)
  clear hS hK b0 b1 b2 b3 b4 b5 b6 b7 b8 b9 b10 b11 b12 b13 b14
  obtain ⟨b0, b1, b2, b3, b4, b5, b6, b7, b8, b9, b10, b11, b12, b13, b14⟩ := blk15 (HWK.out.blk hz1 HK1.out)
  go_wp2_with fail
  refine (wflag_walk w1.heap.size w3.heap.size 1 fo _ _ (HS.out.below (below_alloc (Below.refl _ _) _)) (World.alloc_heap_new w3 _) (by simp only [List.length_append]; omega)).mono ?_
  rintro e' w4 ⟨rfl, hS, hK⟩
  have HS := Lib.hid hS
  have HWK := Lib.hid (HWK.out.trans ((WK.of_below (below_alloc (Below.refl _ w3) _) HWK.out.1.size).trans hK))
  clear hS hK b0 b1 b2 b3 b4 b5 b6 b7 b8 b9 b10 b11 b12 b13 b14
  obtain ⟨b0, b1, b2, b3, b4, b5, b6, b7, b8, b9, b10, b11, b12, b13, b14⟩ := blk15 (HWK.out.blk hz1 HK1.out)
  have HB4 := Lib.hid (show Below w.heap.size w w4 from HB2.out.trans (HWK.out.1.mono (Nat.le_of_lt hz1)))
  have HS := Lib.hid (show Ws w4 w1.heap.size body by rw [HBD.out, HFB.out]; have h := HS.out; simpa only [List.append_assoc, List.append_nil] using h)
  go_wp2_with fail
  refine (wbytes_walk w1.heap.size body _ HS.out (by omega)).mono ?_
  rintro e' wb ⟨A2, c2, rfl, hc2, hO2, hBb⟩
  have HO2 := Lib.hid hO2
  have HB5 := Lib.hid (below_then HB4.out HB4.out.size hBb)
  clear hO2 hBb
  go_wp2_with fail
  refine (wrap_ok A2 c2 5 body _ HO2.out.rd (by decide) (by omega)).mono ?_
  rw [← HW.out]
  rintro e' wc ⟨A3, c3, rfl, hc3, hO3, hBc⟩
  have HO3 := Lib.hid hO3
  have HB6 := Lib.hid (below_then HB5.out HB5.out.size hBc)
  clear hO3 hBc
  go_wp2
  go_ret2
  exact ⟨A3, c3, rfl, hc3, HO3.out.lower HB5.out.size, HB6.out⟩
set_option maxRecDepth 100000 in
set_option maxHeartbeats 4000000 in
theorem wbytes_4 (m : Wm) (E : Option Addr) (e : Nat) (A : Option Addr) (a : Nat) (B : Option Addr) (b : Nat) (w : World) (h : MR w m E e A a B b) (ho : msgOk m) (hs : soundW m = true) (hk : m.kind = 4) :
    Calls Try.prog 13 #[msgV m E e A a B b] w (BytesP (wireW m) w) := by
  have HSS := Lib.hid (fun w' (hb : Below w.heap.size w w') => soundP_walk m E e A a B b w' (h.below hb) ho)
  rw [soundP_eq, hs] at HSS
  obtain ⟨k1, k2, k3, -⟩ := soundW_head hs
  obtain ⟨h1, h2, h3, h4, h5, h6, h7, h8, -⟩ := soundW_ok hs
  have ht : top = 1152921504606846976 := rfl
  have hh : half = 576460752303423488 := rfl
  have hbl := bodyW_len hs
  have HW := Lib.hid (show wireW m = wrp 5 (bodyW m) from rfl)
  have HBD := Lib.hid (show bodyW m = numB m.kind.toNat ++ numB m.frm.toNat ++ numB m.dst.toNat ++ numB m.term ++ fieldsB m from rfl)
  have hfb : fieldsB m = flagB m.ok := by simp [fieldsB, hk]
  have HFB := Lib.hid hfb
  have e1 := numB_len (show m.index < 18446744073709551616 by omega)
  have e2 := numB_len (show m.logTerm < 18446744073709551616 by omega)
  have e3 := numB_len (show m.commit < 18446744073709551616 by omega)
  have e4 := numB_len (show m.round < 18446744073709551616 by omega)
  have e5 := numB_len (show m.ents.length < 18446744073709551616 by omega)
  have e6 := numB_len (show m.term < 18446744073709551616 by omega)
  have e7 := flagB_len m.ok
  have e8 := flagB_len m.force
  clear hfb hs ho
  generalize wireW m = z at *
  generalize bodyW m = body at *
  generalize fieldsB m = fb at *
  obtain ⟨k, f, d, t, i, lt, c, r, ok, fo, es, ⟨si, st, sm, sd⟩⟩ := m
  have hB1 := below_alloc (Below.refl _ w) (.cells #[.int .i64 k, .int .i64 f, .int .i64 d, .int .u64 t, .int .u64 i, .int .u64 lt, .int .u64 c, .int .u64 r, .bool ok, .bool fo, .slice E es.length e, .int .u64 si, .int .u64 st, .slice A sm.length a, .slice B sd.length b] 29)
  have HB1 := Lib.hid hB1
  have HK := Lib.hid (World.alloc_heap_new w (.cells #[.int .i64 k, .int .i64 f, .int .i64 d, .int .u64 t, .int .u64 i, .int .u64 lt, .int .u64 c, .int .u64 r, .bool ok, .bool fo, .slice E es.length e, .int .u64 si, .int .u64 st, .slice A sm.length a, .slice B sd.length b] 29))
  have HM := Lib.hid (h.below hB1)
  have HM0 := Lib.hid h
  clear h hB1
  dsimp only at *
  clear HM HM0
  have H7 := Lib.hid h7
  clear h7 h8
  subst hk
  obtain ⟨fn, rfl⟩ : ∃ n : Nat, f = n := ⟨f.toNat, by omega⟩
  obtain ⟨dn, rfl⟩ : ∃ n : Nat, d = n := ⟨d.toNat, by omega⟩
  have fw : IntKind.u64.wrap (fn : Int) = (fn : Int) := IntWalk.u64_in _ ⟨by omega, by omega⟩
  have dw : IntKind.u64.wrap (dn : Int) = (dn : Int) := IntWalk.u64_in _ ⟨by omega, by omega⟩
  have ew : IntKind.u64.wrap (es.length : Int) = (es.length : Int) := IntWalk.u64_in _ ⟨by omega, by omega⟩
  have e9 := numB_len (show fn < 18446744073709551616 by omega)
  have f1 := numB_len (show dn < 18446744073709551616 by omega)
  have f2 := numB_len (show 4 < 18446744073709551616 by omega)
  simp only [Int.toNat_natCast, show ((4 : Int)).toNat = 4 from rfl] at HBD
  have HTT := Lib.hid ht
  have HHH := Lib.hid hh
  clear ht hh
  go_enter Try.func13, Try.ntmps13
  go_wp2_with fail
  refine (HSS.out _ HB1.out).mono ?_
  rintro e' w1 ⟨rfl, hb1⟩
  have HB2 := Lib.hid (below_step HB1.out hb1)
  have HK1 := Lib.hid (blk_below HK.out hb1)
  have hz1 : w.heap.size < w1.heap.size := blk_lt HK1.out
  obtain ⟨b0, b1, b2, b3, b4, b5, b6, b7, b8, b9, b10, b11, b12, b13, b14⟩ := blk15 (blk_below HK1.out (below_alloc (Below.refl _ w1) (.cells #[.slice none 0 0] 61)))
  have HW2 := Lib.hid (Ws.new w1 61)
  clear hb1
  go_wp2_with fail
  refine (wnumlit w1.heap.size (w1.heap.size + 1) 4 [4, fn, dn, t] [] _ #[.int .u64 4, .int .u64 (fn : Int), .int .u64 (dn : Int), .int .u64 (t : Int)] rfl HW2.out (World.size_alloc _ _) (by have z1 := HTT.out; have z2 := HHH.out; simp; omega) (by simp) (by simp)).mono ?_
  rintro e' w2 ⟨rfl, hS, hK⟩
  have HS := Lib.hid (show Ws w2 w1.heap.size (numB 4 ++ numB fn ++ numB dn ++ numB t) by simpa [numsB] using hS)
  have HWK := Lib.hid (show WK w1.heap.size w1 w2 from (WK.of_below (below_alloc (Below.refl _ w1) _) (Nat.le_refl _)).trans hK)
  clear hS hK b0 b1 b2 b3 b4 b5 b6 b7 b8 b9 b10 b11 b12 b13 b14
  obtain ⟨b0, b1, b2, b3, b4, b5, b6, b7, b8, b9, b10, b11, b12, b13, b14⟩ := blk15 (HWK.out.blk hz1 HK1.out)
  go_wp2_with fail
  refine (wflag_walk w1.heap.size w2.heap.size 1 ok _ _ (HS.out.below (below_alloc (Below.refl _ _) _)) (World.alloc_heap_new w2 _) (by simp only [List.length_append]; omega)).mono ?_
  rintro e' w3 ⟨rfl, hS, hK⟩
  have HS := Lib.hid hS
  have HWK := Lib.hid (HWK.out.trans ((WK.of_below (below_alloc (Below.refl _ w2) _) HWK.out.1.size).trans hK))
  clear hS hK b0 b1 b2 b3 b4 b5 b6 b7 b8 b9 b10 b11 b12 b13 b14
  obtain ⟨b0, b1, b2, b3, b4, b5, b6, b7, b8, b9, b10, b11, b12, b13, b14⟩ := blk15 (HWK.out.blk hz1 HK1.out)
  have HB4 := Lib.hid (show Below w.heap.size w w3 from HB2.out.trans (HWK.out.1.mono (Nat.le_of_lt hz1)))
  have HS := Lib.hid (show Ws w3 w1.heap.size body by rw [HBD.out, HFB.out]; have h := HS.out; simpa only [List.append_assoc, List.append_nil] using h)
  go_wp2_with fail
  refine (wbytes_walk w1.heap.size body _ HS.out (by omega)).mono ?_
  rintro e' wb ⟨A2, c2, rfl, hc2, hO2, hBb⟩
  have HO2 := Lib.hid hO2
  have HB5 := Lib.hid (below_then HB4.out HB4.out.size hBb)
  clear hO2 hBb
  go_wp2_with fail
  refine (wrap_ok A2 c2 5 body _ HO2.out.rd (by decide) (by omega)).mono ?_
  rw [← HW.out]
  rintro e' wc ⟨A3, c3, rfl, hc3, hO3, hBc⟩
  have HO3 := Lib.hid hO3
  have HB6 := Lib.hid (below_then HB5.out HB5.out.size hBc)
  clear hO3 hBc
  go_wp2
  go_ret2
  exact ⟨A3, c3, rfl, hc3, HO3.out.lower HB5.out.size, HB6.out⟩
set_option maxRecDepth 100000 in
set_option maxHeartbeats 4000000 in
theorem wbytes_5 (m : Wm) (E : Option Addr) (e : Nat) (A : Option Addr) (a : Nat) (B : Option Addr) (b : Nat) (w : World) (h : MR w m E e A a B b) (ho : msgOk m) (hs : soundW m = true) (hk : m.kind = 5) :
    Calls Try.prog 13 #[msgV m E e A a B b] w (BytesP (wireW m) w) := by
  have HSS := Lib.hid (fun w' (hb : Below w.heap.size w w') => soundP_walk m E e A a B b w' (h.below hb) ho)
  rw [soundP_eq, hs] at HSS
  obtain ⟨k1, k2, k3, -⟩ := soundW_head hs
  obtain ⟨h1, h2, h3, h4, h5, h6, h7, h8, -⟩ := soundW_ok hs
  have ht : top = 1152921504606846976 := rfl
  have hh : half = 576460752303423488 := rfl
  have hbl := bodyW_len hs
  have HW := Lib.hid (show wireW m = wrp 5 (bodyW m) from rfl)
  have HBD := Lib.hid (show bodyW m = numB m.kind.toNat ++ numB m.frm.toNat ++ numB m.dst.toNat ++ numB m.term ++ fieldsB m from rfl)
  have hfb : fieldsB m = numB m.index ++ (numB m.logTerm ++ (numB m.commit ++ (numB m.round ++ (numB m.ents.length ++ entsT m.ents)))) := by simp [fieldsB, hk]
  have HFB := Lib.hid hfb
  have HKE := Lib.hid (fun w' (hb : Below w.heap.size w w') => Kd.C_below h.2.1 hb)
  have hmx := Kd.C_max h.2.1
  have e1 := numB_len (show m.index < 18446744073709551616 by omega)
  have e2 := numB_len (show m.logTerm < 18446744073709551616 by omega)
  have e3 := numB_len (show m.commit < 18446744073709551616 by omega)
  have e4 := numB_len (show m.round < 18446744073709551616 by omega)
  have e5 := numB_len (show m.ents.length < 18446744073709551616 by omega)
  have e6 := numB_len (show m.term < 18446744073709551616 by omega)
  have e7 := flagB_len m.ok
  have e8 := flagB_len m.force
  clear hfb hs ho
  generalize wireW m = z at *
  generalize bodyW m = body at *
  generalize fieldsB m = fb at *
  obtain ⟨k, f, d, t, i, lt, c, r, ok, fo, es, ⟨si, st, sm, sd⟩⟩ := m
  have hB1 := below_alloc (Below.refl _ w) (.cells #[.int .i64 k, .int .i64 f, .int .i64 d, .int .u64 t, .int .u64 i, .int .u64 lt, .int .u64 c, .int .u64 r, .bool ok, .bool fo, .slice E es.length e, .int .u64 si, .int .u64 st, .slice A sm.length a, .slice B sd.length b] 29)
  have HB1 := Lib.hid hB1
  have HK := Lib.hid (World.alloc_heap_new w (.cells #[.int .i64 k, .int .i64 f, .int .i64 d, .int .u64 t, .int .u64 i, .int .u64 lt, .int .u64 c, .int .u64 r, .bool ok, .bool fo, .slice E es.length e, .int .u64 si, .int .u64 st, .slice A sm.length a, .slice B sd.length b] 29))
  have HM := Lib.hid (h.below hB1)
  have HM0 := Lib.hid h
  clear h hB1
  dsimp only at *
  clear HM HM0
  have H7 := Lib.hid h7
  clear h7 h8
  subst hk
  obtain ⟨fn, rfl⟩ : ∃ n : Nat, f = n := ⟨f.toNat, by omega⟩
  obtain ⟨dn, rfl⟩ : ∃ n : Nat, d = n := ⟨d.toNat, by omega⟩
  have fw : IntKind.u64.wrap (fn : Int) = (fn : Int) := IntWalk.u64_in _ ⟨by omega, by omega⟩
  have dw : IntKind.u64.wrap (dn : Int) = (dn : Int) := IntWalk.u64_in _ ⟨by omega, by omega⟩
  have ew : IntKind.u64.wrap (es.length : Int) = (es.length : Int) := IntWalk.u64_in _ ⟨by omega, by omega⟩
  have e9 := numB_len (show fn < 18446744073709551616 by omega)
  have f1 := numB_len (show dn < 18446744073709551616 by omega)
  have f2 := numB_len (show 5 < 18446744073709551616 by omega)
  simp only [Int.toNat_natCast, show ((5 : Int)).toNat = 5 from rfl] at HBD
  have HTT := Lib.hid ht
  have HHH := Lib.hid hh
  clear ht hh
  go_enter Try.func13, Try.ntmps13
  go_wp2_with fail
  refine (HSS.out _ HB1.out).mono ?_
  rintro e' w1 ⟨rfl, hb1⟩
  have HB2 := Lib.hid (below_step HB1.out hb1)
  have HK1 := Lib.hid (blk_below HK.out hb1)
  have hz1 : w.heap.size < w1.heap.size := blk_lt HK1.out
  obtain ⟨b0, b1, b2, b3, b4, b5, b6, b7, b8, b9, b10, b11, b12, b13, b14⟩ := blk15 (blk_below HK1.out (below_alloc (Below.refl _ w1) (.cells #[.slice none 0 0] 61)))
  have HW2 := Lib.hid (Ws.new w1 61)
  clear hb1
  go_wp2_with fail
  refine (wnumlit w1.heap.size (w1.heap.size + 1) 4 [5, fn, dn, t] [] _ #[.int .u64 5, .int .u64 (fn : Int), .int .u64 (dn : Int), .int .u64 (t : Int)] rfl HW2.out (World.size_alloc _ _) (by have z1 := HTT.out; have z2 := HHH.out; simp; omega) (by simp) (by simp)).mono ?_
  rintro e' w2 ⟨rfl, hS, hK⟩
  have HS := Lib.hid (show Ws w2 w1.heap.size (numB 5 ++ numB fn ++ numB dn ++ numB t) by simpa [numsB] using hS)
  have HWK := Lib.hid (show WK w1.heap.size w1 w2 from (WK.of_below (below_alloc (Below.refl _ w1) _) (Nat.le_refl _)).trans hK)
  clear hS hK b0 b1 b2 b3 b4 b5 b6 b7 b8 b9 b10 b11 b12 b13 b14
  obtain ⟨b0, b1, b2, b3, b4, b5, b6, b7, b8, b9, b10, b11, b12, b13, b14⟩ := blk15 (HWK.out.blk hz1 HK1.out)
  go_wp2_with fail
  refine (wnumlit w1.heap.size w2.heap.size 5 [i, lt, c, r, es.length] _ _ #[.int .u64 (i : Int), .int .u64 (lt : Int), .int .u64 (c : Int), .int .u64 (r : Int), .int .u64 (es.length : Int)] rfl HS.out rfl (by have z1 := HTT.out; have z2 := HHH.out; simp; omega) (by simp) (by simp only [List.length_append]; omega)).mono ?_
  rintro e' w3 ⟨rfl, hS, hK⟩
  have HS := Lib.hid (show Ws w3 w1.heap.size (numB 5 ++ numB fn ++ numB dn ++ numB t ++ (numB i ++ (numB lt ++ (numB c ++ (numB r ++ (numB es.length)))))) by simpa [numsB] using hS)
  have HWK := Lib.hid (HWK.out.trans hK)
  clear hS hK b0 b1 b2 b3 b4 b5 b6 b7 b8 b9 b10 b11 b12 b13 b14
  obtain ⟨b0, b1, b2, b3, b4, b5, b6, b7, b8, b9, b10, b11, b12, b13, b14⟩ := blk15 (HWK.out.blk hz1 HK1.out)
  go_wp2_with fail
  clear b0 b1 b2 b3 b4 b5 b6 b7 b8 b9 b10 b11 b12 b13 b14
  go_loopw [73] (fun x wr => ∃ j : Nat, x = .int .i64 j ∧ j ≤ es.length ∧ Hid (Ws wr w1.heap.size (numB 5 ++ numB fn ++ numB dn ++ numB t ++ (numB i ++ (numB lt ++ (numB c ++ (numB r ++ (numB es.length))))) ++ entsT (es.take j))) ∧ Hid (WK w1.heap.size w1 wr))
    (fun x _ => es.length - (intOf x).toNat)
  case atStart => exact ⟨0, rfl, Nat.zero_le _, Lib.hid (by simpa [entsT] using HS.out), HWK⟩
  case round =>
    obtain ⟨j, rfl, hj, HSj, HWKj⟩ := hrel
    have HBR := Lib.hid (show Below w.heap.size w wr from HB2.out.trans (HWKj.out.1.mono (Nat.le_of_lt hz1)))
    by_cases hlt : j < es.length
    · obtain ⟨bl, off, D, cd, rfl, p0, p1, p2, p3, p4⟩ := KE_at (HKE.out _ (Below.refl _ _)) j hlt
      have p0 := pw_cell_below HBR.out p0
      have p1 := pw_cell_below HBR.out p1
      have p2 := pw_cell_below HBR.out p2
      have hi1 : (j : Int) < (es.length : Int) := by omega
      obtain ⟨q1, q2, q3, q4, q5⟩ := okB_sound (H7.out es[j] (List.getElem_mem hlt))
      have HT := Lib.hid (entsT_take es j hlt)
      have htl := entsT_take_len es j H7.out h6
      have P4 := Lib.hid p4
      clear p4
      generalize es[j] = x at *
      obtain ⟨xt, xk, xd⟩ := x
      dsimp only at *
      obtain ⟨xk, rfl⟩ : ∃ n : Nat, xk = n := ⟨xk.toNat, by omega⟩
      rw [Int.toNat_natCast] at HT
      have xw : IntKind.u64.wrap (xk : Int) = (xk : Int) := IntWalk.u64_in _ ⟨by omega, by omega⟩
      have g1 := numB_len (show xt < 18446744073709551616 by omega)
      have g2 := numB_len (show xk < 18446744073709551616 by omega)
      have HEb := Lib.hid (World.alloc_heap_new wr (.cells #[.int .u64 xt, .int .i64 xk, .slice D xd.length cd] 50))
      have HSa := Lib.hid (HSj.out.below (below_alloc (Below.refl _ _) (.cells #[.int .u64 xt, .int .i64 xk, .slice D xd.length cd] 50)))
      have hgw := HSj.out.lt
      go_wp2_with fail
      refine (wnumlit w1.heap.size (wr.heap.size + 1) 2 [xt, xk] _ _ #[.int .u64 (xt : Int), .int .u64 (xk : Int)] rfl HSa.out (World.size_alloc _ _) (by have z1 := HTT.out; have z2 := HHH.out; simp; omega) (by simp) (by simp only [List.length_append]; omega)).mono ?_
      rintro e' w5 ⟨rfl, hS, hK⟩
      have HS5 := Lib.hid (show Ws w5 w1.heap.size (numB 5 ++ numB fn ++ numB dn ++ numB t ++ (numB i ++ (numB lt ++ (numB c ++ (numB r ++ (numB es.length))))) ++ entsT (es.take j) ++ (numB xt ++ numB xk)) by simpa [numsB] using hS)
      have HE5 := Lib.hid ((Eb.at HEb.out).wk hK (Nat.ne_of_gt hgw) (fun cells e2 => by rw [HEb.out] at e2; injection e2 with e2; injection e2 with _ e2; cases e2))
      have HWK5 := Lib.hid (HWKj.out.trans ((WK.of_below (below_alloc (Below.refl _ wr) _) HWKj.out.1.size).trans hK))
      have HB5 := Lib.hid (show Below w.heap.size w w5 from HB2.out.trans (HWK5.out.1.mono (Nat.le_of_lt hz1)))
      have ks := conv_str (c := cd) (Kd.C_below P4.out HB5.out)
      clear hS hK p0 p1 p2
      obtain ⟨⟨a0, a1, a2⟩, -, -, -⟩ := HE5.out
      go_wp2_with fail
      refine (wtext_walk w1.heap.size xd _ _ HS5.out (by omega) (by simp only [List.length_append]; omega)).mono ?_
      rintro e' w6 ⟨rfl, hS, hK⟩
      have HS6 := Lib.hid (show Ws w6 w1.heap.size (numB 5 ++ numB fn ++ numB dn ++ numB t ++ (numB i ++ (numB lt ++ (numB c ++ (numB r ++ (numB es.length))))) ++ entsT (es.take (j + 1))) by rw [HT.out]; have h := hS; simpa only [List.append_assoc] using h)
      have HWK6 := Lib.hid (HWK5.out.trans hK)
      clear hS hK ks a0 a1 a2
      go_wp2
      go_roundw
      case rel => exact ⟨j + 1, by go_num, by omega, HS6, HWK6⟩
      case measure => simp [intOf]; omega
    · have hi1 : ¬ (j : Int) < (es.length : Int) := by omega
      have hta : es.take j = es := List.take_of_length_le (by omega)
      rw [hta] at HSj
      clear hta
      have HB4 := Lib.hid HBR.out
      have HS := Lib.hid (show Ws wr w1.heap.size body by rw [HBD.out, HFB.out]; have h := HSj.out; simpa only [List.append_assoc, List.append_nil] using h)
      go_wp2_with fail
      refine (wbytes_walk w1.heap.size body _ HS.out (by omega)).mono ?_
      rintro e' wb ⟨A2, c2, rfl, hc2, hO2, hBb⟩
      have HO2 := Lib.hid hO2
      have HB5 := Lib.hid (below_then HB4.out HB4.out.size hBb)
      clear hO2 hBb
      go_wp2_with fail
      refine (wrap_ok A2 c2 5 body _ HO2.out.rd (by decide) (by omega)).mono ?_
      rw [← HW.out]
      rintro e' wc ⟨A3, c3, rfl, hc3, hO3, hBc⟩
      have HO3 := Lib.hid hO3
      have HB6 := Lib.hid (below_then HB5.out HB5.out.size hBc)
      clear hO3 hBc
      go_wp2
      go_ret2
      exact ⟨A3, c3, rfl, hc3, HO3.out.lower HB5.out.size, HB6.out⟩
set_option maxRecDepth 100000 in
set_option maxHeartbeats 4000000 in
theorem wbytes_6 (m : Wm) (E : Option Addr) (e : Nat) (A : Option Addr) (a : Nat) (B : Option Addr) (b : Nat) (w : World) (h : MR w m E e A a B b) (ho : msgOk m) (hs : soundW m = true) (hk : m.kind = 6) :
    Calls Try.prog 13 #[msgV m E e A a B b] w (BytesP (wireW m) w) := by
  have HSS := Lib.hid (fun w' (hb : Below w.heap.size w w') => soundP_walk m E e A a B b w' (h.below hb) ho)
  rw [soundP_eq, hs] at HSS
  obtain ⟨k1, k2, k3, -⟩ := soundW_head hs
  obtain ⟨h1, h2, h3, h4, h5, h6, h7, h8, -⟩ := soundW_ok hs
  have ht : top = 1152921504606846976 := rfl
  have hh : half = 576460752303423488 := rfl
  have hbl := bodyW_len hs
  have HW := Lib.hid (show wireW m = wrp 5 (bodyW m) from rfl)
  have HBD := Lib.hid (show bodyW m = numB m.kind.toNat ++ numB m.frm.toNat ++ numB m.dst.toNat ++ numB m.term ++ fieldsB m from rfl)
  have hfb : fieldsB m = flagB m.ok ++ (numB m.index ++ numB m.round) := by simp [fieldsB, hk]
  have HFB := Lib.hid hfb
  have e1 := numB_len (show m.index < 18446744073709551616 by omega)
  have e2 := numB_len (show m.logTerm < 18446744073709551616 by omega)
  have e3 := numB_len (show m.commit < 18446744073709551616 by omega)
  have e4 := numB_len (show m.round < 18446744073709551616 by omega)
  have e5 := numB_len (show m.ents.length < 18446744073709551616 by omega)
  have e6 := numB_len (show m.term < 18446744073709551616 by omega)
  have e7 := flagB_len m.ok
  have e8 := flagB_len m.force
  clear hfb hs ho
  generalize wireW m = z at *
  generalize bodyW m = body at *
  generalize fieldsB m = fb at *
  obtain ⟨k, f, d, t, i, lt, c, r, ok, fo, es, ⟨si, st, sm, sd⟩⟩ := m
  have hB1 := below_alloc (Below.refl _ w) (.cells #[.int .i64 k, .int .i64 f, .int .i64 d, .int .u64 t, .int .u64 i, .int .u64 lt, .int .u64 c, .int .u64 r, .bool ok, .bool fo, .slice E es.length e, .int .u64 si, .int .u64 st, .slice A sm.length a, .slice B sd.length b] 29)
  have HB1 := Lib.hid hB1
  have HK := Lib.hid (World.alloc_heap_new w (.cells #[.int .i64 k, .int .i64 f, .int .i64 d, .int .u64 t, .int .u64 i, .int .u64 lt, .int .u64 c, .int .u64 r, .bool ok, .bool fo, .slice E es.length e, .int .u64 si, .int .u64 st, .slice A sm.length a, .slice B sd.length b] 29))
  have HM := Lib.hid (h.below hB1)
  have HM0 := Lib.hid h
  clear h hB1
  dsimp only at *
  clear HM HM0
  have H7 := Lib.hid h7
  clear h7 h8
  subst hk
  obtain ⟨fn, rfl⟩ : ∃ n : Nat, f = n := ⟨f.toNat, by omega⟩
  obtain ⟨dn, rfl⟩ : ∃ n : Nat, d = n := ⟨d.toNat, by omega⟩
  have fw : IntKind.u64.wrap (fn : Int) = (fn : Int) := IntWalk.u64_in _ ⟨by omega, by omega⟩
  have dw : IntKind.u64.wrap (dn : Int) = (dn : Int) := IntWalk.u64_in _ ⟨by omega, by omega⟩
  have ew : IntKind.u64.wrap (es.length : Int) = (es.length : Int) := IntWalk.u64_in _ ⟨by omega, by omega⟩
  have e9 := numB_len (show fn < 18446744073709551616 by omega)
  have f1 := numB_len (show dn < 18446744073709551616 by omega)
  have f2 := numB_len (show 6 < 18446744073709551616 by omega)
  simp only [Int.toNat_natCast, show ((6 : Int)).toNat = 6 from rfl] at HBD
  have HTT := Lib.hid ht
  have HHH := Lib.hid hh
  clear ht hh
  go_enter Try.func13, Try.ntmps13
  go_wp2_with fail
  refine (HSS.out _ HB1.out).mono ?_
  rintro e' w1 ⟨rfl, hb1⟩
  have HB2 := Lib.hid (below_step HB1.out hb1)
  have HK1 := Lib.hid (blk_below HK.out hb1)
  have hz1 : w.heap.size < w1.heap.size := blk_lt HK1.out
  obtain ⟨b0, b1, b2, b3, b4, b5, b6, b7, b8, b9, b10, b11, b12, b13, b14⟩ := blk15 (blk_below HK1.out (below_alloc (Below.refl _ w1) (.cells #[.slice none 0 0] 61)))
  have HW2 := Lib.hid (Ws.new w1 61)
  clear hb1
  go_wp2_with fail
  refine (wnumlit w1.heap.size (w1.heap.size + 1) 4 [6, fn, dn, t] [] _ #[.int .u64 6, .int .u64 (fn : Int), .int .u64 (dn : Int), .int .u64 (t : Int)] rfl HW2.out (World.size_alloc _ _) (by have z1 := HTT.out; have z2 := HHH.out; simp; omega) (by simp) (by simp)).mono ?_
  rintro e' w2 ⟨rfl, hS, hK⟩
  have HS := Lib.hid (show Ws w2 w1.heap.size (numB 6 ++ numB fn ++ numB dn ++ numB t) by simpa [numsB] using hS)
  have HWK := Lib.hid (show WK w1.heap.size w1 w2 from (WK.of_below (below_alloc (Below.refl _ w1) _) (Nat.le_refl _)).trans hK)
  clear hS hK b0 b1 b2 b3 b4 b5 b6 b7 b8 b9 b10 b11 b12 b13 b14
  obtain ⟨b0, b1, b2, b3, b4, b5, b6, b7, b8, b9, b10, b11, b12, b13, b14⟩ := blk15 (HWK.out.blk hz1 HK1.out)
  go_wp2_with fail
  refine (wflag_walk w1.heap.size w2.heap.size 1 ok _ _ (HS.out.below (below_alloc (Below.refl _ _) _)) (World.alloc_heap_new w2 _) (by simp only [List.length_append]; omega)).mono ?_
  rintro e' w3 ⟨rfl, hS, hK⟩
  have HS := Lib.hid hS
  have HWK := Lib.hid (HWK.out.trans ((WK.of_below (below_alloc (Below.refl _ w2) _) HWK.out.1.size).trans hK))
  clear hS hK b0 b1 b2 b3 b4 b5 b6 b7 b8 b9 b10 b11 b12 b13 b14
  obtain ⟨b0, b1, b2, b3, b4, b5, b6, b7, b8, b9, b10, b11, b12, b13, b14⟩ := blk15 (HWK.out.blk hz1 HK1.out)
  go_wp2_with fail
  refine (wnumlit w1.heap.size w3.heap.size 2 [i, r] _ _ #[.int .u64 (i : Int), .int .u64 (r : Int)] rfl HS.out rfl (by have z1 := HTT.out; have z2 := HHH.out; simp; omega) (by simp) (by simp only [List.length_append]; omega)).mono ?_
  rintro e' w4 ⟨rfl, hS, hK⟩
  have HS := Lib.hid (show Ws w4 w1.heap.size (numB 6 ++ numB fn ++ numB dn ++ numB t ++ flagB ok ++ (numB i ++ (numB r))) by simpa [numsB] using hS)
  have HWK := Lib.hid (HWK.out.trans hK)
  clear hS hK b0 b1 b2 b3 b4 b5 b6 b7 b8 b9 b10 b11 b12 b13 b14
  obtain ⟨b0, b1, b2, b3, b4, b5, b6, b7, b8, b9, b10, b11, b12, b13, b14⟩ := blk15 (HWK.out.blk hz1 HK1.out)
  have HB4 := Lib.hid (show Below w.heap.size w w4 from HB2.out.trans (HWK.out.1.mono (Nat.le_of_lt hz1)))
  have HS := Lib.hid (show Ws w4 w1.heap.size body by rw [HBD.out, HFB.out]; have h := HS.out; simpa only [List.append_assoc, List.append_nil] using h)
  go_wp2_with fail
  refine (wbytes_walk w1.heap.size body _ HS.out (by omega)).mono ?_
  rintro e' wb ⟨A2, c2, rfl, hc2, hO2, hBb⟩
  have HO2 := Lib.hid hO2
  have HB5 := Lib.hid (below_then HB4.out HB4.out.size hBb)
  clear hO2 hBb
  go_wp2_with fail
  refine (wrap_ok A2 c2 5 body _ HO2.out.rd (by decide) (by omega)).mono ?_
  rw [← HW.out]
  rintro e' wc ⟨A3, c3, rfl, hc3, hO3, hBc⟩
  have HO3 := Lib.hid hO3
  have HB6 := Lib.hid (below_then HB5.out HB5.out.size hBc)
  clear hO3 hBc
  go_wp2
  go_ret2
  exact ⟨A3, c3, rfl, hc3, HO3.out.lower HB5.out.size, HB6.out⟩
set_option maxRecDepth 100000 in
set_option maxHeartbeats 4000000 in
theorem wbytes_7 (m : Wm) (E : Option Addr) (e : Nat) (A : Option Addr) (a : Nat) (B : Option Addr) (b : Nat) (w : World) (h : MR w m E e A a B b) (ho : msgOk m) (hs : soundW m = true) (hk : m.kind = 7) :
    Calls Try.prog 13 #[msgV m E e A a B b] w (BytesP (wireW m) w) := by
  have HSS := Lib.hid (fun w' (hb : Below w.heap.size w w') => soundP_walk m E e A a B b w' (h.below hb) ho)
  rw [soundP_eq, hs] at HSS
  obtain ⟨k1, k2, k3, -⟩ := soundW_head hs
  obtain ⟨h1, h2, h3, h4, h5, h6, h7, h8, -⟩ := soundW_ok hs
  have ht : top = 1152921504606846976 := rfl
  have hh : half = 576460752303423488 := rfl
  have hbl := bodyW_len hs
  have HW := Lib.hid (show wireW m = wrp 5 (bodyW m) from rfl)
  have HBD := Lib.hid (show bodyW m = numB m.kind.toNat ++ numB m.frm.toNat ++ numB m.dst.toNat ++ numB m.term ++ fieldsB m from rfl)
  have hfb : fieldsB m = numB m.round ++ txtB (snB m.snap) := by simp [fieldsB, hk]
  have HFB := Lib.hid hfb
  have hsn := h8 hk
  have HSB := Lib.hid (fun w' (hb : Below w.heap.size w w') => snbytes_ok m.snap A a B b w' (h.2.2.below hb) ho.2.2.2 hsn)
  have c1 := snBody_len hsn
  have c2 : (snB m.snap).length = (snBody m.snap).length + 8 := wrp_length 4 _
  clear hsn
  have c3 : (snB m.snap).length ≤ 33008 := by omega
  clear c1 c2
  generalize snB m.snap = sz at *
  have e1 := numB_len (show m.index < 18446744073709551616 by omega)
  have e2 := numB_len (show m.logTerm < 18446744073709551616 by omega)
  have e3 := numB_len (show m.commit < 18446744073709551616 by omega)
  have e4 := numB_len (show m.round < 18446744073709551616 by omega)
  have e5 := numB_len (show m.ents.length < 18446744073709551616 by omega)
  have e6 := numB_len (show m.term < 18446744073709551616 by omega)
  have e7 := flagB_len m.ok
  have e8 := flagB_len m.force
  clear hfb hs ho
  generalize wireW m = z at *
  generalize bodyW m = body at *
  generalize fieldsB m = fb at *
  obtain ⟨k, f, d, t, i, lt, c, r, ok, fo, es, ⟨si, st, sm, sd⟩⟩ := m
  have hB1 := below_alloc (Below.refl _ w) (.cells #[.int .i64 k, .int .i64 f, .int .i64 d, .int .u64 t, .int .u64 i, .int .u64 lt, .int .u64 c, .int .u64 r, .bool ok, .bool fo, .slice E es.length e, .int .u64 si, .int .u64 st, .slice A sm.length a, .slice B sd.length b] 29)
  have HB1 := Lib.hid hB1
  have HK := Lib.hid (World.alloc_heap_new w (.cells #[.int .i64 k, .int .i64 f, .int .i64 d, .int .u64 t, .int .u64 i, .int .u64 lt, .int .u64 c, .int .u64 r, .bool ok, .bool fo, .slice E es.length e, .int .u64 si, .int .u64 st, .slice A sm.length a, .slice B sd.length b] 29))
  have HM := Lib.hid (h.below hB1)
  have HM0 := Lib.hid h
  clear h hB1
  dsimp only at *
  clear HM HM0
  have H7 := Lib.hid h7
  clear h7 h8
  subst hk
  obtain ⟨fn, rfl⟩ : ∃ n : Nat, f = n := ⟨f.toNat, by omega⟩
  obtain ⟨dn, rfl⟩ : ∃ n : Nat, d = n := ⟨d.toNat, by omega⟩
  have fw : IntKind.u64.wrap (fn : Int) = (fn : Int) := IntWalk.u64_in _ ⟨by omega, by omega⟩
  have dw : IntKind.u64.wrap (dn : Int) = (dn : Int) := IntWalk.u64_in _ ⟨by omega, by omega⟩
  have ew : IntKind.u64.wrap (es.length : Int) = (es.length : Int) := IntWalk.u64_in _ ⟨by omega, by omega⟩
  have e9 := numB_len (show fn < 18446744073709551616 by omega)
  have f1 := numB_len (show dn < 18446744073709551616 by omega)
  have f2 := numB_len (show 7 < 18446744073709551616 by omega)
  simp only [Int.toNat_natCast, show ((7 : Int)).toNat = 7 from rfl] at HBD
  have HTT := Lib.hid ht
  have HHH := Lib.hid hh
  clear ht hh
  go_enter Try.func13, Try.ntmps13
  go_wp2_with fail
  refine (HSS.out _ HB1.out).mono ?_
  rintro e' w1 ⟨rfl, hb1⟩
  have HB2 := Lib.hid (below_step HB1.out hb1)
  have HK1 := Lib.hid (blk_below HK.out hb1)
  have hz1 : w.heap.size < w1.heap.size := blk_lt HK1.out
  obtain ⟨b0, b1, b2, b3, b4, b5, b6, b7, b8, b9, b10, b11, b12, b13, b14⟩ := blk15 (blk_below HK1.out (below_alloc (Below.refl _ w1) (.cells #[.slice none 0 0] 61)))
  have HW2 := Lib.hid (Ws.new w1 61)
  clear hb1
  go_wp2_with fail
  refine (wnumlit w1.heap.size (w1.heap.size + 1) 4 [7, fn, dn, t] [] _ #[.int .u64 7, .int .u64 (fn : Int), .int .u64 (dn : Int), .int .u64 (t : Int)] rfl HW2.out (World.size_alloc _ _) (by have z1 := HTT.out; have z2 := HHH.out; simp; omega) (by simp) (by simp)).mono ?_
  rintro e' w2 ⟨rfl, hS, hK⟩
  have HS := Lib.hid (show Ws w2 w1.heap.size (numB 7 ++ numB fn ++ numB dn ++ numB t) by simpa [numsB] using hS)
  have HWK := Lib.hid (show WK w1.heap.size w1 w2 from (WK.of_below (below_alloc (Below.refl _ w1) _) (Nat.le_refl _)).trans hK)
  clear hS hK b0 b1 b2 b3 b4 b5 b6 b7 b8 b9 b10 b11 b12 b13 b14
  obtain ⟨b0, b1, b2, b3, b4, b5, b6, b7, b8, b9, b10, b11, b12, b13, b14⟩ := blk15 (HWK.out.blk hz1 HK1.out)
  go_wp2_with fail
  refine (wnumlit w1.heap.size w2.heap.size 1 [r] _ _ #[.int .u64 (r : Int)] rfl HS.out rfl (by have z1 := HTT.out; have z2 := HHH.out; simp; omega) (by simp) (by simp only [List.length_append]; omega)).mono ?_
  rintro e' w3 ⟨rfl, hS, hK⟩
  have HS := Lib.hid (show Ws w3 w1.heap.size (numB 7 ++ numB fn ++ numB dn ++ numB t ++ (numB r)) by simpa [numsB] using hS)
  have HWK := Lib.hid (HWK.out.trans hK)
  clear hS hK b0 b1 b2 b3 b4 b5 b6 b7 b8 b9 b10 b11 b12 b13 b14
  obtain ⟨b0, b1, b2, b3, b4, b5, b6, b7, b8, b9, b10, b11, b12, b13, b14⟩ := blk15 (HWK.out.blk hz1 HK1.out)
  have HBX := Lib.hid (show Below w.heap.size w w3 from HB2.out.trans (HWK.out.1.mono (Nat.le_of_lt hz1)))
  go_wp2_with fail
  refine (HSB.out _ HBX.out).mono ?_
  rintro e' w4 ⟨As, cs, rfl, hcs, hOs, hbs⟩
  have HS := Lib.hid (HS.out.below hbs)
  have ks := conv_str (c := cs) hOs.rd
  have HWK := Lib.hid (HWK.out.trans (WK.of_below hbs HWK.out.1.size))
  clear hbs hOs b0 b1 b2 b3 b4 b5 b6 b7 b8 b9 b10 b11 b12 b13 b14
  go_wp2_with fail
  refine (wtext_walk w1.heap.size sz _ _ HS.out (by omega) (by simp only [List.length_append]; omega)).mono ?_
  rintro e' w5 ⟨rfl, hS, hK⟩
  have HS := Lib.hid hS
  have HWK := Lib.hid (HWK.out.trans hK)
  clear hS hK ks
  have HB4 := Lib.hid (show Below w.heap.size w w5 from HB2.out.trans (HWK.out.1.mono (Nat.le_of_lt hz1)))
  have HS := Lib.hid (show Ws w5 w1.heap.size body by rw [HBD.out, HFB.out]; have h := HS.out; simpa only [List.append_assoc, List.append_nil] using h)
  go_wp2_with fail
  refine (wbytes_walk w1.heap.size body _ HS.out (by omega)).mono ?_
  rintro e' wb ⟨A2, c2, rfl, hc2, hO2, hBb⟩
  have HO2 := Lib.hid hO2
  have HB5 := Lib.hid (below_then HB4.out HB4.out.size hBb)
  clear hO2 hBb
  go_wp2_with fail
  refine (wrap_ok A2 c2 5 body _ HO2.out.rd (by decide) (by omega)).mono ?_
  rw [← HW.out]
  rintro e' wc ⟨A3, c3, rfl, hc3, hO3, hBc⟩
  have HO3 := Lib.hid hO3
  have HB6 := Lib.hid (below_then HB5.out HB5.out.size hBc)
  clear hO3 hBc
  go_wp2
  go_ret2
  exact ⟨A3, c3, rfl, hc3, HO3.out.lower HB5.out.size, HB6.out⟩
set_option maxRecDepth 100000 in
set_option maxHeartbeats 4000000 in
theorem wbytes_8 (m : Wm) (E : Option Addr) (e : Nat) (A : Option Addr) (a : Nat) (B : Option Addr) (b : Nat) (w : World) (h : MR w m E e A a B b) (ho : msgOk m) (hs : soundW m = true) (hk : m.kind = 8) :
    Calls Try.prog 13 #[msgV m E e A a B b] w (BytesP (wireW m) w) := by
  have HSS := Lib.hid (fun w' (hb : Below w.heap.size w w') => soundP_walk m E e A a B b w' (h.below hb) ho)
  rw [soundP_eq, hs] at HSS
  obtain ⟨k1, k2, k3, -⟩ := soundW_head hs
  obtain ⟨h1, h2, h3, h4, h5, h6, h7, h8, -⟩ := soundW_ok hs
  have ht : top = 1152921504606846976 := rfl
  have hh : half = 576460752303423488 := rfl
  have hbl := bodyW_len hs
  have HW := Lib.hid (show wireW m = wrp 5 (bodyW m) from rfl)
  have HBD := Lib.hid (show bodyW m = numB m.kind.toNat ++ numB m.frm.toNat ++ numB m.dst.toNat ++ numB m.term ++ fieldsB m from rfl)
  have hfb : fieldsB m = [] := by simp [fieldsB, hk]
  have HFB := Lib.hid hfb
  have e1 := numB_len (show m.index < 18446744073709551616 by omega)
  have e2 := numB_len (show m.logTerm < 18446744073709551616 by omega)
  have e3 := numB_len (show m.commit < 18446744073709551616 by omega)
  have e4 := numB_len (show m.round < 18446744073709551616 by omega)
  have e5 := numB_len (show m.ents.length < 18446744073709551616 by omega)
  have e6 := numB_len (show m.term < 18446744073709551616 by omega)
  have e7 := flagB_len m.ok
  have e8 := flagB_len m.force
  clear hfb hs ho
  generalize wireW m = z at *
  generalize bodyW m = body at *
  generalize fieldsB m = fb at *
  obtain ⟨k, f, d, t, i, lt, c, r, ok, fo, es, ⟨si, st, sm, sd⟩⟩ := m
  have hB1 := below_alloc (Below.refl _ w) (.cells #[.int .i64 k, .int .i64 f, .int .i64 d, .int .u64 t, .int .u64 i, .int .u64 lt, .int .u64 c, .int .u64 r, .bool ok, .bool fo, .slice E es.length e, .int .u64 si, .int .u64 st, .slice A sm.length a, .slice B sd.length b] 29)
  have HB1 := Lib.hid hB1
  have HK := Lib.hid (World.alloc_heap_new w (.cells #[.int .i64 k, .int .i64 f, .int .i64 d, .int .u64 t, .int .u64 i, .int .u64 lt, .int .u64 c, .int .u64 r, .bool ok, .bool fo, .slice E es.length e, .int .u64 si, .int .u64 st, .slice A sm.length a, .slice B sd.length b] 29))
  have HM := Lib.hid (h.below hB1)
  have HM0 := Lib.hid h
  clear h hB1
  dsimp only at *
  clear HM HM0
  have H7 := Lib.hid h7
  clear h7 h8
  subst hk
  obtain ⟨fn, rfl⟩ : ∃ n : Nat, f = n := ⟨f.toNat, by omega⟩
  obtain ⟨dn, rfl⟩ : ∃ n : Nat, d = n := ⟨d.toNat, by omega⟩
  have fw : IntKind.u64.wrap (fn : Int) = (fn : Int) := IntWalk.u64_in _ ⟨by omega, by omega⟩
  have dw : IntKind.u64.wrap (dn : Int) = (dn : Int) := IntWalk.u64_in _ ⟨by omega, by omega⟩
  have ew : IntKind.u64.wrap (es.length : Int) = (es.length : Int) := IntWalk.u64_in _ ⟨by omega, by omega⟩
  have e9 := numB_len (show fn < 18446744073709551616 by omega)
  have f1 := numB_len (show dn < 18446744073709551616 by omega)
  have f2 := numB_len (show 8 < 18446744073709551616 by omega)
  simp only [Int.toNat_natCast, show ((8 : Int)).toNat = 8 from rfl] at HBD
  have HTT := Lib.hid ht
  have HHH := Lib.hid hh
  clear ht hh
  go_enter Try.func13, Try.ntmps13
  go_wp2_with fail
  refine (HSS.out _ HB1.out).mono ?_
  rintro e' w1 ⟨rfl, hb1⟩
  have HB2 := Lib.hid (below_step HB1.out hb1)
  have HK1 := Lib.hid (blk_below HK.out hb1)
  have hz1 : w.heap.size < w1.heap.size := blk_lt HK1.out
  obtain ⟨b0, b1, b2, b3, b4, b5, b6, b7, b8, b9, b10, b11, b12, b13, b14⟩ := blk15 (blk_below HK1.out (below_alloc (Below.refl _ w1) (.cells #[.slice none 0 0] 61)))
  have HW2 := Lib.hid (Ws.new w1 61)
  clear hb1
  go_wp2_with fail
  refine (wnumlit w1.heap.size (w1.heap.size + 1) 4 [8, fn, dn, t] [] _ #[.int .u64 8, .int .u64 (fn : Int), .int .u64 (dn : Int), .int .u64 (t : Int)] rfl HW2.out (World.size_alloc _ _) (by have z1 := HTT.out; have z2 := HHH.out; simp; omega) (by simp) (by simp)).mono ?_
  rintro e' w2 ⟨rfl, hS, hK⟩
  have HS := Lib.hid (show Ws w2 w1.heap.size (numB 8 ++ numB fn ++ numB dn ++ numB t) by simpa [numsB] using hS)
  have HWK := Lib.hid (show WK w1.heap.size w1 w2 from (WK.of_below (below_alloc (Below.refl _ w1) _) (Nat.le_refl _)).trans hK)
  clear hS hK b0 b1 b2 b3 b4 b5 b6 b7 b8 b9 b10 b11 b12 b13 b14
  obtain ⟨b0, b1, b2, b3, b4, b5, b6, b7, b8, b9, b10, b11, b12, b13, b14⟩ := blk15 (HWK.out.blk hz1 HK1.out)
  have HB4 := Lib.hid (show Below w.heap.size w w2 from HB2.out.trans (HWK.out.1.mono (Nat.le_of_lt hz1)))
  have HS := Lib.hid (show Ws w2 w1.heap.size body by rw [HBD.out, HFB.out]; have h := HS.out; simpa only [List.append_assoc, List.append_nil] using h)
  go_wp2_with fail
  refine (wbytes_walk w1.heap.size body _ HS.out (by omega)).mono ?_
  rintro e' wb ⟨A2, c2, rfl, hc2, hO2, hBb⟩
  have HO2 := Lib.hid hO2
  have HB5 := Lib.hid (below_then HB4.out HB4.out.size hBb)
  clear hO2 hBb
  go_wp2_with fail
  refine (wrap_ok A2 c2 5 body _ HO2.out.rd (by decide) (by omega)).mono ?_
  rw [← HW.out]
  rintro e' wc ⟨A3, c3, rfl, hc3, hO3, hBc⟩
  have HO3 := Lib.hid hO3
  have HB6 := Lib.hid (below_then HB5.out HB5.out.size hBc)
  clear hO3 hBc
  go_wp2
  go_ret2
  exact ⟨A3, c3, rfl, hc3, HO3.out.lower HB5.out.size, HB6.out⟩
theorem wbytes_walk2 (m : Wm) (E : Option Addr) (e : Nat) (A : Option Addr) (a : Nat) (B : Option Addr) (b : Nat) (w : World) (h : MR w m E e A a B b) (ho : msgOk m) (hs : soundW m = true) :
    Calls Try.prog 13 #[msgV m E e A a B b] w (BytesP (wireW m) w) := by
  obtain ⟨⟨k1, k2⟩, -⟩ := soundW_head hs
  have h8 : m.kind = 1 ∨ m.kind = 2 ∨ m.kind = 3 ∨ m.kind = 4 ∨ m.kind = 5 ∨ m.kind = 6 ∨ m.kind = 7 ∨ m.kind = 8 := by omega
  rcases h8 with h8 | h8 | h8 | h8 | h8 | h8 | h8 | h8
  · exact wbytes_1 m E e A a B b w h ho hs h8
  · exact wbytes_2 m E e A a B b w h ho hs h8
  · exact wbytes_3 m E e A a B b w h ho hs h8
  · exact wbytes_4 m E e A a B b w h ho hs h8
  · exact wbytes_5 m E e A a B b w h ho hs h8
  · exact wbytes_6 m E e A a B b w h ho hs h8
  · exact wbytes_7 m E e A a B b w h ho hs h8
  · exact wbytes_8 m E e A a B b w h ho hs h8
end Go.Proofs.Ytoccidpocagkjaa
