/- Base: slices of bytes as lists, in memory; cuts, conversions, appends. -/
import Derived.Test.YtoccidpocagkjaaProg
import Derived.Test.YtoccidpocagkjaaWWords
import Derived.WalkLawsBesides
import Derived.WalkSpells
import Derived.Deep.QuietTactic
import Derived.BigQuiet
import Derived.Deep.RegionWith
import Derived.Lib.Hide
import Derived.Lib.SlBytesConst
import Derived.Deep.DeepFit
set_option linter.unusedVariables false
set_option linter.unusedSimpArgs false
namespace Go.Proofs.Ytoccidpocagkjaa
open Go.RowKit Go.Proofs.YtoccidpocagkjaaW.PrintWords

theorem grown_set (W : World) (b j : Nat) (v : Value) : W.grownBy (W.setCell ⟨b, j, none⟩ v) (some b) :=
  ⟨rfl, rfl, rfl, by simp [World.setCell], fun k _ hk => Below.heap_setCell W ⟨b, j, none⟩ v k (fun e => hk (by rw [e]))⟩
theorem info_u8 : (Try.prog.info? 5).map (fun i => (i.zero, i.size, i.bytes)) = some (some (.int .u8 0), 1, 1) := by kernel_rfl

/-- Bytes. -/
def KB : Kd UInt8 := Kd.scalar (fun b => Value.int .u8 (b.toNat : Int)) (fun _ => rfl)
/-- A slice of bytes reads as xs. -/
abbrev RdB (w : World) (A : Option Addr) (n : Nat) (xs : List UInt8) : Prop := KB.C w A n xs
/-- A slice of bytes of the call's own (made from block `base` on). -/
abbrev OwB (w : World) (base : Nat) (v : Value) (xs : List UInt8) : Prop := KB.R 5 w base (fun _ => True) v xs

theorem KB_at {w : World} {A : Option Addr} {n : Nat} {xs : List UInt8} (h : RdB w A n xs) (k : Nat) (hk : k < xs.length) : ∃ ad, A = some ad ∧ w.cell? (ad.add k) = some (.int .u8 ((xs[k].toNat : Nat) : Int)) := by
  obtain ⟨ad, e, hc⟩ := ReadsOf.at_ (Kd.reads_of_C (enc := fun b : UInt8 => Value.int .u8 (b.toNat : Int)) (d := (0 : UInt8)) (h1 := fun _ => rfl) h) (k : Int) (by omega) (by rw [← h.1]; omega)
  refine ⟨ad, e, ?_⟩
  simpa [rdOf, List.getD_eq_getElem?_getD, hk] using hc
theorem add_off (b off k : Nat) : (⟨b, off, none⟩ : Addr).add k = ⟨b, off + k, none⟩ := by unfold Addr.add; split <;> simp_all
/-- The address of a slice that is not empty, and its cells. -/
theorem KB_cells {w : World} {A : Option Addr} {n : Nat} {xs : List UInt8} (h : RdB w A n xs) (hp : 0 < xs.length) : ∃ b off, A = some ⟨b, off, none⟩ ∧ ∀ (k : Nat) (hk : k < xs.length), w.cell? ⟨b, off + k, none⟩ = some (.int .u8 ((xs[k].toNat : Nat) : Int)) := by
  obtain ⟨⟨b, off, spot⟩, e, h0⟩ := KB_at h 0 hp
  have hs : spot = none := by simpa [Addr.add] using World.cell?_spot h0
  subst hs
  refine ⟨b, off, e, fun k hk => ?_⟩
  obtain ⟨ad, e', hc⟩ := KB_at h k hk
  rw [e] at e'
  injection e' with e'
  subst e'
  rwa [add_off] at hc
theorem KB_nums {w : World} {A : Option Addr} {n : Nat} {xs : List UInt8} (h : RdB w A n xs) : ReadsInt w .u8 A n (xs.map fun b => (b.toNat : Int)) := by
  refine ⟨by rw [List.length_map]; exact h.1, h.2.1, fun hn => ?_⟩
  have hx : xs.length = n := h.1
  obtain ⟨ad, e, _⟩ := KB_at h 0 (by omega)
  refine ⟨ad, e, fun j hj => ?_⟩
  obtain ⟨ad', e', hc⟩ := KB_at h j (by omega)
  rw [e] at e'
  injection e' with e'
  subst e'
  rw [hc]
  simp [List.getD_eq_getElem?_getD, show j < xs.length by omega]
theorem KB_of_nums {w : World} {A : Option Addr} {n : Nat} {zs : List Int} (h : ReadsInt w .u8 A n zs) (hw : ∀ z ∈ zs, (Lit.int .u8 z).wf = true) : ∃ xs : List UInt8, xs.length = n ∧ RdB w A n xs ∧ zs = xs.map fun b => (b.toNat : Int) := by
  have hz : ∀ z ∈ zs, 0 ≤ z ∧ z < 256 := fun z hz => by
    have := hw z hz
    have h1 : IntKind.u8.min = 0 := rfl
    have h2 : IntKind.u8.max = 255 := rfl
    simp only [Lit.wf, Bool.and_eq_true, decide_eq_true_eq] at this
    omega
  have he : zs = (zs.map fun z => UInt8.ofNat z.toNat).map fun b => (b.toNat : Int) := by
    rw [List.map_map]
    refine (List.map_id zs).symm.trans (List.map_congr_left fun z hz' => ?_)
    have := hz z hz'
    simp [UInt8.toNat_ofNat']
    omega
  refine ⟨zs.map fun z => UInt8.ofNat z.toNat, by rw [List.length_map]; exact h.1, ?_, he⟩
  refine Kd.C_of_reads (enc := fun b : UInt8 => Value.int .u8 (b.toNat : Int)) (d := (0 : UInt8)) (h1 := fun _ => rfl) ⟨by rw [List.length_map]; exact h.1, h.2.1, fun hn => ?_⟩
  obtain ⟨ad, e, hc⟩ := h.2.2 hn
  refine ⟨ad, e, fun j hj => ?_⟩
  have hj' : j < zs.length := by rw [h.1]; exact hj
  rw [hc j hj]
  have := hz zs[j] (List.getElem_mem hj')
  simp [List.getD_eq_getElem?_getD, hj', UInt8.toNat_ofNat']
  omega

/-- The string that bytes are. -/
def str (xs : List UInt8) : ByteArray := ⟨xs.toArray⟩
theorem str_toList (xs : List UInt8) : (str xs).toList = xs := by simp [str]
theorem str_beq (xs ys : List UInt8) : ((str xs).toList == (str ys).toList) = (xs == ys) := by rw [str_toList, str_toList]
theorem str_bne (xs ys : List UInt8) : ((str xs).toList != (str ys).toList) = (xs != ys) := by rw [str_toList, str_toList]
theorem str_nums (xs : List UInt8) : strOfNums (xs.map fun b => (b.toNat : Int)) = str xs := by
  unfold strOfNums str
  congr 1
  rw [List.map_map]
  congr 1
  exact (List.map_congr_left fun b _ => by simp).trans (List.map_id xs)
theorem conv_str {w : World} {A : Option Addr} {n c : Nat} {xs : List UInt8} (h : RdB w A n xs) : (convert 25 9 (.slice A n c)).run Try.prog w = .ok (.string (str xs)) w := by
  rw [string_of_reads Try.underlying25 Try.underlying5 Try.underlying9 (KB_nums h), str_nums]

/-! ### What is made -/
theorem OwB.reads {w : World} {base n c : Nat} {A : Option Addr} {xs : List UInt8} (h : OwB w base (.slice A n c) xs) : n = xs.length ∧ n ≤ c ∧ RdB w A xs.length xs := Kd.R_reads' h
theorem OwB.rd {w : World} {base n c : Nat} {A : Option Addr} {xs : List UInt8} (h : OwB w base (.slice A n c) xs) : RdB w A n xs := by
  obtain ⟨rfl, _, hr⟩ := OwB.reads h
  exact hr
theorem OwB.form {w : World} {base : Nat} {v : Value} {xs : List UInt8} (h : OwB w base v xs) : ∃ A c, v = .slice A xs.length c ∧ xs.length ≤ c ∧ RdB w A xs.length xs := by
  obtain ⟨A, c, rfl⟩ := Kd.R_slice h
  exact ⟨A, c, rfl, (OwB.reads h).2.1, (OwB.reads h).2.2⟩
theorem OwB.lower {w : World} {base b : Nat} {v : Value} {xs : List UInt8} (h : OwB w base v xs) (hb : b ≤ base) : OwB w b v xs := Kd.R_lower h hb
theorem OwB.nil (w : World) (base : Nat) : OwB w base (.slice none 0 0) [] := Kd.R_nil _ _ _ _ _
theorem RdB.nil (w : World) : RdB w none ([] : List UInt8).length [] := Kd.C_nil _ _
/-- A literal of bytes. -/
theorem OwB.lit (w : World) (base : Nat) (hb : base ≤ w.heap.size) (xs : List UInt8) (cs : Array Value) (hcs : cs = (xs.map fun b => Value.int .u8 (b.toNat : Int)).toArray) (hm : xs.length ≤ 9223372036854775807) :
    OwB (w.alloc (.cells cs 5)) base (.slice (some ⟨w.heap.size, 0, none⟩) xs.length xs.length) xs := by
  subst hcs
  refine Kd.R_of_own ?_ (fun _ _ => trivial)
  have h := World.ownsRow_lit (base := base) (e := 5) (size := 1) w (xs.map fun b => Value.int .u8 (b.toNat : Int)).toArray xs.length hb (by simpa [maxLen] using hm) (by simp)
  simpa [encs] using h
theorem OwB.cap (w : World) (base m : Nat) (hb : base ≤ w.heap.size) (hm : m ≤ 9223372036854775807) : OwB (w.alloc (.cells (madeCells #[.int .u8 0] m) 5)) base (.slice (some ⟨w.heap.size, 0, none⟩) 0 m) [] := by
  refine Kd.R_of_own ?_ (fun _ _ => trivial)
  have h := World.ownsRow_made (base := base) (e := 5) (size := 1) w (madeCells #[.int .u8 0] m) m hb (by simpa [maxLen] using hm) (by simp [size_madeCells])
  simpa [encs] using h
theorem mk_cap (n : Int) (h0 : 0 ≤ n) (h : n ≤ 281474976710656) (W : World) : (Instr.makeSlice 25 (.int .i64 0) (.int .i64 n)).run Try.prog W = .ok (.slice (some ⟨W.heap.size, 0, none⟩) 0 n.toNat) (W.alloc (.cells (madeCells #[.int .u8 0] n.toNat) 5)) := by
  obtain ⟨i0, hi, hzz⟩ := Option.map_eq_some_iff.1 info_u8
  simp only [Prod.mk.injEq] at hzz
  obtain ⟨hz0, hz1, hz2⟩ := hzz
  have := run_make (P := Try.prog) W 25 5 i0 (.int .u8 0) Try.underlying25 hi hz0 .i64 .i64 0 n (by omega) h0 (by rw [hz2]; omega) (by omega)
  rw [show (Value.int .u8 0).cells = #[.int .u8 0] from rfl] at this
  simpa [hz1] using this

theorem OwB.addr {w : World} {base n c : Nat} {A : Option Addr} {xs : List UInt8} (h : OwB w base (.slice A n c) xs) (hp : 0 < xs.length) : ∃ g, A = some ⟨g, 0, none⟩ ∧ base ≤ g := by
  obtain ⟨g, cap, e, hb, _⟩ := Kd.R_form h hp
  injection e with e1 _ _
  exact ⟨g, e1, hb⟩
theorem OwB.cell {w : World} {base g n c : Nat} {xs : List UInt8} (h : OwB w base (.slice (some ⟨g, 0, none⟩) n c) xs) (j : Nat) (hj : j < xs.length) : w.cell? ⟨g, j, none⟩ = some (.int .u8 ((xs[j].toNat : Nat) : Int)) ∧ w.frozen? ⟨g, j, none⟩ = false := by
  have hn := (OwB.reads h).1
  subst hn
  have := Kd.R_cell (0 : UInt8) h (j : Int) (by omega) (by omega)
  simpa [rdOf, List.getD_eq_getElem?_getD, hj] using this
theorem OwB.put {w : World} {base g n c : Nat} {xs : List UInt8} (h : OwB w base (.slice (some ⟨g, 0, none⟩) n c) xs) (j : Nat) (b : UInt8) : OwB (w.setCell ⟨g, j, none⟩ (.int .u8 ((b.toNat : Nat) : Int))) base (.slice (some ⟨g, 0, none⟩) n c) (xs.set j b) := by
  have hn := (OwB.reads h).1
  subst hn
  have := (Kd.R_put h (j : Int) b).1
  simp only [Int.toNat_natCast] at this
  exact this
/-- A store into an elder block. -/
theorem OwB.far {w : World} {base : Nat} {v : Value} {xs : List UInt8} (h : OwB w base v xs) {p : Addr} (hp : p.block < base) (u : Value) : OwB (w.setCell p u) base v xs :=
  Kd.R_mono (Kd.R_far (Kd.R_bound h) (fun k hk => by have := hk.2.1; omega) u) (fun _ _ => trivial)
/-- A block of bytes, marked or not. -/
theorem RdB.blk (w : World) (t : TypeId) (fr : Nat × Nat) (xs : List UInt8) (cs : Array Value) (hcs : cs = (xs.map fun b => Value.int .u8 (b.toNat : Int)).toArray) (hm : xs.length ≤ 9223372036854775807) :
    RdB (w.alloc (.cells cs t fr)) (some ⟨w.heap.size, 0, none⟩) xs.length xs := by
  subst hcs
  refine Kd.C_of_reads (enc := fun b : UInt8 => Value.int .u8 (b.toNat : Int)) (d := (0 : UInt8)) (h1 := fun _ => rfl) ⟨rfl, hm, fun _ => ⟨_, rfl, fun j hj => ?_⟩⟩
  rw [add_off, Nat.zero_add, World.cell?_alloc_mark]
  simp [List.getD_eq_getElem?_getD, hj]
/-- '[]byte("constant")'. -/
theorem conv_const (w : World) (C : Array Value) (n c : Nat) : (convert 25 25 (.slice (some ⟨w.heap.size, 0, none⟩) n c)).run Try.prog (w.alloc (.cells C 5)) = .ok (.slice (some ⟨w.heap.size, 0, none⟩) n c) (w.alloc (.cells C 5 (C.size, C.size + 1))) :=
  Lib.run_convert_bytes_const w 25 5 C n c Try.underlying25 Try.underlying5

/-! ### append -/
section
variable {ops : Array Oper} {rest : List Oper} {o : Oper} {a : Act} {Q : Exit → Act → World → Prop}
theorem ap_row {w0 W : World} (base : Nat) (hgd : o.guard = none) (s x : Operand)
    (ho : o.op = .call { callee := .builtin .append, args := #[s, x], argTypes := #[25, 25] })
    (v : Value) (xs ys : List UInt8) (A : Option Addr) (m c : Nat) (hs : a.eval s = v) (hx : a.eval x = .slice A m c)
    (HO : OwB W base v xs) (HR : RdB W A m ys) (HB : Below base w0 W) (hbase : base ≤ W.heap.size) (hl : xs.length + m ≤ 140737488355328)
    (h : ∀ zs A' c' w1, Hid (zs = xs ++ ys) → zs.length ≤ c' → OwB w1 base (.slice A' zs.length c') zs → Below base w0 w1 → W.grownBy w1 v.ownBlock → wpList Try.prog ops Q rest (a.put o.dst (.slice A' zs.length c')) w1) :
    wpList Try.prog ops Q (o :: rest) a W := by
  refine Kd.R_append_rows KB (Rr := KB.K W) base hgd s x 25 5 (.int .u8 0) 1 ho Try.underlying25 info_u8 rfl (by decide) (by decide) v xs ys A m c (fun _ => True) (fun _ => False) hs hx HO HR (fun _ _ h => h) (fun _ h => h.elim) (fun _ _ => trivial) HB hbase (by omega) ?_
  intro v1 w1 hR hB hg _
  obtain ⟨A', c', rfl, hc, _⟩ := OwB.form hR
  exact h _ A' c' w1 rfl hc hR hB hg
end

section
variable {ops : Array Oper} {o : Oper} {a : Act} {Q : Exit → Act → World → Prop} {Kc : Act → World → Prop}
/-- The same as a step of a region that draws its order. -/
theorem ap_row_step {w0 W : World} (base : Nat) (hg : o.guard = none) (s x : Operand)
    (ho : o.op = .call { callee := .builtin .append, args := #[s, x], argTypes := #[25, 25] })
    (v : Value) (xs ys : List UInt8) (A : Option Addr) (m c : Nat) (hs : a.eval s = v) (hx : a.eval x = .slice A m c)
    (HO : OwB W base v xs) (HR : RdB W A m ys) (HB : Below base w0 W) (hbase : base ≤ W.heap.size) (hl : xs.length + m ≤ 140737488355328)
    (h : ∀ zs A' c' w1, Hid (zs = xs ++ ys) → zs.length ≤ c' → OwB w1 base (.slice A' zs.length c') zs → Below base w0 w1 → W.grownBy w1 v.ownBlock → Kc (a.put o.dst (.slice A' zs.length c')) w1) :
    if Region.wanted o (yielded ops a.tmps) = true then Oper.wp Try.prog o a W Kc Q else Kc (a.put o.dst undef) W := by
  refine Kd.R_append_rows_step KB (Rr := KB.K W) base (by simp [Region.wanted, hg]) s x 25 5 (.int .u8 0) 1 ho Try.underlying25 info_u8 rfl (by decide) (by decide) v xs ys A m c (fun _ => True) (fun _ => False) hs hx HO HR (fun _ _ h => h) (fun _ h => h.elim) (fun _ _ => trivial) HB hbase (by omega) ?_
  intro v1 w1 hR hB hg _
  obtain ⟨A', c', rfl, hc, _⟩ := OwB.form hR
  exact h _ A' c' w1 rfl hc hR hB hg
end

/-! ### Cuts -/
theorem ct_lo (A : Option Addr) (n c : Nat) (hi : Int) (h1 : 0 ≤ hi) (h2 : hi ≤ n) (hc : n ≤ c) (W : World) : (Instr.slice 25 (.slice A n c) none (some (.int .i64 hi)) none).run Try.prog W = .ok (.slice A hi.toNat c) W := by
  have hel : Try.prog.elem 25 = 5 := by simp [Program.elem, Try.underlying25]
  have hu : Try.prog.underlying 25 = some (.slice (Try.prog.elem 25)) := by rw [hel]; exact Try.underlying25
  have ha : (A.map fun x => x.add 0) = A := by cases A <;> simp [Addr.add]
  obtain ⟨i0, hi0, hzz⟩ := Option.map_eq_some_iff.1 info_u8
  simp only [Prod.mk.injEq] at hzz
  obtain ⟨hz0, hz1, hz2⟩ := hzz
  rw [run_slice_h W 25 A n c hu .i64 hi h1 (by omega), hel]
  simp [sizeOf, typeInfo, hi0, hz1, sliced, Result.andThen, ha]
theorem ct_up (A : Option Addr) (n c : Nat) (lo : Int) (h1 : 0 ≤ lo) (h2 : lo ≤ n) (hc : n ≤ c) (W : World) : (Instr.slice 25 (.slice A n c) (some (.int .i64 lo)) none none).run Try.prog W = .ok (.slice (if c = lo.toNat then A else A.map (·.add lo.toNat)) (n - lo.toNat) (c - lo.toNat)) W := by
  have hel : Try.prog.elem 25 = 5 := by simp [Program.elem, Try.underlying25]
  have hu : Try.prog.underlying 25 = some (.slice (Try.prog.elem 25)) := by rw [hel]; exact Try.underlying25
  obtain ⟨i0, hi0, hzz⟩ := Option.map_eq_some_iff.1 info_u8
  simp only [Prod.mk.injEq] at hzz
  obtain ⟨hz0, hz1, hz2⟩ := hzz
  rw [run_slice_l W 25 A n c hu .i64 lo h1 (by omega), hel]
  simp [sizeOf, typeInfo, hi0, hz1, sliced, Result.andThen]
theorem ct_mid (A : Option Addr) (n c : Nat) (lo hi : Int) (h1 : 0 ≤ lo) (h2 : lo ≤ hi) (h3 : hi ≤ n) (hc : n ≤ c) (W : World) : (Instr.slice 25 (.slice A n c) (some (.int .i64 lo)) (some (.int .i64 hi)) none).run Try.prog W = .ok (.slice (if c = lo.toNat then A else A.map (·.add lo.toNat)) (hi.toNat - lo.toNat) (c - lo.toNat)) W := by
  obtain ⟨i0, hi0, hzz⟩ := Option.map_eq_some_iff.1 info_u8
  simp only [Prod.mk.injEq] at hzz
  obtain ⟨hz0, hz1, hz2⟩ := hzz
  simpa using cut_mid (P := Try.prog) 25 5 .i64 .i64 Try.underlying25 hi0 1 hz1 A n c lo hi h1 h2 h3 hc W
theorem rd_lo {w : World} {A : Option Addr} {xs : List UInt8} (h : RdB w A xs.length xs) (m : Nat) (hm : m ≤ xs.length) : RdB w A (xs.take m).length (xs.take m) := Kd.C_take h hm
theorem rd_up {w : World} {A : Option Addr} {c : Nat} {xs : List UInt8} (h : RdB w A xs.length xs) (m : Nat) (hm : m ≤ xs.length) (hc : xs.length ≤ c) : RdB w (if c = m then A else A.map (·.add m)) (xs.drop m).length (xs.drop m) := by
  have := Kd.C_drop h hm hc
  rwa [show m * KB.sz = m from Nat.mul_one m] at this
/-! ### Numbers that came in -/
theorem u32_nat {s : Int} (hs : (Lit.int .u32 s).wf = true) : ∃ n : Nat, s = n ∧ n < 4294967296 := by
  have h1 : IntKind.u32.min = 0 := rfl
  have h2 : IntKind.u32.max = 4294967295 := rfl
  simp only [Lit.wf, Bool.and_eq_true, decide_eq_true_eq] at hs
  obtain ⟨n, rfl⟩ := Int.eq_ofNat_of_zero_le (show 0 ≤ s by omega)
  exact ⟨n, rfl, by omega⟩
end Go.Proofs.Ytoccidpocagkjaa
