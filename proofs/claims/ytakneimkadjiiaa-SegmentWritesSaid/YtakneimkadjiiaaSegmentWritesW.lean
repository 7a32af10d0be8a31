/- SegmentWrites: the walk. -/
import Derived.Test.YtakneimkadjiiaaCpy
import Derived.Deep.DeepCutAuto
import Derived.Test.YtakneimkadjiiaaSme
import Derived.Test.YtakneimkadjiiaaLgt
import Derived.Test.YtakneimkadjiiaaLiv
import Derived.Test.YtakneimkadjiiaaRsm
import Derived.Test.YtakneimkadjiiaaRde
set_option linter.unusedVariables false
set_option linter.unusedSimpArgs false
namespace Go.Proofs.Ytakneimkadjiiaa
open Go.RowKit Go.Proofs.YtakneimkadjiiaaW.PrintWords Cf
attribute [local go_sem] str_beq str_bne

/-- The copy's row, whatever its bytes are by now: the data lie behind the row, below the block T. -/
def Cl (w : World) (base T g : Nat) (es : List Ent) : Prop :=
  base ≤ g ∧ g < T ∧ ∀ (j : Nat) (hj : j < es.length), ∃ D c, w.cell? ⟨g, j * 3 + 2, none⟩ = some (.slice D es[j].data.length c) ∧ (0 < es[j].data.length → ∃ h cells, D = some ⟨h, 0, none⟩ ∧ g < h ∧ h < T ∧ w.heap[h]? = some (.cells cells 5 (0, 0)) ∧ es[j].data.length ≤ cells.size)
theorem Cl.below {w w' : World} {base T g : Nat} {es : List Ent} (h : Cl w base T g es) (hB : Below w.heap.size w w') : Cl w' base T g es := by
  obtain ⟨h1, h2, h3⟩ := h
  refine ⟨h1, h2, fun j hj => ?_⟩
  obtain ⟨D, c, k1, k2⟩ := h3 j hj
  refine ⟨D, c, pw_cell_below hB k1, fun hp => ?_⟩
  obtain ⟨h, cells, e, q1, q2, q3, q4⟩ := k2 hp
  exact ⟨h, cells, e, q1, q2, (hB.block h (Array.getElem?_eq_some_iff.1 q3).1).trans q3, q4⟩
theorem Cl.set {w : World} {base T g : Nat} {es : List Ent} (h : Cl w base T g es) {p : Addr} (hp : g < p.block) (v : Value) : Cl (w.setCell p v) base T g es := by
  obtain ⟨h1, h2, h3⟩ := h
  refine ⟨h1, h2, fun j hj => ?_⟩
  obtain ⟨D, c, k1, k2⟩ := h3 j hj
  refine ⟨D, c, (World.cell?_setCell_other _ _ _ _ (fun e => by subst e; simp at hp)).trans k1, fun hp => ?_⟩
  obtain ⟨h, cells, e, q1, q2, q3, q4⟩ := k2 hp
  obtain ⟨cells', hs, hc⟩ := heap_set q3 p v
  exact ⟨h, cells', e, q1, q2, hc, by omega⟩
theorem Cl.mono {w : World} {base T T' g : Nat} {es : List Ent} (h : Cl w base T g es) (hT : T ≤ T') : Cl w base T' g es := by
  obtain ⟨h1, h2, h3⟩ := h
  refine ⟨h1, by omega, fun j hj => ?_⟩
  obtain ⟨D, c, k1, k2⟩ := h3 j hj
  refine ⟨D, c, k1, fun hp => ?_⟩
  obtain ⟨h, cells, e, q1, q2, q3, q4⟩ := k2 hp
  exact ⟨h, cells, e, q1, by omega, q3, q4⟩
theorem Cl.of {w0 w : World} {base g : Nat} {es : List Ent} (h : Cp w0 w base g es es.length) : Cl w base w.heap.size g es := by
  obtain ⟨h1, h2, _, h4⟩ := h
  refine ⟨h1, h2, fun j hj => ?_⟩
  obtain ⟨D, c, _, _, k2, _, k4, _⟩ := h4 j hj
  refine ⟨D, c, k2, fun hp => ?_⟩
  obtain ⟨inner, _, ho⟩ := Kd.R_own (k4 hj)
  rcases ho with ⟨e, h0⟩ | ⟨q, cap, cur, e, hq, hh, hn, _, hs, _⟩
  · omega
  · injection e with e1 e2 e3
    refine ⟨q, cur, e1, hq, (Array.getElem?_eq_some_iff.1 hh).1, hh, ?_⟩
    rw [hs]
    have : KB.sz = 1 := rfl
    rw [this]
    omega
theorem cell_of_heap {w : World} {h m : Nat} {cells : Array Value} {t : TypeId} (hh : w.heap[h]? = some (.cells cells t (0, 0))) (hm : m < cells.size) : ∃ v, w.cell? ⟨h, m, none⟩ = some v := ⟨cells[m], by simp [World.cell?, hh, hm]⟩
theorem rsame_to (A : Option Addr) (n c : Nat) (a : List Ent) (B : Option Addr) (m d : Nat) (b : List Ent) (w : World) (hA : KE.C w A n a) (hB : KE.C w B m b) :
    Calls Try.prog 10 #[.slice A n c, .slice B m d] w fun e w' => e = .returned (.bool (decide (a = b))) ∧ Below w.heap.size w w' := by
  obtain rfl : a.length = n := hA.1
  obtain rfl : b.length = m := hB.1
  exact rsame_walk A c a B d b w hA hB
set_option maxRecDepth 100000 in
set_option maxHeartbeats 4000000 in
theorem segmentWrites_main (i : Nat) (A : Option Addr) (c : Nat) (es : List Ent) (B : Option Addr) (d : Nat) (fs : List Ent) (x : Int) (w : World) (hi : i < 18446744073709551616) (hC : KE.C w A es.length es) (hc : es.length ≤ c) (hok : ∀ x ∈ es, entOk x) (hD : KE.C w B fs.length fs) (hla : lightB es = true) (hlb : lightB fs = true) (hx : (Lit.int .u8 x).wf = true) :
    Calls Try.prog 6 #[.int .u64 i, .slice A es.length c, .slice B fs.length d, .int .u8 x] w fun e w' => e = .returned (.bool true) ∧ Below w.heap.size w w' := by
  have hl60 : es.length ≤ 60 ∧ ∀ e ∈ es, e.data.length ≤ 5000 := by
    unfold lightB at hla
    simp only [Bool.and_eq_true, decide_eq_true_eq, List.all_eq_true] at hla
    exact ⟨hla.2, hla.1⟩
  have HLA := Lib.hid (fun w h => light_walk A c es w h)
  have HLB := Lib.hid (fun w h => light_walk B d fs w h)
  have HLI := Lib.hid hla
  have HLJ := Lib.hid hlb
  have HC := Lib.hid hC
  have HD := Lib.hid hD
  have HCP := Lib.hid (fun w h => copy_walk A c es w h hc hl60.1 hl60.2)
  have HH := Lib.hid (fun w => seghed_walk i w hi)
  have HR := Lib.hid (fun w => rhed_walk i w hi)
  have HOK := Lib.hid hok
  obtain ⟨hl, hdl⟩ := hl60
  have HDL := Lib.hid hdl
  clear hC hD hla hlb hok hdl
  go_enter Try.func6, Try.ntmps6
  go_wp2_with fail
  refine (HLA.out _ HC.out).mono ?_
  rw [HLI.out]
  rintro e w1 ⟨rfl, hB1⟩
  have HB1 := Lib.hid hB1
  clear hB1
  go_wp2_with fail
  refine (HLB.out _ (Kd.C_below HD.out HB1.out)).mono ?_
  rw [HLJ.out]
  rintro e w2 ⟨rfl, hB2⟩
  have HB2 := Lib.hid (below_step HB1.out hB2)
  clear hB2
  go_wp2_with fail
  refine (HCP.out _ (Kd.C_below HC.out HB2.out)).mono ?_
  rintro e w3 ⟨A1, c1, rfl, hc1, hcp, hB3⟩
  have HB3 := Lib.hid (below_step HB2.out hB3)
  have hcr : KE.C w3 A1 es.length es := by
    by_cases h0 : 0 < es.length
    · obtain ⟨g, rfl, hp⟩ := hcp h0
      exact hp.reads (by omega)
    · exact ⟨rfl, by omega, fun h => absurd h (by omega)⟩
  obtain ⟨g, hg⟩ : ∃ g, 0 < es.length → A1 = some ⟨g, 0, none⟩ ∧ Cl w3 w.heap.size w3.heap.size g es := by
    by_cases h0 : 0 < es.length
    · obtain ⟨g, e, hp⟩ := hcp h0
      have h := Cl.of hp
      exact ⟨g, fun _ => ⟨e, Nat.le_trans HB2.out.size h.1, h.2.1, h.2.2⟩⟩
    · exact ⟨0, fun h => absurd h h0⟩
  have HG := Lib.hid hg
  have HR1 := Lib.hid (fun (w' : World) (h : Below w3.heap.size w3 w') => rsame_to A1 es.length c1 es A es.length c es w' (Kd.C_below hcr h) (Kd.C_below HC.out (below_step HB3.out h)))
  have HR2 := Lib.hid (fun (w' : World) (h : Below w3.heap.size w3 w') => segsame_walk A es.length c es B fs.length d fs w' (Kd.C_below HC.out (below_step HB3.out h)) (Kd.C_below HD.out (below_step HB3.out h)))
  have HR3 := Lib.hid (fun (w' : World) (h : Below w3.heap.size w3 w') => rsame_to A es.length c es B fs.length d fs w' (Kd.C_below HC.out (below_step HB3.out h)) (Kd.C_below HD.out (below_step HB3.out h)))
  have HR4 := Lib.hid (fun (w' : World) (h : Below w3.heap.size w3 w') => segsame_walk A es.length c es A1 es.length c1 es w' (Kd.C_below HC.out (below_step HB3.out h)) (Kd.C_below hcr h))
  rw [show decide (es = es) = true by simp] at HR1 HR4
  generalize decide (es = fs) = q at HR2 HR3
  clear hB3 hcp hg hcr
  go_wp2_with fail
  go_cut [54] (fun s54 wx => s54 = .bool false ∧ Below w3.heap.size w3 wx)
  case first =>
    have h0 : Below w3.heap.size w3 w3.drew := below_drew (Below.refl _ _)
    have HZ := Lib.hid h0
    clear h0
    first
    | (go_region_with (first
      | (go_at_call_of 10 A1; refine (HR1.out _ HZ.out).mono ?_; rintro e w4 ⟨rfl, hb4⟩; (have HB4 := Lib.hid (below_step HZ.out hb4)); clear hb4)
      | (go_at_call_of 20 B; refine (HR2.out _ HB4.out).mono ?_; rintro e w5 ⟨rfl, hb5⟩; (have HB5 := Lib.hid (below_step HB4.out hb5)); clear hb5)
      | (go_at_call_of 10 B; refine (HR3.out _ HB5.out).mono ?_; rintro e w6 ⟨rfl, hb6⟩; (have HB6 := Lib.hid (below_step HB5.out hb6)); clear hb6)
      | (go_at_call_of 20 A1; refine (HR4.out _ HB6.out).mono ?_; rintro e w7 ⟨rfl, hb7⟩; (have HB7 := Lib.hid (below_step HB6.out hb7)); clear hb7)
      | (go_at_call 21; refine (HH.out _).mono ?_; rintro e w8 ⟨A8, c8, rfl, hc8, hO8, hb8⟩; (have HB8 := Lib.hid (below_step HB7.out hb8)); (have HO8 := Lib.hid hO8); have t8 := conv_str (c := c8) hO8.reads.2.2; clear hb8 hO8)
      | (go_at_call 13; refine (HR.out _).mono ?_; rintro e w9 ⟨A9, c9, rfl, hc9, hO9, hb9⟩; (have HB9 := Lib.hid (below_step HB8.out hb9)); have t9 := conv_str (c := c8) (OwB.reads (Kd.R_below HO8.out hb9)).2.2; have s9 := conv_str (c := c9) hO9.reads.2.2; clear hb9 hO9)))
    | fail
    all_goals (go_wp2_with fail; go_meet; exact ⟨rfl, HB9.out⟩)
  case rest =>
  obtain ⟨rfl, hb9⟩ := hcut
  have HB9' := Lib.hid (below_step HB3.out hb9)
  have HG9 := Lib.hid (fun h => ((HG.out h).2.below hb9).mono hb9.size)
  clear hb9 HR1 HR2 HR3 HR4 HH HCP HLA HLB
  go_wp2_with fail
  go_loopw [57] (fun i' wr => ∃ k : Nat, i' = .int .i64 k ∧ k ≤ es.length ∧ Below w.heap.size w wr ∧ (0 < es.length → Cl wr w.heap.size wr.heap.size g es))
    (fun i' _ => es.length - (intOf i').toNat)
  case atStart => exact ⟨0, rfl, Nat.zero_le _, HB9'.out, HG9.out⟩
  case round =>
    obtain ⟨k, rfl, hk, hB, hcl⟩ := hrel
    have HBR := Lib.hid hB
    clear hB HG9 HB9'
    by_cases hlt : k < es.length
    · have HCL := Lib.hid (hcl (by omega))
      obtain ⟨e1, _⟩ := HG.out (by omega)
      subst e1
      obtain ⟨y, hy⟩ : ∃ y, es[k] = y := ⟨_, rfl⟩
      obtain ⟨bl, off, D, cd, rfl, p0, p1, p2, p3, p4⟩ := KE_at HC.out k hlt
      obtain ⟨D2, d2, k2, _⟩ := HCL.out.2.2 k hlt
      have hterm := (HOK.out es[k] (List.getElem_mem hlt)).1
      have hdy := HDL.out es[k] (List.getElem_mem hlt)
      rw [hy] at p0 p1 p2 p3 p4 k2 hterm hdy
      have HY := Lib.hid hy
      have hi1 : (k : Int) < (es.length : Int) := by omega
      have hB1 : Below wr.heap.size wr (wr.alloc (.cells #[.int .u64 y.term, .int .i64 y.kind, .slice D y.data.length cd] 38)) := below_alloc (Below.refl _ _) _
      have s1 := conv_str (c := cd) (Kd.C_below p4 (below_step HBR.out hB1))
      have p0 := pw_cell_below HBR.out p0
      have p1 := pw_cell_below HBR.out p1
      have p2 := pw_cell_below HBR.out p2
      have k2 := pw_cell_below hB1 k2
      have HP4 := Lib.hid p4
      have HBA := Lib.hid hB1
      clear hB1 p4 hy hcl
      go_wp2_with fail
      go_loopw [71] (fun j w5 => ∃ m : Nat, j = .int .i64 m ∧ m ≤ y.data.length ∧ Below w.heap.size w w5 ∧ Cl w5 w.heap.size wr.heap.size g es ∧ w5.cell? ⟨wr.heap.size, 0, none⟩ = some (.int .u64 y.term) ∧ w5.cell? ⟨wr.heap.size, 1, none⟩ = some (.int .i64 y.kind) ∧ w5.cell? ⟨wr.heap.size, 2, none⟩ = some (.slice D y.data.length cd))
        (fun j _ => y.data.length - (intOf j).toNat)
      case atStart => exact ⟨0, rfl, Nat.zero_le _, below_step HBR.out HBA.out, HCL.out.below HBA.out, by simp [World.cell?_alloc_at], by simp [World.cell?_alloc_at], by simp [World.cell?_alloc_at]⟩
      case round =>
        obtain ⟨m, rfl, hm, hB5, hcl5, b0, b1, b2⟩ := hrel
        by_cases hml : m < y.data.length
        · obtain ⟨D3, d3, q2, q3⟩ := hcl5.2.2 k hlt
          rw [HY.out] at q2 q3
          obtain ⟨h, cells, rfl, r1, r2, r3, r4⟩ := q3 (by omega)
          have hgb := hcl5.1
          obtain ⟨v, kc⟩ := cell_of_heap r3 (show m < cells.size by omega)
          have kf := free_of_cells r3 m
          have hi2 : (m : Int) < (y.data.length : Int) := by omega
          have HB5 := Lib.hid hB5
          have HC5 := Lib.hid hcl5
          have HBX := Lib.hid (And.intro b0 (And.intro b1 b2))
          clear r3 hB5 hcl5 b0 b1 b2 s1 p0 p1 p2 k2 q3
          go_wp2
          go_roundw
          case rel => exact ⟨m + 1, by go_num, by omega, HB5.out.setCell (p := ⟨h, m, none⟩) (by simp only; omega) _, HC5.out.set (p := ⟨h, m, none⟩) r1 _, (World.cell?_setCell_far _ _ _ _ (by simp only; omega)).trans HBX.out.1, (World.cell?_setCell_far _ _ _ _ (by simp only; omega)).trans HBX.out.2.1, (World.cell?_setCell_far _ _ _ _ (by simp only; omega)).trans HBX.out.2.2⟩
          case measure => simp [intOf]; omega
        · have hi2 : ¬ (m : Int) < (y.data.length : Int) := by omega
          have HB5 := Lib.hid hB5
          have HC5 := Lib.hid hcl5
          have HR5 := Lib.hid (Kd.C_below HP4.out hB5)
          clear hB5 hcl5 s1 p0 p1 p2 k2
          have HBX := Lib.hid (And.intro b0 (And.intro b1 b2))
          cases hs : soundB y with
          | false =>
            have HS := Lib.hid hs
            have HL := Lib.hid (segline_bad i y D cd wr hterm hs)
            clear hs
            go_wp2_with fail
            refine (HL.out).mono ?_
            rintro e w6 ⟨rfl, hB6⟩
            have HX6 := Lib.hid hB6
            clear hB6 HL
            clear b0 b1 b2
            have b0 := pw_cell_below HX6.out HBX.out.1
            have b1 := pw_cell_below HX6.out HBX.out.2.1
            have b2 := pw_cell_below HX6.out HBX.out.2.2
            go_wp2_with fail
            go_cut [100] (fun s100 wx => s100 = .bool false ∧ Below wr.heap.size wr wx)
            case first =>
              have HXD := Lib.hid (below_drew HX6.out)
              have cv := conv_str (c := cd) (Kd.C_below HR5.out HXD.out)
              first
              | (go_region_with (first
                | (go_at_call 23; refine (sound_walk y D cd _ hterm).mono ?_; rw [HS.out]; rintro e w7 ⟨rfl, hb7⟩; (have HX7 := Lib.hid (below_step HXD.out hb7)); clear hb7; (have hx7 := HX7.out); have b0 := pw_cell_below hx7 HBX.out.1; have b1 := pw_cell_below hx7 HBX.out.2.1; have b2 := pw_cell_below hx7 HBX.out.2.2; (have cv := conv_str (c := cd) (Kd.C_below HR5.out hx7)); clear hx7)
                | (go_at_call 24; refine (fsound_walk y D cd _ hterm).mono ?_; rw [HS.out]; rintro e w8 ⟨rfl, hb8⟩; (have HX8 := Lib.hid (below_step HX7.out hb8)); clear hb8; (have hx8 := HX8.out); have b0 := pw_cell_below hx8 HBX.out.1; have b1 := pw_cell_below hx8 HBX.out.2.1; have b2 := pw_cell_below hx8 HBX.out.2.2; (have cv := conv_str (c := cd) (Kd.C_below HR5.out hx8)); clear hx8)))
              | fail
              all_goals (go_wp2_with fail; go_meet; exact ⟨rfl, HX8.out⟩)
            case rest =>
            obtain ⟨rfl, hX9⟩ := hcut
            have HX9 := Lib.hid hX9
            clear hX9 b0 b1 b2 HX6
            have b0 := pw_cell_below HX9.out HBX.out.1
            have b1 := pw_cell_below HX9.out HBX.out.2.1
            have b2 := pw_cell_below HX9.out HBX.out.2.2
            go_wp2_with fail
            go_cut [129] (fun s129 wx => s129 = .bool false ∧ Below wr.heap.size wr wx)
            case first =>
              have HXD := Lib.hid (below_drew HX9.out)
              refine wp_region_any (by kernel_rfl) ?_
              try (change wpAny _ _ _ _ _ _ _ (World.drew _))
              refine wpAny_ready (rs := [0]) (by kernel_rfl) (by simp) ?_
              refine AllReady.cons rfl (fun K hK => ?_) AllReady.nil
              go_simp
              refine hK _ _ ?_
              clear hK K
              refine wpAny_ready (rs := [1]) (by kernel_rfl) (by simp) ?_
              refine AllReady.cons rfl (fun K hK => ?_) AllReady.nil
              go_simp
              go_wp2_with (go_at_call 24; refine (fsound_walk y D cd _ hterm).mono ?_; rw [HS.out]; rintro e w10 ⟨rfl, hb10⟩; (have HX10 := Lib.hid (below_step HXD.out hb10)); clear hb10; (have hx10 := HX10.out); have b0 := pw_cell_below hx10 HBX.out.1; have b1 := pw_cell_below hx10 HBX.out.2.1; have b2 := pw_cell_below hx10 HBX.out.2.2; clear hx10)
              try (refine hK _ _ ?_; clear hK K)
              refine wpAny_take (i := 2) (v := ?_) rfl (by kernel_rfl) (by kernel_rfl) (by kernel_rfl) (fun _ _ _ h => h) (Or.inl ⟨by rfl, ?_⟩) ?_
              rotate_left
              · intro w; go_simp; try with_reducible rfl
              try go_simp
              refine wpAny_take (i := 3) (v := undef) rfl (by kernel_rfl) (by kernel_rfl) (by kernel_rfl) (fun _ _ _ h => h) (Or.inr ⟨by rfl, rfl⟩) ?_
              try go_simp
              refine wpAny_take (i := 4) (v := undef) rfl (by kernel_rfl) (by kernel_rfl) (by kernel_rfl) (fun _ _ _ h => h) (Or.inr ⟨by rfl, rfl⟩) ?_
              try go_simp
              refine wpAny_take (i := 5) (v := undef) rfl (by kernel_rfl) (by kernel_rfl) (by kernel_rfl) (fun _ _ _ h => h) (Or.inr ⟨by rfl, rfl⟩) ?_
              try go_simp
              refine wpAny_take (i := 6) (v := undef) rfl (by kernel_rfl) (by kernel_rfl) (by kernel_rfl) (fun _ _ _ h => h) (Or.inr ⟨by rfl, rfl⟩) ?_
              try go_simp
              refine wpAny_take (i := 7) (v := undef) rfl (by kernel_rfl) (by kernel_rfl) (by kernel_rfl) (fun _ _ _ h => h) (Or.inr ⟨by rfl, rfl⟩) ?_
              try go_simp
              refine wpAny_take (i := 8) (v := undef) rfl (by kernel_rfl) (by kernel_rfl) (by kernel_rfl) (fun _ _ _ h => h) (Or.inr ⟨by rfl, rfl⟩) ?_
              try go_simp
              refine wpAny_take (i := 9) (v := undef) rfl (by kernel_rfl) (by kernel_rfl) (by kernel_rfl) (fun _ _ _ h => h) (Or.inr ⟨by rfl, rfl⟩) ?_
              try go_simp
              refine wpAny_take (i := 10) (v := undef) rfl (by kernel_rfl) (by kernel_rfl) (by kernel_rfl) (fun _ _ _ h => h) (Or.inr ⟨by rfl, rfl⟩) ?_
              try go_simp
              refine wpAny_take (i := 11) (v := undef) rfl (by kernel_rfl) (by kernel_rfl) (by kernel_rfl) (fun _ _ _ h => h) (Or.inr ⟨by rfl, rfl⟩) ?_
              try go_simp
              refine wpAny_take (i := 12) (v := undef) rfl (by kernel_rfl) (by kernel_rfl) (by kernel_rfl) (fun _ _ _ h => h) (Or.inr ⟨by rfl, rfl⟩) ?_
              try go_simp
              refine wpAny_take (i := 13) (v := undef) rfl (by kernel_rfl) (by kernel_rfl) (by kernel_rfl) (fun _ _ _ h => h) (Or.inr ⟨by rfl, rfl⟩) ?_
              try go_simp
              refine wpAny_take (i := 14) (v := ?_) rfl (by kernel_rfl) (by kernel_rfl) (by kernel_rfl) (fun _ _ _ h => h) (Or.inl ⟨by rfl, ?_⟩) ?_
              rotate_left
              · intro w; go_simp; try with_reducible rfl
              try go_simp
              refine wpAny_take (i := 15) (v := ?_) rfl (by kernel_rfl) (by kernel_rfl) (by kernel_rfl) (fun _ _ _ h => h) (Or.inl ⟨by rfl, ?_⟩) ?_
              rotate_left
              · intro w; go_simp; try with_reducible rfl
              try go_simp
              refine wpAny_ready (rs := [16]) (by kernel_rfl) (by simp) ?_
              refine AllReady.cons rfl (fun K hK => ?_) AllReady.nil
              go_simp
              refine hK _ _ ?_
              clear hK K
              refine wpAny_ready (rs := [17]) (by kernel_rfl) (by simp) ?_
              refine AllReady.cons rfl (fun K hK => ?_) AllReady.nil
              go_simp
              go_wp2_with (go_at_call 24; refine (fsound_walk y D cd _ hterm).mono ?_; rw [HS.out]; rintro e w12 ⟨rfl, hb12⟩; (have HX12 := Lib.hid (below_step HX10.out hb12)); clear hb12; (have hx12 := HX12.out); have b0 := pw_cell_below hx12 HBX.out.1; have b1 := pw_cell_below hx12 HBX.out.2.1; have b2 := pw_cell_below hx12 HBX.out.2.2; clear hx12)
              try (refine hK _ _ ?_; clear hK K)
              refine wpAny_take (i := 18) (v := ?_) rfl (by kernel_rfl) (by kernel_rfl) (by kernel_rfl) (fun _ _ _ h => h) (Or.inl ⟨by rfl, ?_⟩) ?_
              rotate_left
              · intro w; go_simp; try with_reducible rfl
              try go_simp
              refine wpAny_take (i := 19) (v := ?_) rfl (by kernel_rfl) (by kernel_rfl) (by kernel_rfl) (fun _ _ _ h => h) (Or.inl ⟨by rfl, ?_⟩) ?_
              rotate_left
              · intro w; go_simp; try with_reducible rfl
              try go_simp
              refine wpAny_take (i := 20) (v := ?_) rfl (by kernel_rfl) (by kernel_rfl) (by kernel_rfl) (fun _ _ _ h => h) (Or.inl ⟨by rfl, ?_⟩) ?_
              rotate_left
              · intro w; go_simp; try with_reducible rfl
              try go_simp
              refine wpAny_take (i := 21) (v := ?_) rfl (by kernel_rfl) (by kernel_rfl) (by kernel_rfl) (fun _ _ _ h => h) (Or.inl ⟨by rfl, ?_⟩) ?_
              rotate_left
              · intro w; go_simp; try with_reducible rfl
              try go_simp
              refine wpAny_take (i := 22) (v := ?_) rfl (by kernel_rfl) (by kernel_rfl) (by kernel_rfl) (fun _ _ _ h => h) (Or.inl ⟨by rfl, ?_⟩) ?_
              rotate_left
              · intro w; go_simp; try with_reducible rfl
              try go_simp
              refine wpAny_take (i := 23) (v := ?_) rfl (by kernel_rfl) (by kernel_rfl) (by kernel_rfl) (fun _ _ _ h => h) (Or.inl ⟨by rfl, ?_⟩) ?_
              rotate_left
              · intro w; go_simp; try with_reducible rfl
              try go_simp
              refine wpAny_take (i := 24) (v := ?_) rfl (by kernel_rfl) (by kernel_rfl) (by kernel_rfl) (fun _ _ _ h => h) (Or.inl ⟨by rfl, ?_⟩) ?_
              rotate_left
              · intro w; go_simp; try with_reducible rfl
              try go_simp
              refine wpAny_take (i := 25) (v := ?_) rfl (by kernel_rfl) (by kernel_rfl) (by kernel_rfl) (fun _ _ _ h => h) (Or.inl ⟨by rfl, ?_⟩) ?_
              rotate_left
              · intro w; go_simp; try with_reducible rfl
              try go_simp
              refine wpAny_take (i := 26) (v := ?_) rfl (by kernel_rfl) (by kernel_rfl) (by kernel_rfl) (fun _ _ _ h => h) (Or.inl ⟨by rfl, ?_⟩) ?_
              rotate_left
              · intro w; go_simp; try with_reducible rfl
              try go_simp
              refine wpAny_take (i := 27) (v := ?_) rfl (by kernel_rfl) (by kernel_rfl) (by kernel_rfl) (fun _ _ _ h => h) (Or.inl ⟨by rfl, ?_⟩) ?_
              rotate_left
              · intro w; go_simp; try with_reducible rfl
              try go_simp
              refine wpAny_take (i := 28) (v := ?_) rfl (by kernel_rfl) (by kernel_rfl) (by kernel_rfl) (fun _ _ _ h => h) (Or.inl ⟨by rfl, ?_⟩) ?_
              rotate_left
              · intro w; go_simp; try with_reducible rfl
              try go_simp
              refine wpAny_done (by kernel_rfl) ?_ _
              all_goals (go_wp2_with fail; go_meet; exact ⟨rfl, HX12.out⟩)
            case rest =>
            obtain ⟨rfl, hX9⟩ := hcut
            have HXE := Lib.hid hX9
            clear hX9 b0 b1 b2
            go_wp2
            go_roundw
            case rel => exact ⟨k + 1, by go_num, by omega, below_step HB5.out HXE.out, fun _ => (HC5.out.below HXE.out).mono (by have := HXE.out.size; have := World.block_lt_of_cell? _ _ HBX.out.1; simp only at this; omega)⟩
            case measure => simp [intOf]; omega
          | true =>
            have HS := Lib.hid hs
            have HL := Lib.hid (segline_ok i y D cd wr hi hs HR5.out)
            have HRL := Lib.hid (fun w h => rline_at (i : Int) i y D cd w rfl hi hs h)
            clear hs
            go_wp2_with fail
            refine (HL.out).mono ?_
            rintro e w6 ⟨A6, c6, rfl, hc6, hO6, hB6⟩
            have HX6 := Lib.hid hB6
            have HO6 := Lib.hid hO6
            clear hB6 hO6 HL
            clear b0 b1 b2
            have b0 := pw_cell_below HX6.out HBX.out.1
            have b1 := pw_cell_below HX6.out HBX.out.2.1
            have b2 := pw_cell_below HX6.out HBX.out.2.2
            go_wp2_with fail
            go_cut [100] (fun s100 wx => s100 = .bool false ∧ Below w6.heap.size w6 wx)
            case first =>
              have HYD := Lib.hid (below_drew (Below.refl w6.heap.size w6))
              have HXD := Lib.hid (below_drew HX6.out)
              have cv := conv_str (c := cd) (Kd.C_below HR5.out HXD.out)
              first
              | (go_region_with (first
                | (go_at_call 23; refine (sound_walk y D cd _ hterm).mono ?_; rw [HS.out]; rintro e w7 ⟨rfl, hb7⟩; (have HX7 := Lib.hid (below_step HXD.out hb7)); (have HY7 := Lib.hid (below_step HYD.out hb7)); clear hb7; (have hx7 := HX7.out); have b0 := pw_cell_below hx7 HBX.out.1; have b1 := pw_cell_below hx7 HBX.out.2.1; have b2 := pw_cell_below hx7 HBX.out.2.2; (have cv := conv_str (c := cd) (Kd.C_below HR5.out hx7)); clear hx7)
                | (go_at_call 24; refine (fsound_walk y D cd _ hterm).mono ?_; rw [HS.out]; rintro e w8 ⟨rfl, hb8⟩; (have HX8 := Lib.hid (below_step HX7.out hb8)); (have HY8 := Lib.hid (below_step HY7.out hb8)); clear hb8; (have hx8 := HX8.out); have b0 := pw_cell_below hx8 HBX.out.1; have b1 := pw_cell_below hx8 HBX.out.2.1; have b2 := pw_cell_below hx8 HBX.out.2.2; (have cv := conv_str (c := cd) (Kd.C_below HR5.out hx8)); clear hx8)))
              | fail
              all_goals (go_wp2_with fail; go_meet; exact ⟨rfl, HY8.out⟩)
            case rest =>
            obtain ⟨rfl, hX9⟩ := hcut
            have HO9 := Lib.hid (Kd.R_below HO6.out hX9)
            have HX9 := Lib.hid (below_step HX6.out hX9)
            clear hX9 b0 b1 b2 HX6 HO6
            have b0 := pw_cell_below HX9.out HBX.out.1
            have b1 := pw_cell_below HX9.out HBX.out.2.1
            have b2 := pw_cell_below HX9.out HBX.out.2.2
            go_wp2_with fail
            go_cut [129] (fun s129 wx => s129 = .bool false ∧ Below wc.heap.size wc wx)
            case first =>
              have HYD := Lib.hid (below_drew (Below.refl wc.heap.size wc))
              have HXD := Lib.hid (below_drew HX9.out)
              refine wp_region_any (by kernel_rfl) ?_
              try (change wpAny _ _ _ _ _ _ _ (World.drew _))
              refine wpAny_ready (rs := [0]) (by kernel_rfl) (by simp) ?_
              refine AllReady.cons rfl (fun K hK => ?_) AllReady.nil
              go_simp
              refine hK _ _ ?_
              clear hK K
              refine wpAny_ready (rs := [1]) (by kernel_rfl) (by simp) ?_
              refine AllReady.cons rfl (fun K hK => ?_) AllReady.nil
              go_simp
              go_wp2_with (go_at_call 24; refine (fsound_walk y D cd _ hterm).mono ?_; rw [HS.out]; rintro e w10 ⟨rfl, hb10⟩; (have HX10 := Lib.hid (below_step HXD.out hb10)); (have HY10 := Lib.hid (below_step HYD.out hb10)); clear hb10; (have hx10 := HX10.out); have b0 := pw_cell_below hx10 HBX.out.1; have b1 := pw_cell_below hx10 HBX.out.2.1; have b2 := pw_cell_below hx10 HBX.out.2.2; clear hx10; (have hy := HY10.out); (have cu := conv_str (c := c6) (OwB.reads (Kd.R_below HO9.out hy)).2.2); clear hy)
              try (refine hK _ _ ?_; clear hK K)
              refine wpAny_take (i := 2) (v := ?_) rfl (by kernel_rfl) (by kernel_rfl) (by kernel_rfl) (fun _ _ _ h => h) (Or.inl ⟨by rfl, ?_⟩) ?_
              rotate_left
              · intro w; go_simp; try with_reducible rfl
              try go_simp
              refine wpAny_take (i := 3) (v := ?_) rfl (by kernel_rfl) (by kernel_rfl) (by kernel_rfl) (fun _ _ _ h => h) (Or.inl ⟨by rfl, ?_⟩) ?_
              rotate_left
              · intro w; go_simp; try with_reducible rfl
              try go_simp
              refine wpAny_take (i := 4) (v := ?_) rfl (by kernel_rfl) (by kernel_rfl) (by kernel_rfl) (fun _ _ _ h => h) (Or.inl ⟨by rfl, ?_⟩) ?_
              rotate_left
              · intro w; go_simp; try with_reducible rfl
              try go_simp
              refine wpAny_take (i := 5) (v := ?_) rfl (by kernel_rfl) (by kernel_rfl) (by kernel_rfl) (fun _ _ _ h => h) (Or.inl ⟨by rfl, ?_⟩) ?_
              rotate_left
              · intro w; go_simp; try with_reducible rfl
              try go_simp
              refine wpAny_take (i := 6) (v := ?_) rfl (by kernel_rfl) (by kernel_rfl) (by kernel_rfl) (fun _ _ _ h => h) (Or.inl ⟨by rfl, ?_⟩) ?_
              rotate_left
              · intro w; go_simp; try with_reducible rfl
              try go_simp
              refine wpAny_take (i := 8) (v := ?_) rfl (by kernel_rfl) (by kernel_rfl) (by kernel_rfl) (fun _ _ _ h => h) (Or.inl ⟨by rfl, ?_⟩) ?_
              rotate_left
              · intro w; go_simp; try with_reducible rfl
              try go_simp
              refine wpAny_ready (rs := [7, 9]) (by kernel_rfl) (by simp) ?_
              refine AllReady.cons rfl (fun K hK => ?_) (AllReady.cons rfl (fun K hK => ?_) AllReady.nil)
              · go_simp
                refine hK _ _ ?_
                clear hK K
                refine wpAny_ready (rs := [9]) (by kernel_rfl) (by simp) ?_
                refine AllReady.cons rfl (fun K hK => ?_) AllReady.nil
                go_simp
                refine hK _ _ ?_
                clear hK K
                refine wpAny_ready (rs := [10]) (by kernel_rfl) (by simp) ?_
                refine AllReady.cons rfl (fun K hK => ?_) AllReady.nil
                go_simp
                go_wp2_with (go_at_call 14; refine (HRL.out _ (Kd.C_below HR5.out HX10.out)).mono ?_; rintro e w11 ⟨A11, c11, rfl, hc11, hO11, hb11⟩; (have HX11 := Lib.hid (below_step HX10.out hb11)); (have HY11 := Lib.hid (below_step HY10.out hb11)); (have cz := conv_str (c := c11) (OwB.reads hO11).2.2); (have hy := HY11.out); have cu := conv_str (c := c6) (OwB.reads (Kd.R_below HO9.out hy)).2.2; clear hy hO11 hb11; (have hx11 := HX11.out); have b0 := pw_cell_below hx11 HBX.out.1; have b1 := pw_cell_below hx11 HBX.out.2.1; have b2 := pw_cell_below hx11 HBX.out.2.2; clear hx11)
                try (refine hK _ _ ?_; clear hK K)
                refine wpAny_ready (rs := [11]) (by kernel_rfl) (by simp) ?_
                refine AllReady.cons rfl (fun K hK => ?_) AllReady.nil
                go_simp
                refine hK _ _ ?_
                clear hK K
                refine wpAny_take (i := 12) (v := ?_) rfl (by kernel_rfl) (by kernel_rfl) (by kernel_rfl) (fun _ _ _ h => h) (Or.inl ⟨by rfl, ?_⟩) ?_
                rotate_left
                · intro w; go_simp; try with_reducible rfl
                try go_simp
                refine wpAny_take (i := 13) (v := ?_) rfl (by kernel_rfl) (by kernel_rfl) (by kernel_rfl) (fun _ _ _ h => h) (Or.inl ⟨by rfl, ?_⟩) ?_
                rotate_left
                · intro w; go_simp; try with_reducible rfl
                try go_simp
                refine wpAny_take (i := 14) (v := ?_) rfl (by kernel_rfl) (by kernel_rfl) (by kernel_rfl) (fun _ _ _ h => h) (Or.inl ⟨by rfl, ?_⟩) ?_
                rotate_left
                · intro w; go_simp; try with_reducible rfl
                try go_simp
                refine wpAny_take (i := 15) (v := ?_) rfl (by kernel_rfl) (by kernel_rfl) (by kernel_rfl) (fun _ _ _ h => h) (Or.inl ⟨by rfl, ?_⟩) ?_
                rotate_left
                · intro w; go_simp; try with_reducible rfl
                try go_simp
                refine wpAny_ready (rs := [16]) (by kernel_rfl) (by simp) ?_
                refine AllReady.cons rfl (fun K hK => ?_) AllReady.nil
                go_simp
                refine hK _ _ ?_
                clear hK K
                refine wpAny_ready (rs := [17]) (by kernel_rfl) (by simp) ?_
                refine AllReady.cons rfl (fun K hK => ?_) AllReady.nil
                go_simp
                go_wp2_with (go_at_call 24; refine (fsound_walk y D cd _ hterm).mono ?_; rw [HS.out]; rintro e w12 ⟨rfl, hb12⟩; (have HX12 := Lib.hid (below_step HX11.out hb12)); (have HY12 := Lib.hid (below_step HY11.out hb12)); clear hb12; (have hx12 := HX12.out); have b0 := pw_cell_below hx12 HBX.out.1; have b1 := pw_cell_below hx12 HBX.out.2.1; have b2 := pw_cell_below hx12 HBX.out.2.2; clear hx12)
                try (refine hK _ _ ?_; clear hK K)
                refine wpAny_take (i := 18) (v := ?_) rfl (by kernel_rfl) (by kernel_rfl) (by kernel_rfl) (fun _ _ _ h => h) (Or.inl ⟨by rfl, ?_⟩) ?_
                rotate_left
                · intro w; go_simp; try with_reducible rfl
                try go_simp
                refine wpAny_take (i := 19) (v := ?_) rfl (by kernel_rfl) (by kernel_rfl) (by kernel_rfl) (fun _ _ _ h => h) (Or.inl ⟨by rfl, ?_⟩) ?_
                rotate_left
                · intro w; go_simp; try with_reducible rfl
                try go_simp
                refine wpAny_take (i := 20) (v := undef) rfl (by kernel_rfl) (by kernel_rfl) (by kernel_rfl) (fun _ _ _ h => h) (Or.inr ⟨by rfl, rfl⟩) ?_
                try go_simp
                refine wpAny_take (i := 21) (v := undef) rfl (by kernel_rfl) (by kernel_rfl) (by kernel_rfl) (fun _ _ _ h => h) (Or.inr ⟨by rfl, rfl⟩) ?_
                try go_simp
                refine wpAny_take (i := 22) (v := undef) rfl (by kernel_rfl) (by kernel_rfl) (by kernel_rfl) (fun _ _ _ h => h) (Or.inr ⟨by rfl, rfl⟩) ?_
                try go_simp
                refine wpAny_take (i := 23) (v := undef) rfl (by kernel_rfl) (by kernel_rfl) (by kernel_rfl) (fun _ _ _ h => h) (Or.inr ⟨by rfl, rfl⟩) ?_
                try go_simp
                refine wpAny_take (i := 24) (v := undef) rfl (by kernel_rfl) (by kernel_rfl) (by kernel_rfl) (fun _ _ _ h => h) (Or.inr ⟨by rfl, rfl⟩) ?_
                try go_simp
                refine wpAny_take (i := 25) (v := undef) rfl (by kernel_rfl) (by kernel_rfl) (by kernel_rfl) (fun _ _ _ h => h) (Or.inr ⟨by rfl, rfl⟩) ?_
                try go_simp
                refine wpAny_take (i := 26) (v := undef) rfl (by kernel_rfl) (by kernel_rfl) (by kernel_rfl) (fun _ _ _ h => h) (Or.inr ⟨by rfl, rfl⟩) ?_
                try go_simp
                refine wpAny_take (i := 27) (v := ?_) rfl (by kernel_rfl) (by kernel_rfl) (by kernel_rfl) (fun _ _ _ h => h) (Or.inl ⟨by rfl, ?_⟩) ?_
                rotate_left
                · intro w; go_simp; try with_reducible rfl
                try go_simp
                refine wpAny_take (i := 28) (v := ?_) rfl (by kernel_rfl) (by kernel_rfl) (by kernel_rfl) (fun _ _ _ h => h) (Or.inl ⟨by rfl, ?_⟩) ?_
                rotate_left
                · intro w; go_simp; try with_reducible rfl
                try go_simp
                refine wpAny_done (by kernel_rfl) ?_ _
                go_wp2_with fail
                go_meet
                exact ⟨rfl, HY12.out⟩
              · go_simp
                refine hK _ _ ?_
                clear hK K
                refine wpAny_ready (rs := [7, 10]) (by kernel_rfl) (by simp) ?_
                refine AllReady.cons rfl (fun K hK => ?_) (AllReady.cons rfl (fun K hK => ?_) AllReady.nil)
                · go_simp
                  refine hK _ _ ?_
                  clear hK K
                  refine wpAny_ready (rs := [10]) (by kernel_rfl) (by simp) ?_
                  refine AllReady.cons rfl (fun K hK => ?_) AllReady.nil
                  go_simp
                  go_wp2_with (go_at_call 14; refine (HRL.out _ (Kd.C_below HR5.out HX10.out)).mono ?_; rintro e w11 ⟨A11, c11, rfl, hc11, hO11, hb11⟩; (have HX11 := Lib.hid (below_step HX10.out hb11)); (have HY11 := Lib.hid (below_step HY10.out hb11)); (have cz := conv_str (c := c11) (OwB.reads hO11).2.2); (have hy := HY11.out); have cu := conv_str (c := c6) (OwB.reads (Kd.R_below HO9.out hy)).2.2; clear hy hO11 hb11; (have hx11 := HX11.out); have b0 := pw_cell_below hx11 HBX.out.1; have b1 := pw_cell_below hx11 HBX.out.2.1; have b2 := pw_cell_below hx11 HBX.out.2.2; clear hx11)
                  try (refine hK _ _ ?_; clear hK K)
                  refine wpAny_ready (rs := [11]) (by kernel_rfl) (by simp) ?_
                  refine AllReady.cons rfl (fun K hK => ?_) AllReady.nil
                  go_simp
                  refine hK _ _ ?_
                  clear hK K
                  refine wpAny_take (i := 12) (v := ?_) rfl (by kernel_rfl) (by kernel_rfl) (by kernel_rfl) (fun _ _ _ h => h) (Or.inl ⟨by rfl, ?_⟩) ?_
                  rotate_left
                  · intro w; go_simp; try with_reducible rfl
                  try go_simp
                  refine wpAny_take (i := 13) (v := ?_) rfl (by kernel_rfl) (by kernel_rfl) (by kernel_rfl) (fun _ _ _ h => h) (Or.inl ⟨by rfl, ?_⟩) ?_
                  rotate_left
                  · intro w; go_simp; try with_reducible rfl
                  try go_simp
                  refine wpAny_take (i := 14) (v := ?_) rfl (by kernel_rfl) (by kernel_rfl) (by kernel_rfl) (fun _ _ _ h => h) (Or.inl ⟨by rfl, ?_⟩) ?_
                  rotate_left
                  · intro w; go_simp; try with_reducible rfl
                  try go_simp
                  refine wpAny_take (i := 15) (v := ?_) rfl (by kernel_rfl) (by kernel_rfl) (by kernel_rfl) (fun _ _ _ h => h) (Or.inl ⟨by rfl, ?_⟩) ?_
                  rotate_left
                  · intro w; go_simp; try with_reducible rfl
                  try go_simp
                  refine wpAny_ready (rs := [16]) (by kernel_rfl) (by simp) ?_
                  refine AllReady.cons rfl (fun K hK => ?_) AllReady.nil
                  go_simp
                  refine hK _ _ ?_
                  clear hK K
                  refine wpAny_ready (rs := [17]) (by kernel_rfl) (by simp) ?_
                  refine AllReady.cons rfl (fun K hK => ?_) AllReady.nil
                  go_simp
                  go_wp2_with (go_at_call 24; refine (fsound_walk y D cd _ hterm).mono ?_; rw [HS.out]; rintro e w12 ⟨rfl, hb12⟩; (have HX12 := Lib.hid (below_step HX11.out hb12)); (have HY12 := Lib.hid (below_step HY11.out hb12)); clear hb12; (have hx12 := HX12.out); have b0 := pw_cell_below hx12 HBX.out.1; have b1 := pw_cell_below hx12 HBX.out.2.1; have b2 := pw_cell_below hx12 HBX.out.2.2; clear hx12)
                  try (refine hK _ _ ?_; clear hK K)
                  refine wpAny_take (i := 18) (v := ?_) rfl (by kernel_rfl) (by kernel_rfl) (by kernel_rfl) (fun _ _ _ h => h) (Or.inl ⟨by rfl, ?_⟩) ?_
                  rotate_left
                  · intro w; go_simp; try with_reducible rfl
                  try go_simp
                  refine wpAny_take (i := 19) (v := ?_) rfl (by kernel_rfl) (by kernel_rfl) (by kernel_rfl) (fun _ _ _ h => h) (Or.inl ⟨by rfl, ?_⟩) ?_
                  rotate_left
                  · intro w; go_simp; try with_reducible rfl
                  try go_simp
                  refine wpAny_take (i := 20) (v := undef) rfl (by kernel_rfl) (by kernel_rfl) (by kernel_rfl) (fun _ _ _ h => h) (Or.inr ⟨by rfl, rfl⟩) ?_
                  try go_simp
                  refine wpAny_take (i := 21) (v := undef) rfl (by kernel_rfl) (by kernel_rfl) (by kernel_rfl) (fun _ _ _ h => h) (Or.inr ⟨by rfl, rfl⟩) ?_
                  try go_simp
                  refine wpAny_take (i := 22) (v := undef) rfl (by kernel_rfl) (by kernel_rfl) (by kernel_rfl) (fun _ _ _ h => h) (Or.inr ⟨by rfl, rfl⟩) ?_
                  try go_simp
                  refine wpAny_take (i := 23) (v := undef) rfl (by kernel_rfl) (by kernel_rfl) (by kernel_rfl) (fun _ _ _ h => h) (Or.inr ⟨by rfl, rfl⟩) ?_
                  try go_simp
                  refine wpAny_take (i := 24) (v := undef) rfl (by kernel_rfl) (by kernel_rfl) (by kernel_rfl) (fun _ _ _ h => h) (Or.inr ⟨by rfl, rfl⟩) ?_
                  try go_simp
                  refine wpAny_take (i := 25) (v := undef) rfl (by kernel_rfl) (by kernel_rfl) (by kernel_rfl) (fun _ _ _ h => h) (Or.inr ⟨by rfl, rfl⟩) ?_
                  try go_simp
                  refine wpAny_take (i := 26) (v := undef) rfl (by kernel_rfl) (by kernel_rfl) (by kernel_rfl) (fun _ _ _ h => h) (Or.inr ⟨by rfl, rfl⟩) ?_
                  try go_simp
                  refine wpAny_take (i := 27) (v := ?_) rfl (by kernel_rfl) (by kernel_rfl) (by kernel_rfl) (fun _ _ _ h => h) (Or.inl ⟨by rfl, ?_⟩) ?_
                  rotate_left
                  · intro w; go_simp; try with_reducible rfl
                  try go_simp
                  refine wpAny_take (i := 28) (v := ?_) rfl (by kernel_rfl) (by kernel_rfl) (by kernel_rfl) (fun _ _ _ h => h) (Or.inl ⟨by rfl, ?_⟩) ?_
                  rotate_left
                  · intro w; go_simp; try with_reducible rfl
                  try go_simp
                  refine wpAny_done (by kernel_rfl) ?_ _
                  go_wp2_with fail
                  go_meet
                  exact ⟨rfl, HY12.out⟩
                · go_simp
                  go_wp2_with (go_at_call 14; refine (HRL.out _ (Kd.C_below HR5.out HX10.out)).mono ?_; rintro e w11 ⟨A11, c11, rfl, hc11, hO11, hb11⟩; (have HX11 := Lib.hid (below_step HX10.out hb11)); (have HY11 := Lib.hid (below_step HY10.out hb11)); (have cz := conv_str (c := c11) (OwB.reads hO11).2.2); (have hy := HY11.out); have cu := conv_str (c := c6) (OwB.reads (Kd.R_below HO9.out hy)).2.2; clear hy hO11 hb11; (have hx11 := HX11.out); have b0 := pw_cell_below hx11 HBX.out.1; have b1 := pw_cell_below hx11 HBX.out.2.1; have b2 := pw_cell_below hx11 HBX.out.2.2; clear hx11)
                  try (refine hK _ _ ?_; clear hK K)
                  refine wpAny_ready (rs := [7, 11]) (by kernel_rfl) (by simp) ?_
                  refine AllReady.cons rfl (fun K hK => ?_) (AllReady.cons rfl (fun K hK => ?_) AllReady.nil)
                  · go_simp
                    refine hK _ _ ?_
                    clear hK K
                    refine wpAny_ready (rs := [11]) (by kernel_rfl) (by simp) ?_
                    refine AllReady.cons rfl (fun K hK => ?_) AllReady.nil
                    go_simp
                    refine hK _ _ ?_
                    clear hK K
                    refine wpAny_take (i := 12) (v := ?_) rfl (by kernel_rfl) (by kernel_rfl) (by kernel_rfl) (fun _ _ _ h => h) (Or.inl ⟨by rfl, ?_⟩) ?_
                    rotate_left
                    · intro w; go_simp; try with_reducible rfl
                    try go_simp
                    refine wpAny_take (i := 13) (v := ?_) rfl (by kernel_rfl) (by kernel_rfl) (by kernel_rfl) (fun _ _ _ h => h) (Or.inl ⟨by rfl, ?_⟩) ?_
                    rotate_left
                    · intro w; go_simp; try with_reducible rfl
                    try go_simp
                    refine wpAny_take (i := 14) (v := ?_) rfl (by kernel_rfl) (by kernel_rfl) (by kernel_rfl) (fun _ _ _ h => h) (Or.inl ⟨by rfl, ?_⟩) ?_
                    rotate_left
                    · intro w; go_simp; try with_reducible rfl
                    try go_simp
                    refine wpAny_take (i := 15) (v := ?_) rfl (by kernel_rfl) (by kernel_rfl) (by kernel_rfl) (fun _ _ _ h => h) (Or.inl ⟨by rfl, ?_⟩) ?_
                    rotate_left
                    · intro w; go_simp; try with_reducible rfl
                    try go_simp
                    refine wpAny_ready (rs := [16]) (by kernel_rfl) (by simp) ?_
                    refine AllReady.cons rfl (fun K hK => ?_) AllReady.nil
                    go_simp
                    refine hK _ _ ?_
                    clear hK K
                    refine wpAny_ready (rs := [17]) (by kernel_rfl) (by simp) ?_
                    refine AllReady.cons rfl (fun K hK => ?_) AllReady.nil
                    go_simp
                    go_wp2_with (go_at_call 24; refine (fsound_walk y D cd _ hterm).mono ?_; rw [HS.out]; rintro e w12 ⟨rfl, hb12⟩; (have HX12 := Lib.hid (below_step HX11.out hb12)); (have HY12 := Lib.hid (below_step HY11.out hb12)); clear hb12; (have hx12 := HX12.out); have b0 := pw_cell_below hx12 HBX.out.1; have b1 := pw_cell_below hx12 HBX.out.2.1; have b2 := pw_cell_below hx12 HBX.out.2.2; clear hx12)
                    try (refine hK _ _ ?_; clear hK K)
                    refine wpAny_take (i := 18) (v := ?_) rfl (by kernel_rfl) (by kernel_rfl) (by kernel_rfl) (fun _ _ _ h => h) (Or.inl ⟨by rfl, ?_⟩) ?_
                    rotate_left
                    · intro w; go_simp; try with_reducible rfl
                    try go_simp
                    refine wpAny_take (i := 19) (v := ?_) rfl (by kernel_rfl) (by kernel_rfl) (by kernel_rfl) (fun _ _ _ h => h) (Or.inl ⟨by rfl, ?_⟩) ?_
                    rotate_left
                    · intro w; go_simp; try with_reducible rfl
                    try go_simp
                    refine wpAny_take (i := 20) (v := undef) rfl (by kernel_rfl) (by kernel_rfl) (by kernel_rfl) (fun _ _ _ h => h) (Or.inr ⟨by rfl, rfl⟩) ?_
                    try go_simp
                    refine wpAny_take (i := 21) (v := undef) rfl (by kernel_rfl) (by kernel_rfl) (by kernel_rfl) (fun _ _ _ h => h) (Or.inr ⟨by rfl, rfl⟩) ?_
                    try go_simp
                    refine wpAny_take (i := 22) (v := undef) rfl (by kernel_rfl) (by kernel_rfl) (by kernel_rfl) (fun _ _ _ h => h) (Or.inr ⟨by rfl, rfl⟩) ?_
                    try go_simp
                    refine wpAny_take (i := 23) (v := undef) rfl (by kernel_rfl) (by kernel_rfl) (by kernel_rfl) (fun _ _ _ h => h) (Or.inr ⟨by rfl, rfl⟩) ?_
                    try go_simp
                    refine wpAny_take (i := 24) (v := undef) rfl (by kernel_rfl) (by kernel_rfl) (by kernel_rfl) (fun _ _ _ h => h) (Or.inr ⟨by rfl, rfl⟩) ?_
                    try go_simp
                    refine wpAny_take (i := 25) (v := undef) rfl (by kernel_rfl) (by kernel_rfl) (by kernel_rfl) (fun _ _ _ h => h) (Or.inr ⟨by rfl, rfl⟩) ?_
                    try go_simp
                    refine wpAny_take (i := 26) (v := undef) rfl (by kernel_rfl) (by kernel_rfl) (by kernel_rfl) (fun _ _ _ h => h) (Or.inr ⟨by rfl, rfl⟩) ?_
                    try go_simp
                    refine wpAny_take (i := 27) (v := ?_) rfl (by kernel_rfl) (by kernel_rfl) (by kernel_rfl) (fun _ _ _ h => h) (Or.inl ⟨by rfl, ?_⟩) ?_
                    rotate_left
                    · intro w; go_simp; try with_reducible rfl
                    try go_simp
                    refine wpAny_take (i := 28) (v := ?_) rfl (by kernel_rfl) (by kernel_rfl) (by kernel_rfl) (fun _ _ _ h => h) (Or.inl ⟨by rfl, ?_⟩) ?_
                    rotate_left
                    · intro w; go_simp; try with_reducible rfl
                    try go_simp
                    refine wpAny_done (by kernel_rfl) ?_ _
                    go_wp2_with fail
                    go_meet
                    exact ⟨rfl, HY12.out⟩
                  · go_simp
                    refine hK _ _ ?_
                    clear hK K
                    refine wpAny_ready (rs := [7]) (by kernel_rfl) (by simp) ?_
                    refine AllReady.cons rfl (fun K hK => ?_) AllReady.nil
                    go_simp
                    refine hK _ _ ?_
                    clear hK K
                    refine wpAny_take (i := 12) (v := ?_) rfl (by kernel_rfl) (by kernel_rfl) (by kernel_rfl) (fun _ _ _ h => h) (Or.inl ⟨by rfl, ?_⟩) ?_
                    rotate_left
                    · intro w; go_simp; try with_reducible rfl
                    try go_simp
                    refine wpAny_take (i := 13) (v := ?_) rfl (by kernel_rfl) (by kernel_rfl) (by kernel_rfl) (fun _ _ _ h => h) (Or.inl ⟨by rfl, ?_⟩) ?_
                    rotate_left
                    · intro w; go_simp; try with_reducible rfl
                    try go_simp
                    refine wpAny_take (i := 14) (v := ?_) rfl (by kernel_rfl) (by kernel_rfl) (by kernel_rfl) (fun _ _ _ h => h) (Or.inl ⟨by rfl, ?_⟩) ?_
                    rotate_left
                    · intro w; go_simp; try with_reducible rfl
                    try go_simp
                    refine wpAny_take (i := 15) (v := ?_) rfl (by kernel_rfl) (by kernel_rfl) (by kernel_rfl) (fun _ _ _ h => h) (Or.inl ⟨by rfl, ?_⟩) ?_
                    rotate_left
                    · intro w; go_simp; try with_reducible rfl
                    try go_simp
                    refine wpAny_ready (rs := [16]) (by kernel_rfl) (by simp) ?_
                    refine AllReady.cons rfl (fun K hK => ?_) AllReady.nil
                    go_simp
                    refine hK _ _ ?_
                    clear hK K
                    refine wpAny_ready (rs := [17]) (by kernel_rfl) (by simp) ?_
                    refine AllReady.cons rfl (fun K hK => ?_) AllReady.nil
                    go_simp
                    go_wp2_with (go_at_call 24; refine (fsound_walk y D cd _ hterm).mono ?_; rw [HS.out]; rintro e w12 ⟨rfl, hb12⟩; (have HX12 := Lib.hid (below_step HX11.out hb12)); (have HY12 := Lib.hid (below_step HY11.out hb12)); clear hb12; (have hx12 := HX12.out); have b0 := pw_cell_below hx12 HBX.out.1; have b1 := pw_cell_below hx12 HBX.out.2.1; have b2 := pw_cell_below hx12 HBX.out.2.2; clear hx12)
                    try (refine hK _ _ ?_; clear hK K)
                    refine wpAny_take (i := 18) (v := ?_) rfl (by kernel_rfl) (by kernel_rfl) (by kernel_rfl) (fun _ _ _ h => h) (Or.inl ⟨by rfl, ?_⟩) ?_
                    rotate_left
                    · intro w; go_simp; try with_reducible rfl
                    try go_simp
                    refine wpAny_take (i := 19) (v := ?_) rfl (by kernel_rfl) (by kernel_rfl) (by kernel_rfl) (fun _ _ _ h => h) (Or.inl ⟨by rfl, ?_⟩) ?_
                    rotate_left
                    · intro w; go_simp; try with_reducible rfl
                    try go_simp
                    refine wpAny_take (i := 20) (v := undef) rfl (by kernel_rfl) (by kernel_rfl) (by kernel_rfl) (fun _ _ _ h => h) (Or.inr ⟨by rfl, rfl⟩) ?_
                    try go_simp
                    refine wpAny_take (i := 21) (v := undef) rfl (by kernel_rfl) (by kernel_rfl) (by kernel_rfl) (fun _ _ _ h => h) (Or.inr ⟨by rfl, rfl⟩) ?_
                    try go_simp
                    refine wpAny_take (i := 22) (v := undef) rfl (by kernel_rfl) (by kernel_rfl) (by kernel_rfl) (fun _ _ _ h => h) (Or.inr ⟨by rfl, rfl⟩) ?_
                    try go_simp
                    refine wpAny_take (i := 23) (v := undef) rfl (by kernel_rfl) (by kernel_rfl) (by kernel_rfl) (fun _ _ _ h => h) (Or.inr ⟨by rfl, rfl⟩) ?_
                    try go_simp
                    refine wpAny_take (i := 24) (v := undef) rfl (by kernel_rfl) (by kernel_rfl) (by kernel_rfl) (fun _ _ _ h => h) (Or.inr ⟨by rfl, rfl⟩) ?_
                    try go_simp
                    refine wpAny_take (i := 25) (v := undef) rfl (by kernel_rfl) (by kernel_rfl) (by kernel_rfl) (fun _ _ _ h => h) (Or.inr ⟨by rfl, rfl⟩) ?_
                    try go_simp
                    refine wpAny_take (i := 26) (v := undef) rfl (by kernel_rfl) (by kernel_rfl) (by kernel_rfl) (fun _ _ _ h => h) (Or.inr ⟨by rfl, rfl⟩) ?_
                    try go_simp
                    refine wpAny_take (i := 27) (v := ?_) rfl (by kernel_rfl) (by kernel_rfl) (by kernel_rfl) (fun _ _ _ h => h) (Or.inl ⟨by rfl, ?_⟩) ?_
                    rotate_left
                    · intro w; go_simp; try with_reducible rfl
                    try go_simp
                    refine wpAny_take (i := 28) (v := ?_) rfl (by kernel_rfl) (by kernel_rfl) (by kernel_rfl) (fun _ _ _ h => h) (Or.inl ⟨by rfl, ?_⟩) ?_
                    rotate_left
                    · intro w; go_simp; try with_reducible rfl
                    try go_simp
                    refine wpAny_done (by kernel_rfl) ?_ _
                    go_wp2_with fail
                    go_meet
                    exact ⟨rfl, HY12.out⟩
            case rest =>
            obtain ⟨rfl, hX9⟩ := hcut
            have HXE := Lib.hid (below_step HX9.out hX9)
            clear hX9 b0 b1 b2
            go_wp2
            go_roundw
            case rel => exact ⟨k + 1, by go_num, by omega, below_step HB5.out HXE.out, fun _ => (HC5.out.below HXE.out).mono (by have := HXE.out.size; have := World.block_lt_of_cell? _ _ HBX.out.1; simp only at this; omega)⟩
            case measure => simp [intOf]; omega
    · have hi1 : ¬ (k : Int) < (es.length : Int) := by omega
      go_wp2_with (go_at_call 7; refine (lives24_walk _).mono ?_; rintro e w10 ⟨rfl, hb10⟩)
      go_ret
      exact ⟨rfl, below_step HBR.out hb10⟩
theorem u64n {s : Int} (hs : (Lit.int .u64 s).wf = true) : ∃ n : Nat, s = n ∧ n < 18446744073709551616 := by
  have h1 : IntKind.u64.min = 0 := rfl
  have h2 : IntKind.u64.max = 18446744073709551615 := rfl
  simp only [Lit.wf, Bool.and_eq_true, decide_eq_true_eq] at hs
  obtain ⟨n, rfl⟩ := Int.eq_ofNat_of_zero_le (show 0 ≤ s by omega)
  exact ⟨n, rfl, by omega⟩
set_option maxRecDepth 100000 in
set_option maxHeartbeats 4000000 in
theorem segmentWrites_law (i : Int) (A : Option Addr) (c : Nat) (es : List Ent) (B : Option Addr) (d : Nat) (fs : List Ent) (x : Int) (w : World) (hiw : (Lit.int .u64 i).wf = true) (hC : KE.C w A es.length es) (hc : es.length ≤ c) (hok : ∀ x ∈ es, entOk x) (hD : KE.C w B fs.length fs) (hd : fs.length ≤ d) (hokb : ∀ x ∈ fs, entOk x) (hx : (Lit.int .u8 x).wf = true) :
    Calls Try.prog 6 #[.int .u64 i, .slice A es.length c, .slice B fs.length d, .int .u8 x] w fun e w' => e = .returned (.bool true) ∧ Below w.heap.size w w' := by
  obtain ⟨i, rfl, hi⟩ := u64n hiw
  cases hla : lightB es with
  | false =>
    have HLA := Lib.hid (light_walk A c es w hC)
    have HLI := Lib.hid hla
    clear hla hC hD hok hokb
    go_enter Try.func6, Try.ntmps6
    go_wp2_with fail
    refine (HLA.out).mono ?_
    rw [HLI.out]
    rintro e w1 ⟨rfl, hB1⟩
    go_wp2_with (go_at_call 7; refine (lives24_walk _).mono ?_; rintro e w5 ⟨rfl, hb5⟩)
    go_ret
    exact ⟨rfl, below_step hB1 hb5⟩
  | true =>
    cases hlb : lightB fs with
    | true => exact segmentWrites_main i A c es B d fs x w hi hC hc hok hD hla hlb hx
    | false =>
      have HLA := Lib.hid (light_walk A c es w hC)
      have HLB := Lib.hid (fun w h => light_walk B d fs w h)
      have HLI := Lib.hid hla
      have HLJ := Lib.hid hlb
      have HD := Lib.hid hD
      clear hla hlb hC hD hok hokb
      go_enter Try.func6, Try.ntmps6
      go_wp2_with fail
      refine (HLA.out).mono ?_
      rw [HLI.out]
      rintro e w1 ⟨rfl, hB1⟩
      have HB1 := Lib.hid hB1
      clear hB1
      go_wp2_with fail
      refine (HLB.out _ (Kd.C_below HD.out HB1.out)).mono ?_
      rw [HLJ.out]
      rintro e w2 ⟨rfl, hB2⟩
      have HB2 := Lib.hid (below_step HB1.out hB2)
      clear hB2
      go_wp2_with (go_at_call 7; refine (lives24_walk _).mono ?_; rintro e w5 ⟨rfl, hb5⟩)
      go_ret
      exact ⟨rfl, below_step HB2.out hb5⟩
end Go.Proofs.Ytakneimkadjiiaa
