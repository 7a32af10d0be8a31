/- Rows of numbers: slices.Equal; members; snapshots that are sound, and the same. -/
import Derived.Test.YtoccidpocagkjaaMrd
import Derived.Test.YtoccidpocagkjaaSme
import Derived.WalkMore
set_option linter.unusedVariables false
set_option linter.unusedSimpArgs false
namespace Go.Proofs.Ytoccidpocagkjaa
open Go.RowKit Go.Proofs.YtoccidpocagkjaaW.PrintWords Cf
attribute [local go_sem] str_beq str_bne

theorem KI_cells {w : World} {A : Option Addr} {n : Nat} {xs : List Int} (h : KI.C w A n xs) (hp : 0 < xs.length) : ∃ b off, A = some ⟨b, off, none⟩ ∧ ∀ (k : Nat) (hk : k < xs.length), w.cell? ⟨b, off + k, none⟩ = some (.int .i64 xs[k]) := by
  have at_ : ∀ (k : Nat) (hk : k < xs.length), ∃ ad, A = some ad ∧ w.cell? (ad.add k) = some (.int .i64 xs[k]) := fun k hk => by
    obtain ⟨ad, e, hc⟩ := ReadsOf.at_ (Kd.reads_of_C (enc := fun n : Int => Value.int .i64 n) (d := (0 : Int)) (h1 := fun _ => rfl) h) (k : Int) (by omega) (by rw [← h.1]; omega)
    refine ⟨ad, e, ?_⟩
    simpa [rdOf, List.getD_eq_getElem?_getD, hk] using hc
  obtain ⟨⟨b, off, spot⟩, e, h0⟩ := at_ 0 hp
  have hs : spot = none := by simpa [Addr.add] using World.cell?_spot h0
  subst hs
  refine ⟨b, off, e, fun k hk => ?_⟩
  obtain ⟨ad, e', hc⟩ := at_ k hk
  rw [e] at e'
  injection e' with e'
  subst e'
  rwa [add_off] at hc
theorem KU_cells {w : World} {A : Option Addr} {n : Nat} {xs : List Nat} (h : KU.C w A n xs) (hp : 0 < xs.length) : ∃ b off, A = some ⟨b, off, none⟩ ∧ ∀ (k : Nat) (hk : k < xs.length), w.cell? ⟨b, off + k, none⟩ = some (.int .u64 ((xs[k] : Nat) : Int)) := by
  have at_ : ∀ (k : Nat) (hk : k < xs.length), ∃ ad, A = some ad ∧ w.cell? (ad.add k) = some (.int .u64 ((xs[k] : Nat) : Int)) := fun k hk => by
    obtain ⟨ad, e, hc⟩ := ReadsOf.at_ (Kd.reads_of_C (enc := fun n : Nat => Value.int .u64 (n : Int)) (d := (0 : Nat)) (h1 := fun _ => rfl) h) (k : Int) (by omega) (by rw [← h.1]; omega)
    refine ⟨ad, e, ?_⟩
    simpa [rdOf, List.getD_eq_getElem?_getD, hk] using hc
  obtain ⟨⟨b, off, spot⟩, e, h0⟩ := at_ 0 hp
  have hs : spot = none := by simpa [Addr.add] using World.cell?_spot h0
  subst hs
  refine ⟨b, off, e, fun k hk => ?_⟩
  obtain ⟨ad, e', hc⟩ := at_ k hk
  rw [e] at e'
  injection e' with e'
  subst e'
  rwa [add_off] at hc
theorem take_eq_step {α : Type} {a b : List α} {k : Nat} (h : a.take k = b.take k) (ha : k < a.length) (hb : k < b.length) (e : a[k] = b[k]) : a.take (k + 1) = b.take (k + 1) := by
  rw [List.take_succ_eq_append_getElem ha, List.take_succ_eq_append_getElem hb, h, e]
set_option maxHeartbeats 4000000 in
theorem eqint_walk (A B : Option Addr) (n m c d : Nat) (a b : List Int) (w : World) (hA : KI.C w A n a) (hB : KI.C w B m b) :
    Calls Try.prog 57 #[.slice A n c, .slice B m d] w fun e w' => e = .returned (.bool (decide (a = b))) ∧ Below w.heap.size w w' := by
  obtain rfl : a.length = n := hA.1
  obtain rfl : b.length = m := hB.1
  have HA := Lib.hid hA
  have HB := Lib.hid hB
  have hm := Kd.C_max hA
  have hm2 := Kd.C_max hB
  clear hA hB
  by_cases hl : a.length = b.length
  · have HL := Lib.hid hl
    have hli : ((a.length : Int) != (b.length : Int)) = false := by rw [bne_eq_false_iff_eq]; omega
    clear hl
    go_enter Try.func57, Try.ntmps57
    go_wp2_with fail
    go_loopw [13] (fun i wr => ∃ k : Nat, i = .int .i64 k ∧ k ≤ a.length ∧ a.take k = b.take k ∧ ∃ n, wr = w.drewN n)
      (fun i _ => a.length - (intOf i).toNat)
    case atStart => exact ⟨0, rfl, Nat.zero_le _, rfl, 0, rfl⟩
    case round =>
      obtain ⟨k, rfl, hk, hpre, n, rfl⟩ := hrel
      have HP := Lib.hid hpre
      clear hpre
      by_cases hlt : k < a.length
      · have hlt2 : k < b.length := by have := HL.out; omega
        obtain ⟨bl, off, rfl, hca⟩ := KI_cells HA.out (by omega)
        obtain ⟨bl2, off2, rfl, hcb⟩ := KI_cells HB.out (by omega)
        have q0 := hca k hlt
        have q1 := hcb k hlt2
        have hi1 : (k : Int) < (a.length : Int) := by omega
        have hi2 : (k : Int) < (b.length : Int) := by omega
        have hgo := Lib.hid (take_eq_step HP.out hlt hlt2)
        have hno := Lib.hid (show ¬ a[k] = b[k] → decide (a = b) = false from fun e => by
          rw [decide_eq_false_iff_not]
          rintro rfl
          exact e rfl)
        clear hca hcb
        generalize a[k] = x at *
        generalize b[k] = y at *
        by_cases h1 : x = y
        · have e1 : (x != y) = false := by rw [bne_eq_false_iff_eq]; exact h1
          have HG := Lib.hid (hgo.out h1)
          clear h1
          go_wp2
          go_quiet (fail)
          go_wp2
          exact ⟨⟨k + 1, by go_num, by omega, HG.out, _, rfl⟩, by simp [intOf]; omega⟩
        · have e1 : (x != y) = true := by rw [bne_iff_ne]; exact h1
          have HN := Lib.hid (hno.out h1)
          clear h1
          go_wp2
          go_quiet (fail)
          go_wp2
          go_ret
          exact ⟨by rw [HN.out]; rfl, pw_below_drewN (pw_below_drewN (Below.refl _ _) _) _⟩
      · have hi1 : ¬ (k : Int) < (a.length : Int) := by omega
        have HN := Lib.hid (show decide (a = b) = true from by
          rw [decide_eq_true_iff]
          have h := HP.out
          rwa [List.take_of_length_le (by omega), List.take_of_length_le (by have := HL.out; omega)] at h)
        go_wp2
        go_ret
        exact ⟨by rw [HN.out]; rfl, pw_below_drewN (Below.refl _ _) _⟩
  · have hli : ((a.length : Int) != (b.length : Int)) = true := by rw [bne_iff_ne]; omega
    have HN := Lib.hid (show decide (a = b) = false from by
      rw [decide_eq_false_iff_not]
      rintro rfl
      exact hl rfl)
    clear hl
    go_enter Try.func57, Try.ntmps57
    go_wp2
    go_ret
    exact ⟨by rw [HN.out]; rfl, Below.refl _ _⟩
set_option maxHeartbeats 4000000 in
theorem equint_walk (A B : Option Addr) (n m c d : Nat) (a b : List Nat) (w : World) (hA : KU.C w A n a) (hB : KU.C w B m b) :
    Calls Try.prog 24 #[.slice A n c, .slice B m d] w fun e w' => e = .returned (.bool (decide (a = b))) ∧ Below w.heap.size w w' := by
  obtain rfl : a.length = n := hA.1
  obtain rfl : b.length = m := hB.1
  have HA := Lib.hid hA
  have HB := Lib.hid hB
  have hm := Kd.C_max hA
  have hm2 := Kd.C_max hB
  clear hA hB
  by_cases hl : a.length = b.length
  · have HL := Lib.hid hl
    have hli : ((a.length : Int) != (b.length : Int)) = false := by rw [bne_eq_false_iff_eq]; omega
    clear hl
    go_enter Try.func24, Try.ntmps24
    go_wp2_with fail
    go_loopw [13] (fun i wr => ∃ k : Nat, i = .int .i64 k ∧ k ≤ a.length ∧ a.take k = b.take k ∧ ∃ n, wr = w.drewN n)
      (fun i _ => a.length - (intOf i).toNat)
    case atStart => exact ⟨0, rfl, Nat.zero_le _, rfl, 0, rfl⟩
    case round =>
      obtain ⟨k, rfl, hk, hpre, n, rfl⟩ := hrel
      have HP := Lib.hid hpre
      clear hpre
      by_cases hlt : k < a.length
      · have hlt2 : k < b.length := by have := HL.out; omega
        obtain ⟨bl, off, rfl, hca⟩ := KU_cells HA.out (by omega)
        obtain ⟨bl2, off2, rfl, hcb⟩ := KU_cells HB.out (by omega)
        have q0 := hca k hlt
        have q1 := hcb k hlt2
        have hi1 : (k : Int) < (a.length : Int) := by omega
        have hi2 : (k : Int) < (b.length : Int) := by omega
        have hgo := Lib.hid (take_eq_step HP.out hlt hlt2)
        have hno := Lib.hid (show ¬ a[k] = b[k] → decide (a = b) = false from fun e => by
          rw [decide_eq_false_iff_not]
          rintro rfl
          exact e rfl)
        clear hca hcb
        generalize a[k] = x at *
        generalize b[k] = y at *
        by_cases h1 : x = y
        · have e1 : ((x : Int) != (y : Int)) = false := by rw [bne_eq_false_iff_eq]; omega
          have HG := Lib.hid (hgo.out h1)
          clear h1
          go_wp2
          go_quiet (fail)
          go_wp2
          exact ⟨⟨k + 1, by go_num, by omega, HG.out, _, rfl⟩, by simp [intOf]; omega⟩
        · have e1 : ((x : Int) != (y : Int)) = true := by rw [bne_iff_ne]; omega
          have HN := Lib.hid (hno.out h1)
          clear h1
          go_wp2
          go_quiet (fail)
          go_wp2
          go_ret
          exact ⟨by rw [HN.out]; rfl, pw_below_drewN (pw_below_drewN (Below.refl _ _) _) _⟩
      · have hi1 : ¬ (k : Int) < (a.length : Int) := by omega
        have HN := Lib.hid (show decide (a = b) = true from by
          rw [decide_eq_true_iff]
          have h := HP.out
          rwa [List.take_of_length_le (by omega), List.take_of_length_le (by have := HL.out; omega)] at h)
        go_wp2
        go_ret
        exact ⟨by rw [HN.out]; rfl, pw_below_drewN (Below.refl _ _) _⟩
  · have hli : ((a.length : Int) != (b.length : Int)) = true := by rw [bne_iff_ne]; omega
    have HN := Lib.hid (show decide (a = b) = false from by
      rw [decide_eq_false_iff_not]
      rintro rfl
      exact hl rfl)
    clear hl
    go_enter Try.func24, Try.ntmps24
    go_wp2
    go_ret
    exact ⟨by rw [HN.out]; rfl, Below.refl _ _⟩

/-! ### Members -/
theorem risB_drop {l : List Int} {k : Nat} (hk : k < l.length) (last : Int) : risB last (l.drop k) = (decide (last < l[k]) && decide (l[k] < 7) && risB l[k] (l.drop (k + 1))) := by
  rw [List.drop_eq_getElem_cons hk]
  rfl
set_option maxHeartbeats 4000000 in
theorem rising_walk (A : Option Addr) (n c : Nat) (l : List Int) (w : World) (hA : KI.C w A n l) (ho : ∀ x ∈ l, i64Ok x) :
    Calls Try.prog 50 #[.slice A n c] w fun e w' => e = .returned (.bool (membersB l)) ∧ Below w.heap.size w w' := by
  obtain rfl : l.length = n := hA.1
  have HA := Lib.hid hA
  have hm := Kd.C_max hA
  have HO := Lib.hid ho
  clear hA ho
  by_cases hl : 0 < l.length ∧ l.length ≤ 7
  · obtain ⟨h1, h2⟩ := hl
    have h1i : (0 : Int) < (l.length : Int) := by omega
    have h2i : (l.length : Int) ≤ 7 := by omega
    have HM := Lib.hid (show membersB l = risB (-1) l by simp [membersB, h1, h2])
    obtain ⟨bl, off, rfl, hca⟩ := KI_cells HA.out h1
    have HC := Lib.hid hca
    clear hca
    go_enter Try.func50, Try.ntmps50
    go_wp2_with fail
    go_step3
    go_wp2_with fail
    go_step3
    go_wp2_with fail
    go_loop [3, 4, 17] (fun o v i => ∃ (k : Nat) (z : Int), i = .int .i64 k ∧ k ≤ l.length ∧ o = .bool true ∧ v = .int .i64 z ∧ i64Ok z ∧ risB z (l.drop k) = risB (-1) l)
      (fun _ _ i => l.length - (intOf i).toNat)
    case atStart => exact ⟨0, -1, rfl, Nat.zero_le _, rfl, rfl, by unfold i64Ok; omega, rfl⟩
    case round =>
      obtain ⟨k, z, rfl, hk, rfl, rfl, hz, hr⟩ := hrel
      by_cases hlt : k < l.length
      · have q0 := HC.out k hlt
        have hx := HO.out l[k] (List.getElem_mem hlt)
        rw [risB_drop hlt] at hr
        have hi1 : (k : Int) < (l.length : Int) := by omega
        have HR := Lib.hid hr
        clear hr
        generalize l[k] = x at *
        by_cases g1 : z < x
        · by_cases g2 : x < 7
          · have HN := Lib.hid (show risB x (l.drop (k + 1)) = risB (-1) l by rw [← HR.out]; simp [g1, g2])
            go_wp2
            exact ⟨⟨k + 1, x, by go_num, by omega, rfl, rfl, hx, HN.out⟩, by simp [intOf]; omega⟩
          · have HN := Lib.hid (show risB (-1) l = false by rw [← HR.out]; simp [g2])
            go_wp2
            go_ret
            exact ⟨by rw [HM.out, HN.out]; rfl, Below.refl _ _⟩
        · have HN := Lib.hid (show risB (-1) l = false by rw [← HR.out]; simp [g1])
          go_wp2
          go_ret
          exact ⟨by rw [HM.out, HN.out]; rfl, Below.refl _ _⟩
      · have hi1 : ¬ (k : Int) < (l.length : Int) := by omega
        have HN := Lib.hid (show risB (-1) l = true by rw [← hr, List.drop_eq_nil_of_le (by omega)]; rfl)
        clear hr
        go_wp2
        go_ret
        exact ⟨by rw [HM.out, HN.out]; rfl, Below.refl _ _⟩
  · have HM := Lib.hid (show membersB l = false by
      unfold membersB
      rcases Nat.lt_or_ge 0 l.length with h | h
      · rw [show decide (l.length ≤ 7) = false from decide_eq_false (by omega)]; simp
      · rw [show decide (0 < l.length) = false from decide_eq_false (by omega)]; simp)
    by_cases h0 : 0 < l.length
    · have h1i : (0 : Int) < (l.length : Int) := by omega
      have h2i : ¬ (l.length : Int) ≤ 7 := by omega
      have h2d : decide ((l.length : Int) ≤ 7) = false := decide_eq_false h2i
      obtain ⟨bl, off, rfl, hca⟩ := KI_cells HA.out h0
      have q0 := hca 0 h0
      rw [Nat.add_zero] at q0
      generalize l[0] = x at *
      clear hca hl
      go_enter Try.func50, Try.ntmps50
      go_wp2_with fail
      go_step3
      go_wp2_with fail
      go_step3
      go_wp2_with fail
      go_loop [3, 17] (fun o i => i = .int .i64 0 ∧ o = .bool false) (fun _ _ => 0)
      case atStart => exact ⟨rfl, rfl⟩
      case round =>
        obtain ⟨rfl, rfl⟩ := hrel
        go_wp2
        go_ret
        exact ⟨by rw [HM.out]; rfl, Below.refl _ _⟩
    · have h1i : ¬ (0 : Int) < (l.length : Int) := by omega
      clear hl
      go_enter Try.func50, Try.ntmps50
      go_wp2_with fail
      go_step3
      go_wp2_with fail
      go_step3
      go_wp2_with fail
      go_loop [3, 17] (fun o i => i = .int .i64 0 ∧ o = .bool false) (fun _ _ => 0)
      case atStart => exact ⟨rfl, rfl⟩
      case round =>
        obtain ⟨rfl, rfl⟩ := hrel
        go_wp2
        go_ret
        exact ⟨by rw [HM.out]; rfl, Below.refl _ _⟩
set_option maxHeartbeats 4000000 in
theorem rmembers_walk (A : Option Addr) (n c : Nat) (l : List Int) (w : World) (hA : KI.C w A n l) (ho : ∀ x ∈ l, i64Ok x) :
    Calls Try.prog 53 #[.slice A n c] w fun e w' => e = .returned (.bool (membersB l)) ∧ Below w.heap.size w w' := by
  obtain rfl : l.length = n := hA.1
  have HA := Lib.hid hA
  have hm := Kd.C_max hA
  have HO := Lib.hid ho
  clear hA ho
  by_cases hl : 0 < l.length ∧ l.length ≤ 7
  · obtain ⟨h1, h2⟩ := hl
    have h1i : ¬ (l.length : Int) < 1 := by omega
    have h2i : ¬ (7 : Int) < (l.length : Int) := by omega
    have HM := Lib.hid (show membersB l = risB (-1) l by simp [membersB, h1, h2])
    obtain ⟨bl, off, rfl, hca⟩ := KI_cells HA.out h1
    have HC := Lib.hid hca
    clear hca
    go_enter Try.func53, Try.ntmps53
    go_wp2_with fail
    go_loopw [3] (fun i wr => ∃ (k : Nat) (z : Int), i = .int .i64 k ∧ k ≤ l.length ∧ i64Ok z ∧ (0 < k → 0 ≤ z ∧ z < 7 ∧ ∃ j, k = j + 1 ∧ l[j]? = some z) ∧ (k = 0 → z = -1) ∧ risB z (l.drop k) = risB (-1) l ∧ ∃ n, wr = w.drewN n)
      (fun i _ => l.length - (intOf i).toNat)
    case atStart => exact ⟨0, -1, rfl, Nat.zero_le _, by unfold i64Ok; omega, fun h => absurd h (by omega), fun _ => rfl, rfl, 0, rfl⟩
    case round =>
      obtain ⟨k, z, rfl, hk, hz, hp, hp0, hr, n, rfl⟩ := hrel
      by_cases hlt : k < l.length
      · have q0 := HC.out k hlt
        have hx := HO.out l[k] (List.getElem_mem hlt)
        have hlk : l[k]? = some l[k] := List.getElem?_eq_getElem hlt
        rw [risB_drop hlt] at hr
        have hi1 : (k : Int) < (l.length : Int) := by omega
        have HR := Lib.hid hr
        have HLK := Lib.hid hlk
        clear hr hlk
        generalize l[k] = x at *
        have hx1 := hx.1
        have hx2 := hx.2
        by_cases hk0 : k = 0
        · obtain rfl := hp0 hk0
          have HK0 := Lib.hid hk0
          have dk : decide (0 < k) = false := decide_eq_false (by omega)
          clear hp hp0 hk0
          by_cases g1 : x < 0
          · have d1 : decide (x < 0) = true := decide_eq_true g1
            have HN := Lib.hid (show risB (-1) l = false by rw [← HR.out]; simp; omega)
            go_wp2
            go_quiet (fail)
            go_wp2
            go_ret
            exact ⟨by rw [HM.out, HN.out]; rfl, pw_below_drewN (pw_below_drewN (Below.refl _ _) _) _⟩
          · have d1 : decide (x < 0) = false := decide_eq_false g1
            by_cases g2 : 6 < x
            · have d2 : decide (6 < x) = true := decide_eq_true g2
              have HN := Lib.hid (show risB (-1) l = false by rw [← HR.out]; simp; omega)
              go_wp2
              go_quiet (fail)
              go_wp2
              go_ret
              exact ⟨by rw [HM.out, HN.out]; rfl, pw_below_drewN (pw_below_drewN (Below.refl _ _) _) _⟩
            · have d2 : decide (6 < x) = false := decide_eq_false g2
              have HN := Lib.hid (show risB x (l.drop (k + 1)) = risB (-1) l by rw [← HR.out, show decide (-1 < x) = true by simp; omega, show decide (x < 7) = true by simp; omega]; simp)
              go_wp2
              go_quiet (fail)
              go_wp2
              exact ⟨⟨k + 1, x, by go_num, by omega, hx, fun _ => ⟨by omega, by omega, k, rfl, HLK.out⟩, fun h => absurd h (by omega), HN.out, _, rfl⟩, by simp [intOf]; omega⟩
        · obtain ⟨hz0, hz7, j, rfl, hj⟩ := hp (by omega)
          obtain ⟨hjl, hje⟩ := List.getElem?_eq_some_iff.1 hj
          have q1 := HC.out j hjl
          rw [hje] at q1
          have hkj : IntKind.i64.wrap (((j + 1 : Nat) : Int) - 1) = (j : Int) := by rw [IntWalk.i64_in _ (by omega)]; omega
          have dk : decide ((0 : Int) < ((j + 1 : Nat) : Int)) = true := decide_eq_true (by omega)
          have hjli : (j : Int) < (l.length : Int) := by omega
          clear hp hp0 hj hje hk0
          by_cases g1 : x < 0
          · have d1 : decide (x < 0) = true := decide_eq_true g1
            have HN := Lib.hid (show risB (-1) l = false by rw [← HR.out]; simp; omega)
            go_wp2
            go_quiet (fail)
            go_wp2
            go_ret
            exact ⟨by rw [HM.out, HN.out]; rfl, pw_below_drewN (pw_below_drewN (Below.refl _ _) _) _⟩
          · have d1 : decide (x < 0) = false := decide_eq_false g1
            by_cases g2 : 6 < x
            · have d2 : decide (6 < x) = true := decide_eq_true g2
              have HN := Lib.hid (show risB (-1) l = false by rw [← HR.out]; simp; omega)
              go_wp2
              go_quiet (fail)
              go_wp2
              go_ret
              exact ⟨by rw [HM.out, HN.out]; rfl, pw_below_drewN (pw_below_drewN (Below.refl _ _) _) _⟩
            · have d2 : decide (6 < x) = false := decide_eq_false g2
              by_cases g3 : x ≤ z
              · have d3 : decide (x ≤ z) = true := decide_eq_true g3
                have HN := Lib.hid (show risB (-1) l = false by rw [← HR.out]; simp; omega)
                go_wp2
                go_quiet (fail)
                go_wp2
                go_ret
                exact ⟨by rw [HM.out, HN.out]; rfl, pw_below_drewN (pw_below_drewN (Below.refl _ _) _) _⟩
              · have d3 : decide (x ≤ z) = false := decide_eq_false g3
                have HN := Lib.hid (show risB x (l.drop (j + 1 + 1)) = risB (-1) l by rw [← HR.out, show decide (z < x) = true by simp; omega, show decide (x < 7) = true by simp; omega]; simp)
                go_wp2
                go_quiet (fail)
                go_wp2
                exact ⟨⟨j + 1 + 1, x, by go_num, by omega, hx, fun _ => ⟨by omega, by omega, j + 1, rfl, HLK.out⟩, fun h => absurd h (by omega), HN.out, _, rfl⟩, by simp [intOf]; omega⟩
      · have hi1 : ¬ (k : Int) < (l.length : Int) := by omega
        have HN := Lib.hid (show risB (-1) l = true by rw [← hr, List.drop_eq_nil_of_le (by omega)]; rfl)
        clear hr hp hp0
        go_wp2
        go_ret
        exact ⟨by rw [HM.out, HN.out]; rfl, pw_below_drewN (Below.refl _ _) _⟩
  · have HM := Lib.hid (show membersB l = false by
      unfold membersB
      rcases Nat.lt_or_ge 0 l.length with h | h
      · rw [show decide (l.length ≤ 7) = false from decide_eq_false (by omega)]; simp
      · rw [show decide (0 < l.length) = false from decide_eq_false (by omega)]; simp)
    by_cases h0 : 0 < l.length
    · have h1i : ¬ (l.length : Int) < 1 := by omega
      have h2i : (7 : Int) < (l.length : Int) := by omega
      clear hl
      go_enter Try.func53, Try.ntmps53
      go_wp2
      go_ret
      exact ⟨by rw [HM.out]; rfl, Below.refl _ _⟩
    · have h1i : (l.length : Int) < 1 := by omega
      clear hl
      go_enter Try.func53, Try.ntmps53
      go_wp2
      go_ret
      exact ⟨by rw [HM.out]; rfl, Below.refl _ _⟩
end Go.Proofs.Ytoccidpocagkjaa
