/- The reference's Same. -/
import Derived.Test.YtoccidpocagkjaaErs
set_option linter.unusedVariables false
set_option linter.unusedSimpArgs false
namespace Go.Proofs.Ytoccidpocagkjaa
open Go.RowKit Go.Proofs.YtoccidpocagkjaaW.PrintWords Cf
attribute [local go_sem] str_beq str_bne

theorem ent_ne {x y : Ent} : x = y ↔ x.term = y.term ∧ x.kind = y.kind ∧ x.data = y.data := by
  cases x; cases y; simp
set_option maxRecDepth 100000 in
set_option maxHeartbeats 4000000 in
theorem rsame_walk (A : Option Addr) (c : Nat) (a : List Ent) (B : Option Addr) (d : Nat) (b : List Ent) (w : World) (hA : KE.C w A a.length a) (hB : KE.C w B b.length b) :
    Calls Try.prog 28 #[.slice A a.length c, .slice B b.length d] w fun e w' => e = .returned (.bool (decide (a = b))) ∧ Below w.heap.size w w' := by
  have HA := Lib.hid hA
  have HB := Lib.hid hB
  have hm := Kd.C_max hA
  have hm2 := Kd.C_max hB
  clear hA hB
  by_cases hl : a.length = b.length
  · have HL := Lib.hid hl
    have hli : ((a.length : Int) != (b.length : Int)) = false := by rw [bne_eq_false_iff_eq]; omega
    clear hl
    go_enter Try.func28, Try.ntmps28
    go_wp2_with fail
    go_loopw [5] (fun i wr => ∃ k : Nat, i = .int .i64 k ∧ k ≤ a.length ∧ a.take k = b.take k ∧ ∃ n, wr = w.drewN n)
      (fun i _ => a.length - (intOf i).toNat)
    case atStart => exact ⟨0, rfl, Nat.zero_le _, rfl, 0, rfl⟩
    case round =>
      obtain ⟨k, rfl, hk, hpre, n, rfl⟩ := hrel
      have HP := Lib.hid hpre
      clear hpre
      by_cases hlt : k < a.length
      · have hlt2 : k < b.length := by have := HL.out; omega
        obtain ⟨bl, off, D, cd, rfl, p0, p1, p2, p3, p4⟩ := KE_at HA.out k hlt
        obtain ⟨bl2, off2, D2, cd2, rfl, q0, q1, q2, q3, q4⟩ := KE_at HB.out k hlt2
        have P4 := Lib.hid p4
        have Q4 := Lib.hid q4
        have hi1 : (k : Int) < (a.length : Int) := by omega
        have hi2 : (k : Int) < (b.length : Int) := by omega
        have hee := Lib.hid (@ent_ne a[k] b[k])
        have hgo := Lib.hid (show a[k] = b[k] → a.take (k + 1) = b.take (k + 1) from fun e => by
          rw [List.take_succ_eq_append_getElem hlt, List.take_succ_eq_append_getElem hlt2, HP.out, e])
        have hno := Lib.hid (show ¬ a[k] = b[k] → decide (a = b) = false from fun e => by
          rw [decide_eq_false_iff_not]
          rintro rfl
          exact e rfl)
        generalize a[k] = x at *
        generalize b[k] = y at *
        clear p4 q4
        have s1 := fun m => conv_str (c := cd) (Kd.C_drewN P4.out m)
        have s2 := fun m => conv_str (c := cd2) (Kd.C_drewN Q4.out m)
        by_cases h1 : x.term = y.term
        · have e1 : ((x.term : Int) != (y.term : Int)) = false := by rw [bne_eq_false_iff_eq]; omega
          by_cases h2 : x.kind = y.kind
          · have e2 : (x.kind != y.kind) = false := by rw [bne_eq_false_iff_eq]; exact h2
            by_cases h3 : x.data = y.data
            · have e3 : (x.data == y.data) = true := by rw [beq_iff_eq]; exact h3
              have HG := Lib.hid (hgo.out (hee.out.2 ⟨h1, h2, h3⟩))
              clear h1 h2 h3
              go_wp2
              go_quiet (fail)
              go_wp2
              exact ⟨⟨k + 1, by go_num, by omega, HG.out, _, rfl⟩, by simp [intOf]; omega⟩
            · have e3 : (x.data == y.data) = false := by rw [beq_eq_false_iff_ne]; exact h3
              have HN := Lib.hid (hno.out (fun e => h3 (hee.out.1 e).2.2))
              clear h1 h2 h3
              go_wp2
              go_quiet (fail)
              go_wp2
              go_ret
              exact ⟨by rw [HN.out]; rfl, pw_below_drewN (pw_below_drewN (Below.refl _ _) _) _⟩
          · have e2 : (x.kind != y.kind) = true := by rw [bne_iff_ne]; exact h2
            have HN := Lib.hid (hno.out (fun e => h2 (hee.out.1 e).2.1))
            clear h1 h2
            go_wp2
            go_quiet (fail)
            go_wp2
            go_ret
            exact ⟨by rw [HN.out]; rfl, pw_below_drewN (pw_below_drewN (Below.refl _ _) _) _⟩
        · have e1 : ((x.term : Int) != (y.term : Int)) = true := by rw [bne_iff_ne]; omega
          have HN := Lib.hid (hno.out (fun e => h1 (hee.out.1 e).1))
          clear h1
          go_wp2
          go_quiet (fail)
          go_wp2
          go_ret
          exact ⟨by rw [HN.out]; rfl, pw_below_drewN (pw_below_drewN (Below.refl _ _) _) _⟩
      · have hi1 : ¬ (k : Int) < (a.length : Int) := by omega
        have HN := Lib.hid (show decide (a = b) = true from by
          rw [decide_eq_true_iff]
          have h := HP.out
          rwa [List.take_of_length_le (by omega), List.take_of_length_le (by have := HL.out; omega)] at h)
        go_wp2
        go_ret
        exact ⟨by rw [HN.out]; rfl, pw_below_drewN (Below.refl _ _) _⟩
  · have hli : ((a.length : Int) != (b.length : Int)) = true := by rw [bne_iff_ne]; omega
    have HN := Lib.hid (show decide (a = b) = false from by
      rw [decide_eq_false_iff_not]
      rintro rfl
      exact hl rfl)
    clear hl
    go_enter Try.func28, Try.ntmps28
    go_wp2
    go_ret
    exact ⟨by rw [HN.out]; rfl, Below.refl _ _⟩
end Go.Proofs.Ytoccidpocagkjaa
