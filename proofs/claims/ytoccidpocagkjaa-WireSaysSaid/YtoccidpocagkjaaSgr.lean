/- segment: head, line. -/
import Derived.Test.YtoccidpocagkjaaMsg
import Derived.Test.YtoccidpocagkjaaRrd
import Derived.Test.YtoccidpocagkjaaCnv
set_option linter.unusedVariables false
set_option linter.unusedSimpArgs false
namespace Go.Proofs.Ytoccidpocagkjaa
open Go.RowKit Go.Proofs.YtoccidpocagkjaaW.PrintWords Cf
attribute [local go_sem] str_beq str_bne

theorem below_via {w b c : World} {g : Nat} (h : Below w.heap.size w b) (e : g = w.heap.size) (hg : b.grownBy c (some g)) : Below w.heap.size w c := h.grown hg h.size (fun j e2 => by cases e2; omega)
/-- An entry as a value. -/
abbrev entV (e : Ent) (A : Option Addr) (c : Nat) : Value := .agg #[.int .u64 e.term, .int .i64 e.kind, .slice A e.data.length c]
set_option maxHeartbeats 1000000 in
theorem sound_walk (e : Ent) (A : Option Addr) (c : Nat) (w : World) (h1 : e.term < 18446744073709551616) :
    Calls Try.prog 48 #[entV e A c] w fun e' w' => e' = .returned (.bool (soundB e)) ∧ Below w.heap.size w w' := by
  obtain ⟨t, k, d⟩ := e
  have hs : soundB ⟨t, k, d⟩ = (decide ((1 : Int) ≤ t) && decide ((t : Int) ≤ 1152921504606846976) && decide (1 ≤ k) && decide (k ≤ 3) && decide ((d.length : Int) ≤ 4096)) := by
    rw [Bool.eq_iff_iff]
    simp [soundB]
    omega
  rw [hs]
  clear hs
  go_enter Try.func48, Try.ntmps48
  go_wp2
  all_goals go_ret
  all_goals exact ⟨by first | (simp_all; done) | (simp_all; omega), (Below.refl _ w).alloc (Nat.le_refl _) _⟩
set_option maxHeartbeats 1000000 in
theorem fsound_walk (e : Ent) (A : Option Addr) (c : Nat) (w : World) (h1 : e.term < 18446744073709551616) :
    Calls Try.prog 51 #[entV e A c] w fun e' w' => e' = .returned (.bool (soundB e)) ∧ Below w.heap.size w w' := by
  obtain ⟨t, k, d⟩ := e
  have hs : soundB ⟨t, k, d⟩ = (decide ((1 : Int) ≤ t) && decide ((t : Int) ≤ 1152921504606846976) && decide (1 ≤ k) && decide (k ≤ 3) && decide ((d.length : Int) ≤ 4096)) := by
    rw [Bool.eq_iff_iff]
    simp [soundB]
    omega
  rw [hs]
  clear hs
  go_enter Try.func51, Try.ntmps51
  go_wp2
  all_goals go_ret
  all_goals exact ⟨by first | (simp_all; done) | (simp_all; omega), (Below.refl _ w).alloc (Nat.le_refl _) _⟩

/-- An entry's box. -/
def Eb (W : World) (g : Nat) (x y z : Value) : Prop := (W.cell? ⟨g, 0, none⟩ = some x ∧ W.cell? ⟨g, 1, none⟩ = some y ∧ W.cell? ⟨g, 2, none⟩ = some z) ∧ W.frozen? ⟨g, 0, none⟩ = false ∧ W.frozen? ⟨g, 1, none⟩ = false ∧ W.frozen? ⟨g, 2, none⟩ = false
theorem Eb.at {W : World} {g : Nat} {ty : TypeId} {x y z : Value} (h : W.heap[g]? = some (.cells #[x, y, z] ty (0, 0))) : Eb W g x y z := by
  refine ⟨⟨?_, ?_, ?_⟩, ?_, ?_, ?_⟩ <;> simp [World.cell?, World.frozen?, h]
theorem Eb.lt {W : World} {g : Nat} {x y z : Value} (h : Eb W g x y z) : g < W.heap.size := World.block_lt_of_cell? W _ h.1.1
theorem Eb.block {W W' : World} {g : Nat} {x y z : Value} (h : Eb W g x y z) (hb : W'.heap[g]? = W.heap[g]?) : Eb W' g x y z :=
  ⟨⟨(World.cell?_of_block (w := W) (a := ⟨g, 0, none⟩) hb).trans h.1.1, (World.cell?_of_block (w := W) (a := ⟨g, 1, none⟩) hb).trans h.1.2.1, (World.cell?_of_block (w := W) (a := ⟨g, 2, none⟩) hb).trans h.1.2.2⟩,
   (World.frozen?_of_block (w := W) (a := ⟨g, 0, none⟩) hb).trans h.2.1, (World.frozen?_of_block (w := W) (a := ⟨g, 1, none⟩) hb).trans h.2.2.1, (World.frozen?_of_block (w := W) (a := ⟨g, 2, none⟩) hb).trans h.2.2.2⟩
theorem Eb.below {W W' : World} {g : Nat} {x y z : Value} (h : Eb W g x y z) (hB : Below W.heap.size W W') : Eb W' g x y z := h.block (hB.block g h.lt)
theorem Eb.grown {W W' : World} {g r : Nat} {x y z : Value} (h : Eb W g x y z) (hg : W.grownBy W' (some r)) (hne : g ≠ r) : Eb W' g x y z := h.block (hg.block g h.lt (fun e => hne (by injection e)))
theorem Eb.set0 {W : World} {g : Nat} {x y z : Value} (h : Eb W g x y z) (v : Value) : Eb (W.setCell ⟨g, 0, none⟩ v) g v y z :=
  ⟨⟨World.cell?_setCell_same' _ _ _ (by rw [h.1.1]; rfl), cell_set_at h.1.2.1 (by decide), cell_set_at h.1.2.2 (by decide)⟩, by rw [World.frozen?_setCell]; exact h.2.1, by rw [World.frozen?_setCell]; exact h.2.2.1, by rw [World.frozen?_setCell]; exact h.2.2.2⟩
theorem Eb.set1 {W : World} {g : Nat} {x y z : Value} (h : Eb W g x y z) (v : Value) : Eb (W.setCell ⟨g, 1, none⟩ v) g x v z :=
  ⟨⟨cell_set_at h.1.1 (by decide), World.cell?_setCell_same' _ _ _ (by rw [h.1.2.1]; rfl), cell_set_at h.1.2.2 (by decide)⟩, by rw [World.frozen?_setCell]; exact h.2.1, by rw [World.frozen?_setCell]; exact h.2.2.1, by rw [World.frozen?_setCell]; exact h.2.2.2⟩
theorem Eb.set2 {W : World} {g : Nat} {x y z : Value} (h : Eb W g x y z) (v : Value) : Eb (W.setCell ⟨g, 2, none⟩ v) g x y v :=
  ⟨⟨cell_set_at h.1.1 (by decide), cell_set_at h.1.2.1 (by decide), World.cell?_setCell_same' _ _ _ (by rw [h.1.2.2]; rfl)⟩, by rw [World.frozen?_setCell]; exact h.2.1, by rw [World.frozen?_setCell]; exact h.2.2.1, by rw [World.frozen?_setCell]; exact h.2.2.2⟩
theorem Rs.far {B : Nat} {W : World} {g b j : Nat} {s : RS} (h : Rs B W g s) (v : Value) (hne : g ≠ b) (hb : B ≤ b) : Rs B (W.setCell ⟨b, j, none⟩ v) g s := by
  obtain ⟨A, c, h0, hR, hc, hn, h1, f0, f1⟩ := h
  have hg := grown_set W b j v
  have hlt := World.block_lt_of_cell? W _ h0
  have hbl : (W.setCell ⟨b, j, none⟩ v).heap[g]? = W.heap[g]? := hg.block g hlt (fun e => hne (by injection e))
  exact ⟨A, c, (World.cell?_of_block (w := W) (a := ⟨g, 0, none⟩) hbl).trans h0, hR.grown hg (fun hp ad e => Nat.ne_of_lt (Nat.lt_of_lt_of_le (hn.2 hp ad e) hb)), hc, hn, (World.cell?_of_block (w := W) (a := ⟨g, 1, none⟩) hbl).trans h1, (World.frozen?_of_block (w := W) (a := ⟨g, 0, none⟩) hbl).trans f0, (World.frozen?_of_block (w := W) (a := ⟨g, 1, none⟩) hbl).trans f1⟩
end Go.Proofs.Ytoccidpocagkjaa
