/- Strings as bytes. -/
import Derived.Test.YtoccidpocagkjaaWho
set_option linter.unusedVariables false
set_option linter.unusedSimpArgs false
namespace Go.Proofs.Ytoccidpocagkjaa
open Go.RowKit Go.Proofs.YtoccidpocagkjaaW.PrintWords Cf

theorem str_size (xs : List UInt8) : (str xs).size = xs.length := by
  show (str xs).data.size = _
  simp [str]
theorem str_bytes (xs : List UInt8) : bytesOf (str xs) = xs.map fun b => (b.toNat : Int) := by simp [bytesOf, str]
theorem map_nat_inj : ∀ ys xs : List UInt8, (ys.map fun b => (b.toNat : Int)) = xs.map (fun b => (b.toNat : Int)) → ys = xs
  | [], [], _ => rfl
  | [], _ :: _, h => by simp at h
  | _ :: _, [], h => by simp at h
  | a :: ys, b :: xs, h => by
    simp only [List.map_cons, List.cons.injEq] at h
    rw [map_nat_inj ys xs h.2, UInt8.toNat_inj.1 (show a.toNat = b.toNat by omega)]
/-- '[]byte(s)': new memory. -/
theorem conv_bytes (xs : List UInt8) (W : World) (hl : xs.length ≤ 9223372036854775807) : ∃ c, (convert 9 25 (.string (str xs))).run Try.prog W = .ok (.slice (some ⟨W.heap.size, 0, none⟩) xs.length c) (Lib.bytesWorld W 5 (str xs)) ∧
    RdB (Lib.bytesWorld W 5 (str xs)) (some ⟨W.heap.size, 0, none⟩) xs.length xs ∧ Below W.heap.size W (Lib.bytesWorld W 5 (str xs)) ∧ xs.length ≤ c := by
  have h := print_bytes (P := Try.prog) 9 25 5 Try.underlying9 Try.underlying25 Try.underlying5 (str xs) W
  have hr := bytes_reads W 5 (str xs) (by rw [str_size]; exact hl)
  rw [str_size] at h hr
  rw [str_bytes] at hr
  refine ⟨_, h, ?_, bytes_below (Below.refl _ W) (Nat.le_refl _) _ _, grownCap_ge _ _ _ _⟩
  obtain ⟨ys, hy, hR, he⟩ := KB_of_nums hr (fun z hz => by
    obtain ⟨b, -, rfl⟩ := List.mem_map.1 hz
    have hb := b.toNat_lt
    have h1 : IntKind.u8.min = 0 := rfl
    have h2 : IntKind.u8.max = 255 := rfl
    simp only [Lit.wf, Bool.and_eq_true, decide_eq_true_eq]
    omega)
  have : ys = xs := by
    have h3 : ys.map (fun b => (b.toNat : Int)) = xs.map fun b => (b.toNat : Int) := he.symm
    exact map_nat_inj ys xs h3
  rwa [this] at hR
end Go.Proofs.Ytoccidpocagkjaa
