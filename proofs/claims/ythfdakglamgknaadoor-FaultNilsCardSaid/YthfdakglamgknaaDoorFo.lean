/- A slice of steps, opened; the end of a law's row. -/
import Derived.Test.YthfdakglamgknaaDoorFn
import Derived.Test.YthfdakglamgknaaDoorFj
import Derived.Deep.SlicePairs
import Derived.SizedLaws
namespace Go.Proofs.YthfdakglamgknaaDoor
open Go.ChangeShapes Go.WideShapes Go.ChangeAt Go.RowKit Go.Deep

theorem wf_bounds {n : Int} (h : (Lit.int .i64 n).wf = true) : -9223372036854775808 ≤ n ∧ n ≤ 9223372036854775807 := by
  simp [Lit.wf, IntKind.min, IntKind.max, IntKind.signed, IntKind.bits] at h
  omega

theorem all_mem {H : Type} {P : Program} {e : TypeId} : ∀ {l : List (DataW H)} {d : DataW H}, d ∈ l → ∀ n ∈ d.weights P e, n ∈ DataW.weightsAll P e l
  | x :: l, d, h, n, hn => by
    simp only [DataW.weightsAll, List.mem_append]
    rcases List.mem_cons.1 h with rfl | h
    · exact Or.inl hn
    · exact Or.inr (all_mem h n hn)

set_option maxRecDepth 100000 in
theorem open_steps {H : Type} {enc : TypeId × Value → H} {W : World} {v : Value} {d : DataW H} {ps : List MemPlace} {base : Nat} (hv : Value.okWide Tryd.prog W .any base 22 v) (h : DataW.Trod enc Tryd.prog W 0 (fun _ => true) true 22 v d ps)
    (hlt : ∀ x ∈ ps, x.block < W.heap.size) (hw : ∀ n ∈ d.weights Tryd.prog 22, n ≤ reachBytes) :
    ∃ (ao : Option Addr) (cap : Nat) (L : List Stp), v = .slice ao L.length cap ∧ L.length ≤ 9223372036854775807 ∧ cOk L ∧ (∀ x ∈ L, x.1.size ≤ 140737488355328) ∧ (0 < L.length → ∃ b off, ao = some ⟨b, off, none⟩ ∧ b < W.heap.size ∧ StepsAt W b off L) := by
  obtain ⟨a0, len, cap, rfl⟩ := okWide_slice Tryd.underlying22 hv
  obtain ⟨fuel, hf⟩ := h
  rcases open_slice_pairs Tryd.underlying22 Tryd.underlying33 (by kernel_rfl) rfl rfl (by kernel_rfl) (by kernel_rfl) hf with ⟨hcs, hx⟩ | ⟨a, len', cap', m, n, V0, V1, D0, D1, P0, P1, hcs, _, hl, hm, hmm, hx, hcell⟩
  · simp [Value.cells] at hcs
    obtain ⟨rfl, rfl, rfl⟩ := hcs
    exact ⟨none, 0, [], rfl, by simp, by intro x hx; simp at hx, by intro x hx; simp at hx, fun h => absurd h (by simp)⟩
  · simp [Value.cells] at hcs
    obtain ⟨rfl, rfl, rfl⟩ := hcs
    simp only [Prod.mk.injEq] at hx
    obtain ⟨rfl, rfl⟩ := hx
    have hlm : len ≤ m := by rw [hmm]; simp; omega
    have each : ∀ i, i < len → ∃ x : Stp, V0 i = .string x.1 ∧ V1 i = .int .i64 x.2 ∧ D0 i = .lit (.string x.1.data.toList) ∧ (Lit.int .i64 x.2).wf = true := by
      intro i hi
      obtain ⟨_, _, h0, h1⟩ := hcell i (by omega)
      obtain ⟨s, e1, e2, _⟩ := DataW.trod_string Tryd.underlying9 h0
      obtain ⟨q, e3, e4, hq⟩ := DataW.trod_int Tryd.underlying3 h1
      simp at e1 e2 e3
      exact ⟨(s, q), e1, e3, e2.1, hq⟩
    obtain ⟨X, hX⟩ := choose_lt each
    have hlen : ((List.range len).map X).length = len := by simp
    refine ⟨some a, cap, (List.range len).map X, by rw [hlen], by rw [hlen]; unfold maxLen at hm; omega, ?_, ?_, ?_⟩
    · intro x hx
      obtain ⟨i, hi, rfl⟩ := List.mem_map.1 hx
      exact wf_bounds (hX i (List.mem_range.1 hi)).2.2.2
    · intro x hx
      obtain ⟨i, hi, rfl⟩ := List.mem_map.1 hx
      have hi' := List.mem_range.1 hi
      have := hw (X i).1.data.toList.length (by
        simp only [DataW.weights, Tryd.underlying22, List.mem_cons, List.mem_append]
        refine Or.inr (Or.inl (all_mem (List.mem_map.2 ⟨i, hi, rfl⟩) _ ?_))
        simp [DataW.weights, Tryd.underlying33, DataW.weightsEach, (hX i hi').2.2.1])
      unfold reachBytes at this
      simp only [Array.length_toList] at this
      exact Nat.le_trans this (by decide)
    · intro hpos
      rw [hlen] at hpos
      obtain ⟨ab, ao, asp⟩ := a
      have hs : asp = none := by simpa [Addr.add] using World.cell?_spot (hcell 0 (by omega)).1
      subst hs
      refine ⟨ab, ao, rfl, lt_cell (hcell 0 (by omega)).1, ?_⟩
      intro i x hx
      rw [List.getElem?_map] at hx
      have hi : i < len := by
        rcases Nat.lt_or_ge i len with h | h
        · exact h
        · rw [List.getElem?_eq_none (by simpa using h)] at hx; cases hx
      rw [List.getElem?_eq_getElem (by simpa using hi)] at hx
      simp at hx
      subst hx
      obtain ⟨c0, c1, _, _⟩ := hcell i (by omega)
      rw [add_plain] at c0 c1
      rw [(hX i hi).1] at c0
      rw [(hX i hi).2.1] at c1
      exact ⟨c0, by simpa [Nat.add_assoc] using c1⟩
end Go.Proofs.YthfdakglamgknaaDoor
