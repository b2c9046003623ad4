/- A slice of scores as an argument: opened to 'Scs' and 'Fits'. -/
import Derived.Test.YtdpmijmofeechaaDoorSclW
import Derived.Deep.SlicePairs
import Derived.Lib.SmallJoins
namespace Go.Proofs.YtdpmijmofeechaaDoor.OpenL
set_option maxRecDepth 100000
set_option linter.unusedVariables false
open Go.ChangeShapes Go.WideShapes Go.RowKit Go.Deep Base SclW
variable {H : Type} {enc : TypeId × Value → H} {w : World}

theorem rd_of {A : Addr} {l : List (Int × Int)} (hc : ∀ i x, l[i]? = some x → w.cell? (A.add (i * 2)) = some (.int .i64 x.1) ∧ w.cell? (A.add (i * 2 + 1)) = some (.int .i64 x.2)) :
    ∀ j u, (cellsOf l)[j]? = some u → w.cell? (A.add j) = some u := by
  intro j u hu
  have hj : j < (cellsOf l).length := (List.getElem?_eq_some_iff.1 hu).1
  rw [cells_len] at hj
  have hi : j / 2 < l.length := by omega
  have hx : l[j / 2]? = some l[j / 2] := List.getElem?_eq_getElem hi
  obtain ⟨c1, c2⟩ := cells_at l (j / 2) _ hx
  obtain ⟨d1, d2⟩ := hc (j / 2) _ hx
  by_cases h2 : j % 2 = 0
  · have e : j = j / 2 * 2 := by omega
    rw [e] at hu ⊢
    rw [c1] at hu
    rw [d1]; exact hu
  · have e : j = j / 2 * 2 + 1 := by omega
    rw [e] at hu ⊢
    rw [c2] at hu
    rw [d2]; exact hu
def intOf : Value → Int
  | .int _ z => z
  | _ => 0
theorem open_scores {b0 : Nat} {v : Value} {d : DataW H} {ps : List MemPlace} (hv : Value.okWide Tryd.prog w .any b0 47 v) (h : DataW.Trod enc Tryd.prog w 0 (fun _ => true) true 47 v d ps)
    (hlt : ∀ x ∈ ps, x.block < w.heap.size) : ∃ l, Scs w 0 w.heap.size v l ∧ Fits l := by
  obtain ⟨a, len, cap, rfl⟩ := okWide_slice Tryd.underlying47 hv
  obtain ⟨n, hn⟩ := h
  rcases open_slice_pairs Tryd.underlying47 Tryd.underlying36 (by kernel_rfl) rfl rfl (by kernel_rfl) (by kernel_rfl) hn with ⟨hc, _⟩ | ⟨a', len', cap', m, k, V0, V1, D0, D1, P0, P1, hc, _, hl, hm, hmm, hx, hall⟩
  · simp [Value.cells] at hc
    obtain ⟨rfl, rfl, rfl⟩ := hc
    exact ⟨[], ⟨none, 0, rfl, Nat.le_refl _, by unfold maxLen; omega, Rd.nil_, fun _ => rfl⟩, fun x hx => by cases hx⟩
  · simp [Value.cells] at hc
    obtain ⟨rfl, rfl, rfl⟩ := hc
    simp only [if_true] at hmm
    have each : ∀ i, i < len → w.cell? (a'.add (i * 2)) = some (.int .i64 (intOf (V0 i))) ∧ w.cell? (a'.add (i * 2 + 1)) = some (.int .i64 (intOf (V1 i))) ∧ (Lit.int .i64 (intOf (V0 i))).wf = true ∧ (Lit.int .i64 (intOf (V1 i))).wf = true := by
      intro i hi
      obtain ⟨c0, c1, t0, t1⟩ := hall i (by omega)
      obtain ⟨x, e0, _, w0⟩ := DataW.trod_int Tryd.underlying3 t0
      obtain ⟨y, e1, _, w1⟩ := DataW.trod_int Tryd.underlying3 t1
      simp only [List.cons.injEq, and_true] at e0 e1
      rw [c0, c1, e0, e1]
      exact ⟨rfl, rfl, w0, w1⟩
    have hlen : ((List.range len).map fun i => (intOf (V0 i), intOf (V1 i))).length = len := by simp
    refine ⟨(List.range len).map fun i => (intOf (V0 i), intOf (V1 i)), ⟨some a', cap, by rw [hlen], by rw [hlen]; exact hl, hm, ⟨by rw [cells_len], fun h0 => ?_⟩, fun hh => by cases hh⟩, ?_⟩
    · rw [hlen] at h0
      refine ⟨a', rfl, Nat.zero_le _, ?_, rd_of ?_⟩
      · have := World.block_lt_of_cell? w _ (each 0 h0).1
        rwa [add_block] at this
      · intro i x hi
        rw [List.getElem?_map] at hi
        have hil : i < len := by
          rcases Nat.lt_or_ge i len with h | h
          · exact h
          · rw [List.getElem?_eq_none (by simpa using h)] at hi; cases hi
        rw [List.getElem?_range hil] at hi
        simp only [Option.map_some, Option.some.injEq] at hi
        subst hi
        exact ⟨(each i hil).1, (each i hil).2.1⟩
    · intro x hx
      obtain ⟨i, hi, rfl⟩ := List.mem_map.1 hx
      obtain ⟨_, _, w0, w1⟩ := each i (List.mem_range.1 hi)
      have f0 : -9223372036854775808 ≤ intOf (V0 i) ∧ intOf (V0 i) ≤ 9223372036854775807 := by simpa [Lit.wf, IntKind.min, IntKind.max, IntKind.signed, IntKind.bits] using w0
      have f1 : -9223372036854775808 ≤ intOf (V1 i) ∧ intOf (V1 i) ≤ 9223372036854775807 := by simpa [Lit.wf, IntKind.min, IntKind.max, IntKind.signed, IntKind.bits] using w1
      exact ⟨f0, f1⟩
end Go.Proofs.YtdpmijmofeechaaDoor.OpenL
