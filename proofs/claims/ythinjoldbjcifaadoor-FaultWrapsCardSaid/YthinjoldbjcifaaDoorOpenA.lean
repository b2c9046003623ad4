/- A slice of acts as an argument: opened to 'Seq' and 'Nums'. -/
import Derived.Test.YthinjoldbjcifaaDoorNodP
import Derived.Deep.Slices
import Derived.ChangeSame
import Derived.ChangeArms
namespace Go.Proofs.YthinjoldbjcifaaDoor.OpenA
set_option maxRecDepth 100000
set_option linter.unusedVariables false
open Go.ChangeShapes Go.WideShapes Go.RowKit Go.Deep Base FltM NodM NodP
variable {H : Type} {enc : TypeId × Value → H} {w : World}

theorem num_of {n : Int} (h : (Lit.int .i64 n).wf = true) : Num n := by
  have : -9223372036854775808 ≤ n ∧ n ≤ 9223372036854775807 := by simpa [Lit.wf, IntKind.min, IntKind.max, IntKind.signed, IntKind.bits] using h
  exact this
theorem flat_get {α : Type} {k : Nat} {f : α → List Value} (hk : ∀ x, (f x).length = k) (h0 : 0 < k) : ∀ (l : List α) (j : Nat) (u : Value), (l.flatMap f)[j]? = some u → ∃ x, l[j / k]? = some x ∧ (f x)[j % k]? = some u
  | [], j, u, h => by simp at h
  | y :: r, j, u, h => by
    rw [List.flatMap_cons] at h
    by_cases hj : j < k
    · rw [List.getElem?_append_left (by rw [hk]; exact hj)] at h
      exact ⟨y, by rw [Nat.div_eq_of_lt hj]; rfl, by rw [Nat.mod_eq_of_lt hj]; exact h⟩
    · rw [List.getElem?_append_right (by rw [hk]; omega), hk] at h
      obtain ⟨x, hx, hu⟩ := flat_get hk h0 r (j - k) u h
      have e1 : j / k = (j - k) / k + 1 := by
        have : j = (j - k) + k := by omega
        rw [this, Nat.add_div_right _ h0]; simp
      have e2 : j % k = (j - k) % k := by
        have : j = (j - k) + k := by omega
        rw [this, Nat.add_mod_right]; simp
      exact ⟨x, by rw [e1]; simpa using hx, by rw [e2]; exact hu⟩
theorem flat_len {α : Type} {k : Nat} {f : α → List Value} (hk : ∀ x, (f x).length = k) : ∀ l : List α, (l.flatMap f).length = l.length * k
  | [] => by simp
  | x :: r => by rw [List.flatMap_cons, List.length_append, hk, flat_len hk r, List.length_cons, Nat.succ_mul]; omega
/-- one element's six cells -/
theorem one_act {spare : Nat → Bool} {held : Bool} {base n : Nat} {a : Addr} {cs : List Value} {x : DataW H × List MemPlace} (h1 : w.cells? base a 6 = some cs) (h2 : DataW.trod enc Tryd.prog w base spare held n 55 cs = some x) :
    ∃ y : Nd, cs = ndC y ∧ Num y.do_ ∧ Num y.at_ ∧ Num y.code ∧ Num y.a ∧ Num y.b := by
  obtain ⟨_, hlen, _⟩ := World.cells?_some h1
  obtain ⟨xs, k, hk, hxy, _, hxl, hf⟩ := DataW.trod_struct Tryd.underlying55 h2
  match xs, hxl, cs, hlen with
  | [y0, y1, y2, y3, y4, y5], _, [v0, v1, v2, v3, v4, v5], _ =>
    have g0 := hf 0 _ rfl
    have g1 := hf 1 _ rfl
    have g2 := hf 2 _ rfl
    have g3 := hf 3 _ rfl
    have g4 := hf 4 _ rfl
    have g5 := hf 5 _ rfl
    have cI : Tryd.prog.cellsOf 3 = 1 := by kernel_rfl
    have cS : Tryd.prog.cellsOf 9 = 1 := by kernel_rfl
    simp [cI, cS] at g0 g1 g2 g3 g4 g5
    obtain ⟨n0, e0, _, w0⟩ := DataW.trod_int Tryd.underlying3 g0
    obtain ⟨s1, e1, _, _⟩ := DataW.trod_string Tryd.underlying9 g1
    obtain ⟨n2, e2, _, w2⟩ := DataW.trod_int Tryd.underlying3 g2
    obtain ⟨n3, e3, _, w3⟩ := DataW.trod_int Tryd.underlying3 g3
    obtain ⟨n4, e4, _, w4⟩ := DataW.trod_int Tryd.underlying3 g4
    obtain ⟨n5, e5, _, w5⟩ := DataW.trod_int Tryd.underlying3 g5
    simp only [List.cons.injEq, and_true] at e0 e1 e2 e3 e4 e5
    subst e0; subst e1; subst e2; subst e3; subst e4; subst e5
    obtain ⟨l, rfl⟩ : ∃ l : List UInt8, s1 = ⟨l.toArray⟩ := ⟨s1.data.toList, by cases s1; simp⟩
    exact ⟨⟨n0, l, n2, n3, n4, n5⟩, rfl, num_of w0, num_of w2, num_of w3, num_of w4, num_of w5⟩
theorem open_acts {b0 : Nat} {v : Value} {d : DataW H} {ps : List MemPlace} (hv : Value.okWide Tryd.prog w .any b0 22 v) (h : DataW.Trod enc Tryd.prog w 0 (fun _ => true) true 22 v d ps)
    (hlt : ∀ x ∈ ps, x.block < w.heap.size) : ∃ l, Seq 6 ndC w 0 w.heap.size v l ∧ Nums l := by
  obtain ⟨a, len, cap, rfl⟩ := okWide_slice Tryd.underlying22 hv
  obtain ⟨n, hn⟩ := h
  have ce : Tryd.prog.cellsOf 55 = 6 := by kernel_rfl
  rcases open_slice Tryd.underlying22 hn with ⟨hc, _⟩ | ⟨a', len', cap', m, k, D, Pl, hc, _, hl, hm, hmm, hx, hall⟩
  · simp [Value.cells] at hc
    obtain ⟨rfl, rfl, rfl⟩ := hc
    exact ⟨[], Seq.nil_, fun x hx => by cases hx⟩
  · simp [Value.cells] at hc
    obtain ⟨rfl, rfl, rfl⟩ := hc
    simp only [if_true] at hmm
    rw [ce] at hall
    have each : ∀ i, i < len → ∃ y : Nd, w.cells? 0 (a'.add (i * 6)) 6 = some (ndC y) ∧ Num y.do_ ∧ Num y.at_ ∧ Num y.code ∧ Num y.a ∧ Num y.b := by
      intro i hi
      obtain ⟨cs', h1, h2⟩ := hall i (by omega)
      obtain ⟨y, rfl, hy⟩ := one_act h1 h2
      exact ⟨y, h1, hy⟩
    haveI : Inhabited Nd := ⟨⟨0, [], 0, 0, 0, 0⟩⟩
    obtain ⟨q, hq⟩ := choose_lt each
    have hlen : ((List.range len).map q).length = len := by simp
    have get : ∀ i x, ((List.range len).map q)[i]? = some x → i < len ∧ x = q i := by
      intro i x hi
      rw [List.getElem?_map] at hi
      have hil : i < len := by
        rcases Nat.lt_or_ge i len with h | h
        · exact h
        · rw [List.getElem?_eq_none (by simpa using h)] at hi; cases hi
      rw [List.getElem?_range hil] at hi
      exact ⟨hil, (Option.some.inj hi).symm⟩
    refine ⟨(List.range len).map q, ⟨some a', cap, by rw [hlen], by rw [hlen]; exact hl, hm, ⟨?_, fun h0 => ?_⟩, fun hh => by cases hh⟩, ?_⟩
    · exact flat_len ndC_len _
    · rw [hlen] at h0
      refine ⟨a', rfl, Nat.zero_le _, ?_, fun j u hu => ?_⟩
      · obtain ⟨_, _, hat⟩ := World.cells?_some (hq 0 h0).1
        have := World.block_lt_of_cell? w _ (hat 0 (by omega))
        rwa [add_block, add_block] at this
      · obtain ⟨x, hx, hu⟩ := flat_get ndC_len (by omega) _ j u hu
        obtain ⟨hil, rfl⟩ := get _ _ hx
        obtain ⟨_, _, hat⟩ := World.cells?_some (hq _ hil).1
        have := hat (j % 6) (Nat.mod_lt _ (by omega))
        rw [Base.add_add', show j / 6 * 6 + j % 6 = j by omega] at this
        rw [this]; exact hu
    · intro x hx
      obtain ⟨i, hi, rfl⟩ := List.mem_map.1 hx
      exact (hq i (List.mem_range.1 hi)).2
end Go.Proofs.YthinjoldbjcifaaDoor.OpenA
