/- A tree, a list of vectors, a vector as arguments: opened to 'Nds', 'Vecs', 'Seq'. -/
import Derived.Test.YtmmgfelifmdnbaaDoorShpU
import Derived.Lib.SmallJoins
import Derived.Deep.Slices
import Derived.ChangeSame
import Derived.ChangeArms
namespace Go.Proofs.YtmmgfelifmdnbaaDoor.OpenT
set_option maxRecDepth 100000
set_option linter.unusedVariables false
open Go.ChangeShapes Go.WideShapes Go.RowKit Go.Deep Go.Joins Base SeqM ShpM ShpT ShpU
variable {H : Type} {enc : TypeId × Value → H} {w : World}

theorem add_block' (a : Addr) (k : Nat) : (a.add k).block = a.block := by unfold Addr.add; split <;> rfl
theorem add_add' (a : Addr) (i j : Nat) : (a.add i).add j = a.add (i + j) := by
  unfold Addr.add
  by_cases hi : i = 0
  · subst hi; simp
  · by_cases hj : j = 0
    · subst hj; simp [hi]
    · rw [if_neg hi, if_neg hj, if_neg (by omega)]
      simp only [Addr.mk.injEq, true_and, and_true]
      omega
/-- a row of whatever elements -/
theorem open_row {α : Type} [Inhabited α] {kc : Nat} {f : α → List Value} {Q : α → Prop} (hk : ∀ x, (f x).length = kc) (h0 : 0 < kc) {t e : TypeId} (hu : Tryd.prog.underlying t = some (.slice e)) (ce : Tryd.prog.cellsOf e = kc)
    (hone : ∀ (a : Addr) (cs : List Value) (n : Nat) (x : DataW H × List MemPlace), w.cells? 0 a kc = some cs → DataW.trod enc Tryd.prog w 0 (fun _ => true) true n e cs = some x → ∃ y, cs = f y ∧ Q y)
    {v : Value} {n : Nat} {x : DataW H × List MemPlace} (hn : DataW.trod enc Tryd.prog w 0 (fun _ => true) true n t [v] = some x) : ∃ l, Seq kc f w 0 w.heap.size v l ∧ ∀ y ∈ l, Q y := by
  rcases open_slice hu hn with ⟨hc, _⟩ | ⟨a', len, cap, m, k, D, Pl, hc, _, hl, hm, hmm, hx, hall⟩
  · obtain rfl : v = .slice none 0 0 := by simpa using hc
    exact ⟨[], Seq.nil_, fun x hx => by cases hx⟩
  · obtain rfl : v = .slice (some a') len cap := by simpa using hc
    simp only [if_true] at hmm
    rw [ce] at hall
    have each : ∀ i, i < len → ∃ y : α, w.cells? 0 (a'.add (i * kc)) kc = some (f y) ∧ Q y := by
      intro i hi
      obtain ⟨cs', h1, h2⟩ := hall i (by omega)
      obtain ⟨y, rfl, hy⟩ := hone _ _ _ _ h1 h2
      exact ⟨y, h1, hy⟩
    obtain ⟨q, hq⟩ := choose_lt each
    have hlen : ((List.range len).map q).length = len := by simp
    have get : ∀ i x, ((List.range len).map q)[i]? = some x → i < len ∧ x = q i := by
      intro i x hi
      rw [List.getElem?_map] at hi
      have hil : i < len := by
        rcases Nat.lt_or_ge i len with h | h
        · exact h
        · rw [List.getElem?_eq_none (by simpa using h)] at hi; cases hi
      rw [List.getElem?_range hil] at hi
      exact ⟨hil, (Option.some.inj hi).symm⟩
    refine ⟨(List.range len).map q, ⟨some a', cap, by rw [hlen], by rw [hlen]; exact hl, hm, ⟨?_, fun h1 => ?_⟩, fun hh => by cases hh⟩, ?_⟩
    · exact flat_len hk _
    · rw [hlen] at h1
      refine ⟨a', rfl, Nat.zero_le _, ?_, fun j u hu => ?_⟩
      · obtain ⟨_, _, hat⟩ := World.cells?_some (hq 0 h1).1
        obtain ⟨u, hu⟩ : ∃ u, (f (q 0))[0]? = some u := ⟨_, List.getElem?_eq_getElem (by rw [hk]; exact h0)⟩
        have := World.block_lt_of_cell? w _ ((hat 0 h0).trans hu)
        rwa [add_block', add_block'] at this
      · obtain ⟨x, hx, hu⟩ := flat_get hk h0 _ j u hu
        obtain ⟨hil, rfl⟩ := get _ _ hx
        obtain ⟨_, _, hat⟩ := World.cells?_some (hq _ hil).1
        have := hat (j % kc) (Nat.mod_lt _ h0)
        rw [add_add', show j / kc * kc + j % kc = j by rw [Nat.mul_comm]; exact Nat.div_add_mod j kc] at this
        rw [this]; exact hu
    · intro x hx
      obtain ⟨i, hi, rfl⟩ := List.mem_map.1 hx
      exact (hq i (List.mem_range.1 hi)).2
theorem one_int (a : Addr) (cs : List Value) (n : Nat) (x : DataW H × List MemPlace) (h1 : w.cells? 0 a 1 = some cs) (h2 : DataW.trod enc Tryd.prog w 0 (fun _ => true) true n 3 cs = some x) : ∃ y : Int, cs = inC y ∧ True := by
  obtain ⟨n0, e0, _, w0⟩ := DataW.trod_int Tryd.underlying3 h2
  exact ⟨n0, by simpa [inC] using e0, trivial⟩
theorem row_int {v : Value} {n : Nat} {x : DataW H × List MemPlace} (hn : DataW.trod enc Tryd.prog w 0 (fun _ => true) true n 29 [v] = some x) : ∃ l, Seq 1 inC w 0 w.heap.size v l := by
  obtain ⟨l, h, _⟩ := open_row (Q := fun _ => True) inC_len (by omega) Tryd.underlying29 (by kernel_rfl) one_int hn
  exact ⟨l, h⟩
instance : Inhabited Nd := ⟨⟨[], 0, 0, 0, 0⟩⟩
theorem one_node (a : Addr) (cs : List Value) (n : Nat) (x : DataW H × List MemPlace) (h1 : w.cells? 0 a 5 = some cs) (h2 : DataW.trod enc Tryd.prog w 0 (fun _ => true) true n 39 cs = some x) : ∃ y : Value × Nd, cs = ndC y ∧ Seq 1 inC w 0 w.heap.size y.1 y.2.coef := by
  obtain ⟨_, hlen, _⟩ := World.cells?_some h1
  obtain ⟨xs, k, hk, hxy, _, hxl, hf⟩ := DataW.trod_struct Tryd.underlying39 h2
  match xs, hxl, cs, hlen with
  | [y0, y1, y2, y3], _, [v0, v1, v2, v3, v4], _ =>
    have g0 := hf 0 _ rfl
    have g1 := hf 1 _ rfl
    have g2 := hf 2 _ rfl
    have g3 := hf 3 _ rfl
    have cI : Tryd.prog.cellsOf 3 = 1 := by kernel_rfl
    have cC : Tryd.prog.cellsOf 37 = 2 := by kernel_rfl
    simp [cI, cC] at g0 g1 g2 g3
    obtain ⟨ys, k2, hk2, _, _, hyl, hg⟩ := DataW.trod_struct Tryd.underlying37 g0
    match ys, hyl with
    | [z0, z1], _ =>
      have q0 := hg 0 _ rfl
      have q1 := hg 1 _ rfl
      have cS : Tryd.prog.cellsOf 29 = 1 := by kernel_rfl
      simp [cI, cS] at q0 q1
      obtain ⟨l, hl⟩ := row_int q0
      obtain ⟨n1, e1, _, _⟩ := DataW.trod_int Tryd.underlying3 q1
      obtain ⟨n2, e2, _, _⟩ := DataW.trod_int Tryd.underlying3 g1
      obtain ⟨n3, e3, _, _⟩ := DataW.trod_int Tryd.underlying3 g2
      obtain ⟨n4, e4, _, _⟩ := DataW.trod_int Tryd.underlying3 g3
      simp only [List.cons.injEq, and_true] at e1 e2 e3 e4
      subst e1; subst e2; subst e3; subst e4
      exact ⟨(v0, ⟨l, n1, n2, n3, n4⟩), rfl, hl⟩
theorem open_tree {b0 : Nat} {v : Value} {d : DataW H} {ps : List MemPlace} (hv : Value.okWide Tryd.prog w .any b0 24 v) (h : DataW.Trod enc Tryd.prog w 0 (fun _ => true) true 24 v d ps) :
    ∃ dim nv ls, v = .agg #[.int .i64 dim, nv] ∧ Nds w 0 w.heap.size nv ls := by
  obtain ⟨v0, v1, y0, y1, n, rfl, rfl, rfl, h0, h1⟩ := open_agg2 Tryd.underlying24 (by kernel_rfl) (by kernel_rfl) hv h
  obtain ⟨a, e0, x0, w0⟩ := DataW.trod_int Tryd.underlying3 h0
  simp only [List.cons.injEq, and_true] at e0
  subst e0
  obtain ⟨rs, hs, hc⟩ := open_row (Q := fun y : Value × Nd => Seq 1 inC w 0 w.heap.size y.1 y.2.coef) ndC_len (by omega) Tryd.underlying22 (by kernel_rfl) one_node h1
  exact ⟨a, v1, rs.map (·.2), rfl, rs, rfl, hs, hc⟩
theorem open_vec {b0 : Nat} {v : Value} {d : DataW H} {ps : List MemPlace} (hv : Value.okWide Tryd.prog w .any b0 29 v) (h : DataW.Trod enc Tryd.prog w 0 (fun _ => true) true 29 v d ps) : ∃ l, Seq 1 inC w 0 w.heap.size v l := by
  obtain ⟨a, len, cap, rfl⟩ := okWide_slice Tryd.underlying29 hv
  obtain ⟨n, hn⟩ := h
  exact row_int hn
theorem one_vec (a : Addr) (cs : List Value) (n : Nat) (x : DataW H × List MemPlace) (h1 : w.cells? 0 a 1 = some cs) (h2 : DataW.trod enc Tryd.prog w 0 (fun _ => true) true n 29 cs = some x) : ∃ y : Value × List Int, cs = vcC y ∧ Seq 1 inC w 0 w.heap.size y.1 y.2 := by
  obtain ⟨_, hlen, _⟩ := World.cells?_some h1
  match cs, hlen with
  | [v], _ =>
    obtain ⟨l, hl⟩ := row_int h2
    exact ⟨(v, l), rfl, hl⟩
theorem open_vecs {b0 : Nat} {v : Value} {d : DataW H} {ps : List MemPlace} (hv : Value.okWide Tryd.prog w .any b0 31 v) (h : DataW.Trod enc Tryd.prog w 0 (fun _ => true) true 31 v d ps) : ∃ l, Vecs w 0 w.heap.size v l := by
  obtain ⟨a, len, cap, rfl⟩ := okWide_slice Tryd.underlying31 hv
  obtain ⟨n, hn⟩ := h
  obtain ⟨rs, hs, hc⟩ := open_row (Q := fun y : Value × List Int => Seq 1 inC w 0 w.heap.size y.1 y.2) vcC_len (by omega) Tryd.underlying31 (by kernel_rfl) one_vec hn
  exact ⟨rs.map (·.2), rs, rfl, hs, hc⟩
end Go.Proofs.YtmmgfelifmdnbaaDoor.OpenT
