/- The arguments of the report's laws: a column, scores, vectors, numbers: opened (lines of OpenT). -/
import Derived.Test.YtodiipkedhfncaaGreatDoorVecW
import Derived.Test.YtodiipkedhfncaaGreatDoorDevW
import Derived.Test.YtodiipkedhfncaaGreatDoorLevM
import Derived.Test.YtodiipkedhfncaaGreatDoorSumW
import Derived.Lib.SmallJoins
import Derived.Deep.Slices
import Derived.ChangeSame
import Derived.ChangeArms
namespace Go.Proofs.YtodiipkedhfncaaGreatDoor.OpnR
set_option maxRecDepth 100000
set_option linter.unusedVariables false
open Go.ChangeShapes Go.WideShapes Go.RowKit Go.Deep Go.Joins Base SeqM RptC RptN RptM RptO ScoX DevW LevM VecW SumW BigZ
variable {H : Type} {enc : TypeId × Value → H} {w : World}

theorem add_block' (a : Addr) (k : Nat) : (a.add k).block = a.block := by unfold Addr.add; split <;> rfl
theorem add_add' (a : Addr) (i j : Nat) : (a.add i).add j = a.add (i + j) := by
  unfold Addr.add
  by_cases hi : i = 0
  · subst hi; simp
  · by_cases hj : j = 0
    · subst hj; simp [hi]
    · rw [if_neg hi, if_neg hj, if_neg (by omega)]
      simp only [Addr.mk.injEq, true_and, and_true]
      omega
/-- a row of whatever elements -/
theorem open_row {α : Type} [Inhabited α] {kc : Nat} {f : α → List Value} {Q : α → Prop} (hk : ∀ x, (f x).length = kc) (h0 : 0 < kc) {t e : TypeId} (hu : Tryz.prog.underlying t = some (.slice e)) (ce : Tryz.prog.cellsOf e = kc)
    (hone : ∀ (a : Addr) (cs : List Value) (n : Nat) (x : DataW H × List MemPlace), w.cells? 0 a kc = some cs → DataW.trod enc Tryz.prog w 0 (fun _ => true) true n e cs = some x → ∃ y, cs = f y ∧ Q y)
    {v : Value} {n : Nat} {x : DataW H × List MemPlace} (hn : DataW.trod enc Tryz.prog w 0 (fun _ => true) true n t [v] = some x) : ∃ l, Seq kc f w 0 w.heap.size v l ∧ ∀ y ∈ l, Q y := by
  rcases open_slice hu hn with ⟨hc, _⟩ | ⟨a', len, cap, m, k, D, Pl, hc, _, hl, hm, hmm, hx, hall⟩
  · obtain rfl : v = .slice none 0 0 := by simpa using hc
    exact ⟨[], Seq.nil_, fun x hx => by cases hx⟩
  · obtain rfl : v = .slice (some a') len cap := by simpa using hc
    simp only [if_true] at hmm
    rw [ce] at hall
    have each : ∀ i, i < len → ∃ y : α, w.cells? 0 (a'.add (i * kc)) kc = some (f y) ∧ Q y := by
      intro i hi
      obtain ⟨cs', h1, h2⟩ := hall i (by omega)
      obtain ⟨y, rfl, hy⟩ := hone _ _ _ _ h1 h2
      exact ⟨y, h1, hy⟩
    obtain ⟨q, hq⟩ := choose_lt each
    have hlen : ((List.range len).map q).length = len := by simp
    have get : ∀ i x, ((List.range len).map q)[i]? = some x → i < len ∧ x = q i := by
      intro i x hi
      rw [List.getElem?_map] at hi
      have hil : i < len := by
        rcases Nat.lt_or_ge i len with h | h
        · exact h
        · rw [List.getElem?_eq_none (by simpa using h)] at hi; cases hi
      rw [List.getElem?_range hil] at hi
      exact ⟨hil, (Option.some.inj hi).symm⟩
    refine ⟨(List.range len).map q, ⟨some a', cap, by rw [hlen], by rw [hlen]; exact hl, hm, ⟨?_, fun h1 => ?_⟩, fun hh => by cases hh⟩, ?_⟩
    · exact flat_len hk _
    · rw [hlen] at h1
      refine ⟨a', rfl, Nat.zero_le _, ?_, fun j u hu => ?_⟩
      · obtain ⟨_, _, hat⟩ := World.cells?_some (hq 0 h1).1
        obtain ⟨u, hu⟩ : ∃ u, (f (q 0))[0]? = some u := ⟨_, List.getElem?_eq_getElem (by rw [hk]; exact h0)⟩
        have := World.block_lt_of_cell? w _ ((hat 0 h0).trans hu)
        rwa [add_block', add_block'] at this
      · obtain ⟨x, hx, hu⟩ := flat_get hk h0 _ j u hu
        obtain ⟨hil, rfl⟩ := get _ _ hx
        obtain ⟨_, _, hat⟩ := World.cells?_some (hq _ hil).1
        have := hat (j % kc) (Nat.mod_lt _ h0)
        rw [add_add', show j / kc * kc + j % kc = j by rw [Nat.mul_comm]; exact Nat.div_add_mod j kc] at this
        rw [this]; exact hu
    · intro x hx
      obtain ⟨i, hi, rfl⟩ := List.mem_map.1 hx
      exact (hq i (List.mem_range.1 hi)).2
/-- the words of an int, within its kind -/
theorem one_int (a : Addr) (cs : List Value) (n : Nat) (x : DataW H × List MemPlace) (h1 : w.cells? 0 a 1 = some cs) (h2 : DataW.trod enc Tryz.prog w 0 (fun _ => true) true n 3 cs = some x) : ∃ y : Int, cs = inC y ∧ I64 y := by
  obtain ⟨n0, e0, _, w0⟩ := DataW.trod_int Tryz.underlying3 h2
  exact ⟨n0, by simpa [inC] using e0, by simpa [I64, Lit.wf, IntKind.min, IntKind.max, IntKind.signed, IntKind.bits] using w0⟩
theorem row_int' {v : Value} {n : Nat} {x : DataW H × List MemPlace} (hn : DataW.trod enc Tryz.prog w 0 (fun _ => true) true n 30 [v] = some x) : ∃ l, Seq 1 inC w 0 w.heap.size v l ∧ ∀ y ∈ l, I64 y :=
  open_row (Q := I64) inC_len (by omega) Tryz.underlying30 (by kernel_rfl) one_int hn
theorem row_int {v : Value} {n : Nat} {x : DataW H × List MemPlace} (hn : DataW.trod enc Tryz.prog w 0 (fun _ => true) true n 30 [v] = some x) : ∃ l, Seq 1 inC w 0 w.heap.size v l := by
  obtain ⟨l, h, _⟩ := row_int' hn
  exact ⟨l, h⟩
theorem open_vec {b0 : Nat} {v : Value} {d : DataW H} {ps : List MemPlace} (hv : Value.okWide Tryz.prog w .any b0 30 v) (h : DataW.Trod enc Tryz.prog w 0 (fun _ => true) true 30 v d ps) : ∃ l, Seq 1 inC w 0 w.heap.size v l ∧ ∀ y ∈ l, I64 y := by
  obtain ⟨a, len, cap, rfl⟩ := okWide_slice Tryz.underlying30 hv
  obtain ⟨n, hn⟩ := h
  exact row_int' hn
theorem one_vec (a : Addr) (cs : List Value) (n : Nat) (x : DataW H × List MemPlace) (h1 : w.cells? 0 a 1 = some cs) (h2 : DataW.trod enc Tryz.prog w 0 (fun _ => true) true n 30 cs = some x) : ∃ y : Value × List Int, cs = vcC y ∧ Seq 1 inC w 0 w.heap.size y.1 y.2 := by
  obtain ⟨_, hlen, _⟩ := World.cells?_some h1
  match cs, hlen with
  | [v], _ =>
    obtain ⟨l, hl⟩ := row_int h2
    exact ⟨(v, l), rfl, hl⟩
theorem open_vecs {b0 : Nat} {v : Value} {d : DataW H} {ps : List MemPlace} (hv : Value.okWide Tryz.prog w .any b0 22 v) (h : DataW.Trod enc Tryz.prog w 0 (fun _ => true) true 22 v d ps) : ∃ l, Vecs w 0 w.heap.size v l := by
  obtain ⟨a, len, cap, rfl⟩ := okWide_slice Tryz.underlying22 hv
  obtain ⟨n, hn⟩ := h
  obtain ⟨rs, hs, hc⟩ := open_row (Q := fun y : Value × List Int => Seq 1 inC w 0 w.heap.size y.1 y.2) vcC_len (by omega) Tryz.underlying22 (by kernel_rfl) one_vec hn
  exact ⟨rs.map (·.2), rs, rfl, hs, hc⟩
theorem wf64 {x : Int} (w0 : (Lit.int .i64 x).wf = true) : I64 x := by simpa [I64, Lit.wf, IntKind.min, IntKind.max, IntKind.signed, IntKind.bits] using w0
theorem wfu {x : Int} (w0 : (Lit.int .u64 x).wf = true) : 0 ≤ x ∧ x ≤ 18446744073709551615 := by simpa [Lit.wf, IntKind.min, IntKind.max, IntKind.signed, IntKind.bits] using w0
theorem one_score (a : Addr) (cs : List Value) (n : Nat) (x : DataW H × List MemPlace) (h1 : w.cells? 0 a 2 = some cs) (h2 : DataW.trod enc Tryz.prog w 0 (fun _ => true) true n 67 cs = some x) : ∃ y : Int × Int, cs = scC y ∧ Fit y.1 y.2 := by
  obtain ⟨_, hlen, _⟩ := World.cells?_some h1
  obtain ⟨xs, k, hk, hxy, _, hxl, hf⟩ := DataW.trod_struct Tryz.underlying67 h2
  match xs, hxl, cs, hlen with
  | [y0, y1], _, [v0, v1], _ =>
    have g0 := hf 0 _ rfl
    have g1 := hf 1 _ rfl
    have cI : Tryz.prog.cellsOf 3 = 1 := by kernel_rfl
    simp [cI] at g0 g1
    obtain ⟨n1, e1, _, w1⟩ := DataW.trod_int Tryz.underlying3 g0
    obtain ⟨n2, e2, _, w2⟩ := DataW.trod_int Tryz.underlying3 g1
    simp only [List.cons.injEq, and_true] at e1 e2
    subst e1; subst e2
    exact ⟨(n1, n2), rfl, wf64 w1, wf64 w2⟩
theorem open_scores {b0 : Nat} {v : Value} {d : DataW H} {ps : List MemPlace} (hv : Value.okWide Tryz.prog w .any b0 46 v) (h : DataW.Trod enc Tryz.prog w 0 (fun _ => true) true 46 v d ps) : ∃ l, Seq 2 scC w 0 w.heap.size v l ∧ Fits2 l := by
  obtain ⟨a, len, cap, rfl⟩ := okWide_slice Tryz.underlying46 hv
  obtain ⟨n, hn⟩ := h
  exact open_row (f := scC) (Q := fun y : Int × Int => Fit y.1 y.2) (fun _ => rfl) (by omega) Tryz.underlying46 (by kernel_rfl) one_score hn
theorem open_col {b0 : Nat} {v : Value} {d : DataW H} {ps : List MemPlace} (hv : Value.okWide Tryz.prog w .any b0 35 v) (h : DataW.Trod enc Tryz.prog w 0 (fun _ => true) true 35 v d ps) : ∃ c : Col, v = CV c ∧ Spr c.sp := by
  obtain ⟨cs0, rfl, hsz⟩ := okWide_struct Tryz.underlying35 hv
  obtain ⟨n, hn⟩ := h
  have hc : Tryz.prog.cellsOf 35 = 6 := by kernel_rfl
  obtain ⟨cs, rfl⟩ : ∃ cs : List Value, cs0 = cs.toArray := ⟨cs0.toList, by simp⟩
  have hlen : cs.length = 6 := by simpa [hc] using hsz
  have h2 : DataW.trod enc Tryz.prog w 0 (fun _ => true) true n 35 cs = some (d, ps) := by simpa [Value.cells] using hn
  obtain ⟨xs, k, hk, hxy, _, hxl, hf⟩ := DataW.trod_struct Tryz.underlying35 h2
  match xs, hxl, cs, hlen with
  | [y0, y1, y2, y3, y4], _, [v0, v1, v2, v3, v4, v5], _ =>
    have g0 := hf 0 _ rfl
    have g1 := hf 1 _ rfl
    have g2 := hf 2 _ rfl
    have g3 := hf 3 _ rfl
    have g4 := hf 4 _ rfl
    have cI : Tryz.prog.cellsOf 3 = 1 := by kernel_rfl
    have cW : Tryz.prog.cellsOf 33 = 2 := by kernel_rfl
    simp [cI, cW] at g0 g1 g2 g3 g4
    obtain ⟨ys, k2, hk2, _, _, hyl, hg⟩ := DataW.trod_struct Tryz.underlying33 g4
    match ys, hyl with
    | [z0, z1], _ =>
      have q0 := hg 0 _ rfl
      have q1 := hg 1 _ rfl
      have cU : Tryz.prog.cellsOf 31 = 1 := by kernel_rfl
      simp [cU] at q0 q1
      obtain ⟨n1, e1, _, _⟩ := DataW.trod_int Tryz.underlying3 g0
      obtain ⟨n2, e2, _, _⟩ := DataW.trod_int Tryz.underlying3 g1
      obtain ⟨n3, e3, _, _⟩ := DataW.trod_int Tryz.underlying3 g2
      obtain ⟨n4, e4, _, _⟩ := DataW.trod_int Tryz.underlying3 g3
      obtain ⟨n5, e5, _, w5⟩ := DataW.trod_int Tryz.underlying31 q0
      obtain ⟨n6, e6, _, w6⟩ := DataW.trod_int Tryz.underlying31 q1
      simp only [List.cons.injEq, and_true] at e1 e2 e3 e4 e5 e6
      subst e1; subst e2; subst e3; subst e4; subst e5; subst e6
      have u5 := wfu w5
      have u6 := wfu w6
      refine ⟨⟨n1, n2, n3, n4, n5 * 18446744073709551616 + n6⟩, ?_, ?_⟩
      · unfold CV colC
        dsimp only
        have a1 : hiW (n5 * 18446744073709551616 + n6) = n5 := by unfold hiW; omega
        have a2 : loW (n5 * 18446744073709551616 + n6) = n6 := by unfold loW; omega
        rw [a1, a2]
      · unfold Spr
        dsimp only
        omega
end Go.Proofs.YtodiipkedhfncaaGreatDoor.OpnR
