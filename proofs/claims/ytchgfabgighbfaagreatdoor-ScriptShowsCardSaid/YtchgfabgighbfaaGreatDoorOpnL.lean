/- Lines as arguments: a row of lines, a line: opened to 'Seq' and 'LnIn' (printed by mkopnl.py). -/
import Derived.Test.YtchgfabgighbfaaGreatDoorShoW
import Derived.Lib.SmallJoins
import Derived.Deep.Slices
import Derived.ChangeSame
import Derived.ChangeArms
namespace Go.Proofs.YtchgfabgighbfaaGreatDoor.OpnL
set_option maxRecDepth 100000
set_option linter.unusedVariables false
set_option linter.unusedSimpArgs false
open Go.ChangeShapes Go.WideShapes Go.RowKit Go.Deep Go.Joins Base SeqM ScrM EqlW LinV ShoW
variable {H : Type} {enc : TypeId × Value → H} {w : World}

theorem add_block' (a : Addr) (k : Nat) : (a.add k).block = a.block := by unfold Addr.add; split <;> rfl
theorem add_add' (a : Addr) (i j : Nat) : (a.add i).add j = a.add (i + j) := by
  unfold Addr.add
  by_cases hi : i = 0
  · subst hi; simp
  · by_cases hj : j = 0
    · subst hj; simp [hi]
    · rw [if_neg hi, if_neg hj, if_neg (by omega)]
      simp only [Addr.mk.injEq, true_and, and_true]
      omega
/-- a row of whatever elements -/
theorem open_row {α : Type} [Inhabited α] {kc : Nat} {f : α → List Value} {Q : α → Prop} (hk : ∀ x, (f x).length = kc) (h0 : 0 < kc) {t e : TypeId} (hu : Tryz.prog.underlying t = some (.slice e)) (ce : Tryz.prog.cellsOf e = kc)
    (hone : ∀ (a : Addr) (cs : List Value) (n : Nat) (x : DataW H × List MemPlace), w.cells? 0 a kc = some cs → DataW.trod enc Tryz.prog w 0 (fun _ => true) true n e cs = some x → ∃ y, cs = f y ∧ Q y)
    {v : Value} {n : Nat} {x : DataW H × List MemPlace} (hn : DataW.trod enc Tryz.prog w 0 (fun _ => true) true n t [v] = some x) : ∃ l, Seq kc f w 0 w.heap.size v l ∧ ∀ y ∈ l, Q y := by
  rcases open_slice hu hn with ⟨hc, _⟩ | ⟨a', len, cap, m, k, D, Pl, hc, _, hl, hm, hmm, hx, hall⟩
  · obtain rfl : v = .slice none 0 0 := by simpa using hc
    exact ⟨[], Seq.nil_, fun x hx => by cases hx⟩
  · obtain rfl : v = .slice (some a') len cap := by simpa using hc
    simp only [if_true] at hmm
    rw [ce] at hall
    have each : ∀ i, i < len → ∃ y : α, w.cells? 0 (a'.add (i * kc)) kc = some (f y) ∧ Q y := by
      intro i hi
      obtain ⟨cs', h1, h2⟩ := hall i (by omega)
      obtain ⟨y, rfl, hy⟩ := hone _ _ _ _ h1 h2
      exact ⟨y, h1, hy⟩
    obtain ⟨q, hq⟩ := choose_lt each
    have hlen : ((List.range len).map q).length = len := by simp
    have get : ∀ i x, ((List.range len).map q)[i]? = some x → i < len ∧ x = q i := by
      intro i x hi
      rw [List.getElem?_map] at hi
      have hil : i < len := by
        rcases Nat.lt_or_ge i len with h | h
        · exact h
        · rw [List.getElem?_eq_none (by simpa using h)] at hi; cases hi
      rw [List.getElem?_range hil] at hi
      exact ⟨hil, (Option.some.inj hi).symm⟩
    refine ⟨(List.range len).map q, ⟨some a', cap, by rw [hlen], by rw [hlen]; exact hl, hm, ⟨?_, fun h1 => ?_⟩, fun hh => by cases hh⟩, ?_⟩
    · exact flat_len hk _
    · rw [hlen] at h1
      refine ⟨a', rfl, Nat.zero_le _, ?_, fun j u hu => ?_⟩
      · obtain ⟨_, _, hat⟩ := World.cells?_some (hq 0 h1).1
        obtain ⟨u, hu⟩ : ∃ u, (f (q 0))[0]? = some u := ⟨_, List.getElem?_eq_getElem (by rw [hk]; exact h0)⟩
        have := World.block_lt_of_cell? w _ ((hat 0 h0).trans hu)
        rwa [add_block', add_block'] at this
      · obtain ⟨x, hx, hu⟩ := flat_get hk h0 _ j u hu
        obtain ⟨hil, rfl⟩ := get _ _ hx
        obtain ⟨_, _, hat⟩ := World.cells?_some (hq _ hil).1
        have := hat (j % kc) (Nat.mod_lt _ h0)
        rw [add_add', show j / kc * kc + j % kc = j by rw [Nat.mul_comm]; exact Nat.div_add_mod j kc] at this
        rw [this]; exact hu
    · intro x hx
      obtain ⟨i, hi, rfl⟩ := List.mem_map.1 hx
      exact (hq i (List.mem_range.1 hi)).2
theorem one_int (a : Addr) (cs : List Value) (n : Nat) (x : DataW H × List MemPlace) (h1 : w.cells? 0 a 1 = some cs) (h2 : DataW.trod enc Tryz.prog w 0 (fun _ => true) true n 3 cs = some x) : ∃ y : Int, cs = inC y ∧ True := by
  obtain ⟨n0, e0, _, w0⟩ := DataW.trod_int Tryz.underlying3 h2
  exact ⟨n0, by simpa [inC] using e0, trivial⟩
theorem row_int {v : Value} {n : Nat} {x : DataW H × List MemPlace} (hn : DataW.trod enc Tryz.prog w 0 (fun _ => true) true n 25 [v] = some x) : ∃ l, Seq 1 inC w 0 w.heap.size v l := by
  obtain ⟨l, h, _⟩ := open_row (Q := fun _ => True) inC_len (by omega) Tryz.underlying25 (by kernel_rfl) one_int hn
  exact ⟨l, h⟩
theorem one_u64 (a : Addr) (cs : List Value) (n : Nat) (x : DataW H × List MemPlace) (h1 : w.cells? 0 a 1 = some cs) (h2 : DataW.trod enc Tryz.prog w 0 (fun _ => true) true n 44 cs = some x) : ∃ y : Nat, cs = u6C y ∧ y < 18446744073709551616 := by
  obtain ⟨n0, e0, _, w0⟩ := DataW.trod_int Tryz.underlying44 h2
  have hb : 0 ≤ n0 ∧ n0 ≤ 18446744073709551615 := by simpa [Lit.wf, IntKind.min, IntKind.max, IntKind.signed, IntKind.bits] using w0
  refine ⟨n0.toNat, ?_, by omega⟩
  rw [e0]
  unfold u6C
  rw [Int.toNat_of_nonneg hb.1]
theorem row_u64 {v : Value} {n : Nat} {x : DataW H × List MemPlace} (hn : DataW.trod enc Tryz.prog w 0 (fun _ => true) true n 28 [v] = some x) : ∃ l : List Nat, Seq 1 u6C w 0 w.heap.size v l ∧ ∀ y ∈ l, y < 18446744073709551616 :=
  open_row (Q := fun y => y < 18446744073709551616) u6C_len (by omega) Tryz.underlying28 (by kernel_rfl) one_u64 hn
theorem one_kept (a : Addr) (cs : List Value) (n : Nat) (x : DataW H × List MemPlace) (h1 : w.cells? 0 a 2 = some cs) (h2 : DataW.trod enc Tryz.prog w 0 (fun _ => true) true n 46 cs = some x) : ∃ y : Int × Int, cs = kpC y ∧ True := by
  obtain ⟨_, hlen, _⟩ := World.cells?_some h1
  obtain ⟨xs, k, hk, hxy, _, hxl, hf⟩ := DataW.trod_struct Tryz.underlying46 h2
  match xs, hxl, cs, hlen with
  | [y0, y1], _, [v0, v1], _ =>
    have g0 := hf 0 _ rfl
    have g1 := hf 1 _ rfl
    have cI : Tryz.prog.cellsOf 3 = 1 := by kernel_rfl
    simp [cI] at g0 g1
    obtain ⟨n0, e0, _, _⟩ := DataW.trod_int Tryz.underlying3 g0
    obtain ⟨n1, e1, _, _⟩ := DataW.trod_int Tryz.underlying3 g1
    simp only [List.cons.injEq, and_true] at e0 e1
    subst e0; subst e1
    exact ⟨(n0, n1), rfl, trivial⟩
theorem row_kept {v : Value} {n : Nat} {x : DataW H × List MemPlace} (hn : DataW.trod enc Tryz.prog w 0 (fun _ => true) true n 29 [v] = some x) : ∃ l : List (Int × Int), Seq 2 kpC w 0 w.heap.size v l := by
  obtain ⟨l, h, _⟩ := open_row (Q := fun _ => True) kpC_len (by omega) Tryz.underlying29 (by kernel_rfl) one_kept hn
  exact ⟨l, h⟩
instance : Inhabited LnR := ⟨⟨.slice none 0 0, .slice none 0 0, .slice none 0 0, ln0 0⟩⟩
def LnQ (w : World) (r : LnR) : Prop := LnIn w 0 w.heap.size r ∧ small r
/-- a line's twenty cells -/
theorem line_of (cs : List Value) (hlen : cs.length = 20) (n : Nat) (x : DataW H × List MemPlace) (h2 : DataW.trod enc Tryz.prog w 0 (fun _ => true) true n 31 cs = some x) : ∃ r : LnR, cs = lnC r ∧ LnQ w r := by
  obtain ⟨xs, k, hk, hxy, _, hxl, hf⟩ := DataW.trod_struct Tryz.underlying31 h2
  match xs, hxl, cs, hlen with
  | [y0, y1, y2, y3, y4, y5], _, [v0, v1, v2, v3, v4, v5, v6, v7, v8, v9, v10, v11, v12, v13, v14, v15, v16, v17, v18, v19], _ =>
    have g0 := hf 0 _ rfl
    have g1 := hf 1 _ rfl
    have g2 := hf 2 _ rfl
    have g3 := hf 3 _ rfl
    have g4 := hf 4 _ rfl
    have g5 := hf 5 _ rfl
    have cI : Tryz.prog.cellsOf 3 = 1 := by kernel_rfl
    have cC : Tryz.prog.cellsOf 24 = 11 := by kernel_rfl
    have cA : Tryz.prog.cellsOf 27 = 5 := by kernel_rfl
    have cU : Tryz.prog.cellsOf 28 = 1 := by kernel_rfl
    have cK : Tryz.prog.cellsOf 29 = 1 := by kernel_rfl
    have cX : Tryz.prog.cellsOf 25 = 1 := by kernel_rfl
    simp [cI, cC, cA, cU, cK] at g0 g1 g2 g3 g4 g5
    obtain ⟨a0, e0, _, _⟩ := DataW.trod_int Tryz.underlying3 g0
    obtain ⟨n1, en, _, _⟩ := DataW.trod_int Tryz.underlying3 g4
    obtain ⟨ds, hds, hd64⟩ := row_u64 g3
    obtain ⟨kp, hkp⟩ := row_kept g5
    simp only [List.cons.injEq, and_true] at e0 en
    subst e0; subst en
    obtain ⟨zs, k2, _, _, _, hzl, hg⟩ := DataW.trod_struct Tryz.underlying24 g1
    obtain ⟨us, k3, _, _, _, hul, hh⟩ := DataW.trod_struct Tryz.underlying27 g2
    match zs, hzl, us, hul with
    | [z0, z1, z2, z3, z4, z5, z6, z7, z8, z9, z10], _, [u0, u1, u2, u3, u4], _ =>
      have q0 := hg 0 _ rfl
      have q1 := hg 1 _ rfl
      have q2 := hg 2 _ rfl
      have q3 := hg 3 _ rfl
      have q4 := hg 4 _ rfl
      have q5 := hg 5 _ rfl
      have q6 := hg 6 _ rfl
      have q7 := hg 7 _ rfl
      have q8 := hg 8 _ rfl
      have q9 := hg 9 _ rfl
      have q10 := hg 10 _ rfl
      have p0 := hh 0 _ rfl
      have p1 := hh 1 _ rfl
      have p2 := hh 2 _ rfl
      have p3 := hh 3 _ rfl
      have p4 := hh 4 _ rfl
      simp [cI] at q0 q1 q2 q3 q4 q5 q6 q7 q8 q9 q10
      simp [cI, cX] at p0 p1 p2 p3 p4
      obtain ⟨c0, f0, _, w0⟩ := DataW.trod_int Tryz.underlying3 q0
      obtain ⟨c1, f1, _, w1⟩ := DataW.trod_int Tryz.underlying3 q1
      obtain ⟨c2, f2, _, w2⟩ := DataW.trod_int Tryz.underlying3 q2
      obtain ⟨c3, f3, _, w3⟩ := DataW.trod_int Tryz.underlying3 q3
      obtain ⟨c4, f4, _, w4⟩ := DataW.trod_int Tryz.underlying3 q4
      obtain ⟨c5, f5, _, w5⟩ := DataW.trod_int Tryz.underlying3 q5
      obtain ⟨c6, f6, _, w6⟩ := DataW.trod_int Tryz.underlying3 q6
      obtain ⟨c7, f7, _, w7⟩ := DataW.trod_int Tryz.underlying3 q7
      obtain ⟨c8, f8, _, w8⟩ := DataW.trod_int Tryz.underlying3 q8
      obtain ⟨c9, f9, _, w9⟩ := DataW.trod_int Tryz.underlying3 q9
      obtain ⟨c10, f10, _, w10⟩ := DataW.trod_int Tryz.underlying3 q10
      obtain ⟨a1, h1, _, _⟩ := DataW.trod_int Tryz.underlying3 p0
      obtain ⟨a2, h2', _, _⟩ := DataW.trod_int Tryz.underlying3 p1
      obtain ⟨xs, hxs⟩ := row_int p2
      obtain ⟨a4, h4, _, _⟩ := DataW.trod_int Tryz.underlying3 p3
      obtain ⟨a5, h5, _, _⟩ := DataW.trod_int Tryz.underlying3 p4
      simp only [List.cons.injEq, and_true] at h1 h2' h4 h5 f0 f1 f2 f3 f4 f5 f6 f7 f8 f9 f10
      subst h1; subst h2'; subst h4; subst h5
      subst f0; subst f1; subst f2; subst f3; subst f4; subst f5; subst f6; subst f7; subst f8; subst f9; subst f10
      have hb : -9223372036854775808 ≤ c7 ∧ c7 ≤ 9223372036854775807 := by simpa [Lit.wf, IntKind.min, IntKind.max, IntKind.signed, IntKind.bits] using w7
      exact ⟨⟨v14, v17, v19, ⟨a0, ⟨c0, c1, c2, c3, c4, c5, c6, c7, c8, c9, c10⟩, ⟨a1, a2, xs, a4, a5⟩, ds, n1, kp⟩⟩, rfl, ⟨hxs, hds, hkp⟩, hb.2, hd64⟩
theorem one_line (a : Addr) (cs : List Value) (n : Nat) (x : DataW H × List MemPlace) (h1 : w.cells? 0 a 20 = some cs) (h2 : DataW.trod enc Tryz.prog w 0 (fun _ => true) true n 31 cs = some x) : ∃ r : LnR, cs = lnC r ∧ LnQ w r := by
  obtain ⟨_, hlen, _⟩ := World.cells?_some h1
  exact line_of cs hlen n x h2
theorem open_lines {b0 : Nat} {v : Value} {d : DataW H} {ps : List MemPlace} (hv : Value.okWide Tryz.prog w .any b0 22 v) (h : DataW.Trod enc Tryz.prog w 0 (fun _ => true) true 22 v d ps) : ∃ L, Seq 20 lnC w 0 w.heap.size v L ∧ ∀ r ∈ L, LnQ w r := by
  obtain ⟨a, len, cap, rfl⟩ := okWide_slice Tryz.underlying22 hv
  obtain ⟨n, hn⟩ := h
  exact open_row (Q := LnQ w) lnC_len (by omega) Tryz.underlying22 (by kernel_rfl) one_line hn
theorem open_line {b0 : Nat} {v : Value} {d : DataW H} {ps : List MemPlace} (hv : Value.okWide Tryz.prog w .any b0 31 v) (h : DataW.Trod enc Tryz.prog w 0 (fun _ => true) true 31 v d ps) : ∃ r : LnR, v = .agg (lnC r).toArray ∧ LnQ w r := by
  obtain ⟨cs, rfl, hsz⟩ := okWide_struct Tryz.underlying31 hv
  obtain ⟨n, hn⟩ := h
  have hc : Tryz.prog.cellsOf 31 = 20 := by kernel_rfl
  obtain ⟨r, hr, hq⟩ := line_of cs.toList (by rw [Array.length_toList, hsz, hc]) n _ hn
  exact ⟨r, by rw [← hr, Array.toArray_toList], hq⟩
end Go.Proofs.YtchgfabgighbfaaGreatDoor.OpnL
