/- Single operations whole: a store into a part of a row, an append of one element just built, in a plain region and in one that draws its order. No program is in sight. -/
import Derived.Test.YtchgfabgighbfaaGreatDoorBase
import Derived.Laws.CopyRow
import Derived.Deep.AppendLies
namespace Go.Proofs.YtchgfabgighbfaaGreatDoor.StpW
set_option linter.unusedVariables false
set_option linter.unusedSimpArgs false
open Go.RowKit Base

section
variable {P : Program}
theorem run_store_part (w : World) (g o : Nat) (ty t : TypeId) (v : Value) (old new : Array Value) (hg : w.heap[g]? = some (.cells old t (0, 0))) (hi : (P.info? ty).map (·.size) = some v.cells.size) (hfit : o + v.cells.size ≤ old.size)
    (h1 : ∀ u ∈ v.cells.toList, u.oneCell' = true) (hnew : old.toList.take o ++ v.cells.toList ++ old.toList.drop (o + v.cells.toList.length) = new.toList) :
    (Instr.storeAt ty (.pointer (some ⟨g, o, none⟩)) v).run P w = .ok () (w.setRow g new) := by
  have h := run_storeCells_at P g o t v.cells.toList 0 old w hg (by simpa using hfit) h1
  simp only [Nat.add_zero] at h
  rw [hnew, Array.toArray_toList] at h
  cases hq : P.info? ty with
  | none => simp [hq] at hi
  | some i =>
    have hs : v.cells.size = i.size := by simp [hq] at hi; omega
    simp only [Instr.storeAt, Instr.sureAddr, Sem.run_bind, Sem.run_pure, Result.andThen_ok]
    simp [storeVar, sizeOf, typeInfo, hq, hs, h]
theorem wp_store_part {op : Oper} {a : Act} {w : World} {K : Act → World → Prop} {Q : Exit → Act → World → Prop} (ty : TypeId) (x y : Operand) (ho : op.op = .store ty x y) (g o : Nat) (v : Value) (hx : a.eval x = .pointer (some ⟨g, o, none⟩)) (hy : a.eval y = v)
    (t : TypeId) (old new : Array Value) (hg : w.heap[g]? = some (.cells old t (0, 0))) (hi : (P.info? ty).map (·.size) = some v.cells.size) (hfit : o + v.cells.size ≤ old.size) (h1 : ∀ u ∈ v.cells.toList, u.oneCell' = true)
    (hnew : old.toList.take o ++ v.cells.toList ++ old.toList.drop (o + v.cells.toList.length) = new.toList) (h : K (a.put op.dst undef) (w.setRow g new)) : op.wp P a w K Q := by
  unfold Oper.wp execOp
  simp only [ho, hx, hy, run_store_part w g o ty t v old new hg hi hfit h1 hnew, Sem.run_bind, Sem.run_pure, Result.andThen_ok]
  exact h
theorem listStore {ops : Array Oper} {rest : List Oper} {op : Oper} {a : Act} {w : World} {Q : Exit → Act → World → Prop} (hgd : op.guard = none) (ty : TypeId) (x y : Operand) (ho : op.op = .store ty x y) (g o : Nat) (v : Value) (hx : a.eval x = .pointer (some ⟨g, o, none⟩)) (hy : a.eval y = v)
    (t : TypeId) (old new : Array Value) (hg : w.heap[g]? = some (.cells old t (0, 0))) (hi : (P.info? ty).map (·.size) = some v.cells.size) (hfit : o + v.cells.size ≤ old.size) (h1 : ∀ u ∈ v.cells.toList, u.oneCell' = true)
    (hnew : old.toList.take o ++ v.cells.toList ++ old.toList.drop (o + v.cells.toList.length) = new.toList) (h : wpList P ops Q rest (a.put op.dst undef) (w.setRow g new)) : wpList P ops Q (op :: rest) a w :=
  wpList_plain hgd fun _ hK => wp_store_part ty x y ho g o v hx hy t old new hg hi hfit h1 hnew (hK _ _ h)
theorem stepStore {ops : Array Oper} {op : Oper} {a : Act} {w : World} {K : Act → World → Prop} {Q : Exit → Act → World → Prop} {E' : Prop} (hgd : op.guard = none) (ty : TypeId) (x y : Operand) (ho : op.op = .store ty x y) (g o : Nat) (v : Value) (hx : a.eval x = .pointer (some ⟨g, o, none⟩)) (hy : a.eval y = v)
    (t : TypeId) (old new : Array Value) (hg : w.heap[g]? = some (.cells old t (0, 0))) (hi : (P.info? ty).map (·.size) = some v.cells.size) (hfit : o + v.cells.size ≤ old.size) (h1 : ∀ u ∈ v.cells.toList, u.oneCell' = true)
    (hnew : old.toList.take o ++ v.cells.toList ++ old.toList.drop (o + v.cells.toList.length) = new.toList) (h : K (a.put op.dst undef) (w.setRow g new)) :
    if Region.wanted op (yielded ops a.tmps) = true then Oper.wp P op a w K Q else E' := by
  rw [if_pos (by unfold Region.wanted; rw [hgd])]
  exact wp_store_part ty x y ho g o v hx hy t old new hg hi hfit h1 hnew h
/-- 's = append(s, x)' in a region that draws its order, the element just built -/
theorem stepA {ops : Array Oper} {o : Oper} {a : Act} {K : Act → World → Prop} {Q : Exit → Act → World → Prop} {E' : Prop} (wr : World) (cs : Array Value) (hgd : o.guard = none) (s x : Operand) (t : TypeId)
    (ho : o.op = .call { callee := .builtin .append, args := #[s, x], argTypes := #[t, t] })
    {e : TypeId} {z : Value} {size bytes : Nat} (E : Elt P t e z size bytes) (base : Nat) (A : Option Addr) (n cap : Nat) (xs : List Value) (hs : a.eval s = .slice A n cap)
    (hown : wr.ownsRow base e size (.slice A n cap) n xs) (hx : a.eval x = .slice (some ⟨wr.heap.size, 0, none⟩) 1 1) (hcs : cs.size = size) (h1 : ∀ u ∈ cs.toList, u.oneCell' = true)
    (hn : n < 1073741824) (hbase : base ≤ wr.heap.size)
    (h : ∀ A' cap' w', App wr w' base e size A n cap A' (n + 1) cap' (xs ++ cs.toList) → K (a.put o.dst (.slice A' (n + 1) cap')) w') :
    if Region.wanted o (yielded ops a.tmps) = true then Oper.wp P o a (wr.alloc (.cells cs e)) K Q else E' := by
  obtain ⟨ht, h0, hby, i, hi, hz, hsz, hbs, hzs⟩ := E
  refine step_append_lies (w := wr.alloc (.cells cs e)) hgd s x t ho base e i z size bytes ht hi hz hsz hbs hzs h0 (.slice A n cap) n xs hs (hown.alloc _) ⟨wr.heap.size, 0, none⟩ 1 1 cs.toList hx (by simp [hcs])
    (World.news_of_block (heap_alloc_new wr _)) h1 (by omega) (by unfold maxLen; omega) ?_ (by show base ≤ (wr.alloc (.cells cs e)).heap.size; simp; omega) (wr.heap.size + 1) (by show (wr.alloc (.cells cs e)).heap.size = _; simp) ?_
  · have h2 : (n + 1) * bytes ≤ (n + 1) * 131072 := Nat.mul_le_mul_left _ hby
    omega
  · intro g cp w' own hg hor hlt
    refine h _ _ _ ⟨own, ?_, ?_, ?_⟩
    · exact ⟨hg.os, hg.tape, hg.output, Nat.le_trans (by show wr.heap.size ≤ (wr.alloc (.cells cs e)).heap.size; simp) hg.size, fun k hk hne => (hg.block k (by show k < (wr.alloc (.cells cs e)).heap.size; simp; omega) hne).trans (Below.heap_alloc wr _ k hk)⟩
    · rcases hor with e1 | e1
      · exact .inl (by rw [e1]; rfl)
      · exact .inr (by subst e1; simp [Value.ownBlock])
    · exact ((Below.refl _ _).alloc hbase _).grown hg (by show base ≤ (wr.alloc (.cells cs e)).heap.size; simp; omega) (fun k hk => (hown.lt k hk).1)
end
theorem row_heap {w : World} {g : Nat} {cs cs' : Array Value} {t : TypeId} (h : w.heap[g]? = some (.cells cs t (0, 0))) : (w.setRow g cs').heap[g]? = some (.cells cs' t (0, 0)) := setRow_heap w g cs cs' t (0, 0) h
theorem row_other {w : World} {g k : Nat} {cs' : Array Value} (h : k ≠ g) : (w.setRow g cs').heap[k]? = w.heap[k]? := by
  unfold World.setRow
  simp [Array.getElem?_modify, Ne.symm h]
theorem row_size (w : World) (g : Nat) (cs' : Array Value) : (w.setRow g cs').heap.size = w.heap.size := by
  unfold World.setRow; simp
theorem below_row {w0 w : World} {B g : Nat} {cs' : Array Value} (h : Below B w0 w) (hg : B ≤ g) : Below B w0 (w.setRow g cs') :=
  ⟨h.os, h.tape, h.output, by rw [row_size]; exact h.size, fun k hk => (row_other (by omega)).trans (h.block k hk)⟩
end Go.Proofs.YtchgfabgighbfaaGreatDoor.StpW
