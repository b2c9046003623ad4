/- strings.Builder's writing methods. -/
import Derived.Test.YtcaeihfgdlffkaaGreatRRRRDoorPk00
import Derived.Test.YtcaeihfgdlffkaaGreatRRRRDoorShelf
import Derived.Lib.Strings
import Derived.Lib.Slices
import Derived.Lib.Walk
import Derived.Lib.Builder
import Derived.Lib.AppendStr
import Derived.Lib.UnsafeStr
import Derived.WalkKit
import Derived.Laws.Externs
import Derived.Test.YtcaeihfgdlffkaaGreatRRRRDoorCards
import Derived.Test.YtcaeihfgdlffkaaGreatRRRRDoorTie
import Derived.Shelf.Vars
import Derived.Stop.LaidErr
import Derived.Stop.ErrReads
import Derived.Deep.DeepHandedRow
import Derived.Deep.DeepWitnessRowRef
import Derived.Lib.LaidTab
import Derived.RowKitTokens
import Derived.Lib.ItoaNum
import Derived.Test.YtcaeihfgdlffkaaGreatRRRRDoorPk15
import Derived.Lib.AppendIntMem
import Derived.Test.YtcaeihfgdlffkaaGreatRRRRDoorProg
namespace Go.Proofs.YtcaeihfgdlffkaaGreatRRRRDoor.BldW
set_option linter.unusedVariables false
open Go.Shelf Go.RowKit SeqM

/-- what is no builder and no bytes is as it was -/
def KeepU (w w' : World) : Prop := ∀ (k : Nat) (cs : Array Value) (t : TypeId) (fz : Nat × Nat), w.heap[k]? = some (.cells cs t fz) → t ≠ 5 → t ≠ 67 → w'.heap[k]? = some (.cells cs t fz)
theorem KeepU.refl (w : World) : KeepU w w := fun _ _ _ _ h _ _ => h
theorem KeepU.trans {a b c : World} (h : KeepU a b) (h' : KeepU b c) : KeepU a c := fun k cs t fz e h1 h2 => h' k cs t fz (h k cs t fz e h1 h2) h1 h2
theorem KeepU.of_below {w w' : World} (h : Below w.heap.size w w') : KeepU w w' := fun k cs t fz e _ _ => (h.block k (Array.getElem?_eq_some_iff.1 e).1).trans e
theorem KeepU.set {w : World} {b o : Nat} {cs : Array Value} {fz : Nat × Nat} (v : Value) (h : w.heap[b]? = some (.cells cs 67 fz)) : KeepU w (w.setCell ⟨b, o, none⟩ v) := fun k cs' t fz' e _ h2 =>
  (Below.heap_setCell _ _ _ k (fun e' => by simp only at e'; subst e'; rw [h] at e; injection e with e; injection e with _ e3 _; exact h2 e3.symm)).trans e
theorem KeepU.grown {w w' : World} {base n : Nat} {v : Value} {xs : List Value} (hown : w.ownsRow base 5 1 v n xs) (hg : w.grownBy w' v.ownBlock) : KeepU w w' := fun k cs t fz e h1 _ =>
  (hg.block k (Array.getElem?_eq_some_iff.1 e).1 (fun e' => by
    obtain ⟨⟨cs', fz', e2⟩, _, _⟩ := own_typ hown k e'.symm
    rw [e] at e2; injection e2 with e2; injection e2 with _ e3 _; exact h1 e3)).trans e

set_option maxHeartbeats 1000000 in
set_option maxRecDepth 100000 in
theorem copy_used (b : Nat) (w : World) (h0 : w.cell? ⟨b, 0, none⟩ = some (.pointer (some ⟨b, 0, none⟩))) :
    Calls Tryz.prog 86 #[.pointer (some ⟨b, 0, none⟩)] w fun e w' => e = .returned (.tuple #[]) ∧ w' = w := by
  obtain ⟨j, hj, _⟩ := Option.map_eq_some_iff.1 Tryz.Builder_Extra_169.toX72.sizeBuilder
  go_enter Tryz.func86, Tryz.ntmps86
  go_wp2
  rw [Lib.run_neq_ptr_same w _ Tryz.underlying64 hj]
  go_wp2
  go_end0
  exact ⟨rfl, rfl⟩
set_option maxHeartbeats 1000000 in
set_option maxRecDepth 100000 in
theorem copy_fresh (b : Nat) (w : World) (h0 : w.cell? ⟨b, 0, none⟩ = some (.pointer none)) (hsh : w.shape? b = some (67, 2)) (hfz : w.frozen? ⟨b, 0, none⟩ = false) :
    Calls Tryz.prog 86 #[.pointer (some ⟨b, 0, none⟩)] w fun e w' => e = .returned (.tuple #[]) ∧ w' = w.setCell ⟨b, 0, none⟩ (.pointer (some ⟨b, 0, none⟩)) := by
  obtain ⟨j, hj, hjs⟩ := Option.map_eq_some_iff.1 Tryz.Builder_Extra_169.toX72.sizeBuilder
  go_enter Tryz.func86, Tryz.ntmps86
  go_wp2
  rw [Lib.run_to_unsafe w ⟨b, 0, none⟩ Tryz.underlying64 Tryz.underlying166 hj (by rw [hjs]; decide) hsh (Nat.zero_lt_succ 1)]
  simp only [Result.andThen]
  rw [Oper.upon_value]
  go_wp2
  rw [run_callFunc_extern Tryz.func121 (by kernel_rfl) (by kernel_rfl) (by kernel_rfl) (e := Extern.AbiNoEscape.same) (by kernel_rfl)]
  rw [Lib.run_noEscape]
  simp only [Result.andThen]
  rw [Oper.upon_value]
  go_wp2
  rw [Lib.run_from_unsafe w ⟨b, 0, none⟩ Tryz.underlying166 Tryz.underlying64 hj hsh Tryz.Builder_Extra_169.toX72.liesBuilder]
  simp only [Result.andThen]
  rw [Oper.upon_value]
  go_wp2
  go_end0
  exact ⟨rfl, rfl⟩
theorem copy_any (B b : Nat) (bs : List Value) (w : World) (h : Lib.IsBuilder 67 5 B b bs w) :
    Calls Tryz.prog 86 #[.pointer (some ⟨b, 0, none⟩)] w fun e w' => e = .returned (.tuple #[]) ∧ (Lib.BuilderAt 67 5 B b (.pointer (some ⟨b, 0, none⟩)) bs w' ∧ Below B w w' ∧ KeepU w w') := by
  rcases h with h | h
  · refine (copy_fresh b w h.cell0 h.shape h.frozen0).mono ?_
    rintro e w' ⟨rfl, rfl⟩
    exact ⟨rfl, h.used _, (Below.refl B w).setCell (p := ⟨b, 0, none⟩) h.1 _, by obtain ⟨_, v, hbk, _⟩ := h; exact KeepU.set _ hbk⟩
  · refine (copy_used b w h.cell0).mono ?_
    rintro e w' ⟨rfl, rfl⟩
    exact ⟨rfl, h, Below.refl B _, KeepU.refl _⟩
set_option maxHeartbeats 2000000 in
set_option maxRecDepth 100000 in
theorem WriteByte_any (B b : Nat) (bs : List Value) (c : Int) (w : World) (h : Lib.IsBuilder 67 5 B b bs w) (hlen : bs.length + 1 ≤ 140737488355328) (hBw : B ≤ w.heap.size) :
    Calls Tryz.prog 50 #[.pointer (some ⟨b, 0, none⟩), .int .u8 c] w fun e w' => e = .returned .nilIface ∧ (Lib.BuilderAt 67 5 B b (.pointer (some ⟨b, 0, none⟩)) (bs ++ [.int .u8 c]) w' ∧ Below B w w' ∧ KeepU w w') := by
  obtain ⟨i0, hi, hz0, hz1, hz2⟩ := info_parts Tryz.Builder_Extra_169.infoByte
  have HC := Lib.hid (copy_any B b bs w h)
  go_enter Tryz.func50, Tryz.ntmps50
  go_wp2_with fail
  refine HC.out.mono ?_
  rintro e w1 ⟨rfl, h1, hb1, hk1⟩
  obtain ⟨hB, v, hbk, hown, hne⟩ := h1
  have c0 : w1.cell? ⟨b, 0, none⟩ = some (.pointer (some ⟨b, 0, none⟩)) := by rw [Lib.cell_of_heap hbk]; rfl
  have c1 : w1.cell? ⟨b, 1, none⟩ = some v := by rw [Lib.cell_of_heap hbk]; rfl
  go_wp2_with (at_builtin; refine wpList_append_own _ rfl _ _ 65 rfl B 5 i0 (.int .u8 0) 1 1 Tryz.underlying65 hi hz0 hz1 hz2 rfl (by decide) _ _ _ rfl (hown.alloc _) ⟨w1.heap.size, 0, none⟩ 1 1 [.int .u8 c] rfl rfl ?c1 ?c2 ?c3 ?c4 ?c5 ?_)
  case c1 =>
    intro j u hj
    match j, hj with
    | 0, hj => simp at hj; subst hj; simp [Addr.add]
  case c2 => intro u hu; simp at hu; subst hu; rfl
  case c3 => unfold maxLen; omega
  case c4 => omega
  case c5 => have := hb1.size; simp; omega
  intro v' w2 hown' hgrow _
  have hlt : b < w1.heap.size := by
    rcases Nat.lt_or_ge b w1.heap.size with h' | h'
    · exact h'
    · simp [Array.getElem?_eq_none h'] at hbk
  have hb2 : w2.heap[b]? = some (.cells #[.pointer (some ⟨b, 0, none⟩), v] 67 (0, 0)) := by
    rw [hgrow.block b (by simp; omega) (fun e => hne e.symm), Lib.alloc_old w1 _ b hlt]
    exact hbk
  have d0 : w2.cell? ⟨b, 0, none⟩ = some (.pointer (some ⟨b, 0, none⟩)) := by rw [Lib.cell_of_heap hb2]; rfl
  have d1 : w2.cell? ⟨b, 1, none⟩ = some v := by rw [Lib.cell_of_heap hb2]; rfl
  have f1 : w2.frozen? ⟨b, 1, none⟩ = false := Lib.frozen_of_heap hb2 1
  obtain ⟨g, cap, rfl⟩ : ∃ g cap, v' = .slice (some ⟨g, 0, none⟩) (bs.length + 1) cap := by
    rcases hown'.2 with ⟨_, h0⟩ | ⟨g, cap, cur, hv, _⟩
    · omega
    · exact ⟨g, cap, hv⟩
  go_wp2_with fail
  go_ret
  refine ⟨rfl, ?_, ?_, ?_⟩
  · exact Lib.BuilderAt.put (T := 67) (e := 5) hB hb2 (bs' := bs ++ [.int .u8 c]) (by simpa using hown') Tryz.Builder_Extra_169.neB5
  · exact ((hb1.alloc (by have := hb1.size; omega) _).grown hgrow (by have := hb1.size; simp; omega) (fun k hk => (hown.lt k hk).1)).setCell (p := ⟨b, 1, none⟩) hB _
  · exact ((hk1.trans (KeepU.of_below (below_a1 w1 _))).trans (KeepU.grown (hown.alloc _) hgrow)).trans (KeepU.set _ hb2)
set_option maxHeartbeats 2000000 in
set_option maxRecDepth 100000 in
theorem WriteString_any (B b : Nat) (bs : List Value) (s : ByteArray) (w : World) (h : Lib.IsBuilder 67 5 B b bs w) (hlen : bs.length + s.size ≤ 140737488355328) (hBw : B ≤ w.heap.size) :
    Calls Tryz.prog 49 #[.pointer (some ⟨b, 0, none⟩), .string s] w fun e w' => e = .returned (.tuple #[.int .i64 s.size, .nilIface]) ∧ (Lib.BuilderAt 67 5 B b (.pointer (some ⟨b, 0, none⟩)) (bs ++ Lib.strCells s) w' ∧ Below B w w' ∧ KeepU w w') := by
  obtain ⟨i0, hi, hz0, hz1, hz2⟩ := info_parts Tryz.Builder_Extra_169.infoByte
  have HC := Lib.hid (copy_any B b bs w h)
  go_enter Tryz.func49, Tryz.ntmps49
  go_wp2_with fail
  refine HC.out.mono ?_
  rintro e w1 ⟨rfl, h1, hb1, hk1⟩
  obtain ⟨hB, v, hbk, hown, hne⟩ := h1
  have c0 : w1.cell? ⟨b, 0, none⟩ = some (.pointer (some ⟨b, 0, none⟩)) := by rw [Lib.cell_of_heap hbk]; rfl
  have c1 : w1.cell? ⟨b, 1, none⟩ = some v := by rw [Lib.cell_of_heap hbk]; rfl
  go_wp2_with (at_builtin; refine Lib.wpList_append_own_string _ rfl _ _ 65 9 rfl B 5 i0 Tryz.underlying65 Tryz.underlying9 hi hz0 hz1 hz2 _ _ _ rfl hown s rfl ?c3 ?c4 ?c5 ?_)
  case c3 => unfold maxLen; omega
  case c4 => omega
  case c5 => have := hb1.size; omega
  intro v' w2 hown' hgrow _
  have hlt : b < w1.heap.size := by
    rcases Nat.lt_or_ge b w1.heap.size with h' | h'
    · exact h'
    · simp [Array.getElem?_eq_none h'] at hbk
  have hb2 : w2.heap[b]? = some (.cells #[.pointer (some ⟨b, 0, none⟩), v] 67 (0, 0)) := by
    rw [hgrow.block b hlt (fun e => hne e.symm)]
    exact hbk
  have d0 : w2.cell? ⟨b, 0, none⟩ = some (.pointer (some ⟨b, 0, none⟩)) := by rw [Lib.cell_of_heap hb2]; rfl
  have d1 : w2.cell? ⟨b, 1, none⟩ = some v := by rw [Lib.cell_of_heap hb2]; rfl
  have f1 : w2.frozen? ⟨b, 1, none⟩ = false := Lib.frozen_of_heap hb2 1
  obtain ⟨ao, n', cap, rfl⟩ : ∃ ao n' cap, v' = .slice ao n' cap := by
    rcases hown'.2 with ⟨hv, _⟩ | ⟨g, cap, cur, hv, _⟩
    · exact ⟨_, _, _, hv⟩
    · exact ⟨_, _, _, hv⟩
  go_wp2_with fail
  go_ret2
  refine ⟨rfl, ?_, ?_, ?_⟩
  · exact Lib.BuilderAt.put (T := 67) (e := 5) hB hb2 (bs' := bs ++ Lib.strCells s) (by simpa [Lib.strCells_length] using hown') Tryz.Builder_Extra_169.neB5
  · exact (hb1.grown hgrow (by have := hb1.size; omega) (fun k hk => (hown.lt k hk).1)).setCell (p := ⟨b, 1, none⟩) hB _
  · exact (hk1.trans (KeepU.grown hown hgrow)).trans (KeepU.set _ hb2)
end Go.Proofs.YtcaeihfgdlffkaaGreatRRRRDoor.BldW

/- What every tied row of this seat lists: what its list gives the walks (G), and a world that meets it. -/
namespace Go.Proofs.YtcaeihfgdlffkaaGreatRRRRDoor.LaidR
set_option linter.unusedVariables false
open Go.ChangeShapes Go.WideShapes Go.ChangeAt Go.RowKit

theorem own : ownKnob Tryz.prog.godebug = none := by kernel_rfl
theorem gTab : Tryz.prog.globalNamed "internal/strconv.uint64pow10" = some 2 := by kernel_rfl
theorem gTabT : (Tryz.prog.globals[2]?).map (·.type) = some 202 := by kernel_rfl
theorem cTab : Tryz.prog.cellsOf 202 = 20 := by kernel_rfl
theorem cU : Tryz.prog.cellsOf 47 = 1 := by kernel_rfl
/-- what the walks ask of the variables -/
def G (W : World) : Prop := Lib.TabIs Tryz.prog W "internal/strconv.uint64pow10" .u64 Lib.pow10Tab
theorem G_of_laid {W : World} (hS : W.ShapedOpen Tryz.prog) (h : laidMetH Tryz.prog Rows.reportTellsRow.laid W) : G W := by
  have h : laidMet Tryz.prog Rows.reportTellsRow.laid W := h
  have h3 := h.tail.tail
  exact Lib.tabIs_of_head gTab gTabT Tryz.underlying202 Tryz.underlying47 cU cTab h3

/-! ### A world for the witnesses -/
def intsD : DataW Unit → Array Value
  | .agg l => (l.map fun | .lit (.int k z) => Value.int k z | _ => .nilIface).toArray
  | _ => #[]
def textD : DataW Unit → ByteArray
  | .iface _ (.ptr (.agg [.lit (.string s)])) => ⟨s.toArray⟩
  | _ => ⟨#[]⟩
noncomputable def low : Nat := (World.holding Tryz.prog default ⟨#[], #[], []⟩).heap.size
noncomputable def laidWorld (os : Os) : World :=
  let w0 := World.holding Tryz.prog os ⟨#[], #[], []⟩
  let put (h : Array Obj) (g : Nat) (cs : Array Value) : Array Obj := h.modify g fun
    | .cells _ t frozen => .cells cs t frozen
    | o => o
  let h1 := put w0.heap 3 (intsD Rows.laid_math_bits_deBruijn32tab)
  let h2 := put h1 4 (intsD Rows.laid_math_bits_deBruijn64tab)
  let h3 := put h2 2 (intsD Rows.laid_internal_strconv_uint64pow10)
  { w0 with heap := h3 }
theorem laid_met (os : Os) (args : Array Value) : laidMet Tryz.prog Rows.reportTellsRow.laid ((laidWorld os).forCall (fun _ _ => 0) ⟨#[], args, []⟩).memory :=
  laidMet_of_run' 8 (by kernel_rfl) (by kernel_rfl)
end Go.Proofs.YtcaeihfgdlffkaaGreatRRRRDoor.LaidR

/- A report's lines, walked (report.line); a builder on its way (lines of GlbD, ScrB). -/
namespace Go.Proofs.YtcaeihfgdlffkaaGreatRRRRDoor.LneW
set_option linter.unusedVariables false
set_option linter.unusedSimpArgs false
open Go.Sort Go.RowKit Base SeqM StM RtxM BldW LaidR

theorem G_below {w w' : World} (h : G w) (hb : Below w.heap.size w w') : G w' := Lib.tabBelow_of_tabIs h w' hb
theorem below_grow (w : World) (k : Nat) (os : Array Obj) : Below w.heap.size w (grow (w.drewN k) os) := by
  refine ⟨rfl, rfl, rfl, ?_, fun i hi => ?_⟩
  · show w.heap.size ≤ (w.heap ++ os).size
    rw [Array.size_append]; omega
  · show (w.heap ++ os)[i]? = w.heap[i]?
    rw [Array.getElem?_append_left hi]
theorem Itoa_any (n : Int) (w : World) (hG : G w) (h : I64 n) :
    Calls Tryz.prog 51 #[.int .i64 n] w fun e w' => e = .returned (.string ⟨(Lib.itoa n).toArray⟩) ∧ Below w.heap.size w w' :=
  (Tryz.strconv_Itoa n h.1 h.2 w hG).mono fun _ _ ⟨he, k, os, hw⟩ => ⟨he, by rw [hw]; exact below_grow w k os⟩
def Bld (w : World) (B b : Nat) (l : List UInt8) : Prop := Lib.IsBuilder 67 5 B b (Lib.byteCells l) w
theorem WS_any (B b : Nat) (l : List UInt8) (s : List UInt8) (w : World) (h : Bld w B b l) (hlen : l.length + s.length ≤ 1000000) (hBw : B ≤ w.heap.size) :
    Calls Tryz.prog 49 #[.pointer (some ⟨b, 0, none⟩), .string ⟨s.toArray⟩] w fun e w' => (∃ n, e = .returned (.tuple #[.int .i64 n, .nilIface])) ∧ Bld w' B b (l ++ s) ∧ Below B w w' ∧ BldW.KeepU w w' := by
  refine (BldW.WriteString_any B b (Lib.byteCells l) ⟨s.toArray⟩ w h (by rw [Lib.byteCells_length]; show l.length + s.toArray.size ≤ _; simp; omega) hBw).mono ?_
  rintro e w' ⟨rfl, h1, hb⟩
  refine ⟨⟨_, rfl⟩, .inr ?_, hb⟩
  rw [Lib.strCells_toArray, ← Lib.byteCells_append] at h1
  exact h1
theorem WB_any (B b : Nat) (l : List UInt8) (c : UInt8) (ci : Int) (hc : ci = (c.toNat : Int)) (w : World) (h : Bld w B b l) (hlen : l.length + 1 ≤ 1000000) (hBw : B ≤ w.heap.size) :
    Calls Tryz.prog 50 #[.pointer (some ⟨b, 0, none⟩), .int .u8 ci] w fun e w' => e = .returned .nilIface ∧ Bld w' B b (l ++ [c]) ∧ Below B w w' ∧ BldW.KeepU w w' := by
  subst hc
  refine (BldW.WriteByte_any B b (Lib.byteCells l) c.toNat w h (by rw [Lib.byteCells_length]; omega) hBw).mono ?_
  rintro e w' ⟨rfl, h1, hb⟩
  refine ⟨rfl, .inr ?_, hb⟩
  rw [Lib.byteCells_append]
  exact h1
theorem bld_below {w w' : World} {B b : Nat} {l : List UInt8} (h : Bld w B b l) (hb : Below w.heap.size w w') : Bld w' B b l := by
  rcases h with ⟨hB, v, hbk, hown, hne⟩ | ⟨hB, v, hbk, hown, hne⟩
  · exact .inl ⟨hB, v, (hb.block b (Array.getElem?_eq_some_iff.1 hbk).1).trans hbk, own_below hown hb, hne⟩
  · exact .inr ⟨hB, v, (hb.block b (Array.getElem?_eq_some_iff.1 hbk).1).trans hbk, own_below hown hb, hne⟩
/-- the builder at block bb holds l; what is below w0's end, and what is no builder and no bytes, is as it was -/
structure WSt (w0 Wa : World) (bb : Nat) (l : List UInt8) (W : World) : Prop where
  bld : Bld W w0.heap.size bb l
  low : Below w0.heap.size w0 W
  keep : KeepU Wa W
theorem WSt.free {w0 Wa W W' : World} {bb : Nat} {l : List UInt8} (h : WSt w0 Wa bb l W) (hb : Below W.heap.size W W') : WSt w0 Wa bb l W' := ⟨bld_below h.bld hb, bt hb h.low, h.keep.trans (KeepU.of_below hb)⟩
theorem WSt.more {w0 Wa W W' : World} {bb : Nat} {l l' : List UInt8} (h : WSt w0 Wa bb l W) (h' : WSt w0 W bb l' W') : WSt w0 Wa bb l' W' := ⟨h'.bld, h'.low, h.keep.trans h'.keep⟩
theorem WSt.here {w0 Wa W : World} {bb : Nat} {l : List UInt8} (h : WSt w0 Wa bb l W) : WSt w0 W bb l W := ⟨h.bld, h.low, KeepU.refl _⟩
theorem wsC {w0 Wa W : World} {bb : Nat} {l : List UInt8} (s : List UInt8) (h : WSt w0 Wa bb l W) (hlen : l.length + s.length ≤ 1000000) :
    Calls Tryz.prog 49 #[.pointer (some ⟨bb, 0, none⟩), .string ⟨s.toArray⟩] W fun e w' => (∃ n, e = .returned (.tuple #[.int .i64 n, .nilIface])) ∧ WSt w0 Wa bb (l ++ s) w' :=
  (WS_any _ bb l s W h.bld hlen h.low.size).mono fun _ _ ⟨he, h1, h2, h3⟩ => ⟨he, h1, h.low.trans h2, h.keep.trans h3⟩
theorem wbC {w0 Wa W : World} {bb : Nat} {l : List UInt8} (c : UInt8) (ci : Int) (hc : ci = (c.toNat : Int)) (h : WSt w0 Wa bb l W) (hlen : l.length + 1 ≤ 1000000) :
    Calls Tryz.prog 50 #[.pointer (some ⟨bb, 0, none⟩), .int .u8 ci] W fun e w' => e = .returned .nilIface ∧ WSt w0 Wa bb (l ++ [c]) w' :=
  (WB_any _ bb l c ci hc W h.bld hlen h.low.size).mono fun _ _ ⟨he, h1, h2, h3⟩ => ⟨he, h1, h.low.trans h2, h.keep.trans h3⟩
theorem itC {w0 Wa W : World} {bb : Nat} {l : List UInt8} (n : Int) (hn : I64 n) (hG : G w0) (h : WSt w0 Wa bb l W) :
    Calls Tryz.prog 51 #[.int .i64 n] W fun e w' => e = .returned (.string ⟨(Lib.itoa n).toArray⟩) ∧ WSt w0 Wa bb l w' :=
  (Itoa_any n W (G_below hG h.low) hn).mono fun _ _ ⟨he, hb⟩ => ⟨he, h.free hb⟩
theorem rowT_next {c : List Int} {k : Nat} {x : Int} (h : c[k]? = some x) : rowT (c.take (k + 1)) = rowT (c.take k) ++ [32] ++ Lib.itoa x := by
  rw [SeqM.take_next h]; simp [rowT]
/-- a slice that was built on the spot -/
theorem seq_built {W : World} {g n : Nat} {cs : Array Value} {t : TypeId} {fz : Nat × Nat} (xs : List Int) (hn : xs.length = n) (h : W.heap[g]? = some (.cells cs t fz)) (hcs : cs.toList = xs.flatMap inC) (hl : n ≤ 100) :
    Seq 1 inC W 0 W.heap.size (.slice (some ⟨g, 0, none⟩) n n) xs := by
  subst hn
  refine ⟨_, _, rfl, Nat.le_refl _, by unfold maxLen; omega, ⟨flat_len inC_len _, fun _ => ⟨_, rfl, Nat.zero_le _, (Array.getElem?_eq_some_iff.1 h).1, fun j u hu => ?_⟩⟩, fun hh => by cases hh⟩
  have e : (⟨g, 0, none⟩ : Addr).add j = ⟨g, j, none⟩ := by unfold Addr.add; split <;> simp_all
  rw [e]
  have h2 : cs[j]? = some u := by rw [← Array.getElem?_toList, hcs]; exact hu
  simp [World.cell?, h, h2]
theorem seq_builtK {W : World} {g n : Nat} {cs : Array Value} (xs : List Int) (hn : xs.length = n) (h : W.heap[g]? = some (.cells cs 3 (0, 0))) (hcs : cs.toList = xs.flatMap inC) (hl : n ≤ 100) :
    ∀ W', KeepU W W' → Seq 1 inC W' 0 W'.heap.size (.slice (some ⟨g, 0, none⟩) n n) xs := fun W' hk => seq_built xs hn (hk _ _ _ _ h (by decide) (by decide)) hcs hl
def LnRel (w0 Wa : World) (bb : Nat) (l0 : List UInt8) (c : List Int) (i : Value) (wr : World) : Prop := ∃ k : Nat, k ≤ c.length ∧ i = .int .i64 k ∧ WSt w0 Wa bb (l0 ++ rowT (c.take k)) wr
set_option maxHeartbeats 4000000 in
set_option maxRecDepth 100000 in
theorem line_any {w0 Wa w : World} (hG : G w0) (word : List UInt8) (i : Int) (v : Value) (xs : List Int) (hv : ∀ W, Below w0.heap.size w0 W → KeepU w W → Seq 1 inC W 0 W.heap.size v xs) {bb : Nat} {lst : List UInt8} (hS : WSt w0 Wa bb lst w)
    (hi : I64 i) (hr : ∀ x ∈ xs, I64 x) (hw : word.length ≤ 6) (hx9 : xs.length ≤ 9) (hlen : lst.length ≤ 100000) :
    Calls Tryz.prog 25 #[.pointer (some ⟨bb, 0, none⟩), .string ⟨word.toArray⟩, .int .i64 i, v] w fun e w' => e = .returned (.tuple #[]) ∧ WSt w0 Wa bb (lst ++ lineT word i xs) w' := by
  have HG := Lib.hid hG
  have HR := Lib.hid hr
  have HI := Lib.hid hi
  have hil := itoa_le hi
  have HE := Lib.hid (show lst ++ lineT word i xs = lst ++ word ++ [32] ++ Lib.itoa i ++ (if xs = [] then [] else 58 :: rowT xs) ++ [10] by
    unfold lineT; rw [rowT_cons]; simp [rowT])
  obtain ⟨A, cap, rfl, hc1, hc2, _⟩ := id (hv w hS.low (KeepU.refl _))
  have HV := Lib.hid (fun (W : World) (h : ∃ l', WSt w0 w bb l' W) (k : Nat) (hk : k < xs.length) => by
    have hl : Below w0.heap.size w0 W ∧ KeepU w W := by obtain ⟨_, h⟩ := h; exact ⟨h.low, h.keep⟩
    obtain ⟨A', cap', e', _, _, hr, _⟩ := hv W hl.1 hl.2
    cases e'
    exact rdI hr (i := k) hk)
  have HS := Lib.hid hS
  have HPL := Lib.hid (fun k => rowT_le (l := xs.take k) (fun x hx => hr x (List.mem_of_mem_take hx)))
  obtain ⟨n, hn⟩ : ∃ n, xs.length = n := ⟨_, rfl⟩
  rw [hn] at hc1 hx9 HV ⊢
  unfold maxLen at hc2
  have HN := Lib.hid hn
  have HH := Lib.hid hS.here
  clear hv hG hr hS hn hi
  go_enter Tryz.func25, Tryz.ntmps25
  go_wp2_with fail
  refine (wsC word HH.out (by omega)).mono ?_
  rintro e w1 ⟨⟨m, rfl⟩, h1⟩
  have H1 := Lib.hid h1
  clear h1
  go_wp2_with fail
  refine (wbC 32 _ rfl H1.out (by simp only [List.length_append]; omega)).mono ?_
  rintro e w2 ⟨rfl, h2⟩
  have H2 := Lib.hid h2
  clear h2
  go_wp2_with fail
  refine (itC i HI.out HG.out H2.out).mono ?_
  rintro e w3 ⟨rfl, h3⟩
  have H3 := Lib.hid h3
  clear h3
  go_wp2_with fail
  refine (wsC _ H3.out (by simp only [List.length_append, List.length_cons, List.length_nil]; omega)).mono ?_
  rintro e w4 ⟨⟨m4, rfl⟩, h4⟩
  have H4 := Lib.hid h4
  clear h4
  by_cases hn0 : n = 0
  · subst hn0
    have hx0 : xs = [] := List.length_eq_zero_iff.1 HN.out
    have HX0 := Lib.hid hx0
    clear hx0
    go_wp2_with fail
    go_loopw [26] (fun i wr => i = .int .i64 0 ∧ w4 = wr) (fun _ _ => 0)
    case atStart => exact ⟨rfl, rfl⟩
    case round =>
      obtain ⟨rfl, rfl⟩ := hrel
      go_wp2_with fail
      refine (wbC 10 _ rfl H4.out (by simp only [List.length_append, List.length_cons, List.length_nil]; omega)).mono ?_
      rintro e w5 ⟨rfl, h5⟩
      have H5 := Lib.hid h5
      clear h5
      go_wp2_with fail
      go_end0
      refine ⟨rfl, ?_⟩
      rw [HE.out, if_pos HX0.out, List.append_nil]
      exact HS.out.more H5.out
  · have hn1 : 0 < n := by omega
    go_wp2_with fail
    refine (wbC 58 _ rfl H4.out (by simp only [List.length_append, List.length_cons, List.length_nil]; omega)).mono ?_
    rintro e w5 ⟨rfl, h5⟩
    have H5 := Lib.hid h5
    clear h5
    obtain ⟨L5, eL5⟩ : ∃ L5, lst ++ word ++ [32] ++ Lib.itoa i ++ [58] = L5 := ⟨_, rfl⟩
    have hL5 : L5.length ≤ 100040 := by rw [← eL5]; simp only [List.length_append, List.length_cons, List.length_nil]; omega
    have EL5 := Lib.hid eL5
    rw [eL5] at H5
    clear eL5
    have H0 := Lib.hid (show LnRel w0 w bb L5 xs (.int .i64 0) w5 from ⟨0, Nat.zero_le _, rfl, by simpa [rowT] using H5.out⟩)
    go_wp2_with fail
    go_loopw [26] (fun i wr => LnRel w0 w bb L5 xs i wr) (fun i _ => n - (RowKit.intOf i).toNat)
    case atStart => exact H0.out
    case round =>
      obtain ⟨k, hk, rfl, hw⟩ := hrel
      rw [HN.out] at hk
      have HW := Lib.hid hw
      clear H0
      by_cases hlt : k < n
      · obtain ⟨ad, x, rfl, _, hb, hx, c0⟩ := HV.out wr ⟨_, hw⟩ k hlt
        have hxr := HR.out x (List.mem_of_getElem? hx)
        have HX := Lib.hid (rowT_next hx)
        have hp := HPL.out k
        have hxl := itoa_le hxr
        rw [List.length_take, HN.out] at hp
        have hb2 : L5.length + (rowT (xs.take k)).length + 1 + (Lib.itoa x).length ≤ 1000000 := by omega
        have HXR := Lib.hid hxr
        clear hw hx hp hxr hxl
        go_wp2_with fail
        refine (wbC 32 _ rfl HW.out (by (try simp only [List.length_append, List.length_cons, List.length_nil]); omega)).mono ?_
        rintro e W1 ⟨rfl, h1⟩
        have H1' := Lib.hid h1
        clear h1
        go_wp2_with fail
        refine (itC x HXR.out HG.out H1'.out).mono ?_
        rintro e W2 ⟨rfl, h2⟩
        have H2' := Lib.hid h2
        clear h2
        go_wp2_with fail
        refine (wsC _ H2'.out (by simp only [List.length_append, List.length_cons, List.length_nil]; omega)).mono ?_
        rintro e W3 ⟨⟨m5, rfl⟩, h3⟩
        have H3' := Lib.hid h3
        clear h3
        go_wp2_with fail
        refine ⟨⟨k + 1, by rw [HN.out]; omega, by go_num, ?_⟩, by simp [RowKit.intOf]; omega⟩
        rw [HX.out]
        simpa [List.append_assoc] using H3'.out
      · obtain rfl : k = n := by omega
        have hp := HPL.out k
        rw [List.length_take, HN.out] at hp
        clear hw
        go_wp2_with fail
        refine (wbC 10 _ rfl HW.out (by simp only [List.length_append]; omega)).mono ?_
        rintro e w6 ⟨rfl, h6⟩
        have H6 := Lib.hid h6
        clear h6
        go_wp2_with fail
        go_end0
        refine ⟨rfl, ?_⟩
        have hne : ¬ xs = [] := fun h => hn0 (by rw [← HN.out, h]; rfl)
        rw [HE.out, if_neg hne]
        have h7 := HS.out.more H6.out
        rw [← EL5.out, List.take_of_length_le (by rw [HN.out]; exact Nat.le_refl _)] at h7
        simpa [List.append_assoc] using h7
end Go.Proofs.YtcaeihfgdlffkaaGreatRRRRDoor.LneW

/- num.Div, copseref01.Div at a divisor from 1 on, walked (lines of Rat3, RefPt). -/
namespace Go.Proofs.YtcaeihfgdlffkaaGreatRRRRDoor.DvrW
set_option linter.unusedVariables false
open Go.RowKit Base
theorem tdiv_bd (p d : Int) (hd : 1 ≤ d) (h : -9223372036854775808 ≤ p ∧ p ≤ 9223372036854775807) : -9223372036854775808 ≤ p.tdiv d ∧ p.tdiv d ≤ 9223372036854775807 := by
  have h1 : (p.tdiv d).natAbs ≤ p.natAbs := by rw [Int.natAbs_tdiv]; exact Nat.div_le_self _ _
  have h2 : p.tdiv d < 0 → p < 0 := by
    intro hlt
    rcases Int.lt_or_le p 0 with h3 | h3
    · exact h3
    · exfalso; have := Int.tdiv_nonneg h3 (show 0 ≤ d by omega); omega
  have h3 : p ≤ 0 → p.tdiv d ≤ 0 := by
    intro hle
    have := Int.tdiv_nonneg (show 0 ≤ -p by omega) (show 0 ≤ d by omega)
    rw [Int.neg_tdiv] at this
    omega
  omega
theorem div_floor (a b : Int) (hb : 1 ≤ b) : (0 ≤ a.tmod b → a.tdiv b = a / b ∧ a.tmod b = a % b) ∧ (a.tmod b < 0 → a.tdiv b - 1 = a / b ∧ a.tmod b + b = a % b) ∧ -b < a.tmod b ∧ a.tmod b < b := by
  have h := Int.mul_tdiv_add_tmod a b
  have hlt : (a.tmod b).natAbs < b.natAbs := by rw [Int.natAbs_tmod]; exact Nat.mod_lt _ (by omega)
  refine ⟨fun h0 => ?_, fun h0 => ?_, by omega, by omega⟩
  · have e : a / b = a.tdiv b := by
      conv => lhs; rw [← h]
      rw [Int.add_comm, Int.add_mul_ediv_left _ _ (by omega), Int.ediv_eq_zero_of_lt h0 (by omega), Int.zero_add]
    refine ⟨e.symm, ?_⟩
    have h2 := Int.mul_ediv_add_emod a b
    rw [e] at h2
    omega
  · have e : a / b = a.tdiv b - 1 := by
      have h3 : a = (a.tmod b + b) + b * (a.tdiv b - 1) := by rw [Int.mul_sub, Int.mul_one]; omega
      conv => lhs; rw [h3]
      rw [Int.add_mul_ediv_left _ _ (by omega), Int.ediv_eq_zero_of_lt (by omega) (by omega), Int.zero_add]
    refine ⟨e.symm, ?_⟩
    have h2 := Int.mul_ediv_add_emod a b
    rw [e, Int.mul_sub, Int.mul_one] at h2
    omega
theorem ret_int3' {a b c x y z : Int} (h : a = x) (h2 : b = y) (h3 : c = z) : Ending.returned (.tuple #[.int .i64 a, .int .i64 b, .int .i64 c]) = .returned (.tuple #[.int .i64 x, .int .i64 y, .int .i64 z]) := by rw [h, h2, h3]
set_option maxHeartbeats 1000000 in
theorem NDiv_any (a b : Int) (w : World) (a0 : -9223372036854775807 ≤ a) (a1 : a ≤ 9223372036854775807) (b0 : 1 ≤ b) (b1 : b ≤ 9223372036854775807) :
    Calls Tryz.prog 26 #[.int .i64 a, .int .i64 b] w fun e w' => e = .returned (.tuple #[.int .i64 (a / b), .int .i64 (a % b), .int .i64 0]) ∧ ∃ q, w' = w.drewN q := by
  obtain ⟨f1, f2, f3, f4⟩ := div_floor a b b0
  have ht := tdiv_bd a b b0 ⟨by omega, a1⟩
  have hd := Int.mul_tdiv_add_tmod a b
  have hz : (b == 0) = false := by simp; omega
  have hm1 : (b == -1) = false := by simp; omega
  by_cases h : 0 ≤ a.tmod b
  · have F := Lib.hid (f1 h)
    clear f1 f2 hd
    · have hb : (a == -9223372036854775808) = false := by simp; omega
      go_enter Tryz.func26, Tryz.ntmps26
      go_wp2
      go_quiet (fail)
      go_wp2
      go_ret3
      exact ⟨ret_int3' F.out.1 F.out.2 rfl, _, rfl⟩
  · have F := Lib.hid (f2 (by omega))
    have ht2 : -9223372036854775808 ≤ a.tdiv b - 1 := by
      have h1 := F.out.1
      rw [h1]
      have : -9223372036854775808 / b ≤ a / b := Int.ediv_le_ediv (by omega) (by omega)
      have h2 : -9223372036854775808 ≤ (-9223372036854775808 : Int) / b := by
        apply Int.le_ediv_of_mul_le (by omega)
        omega
      omega
    clear f1 f2 hd
    · have hb : (a == -9223372036854775808) = false := by simp; omega
      go_enter Tryz.func26, Tryz.ntmps26
      go_wp2
      go_quiet (fail)
      go_wp2
      go_ret3
      exact ⟨ret_int3' F.out.1 F.out.2 rfl, _, rfl⟩
set_option maxHeartbeats 1000000 in
theorem RDiv_any (a b : Int) (w : World) (a0 : -9223372036854775808 ≤ a) (a1 : a ≤ 9223372036854775807) (b0 : 1 ≤ b) (b1 : b ≤ 9223372036854775807) :
    Calls Tryz.prog 29 #[.int .i64 a, .int .i64 b] w fun e w' => e = .returned (.tuple #[.int .i64 (a / b), .int .i64 (a % b), .int .i64 0]) ∧ ∃ q, w' = w.drewN q := by
  obtain ⟨f1, f2, f3, f4⟩ := div_floor a b b0
  have ht := tdiv_bd a b b0 ⟨by omega, a1⟩
  have hd := Int.mul_tdiv_add_tmod a b
  have hz : (b == 0) = false := by simp; omega
  have hm1 : (b == -1) = false := by simp; omega
  by_cases h : 0 ≤ a.tmod b
  · have F := Lib.hid (f1 h)
    clear f1 f2 hd
    go_enter Tryz.func29, Tryz.ntmps29
    go_wp2
    go_quiet (fail)
    go_wp2
    go_ret3
    exact ⟨ret_int3' F.out.1 F.out.2 rfl, _, rfl⟩
  · have F := Lib.hid (f2 (by omega))
    have ht2 : -9223372036854775808 ≤ a.tdiv b - 1 := by
      have h1 := F.out.1
      rw [h1]
      have : -9223372036854775808 / b ≤ a / b := Int.ediv_le_ediv (by omega) (by omega)
      have h2 : -9223372036854775808 ≤ (-9223372036854775808 : Int) / b := by
        apply Int.le_ediv_of_mul_le (by omega)
        omega
      omega
    clear f1 f2 hd
    go_enter Tryz.func29, Tryz.ntmps29
    go_wp2
    go_quiet (fail)
    go_wp2
    go_ret3
    exact ⟨ret_int3' F.out.1 F.out.2 rfl, _, rfl⟩
end Go.Proofs.YtcaeihfgdlffkaaGreatRRRRDoor.DvrW
