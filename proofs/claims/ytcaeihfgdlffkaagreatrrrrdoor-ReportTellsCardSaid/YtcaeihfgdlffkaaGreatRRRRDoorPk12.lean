/- slices.Values at the numbers of a column: what it hands back, and what that gives (the kit's worked proof at its toy ggi, turned to this program). -/
import Derived.RangeFuncBox
import Derived.RangeFuncLeaves
import Derived.Shelf.Abstract
import Derived.WalkKit
import Derived.OwnWalkIn
import Derived.TacticsInMore
import Derived.LoopNIn
import Derived.LoopIn
import Derived.Test.YtcaeihfgdlffkaaGreatRRRRDoorRows
import Derived.Test.YtcaeihfgdlffkaaGreatRRRRDoorPk00
import Derived.Test.YtcaeihfgdlffkaaGreatRRRRDoorShelf
import Derived.Test.YtcaeihfgdlffkaaGreatRRRRDoorPk06
import Derived.RangeFuncWrites
import Derived.RangeFuncNested
import Derived.Deep.AppendLies
import Derived.Lib.SlKeysI
import Derived.Sort.OwnSorted
import Derived.Test.YtcaeihfgdlffkaaGreatRRRRDoorPk07
import Derived.Test.YtcaeihfgdlffkaaGreatRRRRDoorPk11
import Derived.Deep.QuietTactic
namespace Go.Proofs.YtcaeihfgdlffkaaGreatRRRRDoor.ValW
set_option linter.unusedVariables false
open Go.RowKit Go.Shelf Base

attribute [local go_sem] Oper.semAt_some

/-- what has come when k rounds are over -/
def upto {α : Type} (f : Nat → α) (k : Nat) : List α := (List.range k).map f
theorem upto_succ {α : Type} (f : Nat → α) (k : Nat) : upto f (k + 1) = upto f k ++ [f k] := by simp [upto, List.range_succ]
theorem upto_length {α : Type} (f : Nat → α) (k : Nat) : (upto f k).length = k := by simp [upto]
theorem upto_all (zs : List Int) : upto (fun j => zs[j]?.getD 0) zs.length = zs := by
  apply List.ext_getElem
  · simp [upto]
  · intro i h1 h2
    simp [upto, h2]
theorem upto_take (zs : List Int) {k : Nat} (hk : k ≤ zs.length) : upto (fun j => zs[j]?.getD 0) k = zs.take k := by
  apply List.ext_getElem
  · simp [upto, hk]
  · intro i h1 h2
    have : i < zs.length := by simp [upto] at h1; omega
    simp [upto, this]
set_option maxRecDepth 100000 in
set_option maxHeartbeats 2000000 in
theorem values1_in (F : Fence) (n : Nat) (h7 : F.fn 97) (hro : F.round = none) (hn : 1 ≤ n) (l Bs n₀ b off len cap : Nat) (zs : List Int) (hreach : len * 8 ≤ 140737488351232) (hb : b < n₀) (J Jx : List Int → World → Prop)
    (hY : ∀ pre x W, J pre W → pre.length < len → YieldAt F (n - 1) Tryz.prog l #[.int .i64 x] W fun e W' =>
      (e = .returned (.bool true) ∧ J (pre ++ [x]) W' ∧ Below n₀ W W') ∨ (e = .returned (.bool false) ∧ Jx (pre ++ [x]) W'))
    (W : World) (hBs : W.cell? ⟨Bs, 0, none⟩ = some (.slice (some ⟨b, off, none⟩) len cap)) (hc : ∀ j, j < len → W.cell? ⟨b, off + j, none⟩ = some (.int .i64 (zs[j]?.getD 0))) (h0 : J [] W) :
    CallsIn F n Tryz.prog 97 #[.func (.yield l) #[] #[], .pointer (some ⟨Bs, 0, none⟩)] W fun e W' => (∃ v, e = .returned v) ∧
      ((∃ ys, ys = upto (fun j => zs[j]?.getD 0) len ∧ J ys W') ∨ (∃ pre, (∃ k, k ≤ len ∧ pre = upto (fun j => zs[j]?.getD 0) k) ∧ Jx pre W')) := by
  refine callsIn_of_wp Tryz.func97 rfl h7 ?_ hro
  simp only [Tryz.ntmps97, List.size_toArray, List.length_cons, List.length_nil, Nat.reduceAdd, Nat.reduceSub, Array.replicate_succ, Array.replicate_zero, List.push_toArray, List.append_toArray, List.nil_append, List.cons_append]
  gi_wp2
  gi_loopw [7] (fun i wr => ∃ k : Nat, k ≤ len ∧ i = .int .i64 k ∧ J (upto (fun j => zs[j]?.getD 0) k) wr ∧ Below n₀ W wr)
    (fun i _ => len - (intOf i).toNat)
  case atStart => exact ⟨0, Nat.zero_le _, rfl, h0, Below.refl _ _⟩
  case round =>
    obtain ⟨k, hk, rfl, hJs, hnx⟩ := hrel
    have hcx : k < len → wr.cell? ⟨b, off + k, none⟩ = some (.int .i64 (zs[k]?.getD 0)) := fun h => (hnx.cell (p := ⟨b, off + k, none⟩) hb).trans (hc k h)
    by_cases hlt : k < len
    · obtain ⟨fn, tmps, assign, body, hy, hR⟩ := hY _ (zs[k]?.getD 0) wr hJs (by rw [upto_length]; exact hlt)
      have hcx' := hcx hlt
      gi_wp2
      refine hR.mono ?_
      rintro e W3 (⟨rfl, hJ3, hk3⟩ | ⟨rfl, hJx3⟩)
      · gi_wp2
        go_roundw
        case rel => exact ⟨k + 1, by omega, by simp, by rw [upto_succ]; exact hJ3, hnx.trans hk3⟩
        case measure => simp [intOf]; omega
      · gi_wp2
        refine bodyPost_ret (results_none rfl _ _ _) rfl ?_
        exact ⟨⟨_, rfl⟩, .inr ⟨_, ⟨k + 1, by omega, (upto_succ _ _).symm⟩, hJx3⟩⟩
    · obtain rfl : k = len := by omega
      gi_wp2
      go_end0
      exact ⟨⟨_, rfl⟩, .inl ⟨_, rfl, hJs⟩⟩
/-- the slice value sv holds the numbers zs, in a block below n₀ -/
def Ints (n₀ : Nat) (W : World) (sv : Value) (zs : List Int) : Prop :=
  ∃ b off cap, sv = .slice (some ⟨b, off, none⟩) zs.length cap ∧ b < n₀ ∧ ∀ j, j < zs.length → W.cell? ⟨b, off + j, none⟩ = some (.int .i64 (zs[j]?.getD 0))
theorem Ints.below {n₀ : Nat} {A B : World} (h : Below n₀ A B) {sv : Value} {zs : List Int} : Ints n₀ A sv zs → Ints n₀ B sv zs
  | ⟨b, off, cap, e, hb, hc⟩ => ⟨b, off, cap, e, hb, fun j hj => (h.cell (p := ⟨b, off + j, none⟩) hb).trans (hc j hj)⟩
set_option maxHeartbeats 1000000 in
theorem values_in (F : Fence) (n : Nat) (h5 : F.fn 60) (hro : F.round = none) (a : Option Addr) (len cap : Nat) (w : World) :
    CallsIn F n Tryz.prog 60 #[.slice a len cap] w fun e w' => e = .returned (.func (.func 97) #[] #[.pointer (some ⟨w.heap.size, 0, none⟩)]) ∧ w' = w.alloc (.cells #[.slice a len cap] 77) := by
  refine callsIn_of_wp Tryz.func60 rfl h5 ?_ hro
  simp only [Tryz.ntmps60, List.size_toArray, List.length_cons, List.length_nil, Nat.reduceAdd, Nat.reduceSub, Array.replicate_succ, Array.replicate_zero, List.push_toArray, List.append_toArray, List.nil_append, List.cons_append]
  gi_wp2
  go_ret
  exact ⟨rfl, rfl⟩
theorem values_stops (F : Fence) (n : Nat) (h7 : F.fn 97) (hro : F.round = none) (hn : 1 ≤ n) (Bs n₀ : Nat) (sv : Value) (zs : List Int) (hreach : zs.length * 8 ≤ 140737488351232) (w : World) (hBs : Bs < w.heap.size) (hn₀ : n₀ ≤ w.heap.size)
    (hc : w.cell? ⟨Bs, 0, none⟩ = some sv) (hI : Ints n₀ w sv zs) :
    SeqStopsK F n Tryz.prog 97 #[.pointer (some ⟨Bs, 0, none⟩)] (fun x : Int => #[Value.int .i64 x]) (Below n₀) (fun ys => ys = zs) (fun pre => pre <+: zs) zs.length w := fun l J Jx W hW _ _ hY h0 => by
  have hc' := (hW.cell (p := ⟨Bs, 0, none⟩) hBs).trans hc
  obtain ⟨b, off, cap, rfl, hb, hcs⟩ := hI.below (hW.mono hn₀)
  refine (values1_in F n h7 hro hn l Bs n₀ b off zs.length cap zs hreach hb J Jx hY W hc' hcs h0).mono ?_
  rintro e W' ⟨he, ⟨ys, rfl, hj⟩ | ⟨pre, ⟨k, hk, rfl⟩, hj⟩⟩
  · exact ⟨he, .inl ⟨_, upto_all zs, hj⟩⟩
  · exact ⟨he, .inr ⟨_, by rw [upto_take zs hk]; exact List.take_prefix _ _, hj⟩⟩
end Go.Proofs.YtcaeihfgdlffkaaGreatRRRRDoor.ValW

/- slices.AppendSeq, Collect, Sorted over slices.Values, walked. -/
namespace Go.Proofs.YtcaeihfgdlffkaaGreatRRRRDoor.SrtW
set_option linter.unusedVariables false
open Go.RowKit Go.Shelf Go.WideElems Go.Sort Base SeqM ValW RptM RptC

attribute [local go_sem] Oper.semAt_some

theorem eltI : Elt Tryz.prog 32 3 (.int .i64 0) 1 8 := elt_mk (z := .int .i64 0) Tryz.underlying32 (by kernel_rfl) rfl (by omega) (by omega)
/-- 's = append(s, x...)' at a plain list in a fence: where the new row lies -/
theorem listIn {F : Fence} {fd : Nat} {P : Program} {ops : Array Oper} {rest : List Oper} {o : Oper} {a : Act} {Q : Exit → Act → World → Prop} {w : World} (hgd : o.guard = none) (s x : Operand) (t : TypeId)
    (ho : o.op = .call { callee := .builtin .append, args := #[s, x], argTypes := #[t, t] })
    {e : TypeId} {z : Value} {size bytes : Nat} (E : Elt P t e z size bytes) (base : Nat) (v : Value) (n m c : Nat) (ad : Addr) (xs news : List Value) (hs : a.eval s = v)
    (hown : w.ownsRow base e size v n xs) (hx : a.eval x = .slice (some ad) m c) (hl : news.length = m * size) (hnews : ∀ j u, news[j]? = some u → w.cell? (ad.add j) = some u) (h1 : ∀ u ∈ news, u.oneCell' = true) (hm : 0 < m)
    (hn : n + m ≤ 1073741824) (hbase : base ≤ w.heap.size) (H : Nat) (hH : w.heap.size = H)
    (h : ∀ g cap w', w'.ownsRow base e size (.slice (some ⟨g, 0, none⟩) (n + m) cap) (n + m) (xs ++ news) → w.grownBy w' v.ownBlock → (v.ownBlock = some g ∨ g = H) → g < w'.heap.size → wpListIn F fd P ops Q rest (a.put o.dst (.slice (some ⟨g, 0, none⟩) (n + m) cap)) w') :
    wpListIn F fd P ops Q (o :: rest) a w := by
  obtain ⟨ht, h0, hby, i, hi, hz, hsz, hbs, hzs⟩ := E
  refine wpListIn_plain hgd fun K hK' => ?_
  obtain ⟨g, cap, w', hrun, r1, r2, r3, r4⟩ := run_append_lies (P := P) w t o.type base e i z size bytes ht hi hz hsz hbs hzs h0 v n xs hown ad m c news hl hnews h1 hm (by unfold maxLen; omega) (by
    have h2 : (n + m) * bytes ≤ 1073741824 * 131072 := Nat.mul_le_mul hn hby
    omega) hbase H hH
  unfold Oper.wpIn
  refine ⟨?_, ?_⟩
  · simp [Oper.about, ho, resolve, Target.leads, Sem.run_pure]
  · rw [Oper.semAt_plain F _ _ (by rw [ho]; intro c hc'; cases hc')]
    simp [execOp, ho, resolve, invoke, builtin, hs, hx, hrun, Result.andThen]
    exact hK' _ _ (h g cap w' r1 r2 r3 r4)
set_option maxRecDepth 100000 in
set_option maxHeartbeats 4000000 in
theorem appendSeq_any (Bs : Nat) (sv : Value) (zs : List Int) (hz : zs.length ≤ 1000000) (w : World) (hBs : Bs < w.heap.size) (hc : w.cell? ⟨Bs, 0, none⟩ = some sv) (hI : Ints w.heap.size w sv zs) :
    Calls Tryz.prog 125 #[.slice none 0 0, .func (.func 97) #[] #[.pointer (some ⟨Bs, 0, none⟩)]] w fun e w' =>
      (∃ v, e = .returned v ∧ w'.ownsRow w.heap.size 3 1 v zs.length (zs.map (Value.int .i64))) ∧ Below w.heap.size w w' := by
  refine callsIn_wide (n := 9) |>.1 ?_
  refine callsIn_of_wp_marks Tryz.func125 rfl trivial ?_ rfl
  simp only [Tryz.ntmps125, List.size_toArray, List.length_cons, List.length_nil, Nat.reduceAdd, Nat.reduceSub, Array.replicate_succ, Array.replicate_zero, List.push_toArray, List.append_toArray, List.nil_append, List.cons_append]
  gi_wp2
  have bO := Boxed.new w 32 (.slice none 0 0)
  have hB0 := below_a1 w (.cells #[.slice none 0 0] 32)
  have hJ : OwnFrom (w.alloc (.cells #[.slice none 0 0] 32)).heap.size (fun (pre : List Int) (W : World) => (∃ v, Boxed W w.heap.size 32 v ∧ W.ownsRow w.heap.size 3 1 v pre.length (pre.map (Value.int .i64)) ∧ True) ∧ Below w.heap.size w W) := OwnFrom.and (Own.from (holdsRow_own w.heap.size w.heap.size 32 3 1 (fun (pre : List Int) => pre.length) (fun (pre : List Int) => pre.map (Value.int .i64)) (fun _ _ => True)) _) (ownFrom_below (Nat.le_refl _) (by simp))
  refine wpIn_rangeFunc_ownG (F := Fence.wide) rfl (by decide) (gf := 97) (lb := #[.pointer (some ⟨Bs, 0, none⟩)]) rfl trivial (enters_of Tryz.func97 (by kernel_rfl) rfl)
    (values_stops Fence.wide (9 - 1) trivial rfl (by omega) Bs w.heap.size sv zs (by omega) _ (by simp; omega) (by simp) ((hB0.cell (p := ⟨Bs, 0, none⟩) hBs).trans hc) (hI.below hB0)) belowK_t (belowK_b (by simp)) (Below.refl _ _) (fun _ => rfl)
    (fun (pre : List Int) (W : World) => (∃ v, Boxed W w.heap.size 32 v ∧ W.ownsRow w.heap.size 3 1 v pre.length (pre.map (Value.int .i64)) ∧ True) ∧ Below w.heap.size w W)
    (fun _ _ _ => False) hJ (fun _ _ _ _ _ hs _ _ => hs) ⟨⟨_, bO, World.ownsRow_nil _ _ _ _, trivial⟩, hB0⟩
    (fun x => { tmps := #[.slice none 0 0, .func (.func 97) #[] #[.pointer (some ⟨Bs, 0, none⟩)], .pointer (some ⟨w.heap.size, 0, none⟩), undef, .slice none 0 0, .int .i64 x, .func (.func 97) #[] #[.pointer (some ⟨Bs, 0, none⟩)], .int .i64 x, undef, undef, undef, undef, undef], defers := [] }) ?assign ?body ?done ?stop
  case assign =>
    intro l x W K hK
    gi_wp2
    exact hK
  case body =>
    rintro l pre x W ⟨⟨v, hv, hrow, _⟩, hB⟩ hpl
    have hc := hv.cell
    gi_wp2_with (gi_at_builtin; refine listIn rfl _ _ 32 rfl eltI w.heap.size v pre.length 1 1 ⟨W.heap.size, 0, none⟩ (pre.map (Value.int .i64)) [.int .i64 x] rfl (hrow.alloc _) rfl rfl (cell_one_new _ _ _) (by simp [Value.oneCell']) (by omega) (by omega) (by have := hB.size; simp; omega) (W.heap.size + 1) (by simp) ?_; intro g cap' w1 hown' hgrow hat hlt; obtain ⟨hv1, hv2, hr2, hk2, hb2⟩ := hv.appended (by decide) hrow hB.size (Nat.le_refl _) hown' hgrow; have hc1 := hv1.cell; have hf1 := hv1.frozen)
    exact ⟨hk2.from _, hb2, ⟨_, hv2, by simpa using hr2, trivial⟩, hB.trans hb2⟩
  case done =>
    rintro D ys W hD rfl ⟨⟨v, hv, hrow, _⟩, hB⟩ hK
    have hc := hv.cell
    gi_wp2
    refine ⟨by simp, .inl ⟨_, _, rfl, run_takeDeferred hK, ?_⟩⟩
    exact ⟨_, results_tmp rfl _ _ _, ⟨v, rfl, ownsRow_putObj hrow _ hK rfl⟩, hB.trans (belowK_b (w := w) (Nat.le_refl _) W D _ _ (by simp at hD; omega) hK rfl rfl)⟩
  case stop =>
    rintro D c pre W _ _ h _
    exact h.elim
theorem collect_any (Bs : Nat) (sv : Value) (zs : List Int) (hz : zs.length ≤ 1000000) (w : World) (hBs : Bs < w.heap.size) (hc : w.cell? ⟨Bs, 0, none⟩ = some sv) (hI : Ints w.heap.size w sv zs) :
    Calls Tryz.prog 95 #[.func (.func 97) #[] #[.pointer (some ⟨Bs, 0, none⟩)]] w fun e w' =>
      (∃ v, e = .returned v ∧ w'.ownsRow w.heap.size 3 1 v zs.length (zs.map (Value.int .i64))) ∧ Below w.heap.size w w' := by
  go_enter Tryz.func95, Tryz.ntmps95
  go_wp2_with fail
  refine (appendSeq_any Bs sv zs hz w hBs hc hI).mono ?_
  rintro e w1 ⟨⟨v, rfl, hv⟩, hb⟩
  go_wp2
  go_ret
  exact ⟨⟨v, rfl, hv⟩, hb⟩
theorem merge_sortR (zs : List Int) : zs.mergeSort (fun x y => decide (x ≤ y)) = sortR zs := by
  refine sortR_of (List.mergeSort_perm _ _) ?_
  have h := List.pairwise_mergeSort (le := fun x y : Int => decide (x ≤ y)) (fun a b c h1 h2 => by simp at h1 h2 ⊢; omega) (fun a b => by simp; omega) zs
  exact h.imp (fun h => by simpa using h)
theorem sorted_any (Bs : Nat) (sv : Value) (zs : List Int) (hz : zs.length ≤ 1000000) (hne : 0 < zs.length) (w : World) (hBs : Bs < w.heap.size) (hc : w.cell? ⟨Bs, 0, none⟩ = some sv) (hI : Ints w.heap.size w sv zs) :
    Calls Tryz.prog 59 #[.func (.func 97) #[] #[.pointer (some ⟨Bs, 0, none⟩)]] w fun e w' =>
      (∃ v, e = .returned v ∧ w'.ownsRow w.heap.size 3 1 v zs.length ((sortR zs).map (Value.int .i64))) ∧ Below w.heap.size w w' := by
  go_enter Tryz.func59, Tryz.ntmps59
  go_wp2_with fail
  refine (collect_any Bs sv zs hz w hBs hc hI).mono ?_
  rintro e w1 ⟨⟨v, rfl, hv⟩, hb⟩
  rcases hv.2 with ⟨rfl, h0⟩ | ⟨gb, cap, cur, rfl, hbase, hgb, r1, r2, r3, r4⟩
  · omega
  · have hH : Holds encZ w1 gb 0 zs.toArray := holds_of_block_i hgb (by simpa using r4)
    have hgl : gb < w1.heap.size := (Array.getElem?_eq_some_iff.1 hgb).1
    have cS := Tryz.slices_Sort_int gb 0 cap zs w1 hH hgl (by omega)
    go_wp2_with fail
    refine cS.mono ?_
    rintro e w2 ⟨rfl, k, os, rfl⟩
    go_wp2
    go_ret
    refine ⟨⟨_, rfl, ?_⟩, hb.grown (grownBy_sorted_i _) hb.size (fun j hj => by cases hj; exact hbase)⟩
    rw [← merge_sortR]
    exact ownsRow_sorted_i (by simp) hbase hgb r1 r2 r3
end Go.Proofs.YtcaeihfgdlffkaaGreatRRRRDoor.SrtW

/- report.Deviation, walked. -/
namespace Go.Proofs.YtcaeihfgdlffkaaGreatRRRRDoor.DevW
set_option linter.unusedVariables false
set_option linter.unusedSimpArgs false
open Go.RowKit Base BigM BigZ WideM RptM RptO RptC WidX SeqM HzW RotW

/-- a column as a value -/
structure Col where
  least : Int
  most : Int
  mid : Int
  sum : Int
  sp : Int
def colC (c : Col) : List Value := [.int .i64 c.least, .int .i64 c.most, .int .i64 c.mid, .int .i64 c.sum, .int .u64 (hiW c.sp), .int .u64 (loW c.sp)]
def CV (c : Col) : Value := .agg (colC c).toArray
def Spr (z : Int) : Prop := 0 ≤ z ∧ z < 340282366920938463463374607431768211456
set_option maxHeartbeats 2000000 in
theorem Dev_any (c : Col) (n : Int) (hs : Spr c.sp) (hn : -9223372036854775808 ≤ n ∧ n ≤ 9223372036854775807) (w : World) :
    Calls Tryz.prog 14 #[CV c, .int .i64 n] w fun e w' => e = .returned (.tuple #[.int .i64 (devV c.sp n), .int .i64 (devE c.sp n)]) ∧ Below w.heap.size w w' := by
  obtain ⟨l, m, d, s, a⟩ := c
  have HS := Lib.hid hs
  obtain ⟨hi, eh⟩ : ∃ hi, hiW a = hi := ⟨_, rfl⟩
  obtain ⟨lo, el⟩ : ∃ lo, loW a = lo := ⟨_, rfl⟩
  have HW := Lib.hid (show WV a = .agg #[.int .u64 hi, .int .u64 lo] by unfold WV; rw [eh, el])
  have HC : CV ⟨l, m, d, s, a⟩ = .agg #[.int .i64 l, .int .i64 m, .int .i64 d, .int .i64 s, .int .u64 hi, .int .u64 lo] := by
    unfold CV colC; rw [eh, el]
  rw [HC]
  clear HC eh el hs
  by_cases h1 : n < 1
  · have F := Lib.hid (dev_arg (a := a) (n := n) (.inl h1))
    go_enter Tryz.func14, Tryz.ntmps14
    go_wp2
    go_ret2
    exact ⟨ret_int2 F.out.1.symm F.out.2.symm, below_alloc1 _ _⟩
  by_cases h2 : 256 < n
  · have F := Lib.hid (dev_arg (a := a) (n := n) (.inr h2))
    go_enter Tryz.func14, Tryz.ntmps14
    go_wp2
    go_ret2
    exact ⟨ret_int2 F.out.1.symm F.out.2.symm, below_alloc1 _ _⟩
  have HR := Lib.hid (fun W => Root_any a HS.out.1 HS.out.2 W)
  have hr : rootF a.toNat < 18446744073709551616 := rootF_lt (by have h8 : 0 ≤ a ∧ a < 340282366920938463463374607431768211456 := HS.out; omega)
  obtain ⟨r, er⟩ : ∃ r, rootF a.toNat = r := ⟨_, rfl⟩
  rw [er] at hr HR
  have hq0 : 0 ≤ (r : Int) / n := Int.ediv_nonneg (by omega) (by omega)
  have hq1 : (r : Int) / n ≤ 18446744073709551615 := Int.le_trans (Int.ediv_le_self _ (by omega)) (by omega)
  have hn0 : (n == 0) = false := by simpa using (by omega : n ≠ 0)
  have hu : IntKind.u64.wrap n = n := IntWalk.u64_in _ (by omega)
  have HU := Lib.hid hu
  have ht : (r : Int).tdiv n = (r : Int) / n := Int.tdiv_eq_ediv_of_nonneg (by omega)
  by_cases h3 : 9223372036854775807 < (r : Int) / n
  · have F := Lib.hid (dev_over (a := a) (n := n) (by omega) (by rw [er]; exact h3))
    obtain ⟨q, eq⟩ : ∃ q, (r : Int) / n = q := ⟨_, rfl⟩
    rw [eq] at h3 hq0 hq1
    go_enter Tryz.func14, Tryz.ntmps14
    go_wp2_with fail
    rw [← HW.out]
    refine (HR.out _).mono ?_
    rintro e w1 ⟨rfl, hb1⟩
    have HB := Lib.hid (bt hb1 (below_alloc1 w _))
    clear hb1
    go_wp2
    go_ret2
    exact ⟨ret_int2 F.out.1.symm F.out.2.symm, HB.out⟩
  · have F := Lib.hid (dev_ok (a := a) (n := n) (by omega) (by rw [er]; exact h3))
    rw [er] at F
    obtain ⟨q, eq⟩ : ∃ q, (r : Int) / n = q := ⟨_, rfl⟩
    rw [eq] at h3 hq0 hq1 F
    have hi64 := IntWalk.i64_in q (by omega)
    go_enter Tryz.func14, Tryz.ntmps14
    go_wp2_with fail
    rw [← HW.out]
    refine (HR.out _).mono ?_
    rintro e w1 ⟨rfl, hb1⟩
    have HB := Lib.hid (bt hb1 (below_alloc1 w _))
    clear hb1
    go_wp2
    go_ret2
    exact ⟨ret_int2 F.out.1.symm F.out.2.symm, HB.out⟩
end Go.Proofs.YtcaeihfgdlffkaaGreatRRRRDoor.DevW

/- What a column's numbers are like, walked (report's numbers.column; printed by mkcol.py). -/
namespace Go.Proofs.YtcaeihfgdlffkaaGreatRRRRDoor.ColW
set_option linter.unusedVariables false
set_option linter.unusedSimpArgs false
open Go.RowKit Base BigZ RptN RptM RptO RptC WidX SeqM ValW SrtW SumW SpdW DevW HyW RotW

theorem flat_inC (l : List Int) : l.flatMap inC = l.map (Value.int .i64) := by
  induction l with
  | nil => rfl
  | cons x r ih => rw [List.flatMap_cons, List.map_cons, ih]; rfl
theorem own_ints {w : World} {base : Nat} {t : TypeId} {v : Value} {l : List Int} (h : w.ownsRow base t 1 v l.length (l.map (Value.int .i64))) (hne : 0 < l.length) :
    ∃ g cap, v = .slice (some ⟨g, 0, none⟩) l.length cap ∧ base ≤ g ∧ g < w.heap.size ∧ ∀ j, j < l.length → w.cell? ⟨g, j, none⟩ = some (.int .i64 (l[j]?.getD 0)) := by
  rcases h.2 with ⟨hv, h0⟩ | ⟨g, cap, cur, hv, hb, hg, hc, hm, hcur, hx⟩
  · omega
  · refine ⟨g, cap, hv, hb, (Array.getElem?_eq_some_iff.1 hg).1, fun j hj => ?_⟩
    have h1 : (cur.toList.take (l.length * 1))[j]? = (l.map (Value.int .i64))[j]? := by rw [← hx]
    rw [List.getElem?_take, if_pos (by omega), List.getElem?_map, List.getElem?_eq_getElem hj] at h1
    have h2 : cur[j]? = some (.int .i64 l[j]) := by rw [← Array.getElem?_toList]; exact h1
    rw [List.getElem?_eq_getElem hj]
    simp [World.cell?, hg, h2]
theorem seq_own {w : World} {base : Nat} {t : TypeId} {v : Value} {l : List Int} (h : w.ownsRow base t 1 v l.length (l.map (Value.int .i64))) : Seq 1 inC w base w.heap.size v l := Seq.of_own (by rw [flat_inC]; exact h)
theorem values_any (v : Value) (hv : ∃ a n c, v = .slice a n c) (w : World) :
    Calls Tryz.prog 60 #[v] w fun e w' => e = .returned (.func (.func 97) #[] #[.pointer (some ⟨w.heap.size, 0, none⟩)]) ∧ w' = w.alloc (.cells #[v] 77) := by
  obtain ⟨a, n, c, rfl⟩ := hv
  go_enter Tryz.func60, Tryz.ntmps60
  go_wp2
  go_ret
  exact ⟨rfl, rfl⟩
theorem ints_up {w w' : World} {sv : Value} {zs : List Int} (h : Ints w.heap.size w sv zs) (hb : Below w.heap.size w w') : Ints w'.heap.size w' sv zs := by
  obtain ⟨b, off, cap, e, h1, h2⟩ := h
  exact ⟨b, off, cap, e, Nat.lt_of_lt_of_le h1 hb.size, fun j hj => keepA hb (h2 j hj)⟩
/-- what the numbers of a column are like -/
def colOf (l : List Int) : Col := ⟨(sortR l).getD 0 0, (sortR l).getD (l.length - 1) 0, (sortR l).getD ((l.length + 1) / 2 - 1) 0, sum1 l, pairs [] l⟩
/-- cells that are one's own -/
def Mine (w : World) (B n : Nat) : Prop := ∀ j, j < n → (∃ u, w.cell? ⟨B, j, none⟩ = some u) ∧ w.frozen? ⟨B, j, none⟩ = false
theorem Mine.below {w w' : World} {B n : Nat} (hB : B < w.heap.size) (h : Mine w B n) (hb : Below w.heap.size w w') : Mine w' B n := fun j hj => by
  obtain ⟨⟨u, hu⟩, hf⟩ := h j hj
  exact ⟨⟨u, keepA hb hu⟩, (hb.frozen (p := ⟨B, j, none⟩) hB).trans hf⟩
set_option maxRecDepth 100000 in
set_option maxHeartbeats 4000000 in
theorem column_any (v : Value) (l : List Int) (base : Nat) (w : World) (h : w.ownsRow base 3 1 v l.length (l.map (Value.int .i64))) (hne : 0 < l.length) (hf : Nm l) (hl : l.length ≤ 256) :
    Calls Tryz.prog 34 #[v] w fun e w' => e = .returned (CV (colOf l)) ∧ Below w.heap.size w w' := by
  have HSEQ := Lib.hid ((seq_own h).more (lo' := 0) (Nat.zero_le _) (Nat.le_refl _))
  obtain ⟨g, cap, rfl, hbg, hg, hcells⟩ := own_ints h hne
  have HI := Lib.hid (show Ints w.heap.size w (.slice (some ⟨g, 0, none⟩) l.length cap) l from ⟨g, 0, cap, rfl, hg, fun j hj => by rw [Nat.zero_add]; exact hcells j hj⟩)
  have HF := Lib.hid hf
  clear hcells h hf
  obtain ⟨W, eW⟩ : ∃ W, w.alloc (.cells #[.int .i64 0, .int .i64 0, .int .i64 0, .int .i64 0, .int .u64 0, .int .u64 0] 51) = W := ⟨_, rfl⟩
  have HB := Lib.hid (show Below w.heap.size w W by rw [← eW]; exact below_a1 _ _)
  have HMI := Lib.hid (show w.heap.size < W.heap.size ∧ Mine W w.heap.size 6 by
    subst eW
    refine ⟨by simp, fun j hj => ?_⟩
    match j, hj with
    | 0, _ => exact ⟨⟨_, by go_simp; rfl⟩, by go_simp⟩
    | 1, _ => exact ⟨⟨_, by go_simp; rfl⟩, by go_simp⟩
    | 2, _ => exact ⟨⟨_, by go_simp; rfl⟩, by go_simp⟩
    | 3, _ => exact ⟨⟨_, by go_simp; rfl⟩, by go_simp⟩
    | 4, _ => exact ⟨⟨_, by go_simp; rfl⟩, by go_simp⟩
    | 5, _ => exact ⟨⟨_, by go_simp; rfl⟩, by go_simp⟩)
  go_enter Tryz.func34, Tryz.ntmps34
  go_wp2_with fail
  refine (values_any _ ⟨_, _, _, rfl⟩ _).mono ?_
  rintro e w1 ⟨rfl, rfl⟩
  go_wp2_with fail
  have HX := Lib.hid (bt (below_a1 W (.cells #[.slice (some ⟨g, 0, none⟩) l.length cap] 77)) HB.out)
  refine (sorted_any W.heap.size (.slice (some ⟨g, 0, none⟩) l.length cap) l (by omega) hne _ (by simp) (by go_simp) (ints_up HI.out HX.out)).mono ?_
  rintro e w2 ⟨⟨v, rfl, hv⟩, hb2⟩
  have HM2 := Lib.hid (HMI.out.2.below HMI.out.1 (bt hb2 (below_a1 _ _)))
  have HM1 := Lib.hid (show w.heap.size < w2.heap.size from Nat.lt_of_lt_of_le HMI.out.1 (bt hb2 (below_a1 _ _)).size)
  have HB2 := Lib.hid (bt hb2 HX.out)
  obtain ⟨gs, cs, rfl, _, hgs, hcell⟩ := own_ints (l := sortR l) (by rw [sortR_length]; exact hv) (by rw [sortR_length]; exact hne)
  have HS := Lib.hid hcell
  clear hcell hv hb2 HX HB HMI HI eW
  rw [sortR_length] at HS ⊢
  have HLEN := Lib.hid hl
  go_wp2_with fail
  refine (Sum_any _ l w2 (HSEQ.out.up (HB2.out)) (fun x hx => by have := HF.out x hx; exact ⟨by omega, by omega⟩) (by have := sum1_le l HF.out; exact ⟨by omega, by omega⟩)).mono ?_
  rintro e w3 ⟨rfl, hb3⟩
  have HM3 := Lib.hid (HM2.out.below HM1.out hb3)
  have HB3 := Lib.hid (bt hb3 HB2.out)
  have HS3 := Lib.hid (fun j hj => keepA hb3 (HS.out j hj))
  clear HM2 HB2 HS hb3
  have c0 := HS3.out 0 hne
  have c1 := HS3.out (l.length - 1) (by omega)
  have c2 := HS3.out ((l.length + 1) / 2 - 1) (by omega)
  obtain ⟨q, hq⟩ : ∃ q : Nat, (l.length + 1) / 2 - 1 = q := ⟨_, rfl⟩
  obtain ⟨r, hr⟩ : ∃ r : Nat, l.length - 1 = r := ⟨_, rfl⟩
  have HQ := Lib.hid hq
  have HR := Lib.hid hr
  rw [hq] at c2
  rw [hr] at c1
  have e1 : ((l.length : Nat) : Int) - 1 = (r : Int) := by omega
  have e2 : (((l.length : Nat) : Int) + 1) / 2 = (q : Int) + 1 := by omega
  have e3 : (((l.length : Nat) : Int) + 1).tdiv 2 = (q : Int) + 1 := by rw [Int.tdiv_eq_ediv_of_nonneg (by omega)]; exact e2
  have e4 : (q : Int) + 1 - 1 = (q : Int) := by omega
  have k1 : r < l.length := by omega
  have k2 : q < l.length := by omega
  have v0 : IntKind.i64.wrap (((l.length : Nat) : Int) + 1) = ((l.length : Nat) : Int) + 1 := IntWalk.i64_in _ (by omega)
  have v1 : IntKind.i64.wrap (r : Int) = (r : Int) := IntWalk.i64_in _ (by omega)
  have v2 : IntKind.i64.wrap ((q : Int) + 1) = (q : Int) + 1 := IntWalk.i64_in _ (by omega)
  have v3 : IntKind.i64.wrap (q : Int) = (q : Int) := IntWalk.i64_in _ (by omega)
  clear hq hr
  have HSP := Lib.hid (fun W (h : Below w3.heap.size w3 W) => spread_any _ l W ((HSEQ.out.up HB3.out).up h) HF.out HLEN.out)
  go_wp2_with fail
  have CL := Lib.hid (And.intro c0 (And.intro c1 c2))
  clear c0 c1 c2
  refine regionZ 22 (fun w' => w'.cell? ⟨gs, 0, none⟩ = some (.int .i64 ((sortR l)[0]?.getD 0)) ∧ w'.cell? ⟨gs, r, none⟩ = some (.int .i64 ((sortR l)[r]?.getD 0)) ∧ w'.cell? ⟨gs, q, none⟩ = some (.int .i64 ((sortR l)[q]?.getD 0))) (by kernel_rfl) (CL.out) (fun hH => ?_)
  refine takeZ 0 (v := ?_) (gi rfl) (by kernel_rfl) (fun _ _ _ h => h) hH (.inl ⟨rfl, fun w hW => ?_⟩) ?_
  rotate_left
  · (go_simp; try with_reducible rfl)
  try simp only [Act.put, List.setIfInBounds_toArray, List.set_cons_zero, List.set_cons_succ]
  refine takeZ 1 (v := ?_) (gi rfl) (by kernel_rfl) (fun _ _ _ h => h) hH (.inl ⟨rfl, fun w hW => ?_⟩) ?_
  rotate_left
  · (go_simp; try with_reducible rfl)
  try simp only [Act.put, List.setIfInBounds_toArray, List.set_cons_zero, List.set_cons_succ]
  refine takeZ 2 (v := ?_) (gi rfl) (by kernel_rfl) (fun _ _ _ h => h) hH (.inl ⟨rfl, fun w hW => ?_⟩) ?_
  rotate_left
  · (obtain ⟨hW1, hW2, hW3⟩ := hW; go_simp; try with_reducible rfl)
  try simp only [Act.put, List.setIfInBounds_toArray, List.set_cons_zero, List.set_cons_succ]
  refine takeZ 3 (v := ?_) (gi rfl) (by kernel_rfl) (fun _ _ _ h => h) hH (.inl ⟨rfl, fun w hW => ?_⟩) ?_
  rotate_left
  · (go_simp; try with_reducible rfl)
  try simp only [Act.put, List.setIfInBounds_toArray, List.set_cons_zero, List.set_cons_succ]
  refine takeZ 4 (v := ?_) (gi rfl) (by kernel_rfl) (fun _ _ _ h => h) hH (.inl ⟨rfl, fun w hW => ?_⟩) ?_
  rotate_left
  · (go_simp; try with_reducible rfl)
  try simp only [Act.put, List.setIfInBounds_toArray, List.set_cons_zero, List.set_cons_succ]
  refine takeZ 5 (v := ?_) (gi rfl) (by kernel_rfl) (fun _ _ _ h => h) hH (.inl ⟨rfl, fun w hW => ?_⟩) ?_
  rotate_left
  · (go_simp; try with_reducible rfl)
  try simp only [Act.put, List.setIfInBounds_toArray, List.set_cons_zero, List.set_cons_succ]
  refine takeZ 6 (v := ?_) (gi rfl) (by kernel_rfl) (fun _ _ _ h => h) hH (.inl ⟨rfl, fun w hW => ?_⟩) ?_
  rotate_left
  · (go_simp; try with_reducible rfl)
  try simp only [Act.put, List.setIfInBounds_toArray, List.set_cons_zero, List.set_cons_succ]
  refine takeZ 7 (v := ?_) (gi rfl) (by kernel_rfl) (fun _ _ _ h => h) hH (.inl ⟨rfl, fun w hW => ?_⟩) ?_
  rotate_left
  · (go_simp; try with_reducible rfl)
  try simp only [Act.put, List.setIfInBounds_toArray, List.set_cons_zero, List.set_cons_succ]
  refine takeZ 8 (v := ?_) (gi rfl) (by kernel_rfl) (fun _ _ _ h => h) hH (.inl ⟨rfl, fun w hW => ?_⟩) ?_
  rotate_left
  · (obtain ⟨hW1, hW2, hW3⟩ := hW; go_simp; try with_reducible rfl)
  try simp only [Act.put, List.setIfInBounds_toArray, List.set_cons_zero, List.set_cons_succ]
  refine takeZ 9 (v := ?_) (gi rfl) (by kernel_rfl) (fun _ _ _ h => h) hH (.inl ⟨rfl, fun w hW => ?_⟩) ?_
  rotate_left
  · (go_simp; try with_reducible rfl)
  try simp only [Act.put, List.setIfInBounds_toArray, List.set_cons_zero, List.set_cons_succ]
  refine takeZ 10 (v := ?_) (gi rfl) (by kernel_rfl) (fun _ _ _ h => h) hH (.inl ⟨rfl, fun w hW => ?_⟩) ?_
  rotate_left
  · (go_simp; try with_reducible rfl)
  try simp only [Act.put, List.setIfInBounds_toArray, List.set_cons_zero, List.set_cons_succ]
  refine takeZ 11 (v := ?_) (gi rfl) (by kernel_rfl) (fun _ _ _ h => h) hH (.inl ⟨rfl, fun w hW => ?_⟩) ?_
  rotate_left
  · (go_simp; try with_reducible rfl)
  try simp only [Act.put, List.setIfInBounds_toArray, List.set_cons_zero, List.set_cons_succ]
  refine takeZ 12 (v := ?_) (gi rfl) (by kernel_rfl) (fun _ _ _ h => h) hH (.inl ⟨rfl, fun w hW => ?_⟩) ?_
  rotate_left
  · (go_simp; try with_reducible rfl)
  try simp only [Act.put, List.setIfInBounds_toArray, List.set_cons_zero, List.set_cons_succ]
  refine takeZ 13 (v := ?_) (gi rfl) (by kernel_rfl) (fun _ _ _ h => h) hH (.inl ⟨rfl, fun w hW => ?_⟩) ?_
  rotate_left
  · (go_simp; try with_reducible rfl)
  try simp only [Act.put, List.setIfInBounds_toArray, List.set_cons_zero, List.set_cons_succ]
  refine takeZ 14 (v := ?_) (gi rfl) (by kernel_rfl) (fun _ _ _ h => h) hH (.inl ⟨rfl, fun w hW => ?_⟩) ?_
  rotate_left
  · (go_simp; try with_reducible rfl)
  try simp only [Act.put, List.setIfInBounds_toArray, List.set_cons_zero, List.set_cons_succ]
  refine takeZ 15 (v := ?_) (gi rfl) (by kernel_rfl) (fun _ _ _ h => h) hH (.inl ⟨rfl, fun w hW => ?_⟩) ?_
  rotate_left
  · (go_simp; try with_reducible rfl)
  try simp only [Act.put, List.setIfInBounds_toArray, List.set_cons_zero, List.set_cons_succ]
  refine takeZ 16 (v := ?_) (gi rfl) (by kernel_rfl) (fun _ _ _ h => h) hH (.inl ⟨rfl, fun w hW => ?_⟩) ?_
  rotate_left
  · (obtain ⟨hW1, hW2, hW3⟩ := hW; go_simp; try with_reducible rfl)
  try simp only [Act.put, List.setIfInBounds_toArray, List.set_cons_zero, List.set_cons_succ]
  refine takeZ 17 (v := ?_) (gi rfl) (by kernel_rfl) (fun _ _ _ h => h) hH (.inl ⟨rfl, fun w hW => ?_⟩) ?_
  rotate_left
  · (go_simp; try with_reducible rfl)
  try simp only [Act.put, List.setIfInBounds_toArray, List.set_cons_zero, List.set_cons_succ]
  refine takeZ 18 (v := ?_) (gi rfl) (by kernel_rfl) (fun _ _ _ h => h) hH (.inl ⟨rfl, fun w hW => ?_⟩) ?_
  rotate_left
  · (go_simp; try with_reducible rfl)
  try simp only [Act.put, List.setIfInBounds_toArray, List.set_cons_zero, List.set_cons_succ]
  refine takeZ 19 (v := ?_) (gi rfl) (by kernel_rfl) (fun _ _ _ h => h) hH (.inl ⟨rfl, fun w hW => ?_⟩) ?_
  rotate_left
  · (go_simp; try with_reducible rfl)
  try simp only [Act.put, List.setIfInBounds_toArray, List.set_cons_zero, List.set_cons_succ]
  refine oneZ 20 (by kernel_rfl) (gi rfl) (fun K hK => ?_)
  try simp only [Act.put, List.setIfInBounds_toArray, List.set_cons_zero, List.set_cons_succ]
  go_simp
  refine (HSP.out w3.drew ((Below.refl _ w3).drew)).mono ?_
  rintro e w4 ⟨rfl, hb4⟩
  have HK4 := Lib.hid hb4
  clear hb4
  refine hK.out _ _ (fun _ => ⟨keepA HK4.out CL.out.1, keepA HK4.out CL.out.2.1, keepA HK4.out CL.out.2.2⟩) (fun hH => ?_)
  replace hH := hH (by decide)
  clear hK K
  try simp only [Act.put, List.setIfInBounds_toArray, List.set_cons_zero, List.set_cons_succ]
  unfold WV
  refine takeZ 21 (v := ?_) (gi rfl) (by kernel_rfl) (fun _ _ _ h => h) hH (.inl ⟨rfl, fun w hW => ?_⟩) ?_
  rotate_left
  · (go_simp; try with_reducible rfl)
  try simp only [Act.put, List.setIfInBounds_toArray, List.set_cons_zero, List.set_cons_succ]
  have HB4 := Lib.hid (bt ((Below.refl _ w3).drew.trans HK4.out) HB3.out)
  have hlt3 : w.heap.size < w3.heap.size := by
    obtain ⟨⟨u, hu⟩, -⟩ := HM3.out 0 (by omega)
    exact World.block_lt_of_cell? w3 _ hu
  have hm4 := Mine.below (w := w3.drew) hlt3 HM3.out HK4.out
  clear HM3 HB3
  obtain ⟨⟨u0, d0⟩, f0⟩ := hm4 0 (by omega)
  obtain ⟨⟨u1, d1⟩, f1⟩ := hm4 1 (by omega)
  obtain ⟨⟨u2, d2⟩, f2⟩ := hm4 2 (by omega)
  obtain ⟨⟨u3, d3⟩, f3⟩ := hm4 3 (by omega)
  obtain ⟨⟨u4, d4⟩, f4⟩ := hm4 4 (by omega)
  obtain ⟨⟨u5, d5⟩, f5⟩ := hm4 5 (by omega)
  clear hm4 e1 e2 e3 e4 v0 v1 v2 v3 HSP HS3 CL HK4
  have HCV := Lib.hid (show CV (colOf l) = .agg #[.int .i64 ((sortR l)[0]?.getD 0), .int .i64 ((sortR l)[r]?.getD 0), .int .i64 ((sortR l)[q]?.getD 0), .int .i64 (sum1 l), .int .u64 (hiW (pairs [] l)), .int .u64 (loW (pairs [] l))] by
    unfold CV colC colOf
    simp only [List.getD_eq_getElem?_getD]
    rw [HQ.out, HR.out])
  skip
  generalize (sortR l)[0]?.getD 0 = x0 at *
  generalize (sortR l)[r]?.getD 0 = x1 at *
  generalize (sortR l)[q]?.getD 0 = x2 at *
  generalize sum1 l = x3 at *
  generalize hiW (pairs [] l) = x4 at *
  generalize loW (pairs [] l) = x5 at *
  refine oneZ 22 (by kernel_rfl) (gi rfl) (fun K hK => ?_)
  try simp only [Act.put, List.setIfInBounds_toArray, List.set_cons_zero, List.set_cons_succ]
  go_simp
  refine hK.out _ _ (fun h => absurd h (by decide)) (fun hH => ?_)
  clear hK K
  try simp only [Act.put, List.setIfInBounds_toArray, List.set_cons_zero, List.set_cons_succ]
  refine doneZ (by kernel_rfl) ?_ _
  clear hH
  go_wp2
  refine bodyPost_ret (v := .agg #[.int .i64 x0, .int .i64 x1, .int .i64 x2, .int .i64 x3, .int .u64 x4, .int .u64 x5]) (by simp [results, Tryz.results34, go_sem, *]) rfl ?_
  refine ⟨by rw [HCV.out], ?_⟩
  have st : ∀ (X : World) (j : Nat) (u : Value), Below w.heap.size w X → Below w.heap.size w (X.setCell ⟨w.heap.size, j, none⟩ u) := fun X j u h => h.setCell (p := ⟨w.heap.size, j, none⟩) (Nat.le_refl _) u
  exact st _ _ _ (st _ _ _ (st _ _ _ (st _ _ _ (st _ _ _ (st _ _ _ HB4.out)))))
end Go.Proofs.YtcaeihfgdlffkaaGreatRRRRDoor.ColW

/- vec.Is, walked (lines of RigW). -/
namespace Go.Proofs.YtcaeihfgdlffkaaGreatRRRRDoor.VisW
set_option linter.unusedVariables false
open Go.RowKit Base SeqM RptC

theorem ret_bool {b c : Bool} (h : b = c) : Ending.returned (.bool b) = Ending.returned (.bool c) := by rw [h]
theorem all_next {α : Type} {l : List α} {k : Nat} {x : α} (h : l[k]? = some x) (f : α → Bool) : (l.take (k + 1)).all f = ((l.take k).all f && f x) := by
  rw [SeqM.take_next h, List.all_append]; simp
theorem all_no {α : Type} {l : List α} {k : Nat} {f : α → Bool} (h : (l.take k).all f = false) : l.all f = false := by
  rw [List.all_eq_false] at h ⊢
  obtain ⟨x, hx, hf⟩ := h
  exact ⟨x, List.mem_of_mem_take hx, hf⟩
def VRel (l : List Int) (f : Int → Bool) (w : World) (ok i : Value) (wr : World) : Prop := ∃ k : Nat, k ≤ l.length ∧ ok = .bool ((l.take k).all f) ∧ i = .int .i64 k ∧ w = wr
set_option maxHeartbeats 2000000 in
theorem VIs_any (v : Value) (l : List Int) (dim : Int) (lo B : Nat) (w : World) (h : Seq 1 inC w lo B v l) :
    Calls Tryz.prog 33 #[v, .int .i64 dim] w fun e w' => e = .returned (.bool (vecB l dim)) ∧ w = w' := by
  obtain ⟨A, cap, rfl, hc1, hc2, hr, _⟩ := h
  unfold maxLen at hc2
  have HR := Lib.hid hr
  obtain ⟨n, hn⟩ : ∃ n, l.length = n := ⟨_, rfl⟩
  rw [hn] at hc1 ⊢
  have HN := Lib.hid hn
  clear hr hn
  by_cases hd : 1 ≤ dim ∧ dim ≤ 8 ∧ (n : Int) = dim
  · have HV := Lib.hid (show vecB l dim = l.all rngB by unfold vecB; rw [decide_eq_true (by rw [HN.out]; exact hd)]; rfl)
    obtain ⟨h1, h2, h3⟩ := hd
    have h3b : ((n : Int) == dim) = true := by simpa using h3
    have H0 := Lib.hid (show VRel l rngB w (.bool true) (.int .i64 0) w from ⟨0, Nat.zero_le _, by simp, rfl, rfl⟩)
    clear h3
    go_enter Tryz.func33, Tryz.ntmps33
    go_wp2
    go_loopw [5, 6] (fun ok i wr => VRel l rngB w ok i wr) (fun _ i _ => n - (intOf i).toNat)
    case atStart => exact H0.out
    case round =>
      obtain ⟨k, hk, rfl, rfl, rfl⟩ := hrel
      rw [HN.out] at hk
      clear H0
      cases hb : (l.take k).all rngB
      · have F := Lib.hid (show vecB l dim = false by rw [HV.out, all_no hb])
        clear hb
        go_wp2
        go_ret
        exact ⟨ret_bool F.out.symm, rfl⟩
      · have HT := Lib.hid hb
        clear hb
        by_cases hlt : k < n
        · obtain ⟨ad, x, rfl, _, _, hx, c0⟩ := rdI HR.out (i := k) (by rw [HN.out]; exact hlt)
          have HX := Lib.hid (all_next hx rngB)
          clear hx
          by_cases hx1 : -2147483648 ≤ x
          · by_cases hx2 : x ≤ 2147483647
            · have HB := Lib.hid (show rngB x = true from decide_eq_true ⟨hx1, hx2⟩)
              go_wp2
              exact ⟨⟨k + 1, by rw [HN.out]; omega, by rw [HX.out, HT.out, HB.out]; rfl, by go_num, rfl⟩, by simp [intOf]; omega⟩
            · have HB := Lib.hid (show rngB x = false from decide_eq_false (fun h => hx2 h.2))
              go_wp2
              exact ⟨⟨k + 1, by rw [HN.out]; omega, by rw [HX.out, HT.out, HB.out]; rfl, by go_num, rfl⟩, by simp [intOf]; omega⟩
          · have HB := Lib.hid (show rngB x = false from decide_eq_false (fun h => hx1 h.1))
            go_wp2
            exact ⟨⟨k + 1, by rw [HN.out]; omega, by rw [HX.out, HT.out, HB.out]; rfl, by go_num, rfl⟩, by simp [intOf]; omega⟩
        · have F := Lib.hid (show vecB l dim = true by
            have := HT.out
            rw [List.take_of_length_le (by rw [HN.out]; omega)] at this
            rw [HV.out, this])
          go_wp2
          go_ret
          exact ⟨ret_bool F.out.symm, rfl⟩
  · have F := Lib.hid (show vecB l dim = false by unfold vecB; rw [decide_eq_false (by rw [HN.out]; exact hd)]; rfl)
    by_cases h1 : 1 ≤ dim
    · by_cases h2 : dim ≤ 8
      · have h3 : ((n : Int) == dim) = false := by rw [beq_eq_false_iff_ne]; exact fun h => hd ⟨h1, h2, h⟩
        clear hd
        go_enter Tryz.func33, Tryz.ntmps33
        go_wp2
        go_loopw [5] (fun ok wr => ok = .bool false ∧ w = wr) (fun _ _ => 0)
        case atStart => exact ⟨rfl, rfl⟩
        case round =>
          obtain ⟨rfl, rfl⟩ := hrel
          go_wp2
          go_ret
          exact ⟨ret_bool F.out.symm, rfl⟩
      · clear hd
        go_enter Tryz.func33, Tryz.ntmps33
        go_wp2
        go_loopw [5] (fun ok wr => ok = .bool false ∧ w = wr) (fun _ _ => 0)
        case atStart => exact ⟨rfl, rfl⟩
        case round =>
          obtain ⟨rfl, rfl⟩ := hrel
          go_wp2
          go_ret
          exact ⟨ret_bool F.out.symm, rfl⟩
    · clear hd
      go_enter Tryz.func33, Tryz.ntmps33
      go_wp2
      go_loopw [5] (fun ok wr => ok = .bool false ∧ w = wr) (fun _ _ => 0)
      case atStart => exact ⟨rfl, rfl⟩
      case round =>
        obtain ⟨rfl, rfl⟩ := hrel
        go_wp2
        go_ret
        exact ⟨ret_bool F.out.symm, rfl⟩
end Go.Proofs.YtcaeihfgdlffkaaGreatRRRRDoor.VisW
