/- script.Show. -/
import Derived.Test.YtchgfabgighbfaaGreatDoorScrL
import Derived.Test.YtchgfabgighbfaaGreatDoorRedW
namespace Go.Proofs.YtchgfabgighbfaaGreatDoor.ShwW
set_option linter.unusedVariables false
open Go.RowKit Go.Shelf Base SeqM ScrM ScrP EqlW LinV TxtM GlbD FmtW BldW ScrB ScrL SchW AskW RgtW RedW

section
variable {P : Program}
/-- a struct or a row at whatever address is read -/
theorem run_load_at (w : World) (p : Addr) (ty : TypeId) (cs : List Value) (d : TypeDesc) (hc : ∀ j v, cs[j]? = some v → w.cell? (p.add j) = some v)
    (hu : P.underlying ty = some d) (hd : d.isRow = true) (hi : (P.info? ty).map (·.size) = some cs.length) :
    (loadVar ty p).run P w = .ok (.agg cs.toArray) w := by
  have hl : (loadCells p cs.length).run P w = .ok cs.toArray w := run_loadCells_list (P := P) w p cs hc
  cases hq : P.info? ty with
  | none => simp [hq] at hi
  | some i =>
    have hs : i.size = cs.length := by simpa [hq] using hi
    have hagg : (isAgg ty).run P w = .ok true w := by
      unfold isAgg
      rw [Sem.run_bind, run_underlying hu w]
      cases d <;> simp_all
    simp [loadVar, Sem.run_bind, hagg, sizeOf, typeInfo, hq, hs, hl]
theorem wpList_load_at {ops : Array Oper} {rest : List Oper} {op : Oper} {a : Act} {w : World} {Q : Exit → Act → World → Prop} (hgd : op.guard = none) (ty : TypeId) (x : Operand) (ho : op.op = .load ty x)
    (p : Addr) (hx : a.eval x = .pointer (some p)) (cs : List Value) (d : TypeDesc) (hc : ∀ j v, cs[j]? = some v → w.cell? (p.add j) = some v)
    (hu : P.underlying ty = some d) (hd : d.isRow = true) (hi : (P.info? ty).map (·.size) = some cs.length)
    (h : wpList P ops Q rest (a.put op.dst (.agg cs.toArray)) w) : wpList P ops Q (op :: rest) a w :=
  wpList_plain hgd fun _ hK => by
    unfold Oper.wp execOp
    simp only [ho, hx, Instr.loadAt, Instr.sureAddr, Sem.run_bind, Sem.run_pure, Result.andThen_ok, run_load_at w p ty cs d hc hu hd hi]
    exact hK _ _ h
theorem yieldsIf_load_at {ops : Array Oper} {S : World → Prop} {op : Oper} {a : Act} (hw : Region.wanted op (yielded ops a.tmps) = true) (ty : TypeId) (x : Operand) (ho : op.op = .load ty x)
    (p : Addr) (hx : a.eval x = .pointer (some p)) (cs : List Value) (d : TypeDesc) (hS : ∀ w, S w → ∀ j v, cs[j]? = some v → w.cell? (p.add j) = some v)
    (hu : P.underlying ty = some d) (hd : d.isRow = true) (hi : (P.info? ty).map (·.size) = some cs.length) : YieldsIf P ops S op (.agg cs.toArray) a :=
  .inl ⟨hw, fun w hw' => by
    unfold execOp
    simp only [ho, hx, Instr.loadAt, Instr.sureAddr, Sem.run_bind, Sem.run_pure, Result.andThen_ok, run_load_at w p ty cs d (hS w hw') hu hd hi]⟩
end
theorem flat_row (l : List Int) : (l.map Lib.itoa).flatMap (fun x => 32 :: x) = rowT l := by simp [rowT, List.flatMap_map]
theorem flat_draw (l : List Nat) : (l.map Lib.decDigits).flatMap (fun x => 32 :: x) = drawT l := by simp [drawT, List.flatMap_map]
theorem flat_kept (l : List (Int × Int)) : (l.map keptW).flatMap (fun x => 32 :: x) = kepT l := by simp [kepT, List.flatMap_map]
theorem lineT_conf (c : Cf) : lineT (onlyCf c) = [98, 101, 103, 105, 110] ++ rowT c.nums ++ [10] := by
  unfold lineT; rw [words_conf]; simp only [joinW, flat_row]; rfl
theorem lineT_stop (n : Int) : lineT (onlyN n) = [115, 116, 111, 112] ++ rowT [n] ++ [10] := by
  unfold lineT; rw [words_stop]; simp [joinW, rowT, wStop]
theorem lineT_crash (k : List (Int × Int)) : lineT (onlyKept k) = [99, 114, 97, 115, 104] ++ kepT k ++ [10] := by
  unfold lineT; rw [words_crash]; simp only [joinW, flat_kept]; rfl
theorem lineT_open : lineT (ln0 5) = [111, 112, 101, 110] ++ [10] := by
  unfold lineT; rw [words_open]; simp [joinW, wOpen]
theorem lineT_ask (a : Ak) (d : List Nat) : lineT (onlyAk a d) = askT a.kind a.id a.xs a.n a.m d ++ [10] := by
  unfold lineT
  rw [words_ask]
  unfold askW askT
  split
  · simp only [joinW, List.flatMap_cons, List.flatMap_append, flat_row, flat_draw]; simp [rowT]
  · split
    · simp only [joinW, flat_row]
    · split
      · simp only [joinW, flat_row]
      · split
        · simp [joinW, rowT]
        · split
          · simp [joinW, rowT]
          · split <;> simp [joinW]
theorem line_any {w0 Wa w : World} (hG : G w0) (r : LnR) (lo : Nat) (hr : Right r.ln) (hin : LnIn w0 lo w0.heap.size r) {bb : Nat} {lst : List UInt8} (hS : WSt w0 Wa bb lst w) (hlen : lst.length ≤ 800000) :
    Calls Tryz.prog 16 #[.pointer (some ⟨bb, 0, none⟩), .agg (lnC r).toArray] w fun e w' => e = .returned (.tuple #[]) ∧ WSt w0 Wa bb (lst ++ lineT r.ln) w' := by
  have hx := fun (W : World) (hb : Below w0.heap.size w0 W) => (hin.up hb).more (Nat.zero_le _) (Nat.le_refl _)
  obtain ⟨xv, dv, kv, l⟩ := r
  dsimp only at hr ⊢
  cases hr with
  | conf c hc =>
    have h64 : ∀ x ∈ c.nums, -9223372036854775808 ≤ x ∧ x ≤ 9223372036854775807 := ScrS.conf_64 hc
    rw [lineT_conf]
    obtain ⟨c0, c1, c2, c3, c4, c5, c6, c7, c8, c9, c10⟩ := c
    exact line_1 hG c0 c1 c2 c3 c4 c5 c6 c7 c8 c9 c10 0 0 0 0 0 xv dv kv h64 _ rfl hS hlen
  | ask a d ha hd hk hu =>
    rw [lineT_ask]
    obtain ⟨k, i, xs, n, m⟩ := a
    obtain ⟨h1, h2, h3, h4, h5, h6, _⟩ := ha
    unfold few at h3 h4 h5
    dsimp only at h1 h2 h3 h4 h5 h6 ⊢
    exact line_2 hG 0 0 0 0 0 0 0 0 0 0 0 k i n m 0 xv dv kv xs d (fun W hb _ => (hx W hb).xs) (fun W hb _ => (hx W hb).ds) h1 (by omega) (by omega) (by omega) (fun x hx => by have := h6 x hx; omega) hu h2 hd _ rfl hS hlen
  | stop n h1 h2 =>
    rw [lineT_stop]
    exact line_3 hG 0 0 0 0 0 0 0 0 0 0 0 0 0 0 0 n xv dv kv (by omega) _ rfl hS hlen
  | crash k hk hl =>
    rw [lineT_crash]
    exact line_4 hG 0 0 0 0 0 0 0 0 0 0 0 0 0 0 0 0 xv dv kv k (fun W hb _ => (hx W hb).ks) hk hl _ rfl hS hlen
  | opens =>
    rw [lineT_open]
    exact line_5 hG 0 0 0 0 0 0 0 0 0 0 0 0 0 0 0 0 xv dv kv _ rfl hS hlen
end Go.Proofs.YtchgfabgighbfaaGreatDoor.ShwW
