/- Words for memory that all walks of this seat share: a slice that reads as a list of cells, an append of one element onto a row of the call's own, how worlds follow each other. No program is in sight. -/
import Derived.WalkKit
import Derived.ProofKit
import Derived.OpenShut
import Derived.BigQuiet
import Derived.Deep.QuietTactic
import Derived.Deep.AppendLies
import Derived.Deep.Draws
import Derived.Lib.Hide
import Derived.Laws.MakeOwn
namespace Go.Proofs.YtodiipkedhfncaaGreatDoor.Base
open Go.RowKit Go.ChangeShapes Go.WideShapes

theorem add_block (a : Addr) (n : Nat) : (a.add n).block = a.block := by unfold Addr.add; split <;> rfl
theorem add_add' (a : Addr) (i j : Nat) : (a.add i).add j = a.add (i + j) := by
  unfold Addr.add
  by_cases hi : i = 0 <;> by_cases hj : j = 0 <;> simp [hi, hj, Nat.add_assoc]

/-- The slice '.slice A n _' reads as the cells xs (size cells an element), in a block from lo on, below B. -/
def Rd (w : World) (lo B size : Nat) (A : Option Addr) (n : Nat) (xs : List Value) : Prop :=
  xs.length = n * size ∧ (0 < n → ∃ ad : Addr, A = some ad ∧ lo ≤ ad.block ∧ ad.block < B ∧ ∀ j u, xs[j]? = some u → w.cell? (ad.add j) = some u)

section
variable {w w' : World} {lo lo' B B' size n : Nat} {A : Option Addr} {xs : List Value}
theorem Rd.nil_ : Rd w lo B size A 0 [] := ⟨by simp, fun h => absurd h (by omega)⟩
theorem Rd.len (h : Rd w lo B 1 A n xs) : xs.length = n := by simpa using h.1
theorem Rd.at_ {k : Nat} (h : Rd w lo B 1 A n xs) (hk : k < n) : ∃ ad u, A = some ad ∧ ad.block < B ∧ xs[k]? = some u ∧ w.cell? (ad.add k) = some u := by
  obtain ⟨ad, e, _, hb, hc⟩ := h.2 (by omega)
  have hl : k < xs.length := by have := h.1; omega
  exact ⟨ad, xs[k], e, hb, List.getElem?_eq_getElem hl, hc k _ (List.getElem?_eq_getElem hl)⟩
theorem Rd.keep (h : Rd w lo B size A n xs) (hk : ∀ p : Addr, lo ≤ p.block → p.block < B → w'.cell? p = w.cell? p) : Rd w' lo B size A n xs :=
  ⟨h.1, fun hn => by
    obtain ⟨ad, e, hl, hb, hc⟩ := h.2 hn
    exact ⟨ad, e, hl, hb, fun j u hu => (hk _ (by rw [add_block]; exact hl) (by rw [add_block]; exact hb)).trans (hc j u hu)⟩⟩
theorem Rd.more (h : Rd w lo B size A n xs) (hl : lo' ≤ lo) (hB : B ≤ B') : Rd w lo' B' size A n xs :=
  ⟨h.1, fun hn => by
    obtain ⟨ad, e, h1, hb, hc⟩ := h.2 hn
    exact ⟨ad, e, by omega, by omega, hc⟩⟩
theorem Rd.below (h : Rd w lo B size A n xs) (hb : Below B w w') : Rd w' lo B size A n xs := h.keep fun _ _ hp => hb.cell hp
theorem Rd.below' (h : Rd w lo B size A n xs) (hb : Below B' w w') (hB : B ≤ B') : Rd w' lo B size A n xs := h.below (hb.mono hB)
theorem Rd.drewN (h : Rd w lo B size A n xs) (k : Nat) : Rd (w.drewN k) lo B size A n xs := h
theorem Rd.set_ (h : Rd w lo B size A n xs) (p : Addr) (hp : p.block < lo ∨ B ≤ p.block) (u : Value) : Rd (w.setCell p u) lo B size A n xs :=
  h.keep fun q h1 h2 => World.cell?_setCell_other w p q u (fun e => by subst e; omega)
theorem Rd.grown (h : Rd w lo B size A n xs) {row : Option Nat} (hg : w.grownBy w' row) (hB : B ≤ w.heap.size) (hr : ∀ g, row = some g → g < lo ∨ B ≤ g) : Rd w' lo B size A n xs :=
  h.keep fun p h1 hp => World.cell?_of_block (hg.block p.block (by omega) (fun e => by have := hr _ e.symm; omega))
theorem Rd.cut (h : Rd w lo B size A n xs) {k cap : Nat} (hk : k ≤ n) (hc : n ≤ cap) :
    Rd w lo B size (if cap = k then A else A.map (·.add (k * size))) (n - k) (xs.drop (k * size)) := by
  refine ⟨by rw [List.length_drop, h.1, Nat.sub_mul], fun hn => ?_⟩
  obtain ⟨ad, rfl, hl, hb, hcell⟩ := h.2 (by omega)
  rw [if_neg (by omega)]
  refine ⟨ad.add (k * size), rfl, by rw [add_block]; exact hl, by rw [add_block]; exact hb, fun j u hu => ?_⟩
  rw [add_add']
  exact hcell _ u (by rw [← hu, List.getElem?_drop])
theorem Rd.take (h : Rd w lo B size A n xs) {k : Nat} (hk : k ≤ n) : Rd w lo B size A k (xs.take (k * size)) := by
  refine ⟨by rw [List.length_take, h.1]; have := Nat.mul_le_mul_right size hk; omega, fun hn => ?_⟩
  obtain ⟨ad, rfl, hl, hb, hcell⟩ := h.2 (by omega)
  refine ⟨ad, rfl, hl, hb, fun j u hu => hcell j u ?_⟩
  rw [List.getElem?_take] at hu
  split at hu
  · exact hu
  · cases hu
theorem Rd.of_own {base : Nat} {e : TypeId} {c : Nat} (h : w.ownsRow base e size (.slice A n c) n xs) : Rd w base w.heap.size size A n xs := by
  refine ⟨h.1, fun hn => ?_⟩
  obtain ⟨g, cap, hv, hg, hlt⟩ := h.form hn
  have hA : A = some ⟨g, 0, none⟩ := by injection hv
  subst hA
  exact ⟨_, rfl, hg, hlt, h.cells (g := g) rfl⟩
end

/-- What an element type's row of the program's table says, for append and make. -/
def Elt (P : Program) (t e : TypeId) (z : Value) (size bytes : Nat) : Prop :=
  P.underlying t = some (.slice e) ∧ 0 < size ∧ bytes ≤ 131072 ∧ ∃ i, P.info? e = some i ∧ i.zero = some z ∧ i.size = size ∧ i.bytes = bytes ∧ z.cells.size = size
theorem elt_mk {P : Program} {t e : TypeId} {z : Value} {size bytes : Nat} (ht : P.underlying t = some (.slice e)) (h : (P.info? e).map (fun i => (i.zero, i.size, i.bytes)) = some (some z, size, bytes))
    (hz : z.cells.size = size) (h0 : 0 < size) (hb : bytes ≤ 131072) : Elt P t e z size bytes := by
  obtain ⟨i, hi, h1, h2, h3⟩ := info_parts h
  exact ⟨ht, h0, hb, i, hi, h1, h2, h3, hz⟩

theorem below_own {w0 w w' : World} {base B : Nat} {e : TypeId} {size n : Nat} {v : Value} {xs : List Value} (h : Below B w0 w) (hown : w.ownsRow base e size v n xs) (hg : w.grownBy w' v.ownBlock)
    (hB : B ≤ base) (hw : B ≤ w.heap.size) : Below B w0 w' :=
  h.grown hg hw (fun k hk => Nat.le_trans hB (hown.lt k hk).1)

/-- What an append leaves: the row is longer, it is one of the call's own, and nothing else has turned. -/
structure App (wr w' : World) (base : Nat) (e : TypeId) (size : Nat) (A : Option Addr) (n cap : Nat) (A' : Option Addr) (n' cap' : Nat) (xs : List Value) : Prop where
  own : w'.ownsRow base e size (.slice A' n' cap') n' xs
  grown : wr.grownBy w' (Value.ownBlock (.slice A n cap))
  lies : Value.ownBlock (.slice A' n' cap') = Value.ownBlock (.slice A n cap) ∨ wr.heap.size ≤ (Value.ownBlock (.slice A' n' cap')).getD 0
  below : Below base wr w'

theorem oneCells_int (k : IntKind) (l : List Int) : ∀ u ∈ l.map (Value.int k), u.oneCell' = true := by
  intro u hu
  obtain ⟨x, _, rfl⟩ := List.mem_map.1 hu
  rfl

section
variable {P : Program}
/-- 's = append(s, x)': the element has been laid as the newest block. -/
theorem app1 {ops : Array Oper} {rest : List Oper} {o : Oper} {a : Act} {Q : Exit → Act → World → Prop} (wr : World) (cs : Array Value) (hgd : o.guard = none) (s x : Operand) (t : TypeId)
    (ho : o.op = .call { callee := .builtin .append, args := #[s, x], argTypes := #[t, t] })
    {e : TypeId} {z : Value} {size bytes : Nat} (E : Elt P t e z size bytes) (base : Nat) (A : Option Addr) (n cap : Nat) (xs : List Value) (hs : a.eval s = .slice A n cap)
    (hown : wr.ownsRow base e size (.slice A n cap) n xs) (hx : a.eval x = .slice (some ⟨wr.heap.size, 0, none⟩) 1 1) (hcs : cs.size = size) (h1 : ∀ u ∈ cs.toList, u.oneCell' = true)
    (hn : n < 1073741824) (hbase : base ≤ wr.heap.size)
    (h : ∀ A' cap' w', App wr w' base e size A n cap A' (n + 1) cap' (xs ++ cs.toList) → wpList P ops Q rest (a.put o.dst (.slice A' (n + 1) cap')) w') :
    wpList P ops Q (o :: rest) a (wr.alloc (.cells cs e)) := by
  obtain ⟨ht, h0, hby, i, hi, hz, hsz, hbs, hzs⟩ := E
  refine wpList_append_lies _ hgd s x t ho base e i z size bytes ht hi hz hsz hbs hzs h0 (.slice A n cap) n xs hs (hown.alloc _) ⟨wr.heap.size, 0, none⟩ 1 1 cs.toList hx (by simp [hcs])
    (World.news_of_block (heap_alloc_new wr _)) h1 (by omega) (by unfold maxLen; omega) ?_ (by simp; omega) (wr.heap.size + 1) (by simp) ?_
  · have h2 : (n + 1) * bytes ≤ (n + 1) * 131072 := Nat.mul_le_mul_left _ hby
    omega
  · intro g cp w' own hg hor hlt
    refine h _ _ _ ⟨own, ?_, ?_, ?_⟩
    · exact ⟨hg.os, hg.tape, hg.output, Nat.le_trans (by simp) hg.size, fun k hk hne => (hg.block k (by simp; omega) hne).trans (Below.heap_alloc wr _ k hk)⟩
    · rcases hor with e1 | e1
      · exact .inl (by rw [e1]; rfl)
      · exact .inr (by subst e1; simp [Value.ownBlock])
    · exact ((Below.refl _ _).alloc hbase _).grown hg (by simp; omega) (fun k hk => (hown.lt k hk).1)
/-- 'make([]T, n)': n elements of one cell each, all zero. -/
theorem mk1 {ops : Array Oper} {rest : List Oper} {o : Oper} {a : Act} {Q : Exit → Act → World → Prop} (w : World) (hgd : o.guard = none) (l c : Operand) (t : TypeId) (ho : o.op = Op.makeSlice t l c)
    {e : TypeId} {z : Value} {bytes : Nat} (E : Elt P t e z 1 bytes) (hzc : z.cells = #[z]) (n : Nat) (hl : a.eval l = .int .i64 n) (hc : a.eval c = .int .i64 n) (hn : n ≤ 1073741824)
    (h : ∀ w', w'.ownsRow w.heap.size e 1 (.slice (some ⟨w.heap.size, 0, none⟩) n n) n (List.replicate n z) → Below w.heap.size w w' → wpList P ops Q rest (a.put o.dst (.slice (some ⟨w.heap.size, 0, none⟩) n n)) w') :
    wpList P ops Q (o :: rest) a w := by
  obtain ⟨ht, h0, hby, i, hi, hz, hsz, hbs, hzs⟩ := E
  refine wpList_make_full w hgd l c t ho w.heap.size e i z 1 ht hi hz hsz .i64 .i64 n n n hl hc rfl rfl ?_ (by unfold maxLen; omega) (Nat.le_refl _) ?_
  · have h2 : i.bytes * n ≤ 131072 * n := Nat.mul_le_mul_right _ (by omega)
    omega
  · intro w' hown hg
    refine h w' ?_ ((Below.refl _ _).grown hg (Nat.le_refl _) (fun k hk => by cases hk))
    rw [Nat.mul_one, hzc, toList_madeCells_one] at hown
    exact hown
/-- 'make([]T, 0, n)': room for n elements. -/
theorem mk0 {ops : Array Oper} {rest : List Oper} {o : Oper} {a : Act} {Q : Exit → Act → World → Prop} (w : World) (hgd : o.guard = none) (l c : Operand) (t : TypeId) (ho : o.op = Op.makeSlice t l c)
    {e : TypeId} {z : Value} {size bytes : Nat} (E : Elt P t e z size bytes) (n : Nat) (hl : a.eval l = .int .i64 0) {C : Int} (hc : a.eval c = .int .i64 C) (hC : C = (n : Int)) (hn : n ≤ 1073741824)
    (h : ∀ w', w'.ownsRow w.heap.size e size (.slice (some ⟨w.heap.size, 0, none⟩) 0 n) 0 [] → Below w.heap.size w w' → wpList P ops Q rest (a.put o.dst (.slice (some ⟨w.heap.size, 0, none⟩) 0 n)) w') :
    wpList P ops Q (o :: rest) a w := by
  obtain ⟨ht, h0, hby, i, hi, hz, hsz, hbs, hzs⟩ := E
  refine wpList_make_own w hgd l c t ho w.heap.size e i z size ht hi hz hsz .i64 .i64 C n hl hc hC ?_ (by unfold maxLen; omega) (Nat.le_refl _) ?_
  · have h2 : i.bytes * n ≤ 131072 * n := Nat.mul_le_mul_right _ (by omega)
    omega
  · intro w' hown hg
    exact h w' hown ((Below.refl _ _).grown hg (Nat.le_refl _) (fun k hk => by cases hk))
end
theorem App.rd {wr w' : World} {base : Nat} {e : TypeId} {size : Nat} {A A' : Option Addr} {n cap n' cap' : Nat} {xs : List Value} (h : App wr w' base e size A n cap A' n' cap' xs) : Rd w' base w'.heap.size size A' n' xs := Rd.of_own h.own

theorem ret_int {k : IntKind} {a b : Int} (h : a = b) : Ending.returned (.int k a) = .returned (.int k b) := by rw [h]
theorem ret_bool {a b : Bool} (h : a = b) : Ending.returned (.bool a) = .returned (.bool b) := by rw [h]
theorem ret_int2 {k l : IntKind} {a b c d : Int} (h : a = b) (h2 : c = d) : Ending.returned (.tuple #[.int k a, .int l c]) = .returned (.tuple #[.int k b, .int l d]) := by rw [h, h2]
theorem ret_int3 {k l m : IntKind} {a b c d x y : Int} (h : a = b) (h2 : c = d) (h3 : x = y) : Ending.returned (.tuple #[.int k a, .int l c, .int m x]) = .returned (.tuple #[.int k b, .int l d, .int m y]) := by rw [h, h2, h3]

theorem below_drewN {B : Nat} {a w : World} (h : Below B a w) (n : Nat) : Below B a (w.drewN n) := ⟨h.os, h.tape, h.output, h.size, h.block⟩
theorem quiet_of_left {P : Program} {f : FuncId} {w : World} {args : Array Value} {v : Value} (h : Calls P f args w fun e w' => e = .returned v ∧ w = w') :
    Calls P f args w fun e w' => e = .returned v ∧ w' = w := h.mono fun _ _ ⟨a, b⟩ => ⟨a, b.symm⟩

/-- The row's last step, where of the world behind the call 'Below' alone is known. -/
theorem post_of_below {H : Type} {enc : TypeId × Value → H} {P : Program} {f : Func} {s : ChangeSpec} {apart fresh handsOn again : Bool} {W W' : World} {args : Array Value} {v : Value} {ds gs : List (DataW H)} {before pa pv : List MemPlace}
    (hW : DataW.Whole enc P f.params.toList s.vars apart W args.toList ds gs before)
    (hres : ∀ (b : Nat) (sp : Nat → Bool) (hd : Bool), DataW.TrodAll enc P W' b sp hd f.resultTypes.toList (v.resultList f.resultTypes.size) (s.fn H (ds ++ gs)).results [])
    (hargs : ∀ sp : Nat → Bool, (∀ p ∈ before, sp p.block = true) → DataW.TrodAll enc P W' 0 sp true f.params.toList args.toList (s.fn H (ds ++ gs)).args pa)
    (hvars : ∀ sp : Nat → Bool, (∀ p ∈ before, sp p.block = true) → DataW.TrodVars enc P W' sp s.vars (s.fn H (ds ++ gs)).vars pv)
    (hps : before = pa ++ pv) (hb : Below W.heap.size W W')
    (hok : ∀ (j : Nat) (t : TypeId) (r : Value), f.resultTypes[j]? = some t → (v.resultList f.resultTypes.size)[j]? = some r → Value.okWide P W' .any 0 t r) :
    s.post enc P f apart fresh handsOn again W args v W' := by
  have hlt : ∀ p ∈ before, p.block < W.heap.size := fun p hp => hW.lt p hp
  have hold : ∀ p ∈ before, (fun b => decide (b < W.heap.size)) p.block = true := fun p hp => by simpa using hlt p hp
  refine ⟨ds, gs, before, [], pa, pv, hW, hres _ _ _, hargs _ hold, hvars _ hold, World.keptBut_mono (fun p hp => ⟨hp, ?_⟩) (hb.frame (· ∈ before)), fun _ => ?_⟩
  · rw [hps, List.mem_append] at hp
    exact Or.inr hp
  · obtain ⟨_, _, _, _, _, hz, hn⟩ := hW
    refine ⟨hok, _, _, ([] ++ pa) ++ pv, ⟨[] ++ pa, pv, trodAll_append (hargs _ (fun _ _ => rfl)) (hres _ _ _), hvars _ (fun _ _ => rfl), rfl, ?_, ?_⟩, ?_⟩
    · intro b off hp
      have hin : MemPlace.cell b off ∈ before := by rw [hps]; simpa using hp
      rw [hb.frozen (hlt _ hin)]
      exact hz b off hin
    · intro ha
      have := hn ha
      rw [hps] at this
      simpa using this
    · intro p hp _
      rw [hps]
      simpa using hp
end Go.Proofs.YtodiipkedhfncaaGreatDoor.Base
