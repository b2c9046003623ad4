/- Words for memory that all walks of this seat share: a slice that reads as a list of cells, an append of one element onto a row of the call's own, how worlds follow each other. No program is in sight. -/
import Derived.WalkKit
import Derived.ProofKit
import Derived.OpenShut
import Derived.BigQuiet
import Derived.Deep.QuietTactic
import Derived.Deep.AppendLies
import Derived.Deep.Draws
import Derived.Lib.Hide
import Derived.Laws.MakeOwn
import Derived.Test.YtcaeihfgdlffkaaGreatRRRRDoorRows
import Derived.Laws.Rows
import Derived.Laws.CopyOwn
namespace Go.Proofs.YtcaeihfgdlffkaaGreatRRRRDoor.Base
open Go.RowKit Go.ChangeShapes Go.WideShapes

theorem add_block (a : Addr) (n : Nat) : (a.add n).block = a.block := by unfold Addr.add; split <;> rfl
theorem add_add' (a : Addr) (i j : Nat) : (a.add i).add j = a.add (i + j) := by
  unfold Addr.add
  by_cases hi : i = 0 <;> by_cases hj : j = 0 <;> simp [hi, hj, Nat.add_assoc]

/-- The slice '.slice A n _' reads as the cells xs (size cells an element), in a block from lo on, below B. -/
def Rd (w : World) (lo B size : Nat) (A : Option Addr) (n : Nat) (xs : List Value) : Prop :=
  xs.length = n * size ∧ (0 < n → ∃ ad : Addr, A = some ad ∧ lo ≤ ad.block ∧ ad.block < B ∧ ∀ j u, xs[j]? = some u → w.cell? (ad.add j) = some u)

section
variable {w w' : World} {lo lo' B B' size n : Nat} {A : Option Addr} {xs : List Value}
theorem Rd.nil_ : Rd w lo B size A 0 [] := ⟨by simp, fun h => absurd h (by omega)⟩
theorem Rd.len (h : Rd w lo B 1 A n xs) : xs.length = n := by simpa using h.1
theorem Rd.at_ {k : Nat} (h : Rd w lo B 1 A n xs) (hk : k < n) : ∃ ad u, A = some ad ∧ ad.block < B ∧ xs[k]? = some u ∧ w.cell? (ad.add k) = some u := by
  obtain ⟨ad, e, _, hb, hc⟩ := h.2 (by omega)
  have hl : k < xs.length := by have := h.1; omega
  exact ⟨ad, xs[k], e, hb, List.getElem?_eq_getElem hl, hc k _ (List.getElem?_eq_getElem hl)⟩
theorem Rd.keep (h : Rd w lo B size A n xs) (hk : ∀ p : Addr, lo ≤ p.block → p.block < B → w'.cell? p = w.cell? p) : Rd w' lo B size A n xs :=
  ⟨h.1, fun hn => by
    obtain ⟨ad, e, hl, hb, hc⟩ := h.2 hn
    exact ⟨ad, e, hl, hb, fun j u hu => (hk _ (by rw [add_block]; exact hl) (by rw [add_block]; exact hb)).trans (hc j u hu)⟩⟩
theorem Rd.more (h : Rd w lo B size A n xs) (hl : lo' ≤ lo) (hB : B ≤ B') : Rd w lo' B' size A n xs :=
  ⟨h.1, fun hn => by
    obtain ⟨ad, e, h1, hb, hc⟩ := h.2 hn
    exact ⟨ad, e, by omega, by omega, hc⟩⟩
theorem Rd.below (h : Rd w lo B size A n xs) (hb : Below B w w') : Rd w' lo B size A n xs := h.keep fun _ _ hp => hb.cell hp
theorem Rd.below' (h : Rd w lo B size A n xs) (hb : Below B' w w') (hB : B ≤ B') : Rd w' lo B size A n xs := h.below (hb.mono hB)
theorem Rd.drewN (h : Rd w lo B size A n xs) (k : Nat) : Rd (w.drewN k) lo B size A n xs := h
theorem Rd.set_ (h : Rd w lo B size A n xs) (p : Addr) (hp : p.block < lo ∨ B ≤ p.block) (u : Value) : Rd (w.setCell p u) lo B size A n xs :=
  h.keep fun q h1 h2 => World.cell?_setCell_other w p q u (fun e => by subst e; omega)
theorem Rd.grown (h : Rd w lo B size A n xs) {row : Option Nat} (hg : w.grownBy w' row) (hB : B ≤ w.heap.size) (hr : ∀ g, row = some g → g < lo ∨ B ≤ g) : Rd w' lo B size A n xs :=
  h.keep fun p h1 hp => World.cell?_of_block (hg.block p.block (by omega) (fun e => by have := hr _ e.symm; omega))
theorem Rd.cut (h : Rd w lo B size A n xs) {k cap : Nat} (hk : k ≤ n) (hc : n ≤ cap) :
    Rd w lo B size (if cap = k then A else A.map (·.add (k * size))) (n - k) (xs.drop (k * size)) := by
  refine ⟨by rw [List.length_drop, h.1, Nat.sub_mul], fun hn => ?_⟩
  obtain ⟨ad, rfl, hl, hb, hcell⟩ := h.2 (by omega)
  rw [if_neg (by omega)]
  refine ⟨ad.add (k * size), rfl, by rw [add_block]; exact hl, by rw [add_block]; exact hb, fun j u hu => ?_⟩
  rw [add_add']
  exact hcell _ u (by rw [← hu, List.getElem?_drop])
theorem Rd.take (h : Rd w lo B size A n xs) {k : Nat} (hk : k ≤ n) : Rd w lo B size A k (xs.take (k * size)) := by
  refine ⟨by rw [List.length_take, h.1]; have := Nat.mul_le_mul_right size hk; omega, fun hn => ?_⟩
  obtain ⟨ad, rfl, hl, hb, hcell⟩ := h.2 (by omega)
  refine ⟨ad, rfl, hl, hb, fun j u hu => hcell j u ?_⟩
  rw [List.getElem?_take] at hu
  split at hu
  · exact hu
  · cases hu
theorem Rd.of_own {base : Nat} {e : TypeId} {c : Nat} (h : w.ownsRow base e size (.slice A n c) n xs) : Rd w base w.heap.size size A n xs := by
  refine ⟨h.1, fun hn => ?_⟩
  obtain ⟨g, cap, hv, hg, hlt⟩ := h.form hn
  have hA : A = some ⟨g, 0, none⟩ := by injection hv
  subst hA
  exact ⟨_, rfl, hg, hlt, h.cells (g := g) rfl⟩
end

/-- What an element type's row of the program's table says, for append and make. -/
def Elt (P : Program) (t e : TypeId) (z : Value) (size bytes : Nat) : Prop :=
  P.underlying t = some (.slice e) ∧ 0 < size ∧ bytes ≤ 131072 ∧ ∃ i, P.info? e = some i ∧ i.zero = some z ∧ i.size = size ∧ i.bytes = bytes ∧ z.cells.size = size
theorem elt_mk {P : Program} {t e : TypeId} {z : Value} {size bytes : Nat} (ht : P.underlying t = some (.slice e)) (h : (P.info? e).map (fun i => (i.zero, i.size, i.bytes)) = some (some z, size, bytes))
    (hz : z.cells.size = size) (h0 : 0 < size) (hb : bytes ≤ 131072) : Elt P t e z size bytes := by
  obtain ⟨i, hi, h1, h2, h3⟩ := info_parts h
  exact ⟨ht, h0, hb, i, hi, h1, h2, h3, hz⟩

theorem below_own {w0 w w' : World} {base B : Nat} {e : TypeId} {size n : Nat} {v : Value} {xs : List Value} (h : Below B w0 w) (hown : w.ownsRow base e size v n xs) (hg : w.grownBy w' v.ownBlock)
    (hB : B ≤ base) (hw : B ≤ w.heap.size) : Below B w0 w' :=
  h.grown hg hw (fun k hk => Nat.le_trans hB (hown.lt k hk).1)

/-- What an append leaves: the row is longer, it is one of the call's own, and nothing else has turned. -/
structure App (wr w' : World) (base : Nat) (e : TypeId) (size : Nat) (A : Option Addr) (n cap : Nat) (A' : Option Addr) (n' cap' : Nat) (xs : List Value) : Prop where
  own : w'.ownsRow base e size (.slice A' n' cap') n' xs
  grown : wr.grownBy w' (Value.ownBlock (.slice A n cap))
  lies : Value.ownBlock (.slice A' n' cap') = Value.ownBlock (.slice A n cap) ∨ wr.heap.size ≤ (Value.ownBlock (.slice A' n' cap')).getD 0
  below : Below base wr w'

theorem oneCells_int (k : IntKind) (l : List Int) : ∀ u ∈ l.map (Value.int k), u.oneCell' = true := by
  intro u hu
  obtain ⟨x, _, rfl⟩ := List.mem_map.1 hu
  rfl

section
variable {P : Program}
/-- 's = append(s, x)': the element has been laid as the newest block. -/
theorem app1 {ops : Array Oper} {rest : List Oper} {o : Oper} {a : Act} {Q : Exit → Act → World → Prop} (wr : World) (cs : Array Value) (hgd : o.guard = none) (s x : Operand) (t : TypeId)
    (ho : o.op = .call { callee := .builtin .append, args := #[s, x], argTypes := #[t, t] })
    {e : TypeId} {z : Value} {size bytes : Nat} (E : Elt P t e z size bytes) (base : Nat) (A : Option Addr) (n cap : Nat) (xs : List Value) (hs : a.eval s = .slice A n cap)
    (hown : wr.ownsRow base e size (.slice A n cap) n xs) (hx : a.eval x = .slice (some ⟨wr.heap.size, 0, none⟩) 1 1) (hcs : cs.size = size) (h1 : ∀ u ∈ cs.toList, u.oneCell' = true)
    (hn : n < 1073741824) (hbase : base ≤ wr.heap.size)
    (h : ∀ A' cap' w', App wr w' base e size A n cap A' (n + 1) cap' (xs ++ cs.toList) → wpList P ops Q rest (a.put o.dst (.slice A' (n + 1) cap')) w') :
    wpList P ops Q (o :: rest) a (wr.alloc (.cells cs e)) := by
  obtain ⟨ht, h0, hby, i, hi, hz, hsz, hbs, hzs⟩ := E
  refine wpList_append_lies _ hgd s x t ho base e i z size bytes ht hi hz hsz hbs hzs h0 (.slice A n cap) n xs hs (hown.alloc _) ⟨wr.heap.size, 0, none⟩ 1 1 cs.toList hx (by simp [hcs])
    (World.news_of_block (heap_alloc_new wr _)) h1 (by omega) (by unfold maxLen; omega) ?_ (by simp; omega) (wr.heap.size + 1) (by simp) ?_
  · have h2 : (n + 1) * bytes ≤ (n + 1) * 131072 := Nat.mul_le_mul_left _ hby
    omega
  · intro g cp w' own hg hor hlt
    refine h _ _ _ ⟨own, ?_, ?_, ?_⟩
    · exact ⟨hg.os, hg.tape, hg.output, Nat.le_trans (by simp) hg.size, fun k hk hne => (hg.block k (by simp; omega) hne).trans (Below.heap_alloc wr _ k hk)⟩
    · rcases hor with e1 | e1
      · exact .inl (by rw [e1]; rfl)
      · exact .inr (by subst e1; simp [Value.ownBlock])
    · exact ((Below.refl _ _).alloc hbase _).grown hg (by simp; omega) (fun k hk => (hown.lt k hk).1)
/-- 'make([]T, n)': n elements of one cell each, all zero. -/
theorem mk1 {ops : Array Oper} {rest : List Oper} {o : Oper} {a : Act} {Q : Exit → Act → World → Prop} (w : World) (hgd : o.guard = none) (l c : Operand) (t : TypeId) (ho : o.op = Op.makeSlice t l c)
    {e : TypeId} {z : Value} {bytes : Nat} (E : Elt P t e z 1 bytes) (hzc : z.cells = #[z]) (n : Nat) (hl : a.eval l = .int .i64 n) (hc : a.eval c = .int .i64 n) (hn : n ≤ 1073741824)
    (h : ∀ w', w'.ownsRow w.heap.size e 1 (.slice (some ⟨w.heap.size, 0, none⟩) n n) n (List.replicate n z) → Below w.heap.size w w' → wpList P ops Q rest (a.put o.dst (.slice (some ⟨w.heap.size, 0, none⟩) n n)) w') :
    wpList P ops Q (o :: rest) a w := by
  obtain ⟨ht, h0, hby, i, hi, hz, hsz, hbs, hzs⟩ := E
  refine wpList_make_full w hgd l c t ho w.heap.size e i z 1 ht hi hz hsz .i64 .i64 n n n hl hc rfl rfl ?_ (by unfold maxLen; omega) (Nat.le_refl _) ?_
  · have h2 : i.bytes * n ≤ 131072 * n := Nat.mul_le_mul_right _ (by omega)
    omega
  · intro w' hown hg
    refine h w' ?_ ((Below.refl _ _).grown hg (Nat.le_refl _) (fun k hk => by cases hk))
    rw [Nat.mul_one, hzc, toList_madeCells_one] at hown
    exact hown
/-- 'make([]T, 0, n)': room for n elements. -/
theorem mk0 {ops : Array Oper} {rest : List Oper} {o : Oper} {a : Act} {Q : Exit → Act → World → Prop} (w : World) (hgd : o.guard = none) (l c : Operand) (t : TypeId) (ho : o.op = Op.makeSlice t l c)
    {e : TypeId} {z : Value} {size bytes : Nat} (E : Elt P t e z size bytes) (n : Nat) (hl : a.eval l = .int .i64 0) {C : Int} (hc : a.eval c = .int .i64 C) (hC : C = (n : Int)) (hn : n ≤ 1073741824)
    (h : ∀ w', w'.ownsRow w.heap.size e size (.slice (some ⟨w.heap.size, 0, none⟩) 0 n) 0 [] → Below w.heap.size w w' → wpList P ops Q rest (a.put o.dst (.slice (some ⟨w.heap.size, 0, none⟩) 0 n)) w') :
    wpList P ops Q (o :: rest) a w := by
  obtain ⟨ht, h0, hby, i, hi, hz, hsz, hbs, hzs⟩ := E
  refine wpList_make_own w hgd l c t ho w.heap.size e i z size ht hi hz hsz .i64 .i64 C n hl hc hC ?_ (by unfold maxLen; omega) (Nat.le_refl _) ?_
  · have h2 : i.bytes * n ≤ 131072 * n := Nat.mul_le_mul_right _ (by omega)
    omega
  · intro w' hown hg
    exact h w' hown ((Below.refl _ _).grown hg (Nat.le_refl _) (fun k hk => by cases hk))
end
theorem App.rd {wr w' : World} {base : Nat} {e : TypeId} {size : Nat} {A A' : Option Addr} {n cap n' cap' : Nat} {xs : List Value} (h : App wr w' base e size A n cap A' n' cap' xs) : Rd w' base w'.heap.size size A' n' xs := Rd.of_own h.own

theorem ret_int {k : IntKind} {a b : Int} (h : a = b) : Ending.returned (.int k a) = .returned (.int k b) := by rw [h]
theorem ret_bool {a b : Bool} (h : a = b) : Ending.returned (.bool a) = .returned (.bool b) := by rw [h]
theorem ret_int2 {k l : IntKind} {a b c d : Int} (h : a = b) (h2 : c = d) : Ending.returned (.tuple #[.int k a, .int l c]) = .returned (.tuple #[.int k b, .int l d]) := by rw [h, h2]
theorem ret_int3 {k l m : IntKind} {a b c d x y : Int} (h : a = b) (h2 : c = d) (h3 : x = y) : Ending.returned (.tuple #[.int k a, .int l c, .int m x]) = .returned (.tuple #[.int k b, .int l d, .int m y]) := by rw [h, h2, h3]

theorem below_drewN {B : Nat} {a w : World} (h : Below B a w) (n : Nat) : Below B a (w.drewN n) := ⟨h.os, h.tape, h.output, h.size, h.block⟩
theorem quiet_of_left {P : Program} {f : FuncId} {w : World} {args : Array Value} {v : Value} (h : Calls P f args w fun e w' => e = .returned v ∧ w = w') :
    Calls P f args w fun e w' => e = .returned v ∧ w' = w := h.mono fun _ _ ⟨a, b⟩ => ⟨a, b.symm⟩

/-- The row's last step, where of the world behind the call 'Below' alone is known. -/
theorem post_of_below {H : Type} {enc : TypeId × Value → H} {P : Program} {f : Func} {s : ChangeSpec} {apart fresh handsOn again : Bool} {W W' : World} {args : Array Value} {v : Value} {ds gs : List (DataW H)} {before pa pv : List MemPlace}
    (hW : DataW.Whole enc P f.params.toList s.vars apart W args.toList ds gs before)
    (hres : ∀ (b : Nat) (sp : Nat → Bool) (hd : Bool), DataW.TrodAll enc P W' b sp hd f.resultTypes.toList (v.resultList f.resultTypes.size) (s.fn H (ds ++ gs)).results [])
    (hargs : ∀ sp : Nat → Bool, (∀ p ∈ before, sp p.block = true) → DataW.TrodAll enc P W' 0 sp true f.params.toList args.toList (s.fn H (ds ++ gs)).args pa)
    (hvars : ∀ sp : Nat → Bool, (∀ p ∈ before, sp p.block = true) → DataW.TrodVars enc P W' sp s.vars (s.fn H (ds ++ gs)).vars pv)
    (hps : before = pa ++ pv) (hb : Below W.heap.size W W')
    (hok : ∀ (j : Nat) (t : TypeId) (r : Value), f.resultTypes[j]? = some t → (v.resultList f.resultTypes.size)[j]? = some r → Value.okWide P W' .any 0 t r) :
    s.post enc P f apart fresh handsOn again W args v W' := by
  have hlt : ∀ p ∈ before, p.block < W.heap.size := fun p hp => hW.lt p hp
  have hold : ∀ p ∈ before, (fun b => decide (b < W.heap.size)) p.block = true := fun p hp => by simpa using hlt p hp
  refine ⟨ds, gs, before, [], pa, pv, hW, hres _ _ _, hargs _ hold, hvars _ hold, World.keptBut_mono (fun p hp => ⟨hp, ?_⟩) (hb.frame (· ∈ before)), fun _ => ?_⟩
  · rw [hps, List.mem_append] at hp
    exact Or.inr hp
  · obtain ⟨_, _, _, _, _, hz, hn⟩ := hW
    refine ⟨hok, _, _, ([] ++ pa) ++ pv, ⟨[] ++ pa, pv, trodAll_append (hargs _ (fun _ _ => rfl)) (hres _ _ _), hvars _ (fun _ _ => rfl), rfl, ?_, ?_⟩, ?_⟩
    · intro b off hp
      have hin : MemPlace.cell b off ∈ before := by rw [hps]; simpa using hp
      rw [hb.frozen (hlt _ hin)]
      exact hz b off hin
    · intro ha
      have := hn ha
      rw [hps] at this
      simpa using this
    · intro p hp _
      rw [hps]
      simpa using hp
end Go.Proofs.YtcaeihfgdlffkaaGreatRRRRDoor.Base

/- Slices of records, whatever the record; rows that grow; appends (plain list and drawing region). No program is in sight but by its element types. -/
namespace Go.Proofs.YtcaeihfgdlffkaaGreatRRRRDoor.SeqM
set_option linter.unusedVariables false
open Go.RowKit Go.WideElems Base

section
variable {α : Type} {k : Nat} {f : α → List Value} {w w' : World} {lo lo' B B' : Nat} {v : Value} {l : List α}
/-- the slice value reads as the list l, k cells an element, in a block from lo on, below B -/
def Seq (k : Nat) (f : α → List Value) (w : World) (lo B : Nat) (v : Value) (l : List α) : Prop :=
  ∃ A cap, v = .slice A l.length cap ∧ l.length ≤ cap ∧ cap ≤ maxLen ∧ Rd w lo B k A l.length (l.flatMap f) ∧ (A = none → cap = 0)
theorem Seq.below (h : Seq k f w lo B v l) (hb : Below B w w') : Seq k f w' lo B v l := by
  obtain ⟨A, cap, e, h1, h2, h3, h4⟩ := h
  exact ⟨A, cap, e, h1, h2, h3.below hb, h4⟩
theorem Seq.more (h : Seq k f w lo B v l) (hl : lo' ≤ lo) (hB : B ≤ B') : Seq k f w lo' B' v l := by
  obtain ⟨A, cap, e, h1, h2, h3, h4⟩ := h
  exact ⟨A, cap, e, h1, h2, h3.more hl hB, h4⟩
theorem Seq.up (h : Seq k f w lo w.heap.size v l) (hb : Below w.heap.size w w') : Seq k f w' lo w'.heap.size v l := (h.below hb).more (Nat.le_refl _) hb.size
theorem Seq.drewN (h : Seq k f w lo B v l) (q : Nat) : Seq k f (w.drewN q) lo B v l := h
theorem Seq.of_own {base : Nat} {e : TypeId} (h : w.ownsRow base e k v l.length (l.flatMap f)) : Seq k f w base w.heap.size v l := by
  rcases h.2 with ⟨hv, h0⟩ | ⟨g, cap, cur, hv, hb, hg, hc, hm, _⟩
  · have : l = [] := List.eq_nil_of_length_eq_zero h0
    subst this
    exact ⟨none, 0, hv, Nat.le_refl _, by unfold maxLen; omega, Rd.nil_, fun _ => rfl⟩
  · subst hv
    exact ⟨some ⟨g, 0, none⟩, cap, rfl, hc, hm, Rd.of_own h, fun hh => by cases hh⟩
theorem Seq.nil_ : Seq k f w lo B (.slice none 0 0) ([] : List α) := ⟨none, 0, rfl, Nat.le_refl _, by unfold maxLen; omega, Rd.nil_, fun _ => rfl⟩
theorem flat_at (hk : ∀ x, (f x).length = k) : ∀ (l : List α) (i : Nat) (x : α) (j : Nat) (u : Value), l[i]? = some x → (f x)[j]? = some u → (l.flatMap f)[i * k + j]? = some u
  | [], i, x, j, u, h, _ => by simp at h
  | y :: r, 0, x, j, u, h, hj => by
    obtain rfl : y = x := by simpa using h
    rw [List.flatMap_cons, Nat.zero_mul, Nat.zero_add, List.getElem?_append_left (List.getElem?_eq_some_iff.1 hj).1]
    exact hj
  | y :: r, i + 1, x, j, u, h, hj => by
    rw [List.flatMap_cons, List.getElem?_append_right (by rw [hk y, Nat.succ_mul]; omega), hk y, show (i + 1) * k + j - k = i * k + j by rw [Nat.succ_mul]; omega]
    exact flat_at hk r i x j u (by simpa using h) hj
theorem flat_len (hk : ∀ x, (f x).length = k) : ∀ l : List α, (l.flatMap f).length = l.length * k
  | [] => by simp
  | x :: r => by rw [List.flatMap_cons, List.length_append, hk, flat_len hk r, List.length_cons, Nat.succ_mul]; omega
theorem flat_get (hk : ∀ x, (f x).length = k) (h0 : 0 < k) : ∀ (l : List α) (j : Nat) (u : Value), (l.flatMap f)[j]? = some u → ∃ x, l[j / k]? = some x ∧ (f x)[j % k]? = some u
  | [], j, u, h => by simp at h
  | y :: r, j, u, h => by
    rw [List.flatMap_cons] at h
    by_cases hj : j < k
    · rw [List.getElem?_append_left (by rw [hk]; exact hj)] at h
      exact ⟨y, by rw [Nat.div_eq_of_lt hj]; rfl, by rw [Nat.mod_eq_of_lt hj]; exact h⟩
    · rw [List.getElem?_append_right (by rw [hk]; omega), hk] at h
      obtain ⟨x, hx, hu⟩ := flat_get hk h0 r (j - k) u h
      have e1 : j / k = (j - k) / k + 1 := by
        have : j = (j - k) + k := by omega
        rw [this, Nat.add_div_right _ h0]; simp
      have e2 : j % k = (j - k) % k := by
        have : j = (j - k) + k := by omega
        rw [this, Nat.add_mod_right]; simp
      exact ⟨x, by rw [e1]; simpa using hx, by rw [e2]; exact hu⟩
theorem rdk (hk : ∀ x, (f x).length = k) {A : Option Addr} (h : Rd w lo B k A l.length (l.flatMap f)) {i : Nat} (hi : i < l.length) :
    ∃ (ad : Addr) (x : α), A = some ad ∧ lo ≤ ad.block ∧ ad.block < B ∧ l[i]? = some x ∧ ∀ j u, (f x)[j]? = some u → w.cell? (ad.add (i * k + j)) = some u := by
  obtain ⟨ad, e, hl, hb, hc⟩ := h.2 (by omega)
  have hx : l[i]? = some l[i] := List.getElem?_eq_getElem hi
  exact ⟨ad, l[i], e, hl, hb, hx, fun j u hu => hc _ _ (flat_at hk l i _ j u hx hu)⟩
end
theorem add_off (a : Addr) (i j : Nat) (h : j ≠ 0) : (⟨(a.add i).block, (a.add i).off + j, none⟩ : Addr) = a.add (i + j) := by
  unfold Addr.add
  by_cases hi : i = 0
  · subst hi; simp [h]
  · simp [hi, Nat.add_assoc]
theorem take_next {α : Type} {l : List α} {k : Nat} {x : α} (h : l[k]? = some x) : l.take (k + 1) = l.take k ++ [x] := by
  rw [List.take_add_one, h]; rfl
theorem get_app {α : Type} {l : List α} {i : Nat} {x : α} (h : l[i]? = some x) (r : List α) : (l ++ r)[i]? = some x := by
  rw [List.getElem?_append_left (List.getElem?_eq_some_iff.1 h).1]; exact h
def inC (x : Int) : List Value := [.int .i64 x]
theorem inC_len (x : Int) : (inC x).length = 1 := rfl
theorem one_int (l : List Int) : ∀ u ∈ l.flatMap inC, u.oneCell' = true := by
  intro u hu
  obtain ⟨x, _, hx⟩ := List.mem_flatMap.1 hu
  obtain rfl := List.mem_singleton.1 hx
  rfl
/-- a place of a row of numbers -/
theorem rdI {w : World} {lo B : Nat} {A : Option Addr} {l : List Int} (h : Rd w lo B 1 A l.length (l.flatMap inC)) {i : Nat} (hi : i < l.length) :
    ∃ (ad : Addr) (x : Int), A = some ad ∧ lo ≤ ad.block ∧ ad.block < B ∧ l[i]? = some x ∧ w.cell? (ad.add i) = some (.int .i64 x) := by
  obtain ⟨ad, x, e, h1, h2, hx, hc⟩ := rdk inC_len h hi
  exact ⟨ad, x, e, h1, h2, hx, by simpa using hc 0 _ rfl⟩
theorem keepA {W w1 : World} (hb : Below W.heap.size W w1) {a : Addr} {v : Value} (h : W.cell? a = some v) : w1.cell? a = some v :=
  (hb.cell (World.block_lt_of_cell? W _ h)).trans h
theorem below_a1 (w : World) (a : Obj) : Below w.heap.size w (w.alloc a) := (Below.refl _ _).alloc (Nat.le_refl _) a
theorem below_a2 (w : World) (a b : Obj) : Below w.heap.size w ((w.alloc a).alloc b) := (below_a1 w a).alloc (by simp) b
theorem bt {w W W' : World} (h : Below W.heap.size W W') (h0 : Below w.heap.size w W) : Below w.heap.size w W' := h0.trans (h.mono h0.size)

/-! ### Rows -/
def Typ (w : World) (b : Nat) (t : TypeId) : Prop := ∃ cs fz, w.heap[b]? = some (.cells cs t fz)
theorem Typ.eq {w : World} {b : Nat} {t u : TypeId} (h : Typ w b t) (h' : Typ w b u) : t = u := by
  obtain ⟨_, _, e⟩ := h
  obtain ⟨_, _, e'⟩ := h'
  rw [e] at e'
  injection e' with e'
  injection e'
theorem own_typ {w : World} {base : Nat} {e : TypeId} {size n : Nat} {v : Value} {xs : List Value} (h : w.ownsRow base e size v n xs) : ∀ g, v.ownBlock = some g → Typ w g e ∧ base ≤ g ∧ g < w.heap.size := by
  intro g hg
  rcases h.2 with ⟨hv, _⟩ | ⟨g', cap, cur, hv, hb, hc, hr⟩
  · subst hv; simp [Value.ownBlock] at hg
  · subst hv
    obtain rfl : g' = g := by simpa [Value.ownBlock] using hg
    refine ⟨⟨_, _, hc⟩, hb, ?_⟩
    rcases Nat.lt_or_ge g' w.heap.size with h' | h'
    · exact h'
    · rw [Array.getElem?_eq_none h'] at hc; cases hc
theorem own_keep {w w' : World} {base : Nat} {e : TypeId} {size n : Nat} {v : Value} {xs : List Value} (h : w.ownsRow base e size v n xs) (hk : ∀ k, k < w.heap.size → Typ w k e → w'.heap[k]? = w.heap[k]?) : w'.ownsRow base e size v n xs := by
  refine ⟨h.1, ?_⟩
  rcases h.2 with h0 | ⟨g, cap, cur, hv, hg, hc, hr⟩
  · exact .inl h0
  · refine .inr ⟨g, cap, cur, hv, hg, ?_, hr⟩
    rw [← hc]
    obtain ⟨h1, _, h2⟩ := own_typ h g (by rw [hv]; rfl)
    exact hk g h2 h1
theorem own_below {w w' : World} {base : Nat} {e : TypeId} {size n : Nat} {v : Value} {xs : List Value} (h : w.ownsRow base e size v n xs) (hb : Below w.heap.size w w') : w'.ownsRow base e size v n xs :=
  own_keep h fun k hk _ => hb.block k hk
theorem grown_keep {w w' : World} {base : Nat} {e e' : TypeId} {size n : Nat} {v : Value} {xs : List Value} (h : w.ownsRow base e size v n xs) (hg : w.grownBy w' v.ownBlock) (hne : e' ≠ e) {k : Nat} (hk : k < w.heap.size) (ht : Typ w k e') : w'.heap[k]? = w.heap[k]? :=
  hg.block k hk fun he => hne (ht.eq (own_typ h k he.symm).1)
theorem own_one (w : World) (cs : Array Value) (e : TypeId) (k : Nat) (hk : cs.size = k) : (w.alloc (.cells cs e)).ownsRow w.heap.size e k (.slice (some ⟨w.heap.size, 0, none⟩) 1 1) 1 cs.toList :=
  ⟨by simp [hk], .inr ⟨w.heap.size, 1, cs, rfl, Nat.le_refl _, heap_alloc_new w _, Nat.le_refl _, by unfold maxLen; omega, by omega, by rw [Nat.one_mul, ← hk]; exact List.take_of_length_le (by simp)⟩⟩
section
variable {P : Program}
/-- 's = append(s, x...)' in a region that draws its order, both rows of one's own, something is appended -/
theorem stepS {ops : Array Oper} {o : Oper} {a : Act} {K : Act → World → Prop} {Q : Exit → Act → World → Prop} {E' : Prop} {w : World} (hgd : o.guard = none) (s x : Operand) (t : TypeId)
    (ho : o.op = .call { callee := .builtin .append, args := #[s, x], argTypes := #[t, t] })
    {e : TypeId} {z : Value} {size bytes : Nat} (E : Elt P t e z size bytes) (base base2 : Nat) (v v2 : Value) (n m : Nat) (xs news : List Value) (hs : a.eval s = v)
    (hown : w.ownsRow base e size v n xs) (hx : a.eval x = v2) (hown2 : w.ownsRow base2 e size v2 m news) (h1 : ∀ u ∈ news, u.oneCell' = true) (hm : 0 < m)
    (hn : n + m ≤ 1073741824) (hbase : base ≤ w.heap.size)
    (h : ∀ v' w', w'.ownsRow base e size v' (n + m) (xs ++ news) → w.grownBy w' v.ownBlock → K (a.put o.dst v') w') :
    if Region.wanted o (yielded ops a.tmps) = true then Oper.wp P o a w K Q else E' := by
  obtain ⟨ht, h0, hby, i, hi, hz, hsz, hbs, hzs⟩ := E
  obtain ⟨g, cap, hv, hg, hlt⟩ := hown2.form hm
  have hr := (Rd.of_own (by rw [hv] at hown2; exact hown2)).2 hm
  obtain ⟨ad, e1, _, _, hc⟩ := hr
  obtain rfl := Option.some.inj e1
  refine step_append_lies _ hgd s x t ho base e i z size bytes ht hi hz hsz hbs hzs h0 v n xs hs hown _ m cap news (by rw [hx, hv]) hown2.1 hc h1 hm (by unfold maxLen; omega) ?_ hbase w.heap.size rfl ?_
  · have h2 : (n + m) * bytes ≤ 1073741824 * 131072 := Nat.mul_le_mul hn hby
    omega
  · intro g cp w' own hg hor hlt
    exact h _ _ own hg
/-- 's = append(s, x...)', both rows of one's own, something is appended -/
theorem listS {ops : Array Oper} {rest : List Oper} {o : Oper} {a : Act} {Q : Exit → Act → World → Prop} {w : World} (hgd : o.guard = none) (s x : Operand) (t : TypeId)
    (ho : o.op = .call { callee := .builtin .append, args := #[s, x], argTypes := #[t, t] })
    {e : TypeId} {z : Value} {size bytes : Nat} (E : Elt P t e z size bytes) (base base2 : Nat) (v v2 : Value) (n m : Nat) (xs news : List Value) (hs : a.eval s = v)
    (hown : w.ownsRow base e size v n xs) (hx : a.eval x = v2) (hown2 : w.ownsRow base2 e size v2 m news) (h1 : ∀ u ∈ news, u.oneCell' = true) (hm : 0 < m)
    (hn : n + m ≤ 1073741824) (hbase : base ≤ w.heap.size)
    (h : ∀ v' w', w'.ownsRow base e size v' (n + m) (xs ++ news) → w.grownBy w' v.ownBlock → wpList P ops Q rest (a.put o.dst v') w') :
    wpList P ops Q (o :: rest) a w := by
  obtain ⟨ht, h0, hby, i, hi, hz, hsz, hbs, hzs⟩ := E
  obtain ⟨g, cap, hv, hg, hlt⟩ := hown2.form hm
  have hr := (Rd.of_own (by rw [hv] at hown2; exact hown2)).2 hm
  obtain ⟨ad, e1, _, _, hc⟩ := hr
  obtain rfl := Option.some.inj e1
  refine wpList_append_lies _ hgd s x t ho base e i z size bytes ht hi hz hsz hbs hzs h0 v n xs hs hown _ m cap news (by rw [hx, hv]) hown2.1 hc h1 hm (by unfold maxLen; omega) ?_ hbase w.heap.size rfl ?_
  · have h2 : (n + m) * bytes ≤ 1073741824 * 131072 := Nat.mul_le_mul hn hby
    omega
  · intro g cp w' own hg hor hlt
    exact h _ _ own hg
end
/-- a block that came behind the row's is left alone as the row grows -/
theorem past {wr w4 w5 : World} {base : Nat} {e : TypeId} {size n : Nat} {v : Value} {xs : List Value} (h : wr.ownsRow base e size v n xs) (hg : w4.grownBy w5 v.ownBlock) {j : Nat} (h1 : wr.heap.size ≤ j) (h2 : j < w4.heap.size) (i : Nat) (u : Value)
    (hc : w4.cell? ⟨j, i, none⟩ = some u) : w5.cell? ⟨j, i, none⟩ = some u :=
  (World.cell?_of_block (a := ⟨j, i, none⟩) (hg.block j h2 fun he => by have := (own_typ h j he.symm).2.2; omega)).trans hc
end Go.Proofs.YtcaeihfgdlffkaaGreatRRRRDoor.SeqM

/- A way to work, plainly: which is right, its turns. No program is in sight but the values of its fields. -/
namespace Go.Proofs.YtcaeihfgdlffkaaGreatRRRRDoor.CfM
set_option linter.unusedVariables false
open Go.RowKit Base SeqM

/-- a way to work: Dim, Window, Trees, Sample, Every, Kind, Part, Whole, Tries, Keep, Notes -/
structure Cf where
  c0 : Int
  c1 : Int
  c2 : Int
  c3 : Int
  c4 : Int
  c5 : Int
  c6 : Int
  c7 : Int
  c8 : Int
  c9 : Int
  c10 : Int
def confOk (c : Cf) : Prop := (1 ≤ c.c0 ∧ c.c0 ≤ 8) ∧ (2 ≤ c.c1 ∧ c.c1 ≤ 256) ∧ (1 ≤ c.c2 ∧ c.c2 ≤ 16) ∧ (2 ≤ c.c3 ∧ c.c3 ≤ 64 ∧ c.c3 ≤ c.c1) ∧ (1 ≤ c.c4 ∧ c.c4 ≤ 256) ∧ (1 ≤ c.c5 ∧ c.c5 ≤ 2) ∧
  (2 ≤ c.c7 ∧ c.c7 ≤ 1000) ∧ (1 ≤ c.c6 ∧ c.c6 ≤ c.c7 - 1) ∧ (1 ≤ c.c8 ∧ c.c8 ≤ 64) ∧ (1 ≤ c.c9 ∧ c.c9 ≤ 64) ∧ (1 ≤ c.c10 ∧ c.c10 ≤ 256)
instance (c : Cf) : Decidable (confOk c) := by unfold confOk; infer_instance
def cfC (c : Cf) : List Value := [.int .i64 c.c0, .int .i64 c.c1, .int .i64 c.c2, .int .i64 c.c3, .int .i64 c.c4, .int .i64 c.c5, .int .i64 c.c6, .int .i64 c.c7, .int .i64 c.c8, .int .i64 c.c9, .int .i64 c.c10]
def confB (c : Cf) : Bool := decide (confOk c)
theorem conf_yes {c : Cf} (h : confOk c) : confB c = true := decide_eq_true h
theorem conf_no {c : Cf} (h : ¬ confOk c) : confB c = false := decide_eq_false h
/-- the least number of which b times is not below a -/
def ceilC (a b : Int) : Int := (a + b - 1) / b
theorem ceil_code {a b : Int} (hb : 1 ≤ b) : ceilC a b = a / b + (if 0 < a % b then 1 else 0) := by
  unfold ceilC
  have h1 := Int.emod_nonneg a (show b ≠ 0 by omega)
  have h2 := Int.emod_lt_of_pos a (show 0 < b by omega)
  have h3 := Int.mul_ediv_add_emod a b
  generalize a / b = q at *
  generalize a % b = r at *
  have e : a + b - 1 = (r + b - 1) + b * q := by omega
  rw [e, Int.add_mul_ediv_left _ _ (by omega)]
  split
  · have : (r + b - 1) / b = 1 := by
      rw [show r + b - 1 = (r - 1) + b * 1 by omega, Int.add_mul_ediv_left _ _ (by omega), Int.ediv_eq_zero_of_lt (by omega) (by omega)]; rfl
    omega
  · have : (r + b - 1) / b = 0 := Int.ediv_eq_zero_of_lt (by omega) (by omega)
    omega
theorem ceil_bd {a b : Int} (ha : 0 ≤ a) (hb : 1 ≤ b) : a ≤ ceilC a b * b ∧ ceilC a b * b ≤ a + b - 1 ∧ 0 ≤ ceilC a b ∧ ceilC a b ≤ a := by
  unfold ceilC
  have h1 := Int.emod_nonneg (a + b - 1) (show b ≠ 0 by omega)
  have h2 := Int.emod_lt_of_pos (a + b - 1) (show 0 < b by omega)
  have h3 := Int.mul_ediv_add_emod (a + b - 1) b
  have h4 : 0 ≤ (a + b - 1) / b := Int.ediv_nonneg (by omega) (by omega)
  have h5 : (a + b - 1) / b ≤ a := by
    by_cases h0 : a = 0
    · subst h0
      rw [show (0 : Int) + b - 1 = b - 1 by omega, Int.ediv_eq_zero_of_lt (by omega) (by omega)]
      exact Int.le_refl 0
    · have h6 : (a + b - 1) / b ≤ (a * b) / b := Int.ediv_le_ediv (by omega) (by
        obtain ⟨k, rfl⟩ : ∃ k, a = k + 1 := ⟨a - 1, by omega⟩
        have : 0 ≤ k * (b - 1) := Int.mul_nonneg (by omega) (by omega)
        have e : (k + 1) * b = k * (b - 1) + k + b := by rw [Int.add_mul, Int.mul_sub]; omega
        omega)
      rw [Int.mul_ediv_cancel _ (by omega)] at h6
      exact h6
  generalize (a + b - 1) / b = q at *
  rw [Int.mul_comm] at h3
  refine ⟨by omega, by omega, h4, h5⟩
/-- the turn behind a count -/
def nextC (c : Cf) (n : Int) : Int := ceilC (max (n + 1) c.c3) c.c4 * c.c4
def cnt (n : Int) : Prop := 0 ≤ n ∧ n ≤ 1099511627776
instance (n : Int) : Decidable (cnt n) := by unfold cnt; infer_instance
theorem next_bd {c : Cf} (h : confOk c) {n : Int} (hn : cnt n) : n < nextC c n ∧ nextC c n ≤ n + 64 + 256 ∧ c.c3 ≤ nextC c n := by
  unfold cnt at hn
  unfold confOk at h
  have hm : 0 ≤ max (n + 1) c.c3 := by omega
  have hb := ceil_bd hm (show 1 ≤ c.c4 by omega)
  unfold nextC
  generalize ceilC (max (n + 1) c.c3) c.c4 * c.c4 = q at *
  omega
/-- how many turns there are up to a count -/
def upC (c : Cf) (n : Int) : Int := if n < nextC c 0 then 0 else (n - nextC c 0) / c.c4 + 1
theorem up_bd {c : Cf} (h : confOk c) {n : Int} (hn : cnt n) : 0 ≤ upC c n ∧ upC c n ≤ n := by
  have h0 := next_bd h (n := 0) (by decide)
  unfold cnt at hn
  unfold confOk at h
  unfold upC
  split
  · omega
  · have h1 : 0 ≤ (n - nextC c 0) / c.c4 := Int.ediv_nonneg (by omega) (by omega)
    have h2 : (n - nextC c 0) / c.c4 ≤ n - nextC c 0 := by
      have := Int.ediv_le_self (a := n - nextC c 0) c.c4 (by omega)
      exact this
    omega
end Go.Proofs.YtcaeihfgdlffkaaGreatRRRRDoor.CfM

/- sched.Right: is a way to work right? (lines of SchW). The turns: sched.next, right, Next, Turns; num.Ceil. -/
namespace Go.Proofs.YtcaeihfgdlffkaaGreatRRRRDoor.SchX
set_option linter.unusedVariables false
set_option linter.unusedSimpArgs false
open Go.RowKit Base SeqM CfM

theorem take_next' {α : Type} {l : List α} {k : Nat} {x : α} (h : l[k]? = some x) : l.take (k + 1) = l.take k ++ [x] := SeqM.take_next h
abbrev Row3 := Int × Int × Int
def okRow (r : Row3) : Prop := r.2.1 ≤ r.1 ∧ r.1 ≤ r.2.2
def rowV (r : Row3) : Value := .agg #[.int .i64 r.1, .int .i64 r.2.1, .int .i64 r.2.2]
def SRel (rows : List Row3) (w : World) (i : Value) (wr : World) : Prop := ∃ k : Nat, k ≤ 11 ∧ i = .int .i64 k ∧ (∀ r ∈ rows.take k, okRow r) ∧ Below w.heap.size w wr
theorem rows_conf (c : Cf) (mn mx : Int) (hmn : (if c.c1 < 64 then c.c1 else 64) = mn) (hmx : (if c.c7 < 1 then 1 else c.c7) = mx) :
    (∀ r ∈ [(c.c0, 1, 8), (c.c1, 2, 256), (c.c2, 1, 16), (c.c3, 2, mn), (c.c4, 1, 256), (c.c5, 1, 2), (c.c7, 2, 1000), (c.c6, 1, mx - 1), (c.c8, 1, 64), (c.c9, 1, 64), (c.c10, 1, 256)], okRow r) ↔ confOk c := by
  simp only [List.forall_mem_cons, List.not_mem_nil, false_imp_iff, implies_true, and_true, okRow, confOk]
  split at hmn <;> split at hmx <;> omega
theorem alloc2_new (w : World) (o o' : Obj) : ((w.alloc o).alloc o').heap[w.heap.size + 1]? = some o' := by
  have := heap_alloc_new (w.alloc o) o'
  simpa using this
theorem all_one (l : List Value) (h : l.all (·.oneCell') = true) : l.toArray.all (·.oneCell') = true := by simpa using h
theorem idx_ok (c0 c1 c2 c3 c4 c5 c6 c7 c8 c9 c10 mn my : Int) : ∀ k : Nat, k < 11 → ∃ r, ([(c0, 1, 8), (c1, 2, 256), (c2, 1, 16), (c3, 2, mn), (c4, 1, 256), (c5, 1, 2), (c7, 2, 1000), (c6, 1, my), (c8, 1, 64), (c9, 1, 64), (c10, 1, 256)] : List Row3)[k]? = some r ∧ ∀ W, (Instr.index 121 (Value.agg #[.int .i64 c0, .int .i64 1, .int .i64 8, .int .i64 c1, .int .i64 2, .int .i64 256, .int .i64 c2, .int .i64 1, .int .i64 16, .int .i64 c3, .int .i64 2, .int .i64 mn, .int .i64 c4, .int .i64 1, .int .i64 256, .int .i64 c5, .int .i64 1, .int .i64 2, .int .i64 c7, .int .i64 2, .int .i64 1000, .int .i64 c6, .int .i64 1, .int .i64 my, .int .i64 c8, .int .i64 1, .int .i64 64, .int .i64 c9, .int .i64 1, .int .i64 64, .int .i64 c10, .int .i64 1, .int .i64 256]) (.int .i64 (k : Int))).run Tryz.prog W = .ok (rowV r) W := by
  intro k hk
  match k, hk with
  | 0, _ => exact ⟨_, rfl, fun W => by as_aux_lemma => kernel_rfl⟩
  | 1, _ => exact ⟨_, rfl, fun W => by as_aux_lemma => kernel_rfl⟩
  | 2, _ => exact ⟨_, rfl, fun W => by as_aux_lemma => kernel_rfl⟩
  | 3, _ => exact ⟨_, rfl, fun W => by as_aux_lemma => kernel_rfl⟩
  | 4, _ => exact ⟨_, rfl, fun W => by as_aux_lemma => kernel_rfl⟩
  | 5, _ => exact ⟨_, rfl, fun W => by as_aux_lemma => kernel_rfl⟩
  | 6, _ => exact ⟨_, rfl, fun W => by as_aux_lemma => kernel_rfl⟩
  | 7, _ => exact ⟨_, rfl, fun W => by as_aux_lemma => kernel_rfl⟩
  | 8, _ => exact ⟨_, rfl, fun W => by as_aux_lemma => kernel_rfl⟩
  | 9, _ => exact ⟨_, rfl, fun W => by as_aux_lemma => kernel_rfl⟩
  | 10, _ => exact ⟨_, rfl, fun W => by as_aux_lemma => kernel_rfl⟩
set_option maxHeartbeats 8000000 in
set_option maxRecDepth 100000 in
theorem SRight_any (c : Cf) (hb7 : c.c7 ≤ 9223372036854775807) (w : World) :
    Calls Tryz.prog 37 #[.agg (CfM.cfC c).toArray] w fun e w' => e = .returned (.bool (confB c)) ∧ Below w.heap.size w w' := by
  obtain ⟨mn, hmn⟩ : ∃ mn, (if c.c1 < 64 then c.c1 else 64) = mn := ⟨_, rfl⟩
  obtain ⟨mx, hmx⟩ : ∃ mx, (if c.c7 < 1 then 1 else c.c7) = mx := ⟨_, rfl⟩
  have HRW := Lib.hid (rows_conf c mn mx hmn hmx)
  have hm1 : 1 ≤ mx := by split at hmx <;> omega
  have hm2 : mx ≤ 9223372036854775807 := by split at hmx <;> omega
  obtain ⟨c0, c1, c2, c3, c4, c5, c6, c7, c8, c9, c10⟩ := c
  unfold CfM.cfC
  dsimp only at HRW hmn hmx hb7 ⊢
  go_enter Tryz.func37, Tryz.ntmps37
  go_wp2_with (first
    | (refine (id ?_ : wpList _ _ _ (⟨none, .store _ _ _, _, _, _, _⟩ :: _) _ _)
       refine wpList_store_row rfl 121 (.tmp 3) (.tmp 49) rfl (w.heap.size + 1) _ (by rfl) (by rfl) 121 _ (alloc2_new w _ _) (by kernel_rfl) (by rfl) (all_one _ (by rfl)) ?_
       generalize hW2 : World.setRow _ _ _ = W2
       have hg : W2.heap[w.heap.size + 1]? = some (.cells #[.int .i64 c0, .int .i64 1, .int .i64 8, .int .i64 c1, .int .i64 2, .int .i64 256, .int .i64 c2, .int .i64 1, .int .i64 16, .int .i64 c3, .int .i64 2, .int .i64 mn, .int .i64 c4, .int .i64 1, .int .i64 256, .int .i64 c5, .int .i64 1, .int .i64 2, .int .i64 c7, .int .i64 2, .int .i64 1000, .int .i64 c6, .int .i64 1, .int .i64 (mx - 1), .int .i64 c8, .int .i64 1, .int .i64 64, .int .i64 c9, .int .i64 1, .int .i64 64, .int .i64 c10, .int .i64 1, .int .i64 256] 121 (0, 0)) := by rw [← hW2]; exact setRow_heap _ _ _ _ _ _ (alloc2_new w _ _)
       have hb : Below w.heap.size w W2 := by rw [← hW2]; exact below_setRow (below_a2 w _ _) (Nat.le_succ _) _
       have HB2 := Lib.hid hb
       have HG2 := Lib.hid hg
       clear hb hg hW2)
    | (refine (id ?_ : wpList _ _ _ (⟨some 50, .load _ _, _, _, _, _⟩ :: _) _ _)
       refine wpList_load_row rfl 121 (.tmp 3) rfl (w.heap.size + 1) (by rfl) _ _ _ (.array 11 120) HG2.out (by kernel_rfl) rfl (by kernel_rfl) ?_))
  obtain ⟨rows, hrows⟩ : ∃ rows : List Row3, [(c0, 1, 8), (c1, 2, 256), (c2, 1, 16), (c3, 2, mn), (c4, 1, 256), (c5, 1, 2), (c7, 2, 1000), (c6, 1, mx - 1), (c8, 1, 64), (c9, 1, 64), (c10, 1, 256)] = rows := ⟨_, rfl⟩
  obtain ⟨rv, hrv⟩ : ∃ rv : Value, Value.agg #[.int .i64 c0, .int .i64 1, .int .i64 8, .int .i64 c1, .int .i64 2, .int .i64 256, .int .i64 c2, .int .i64 1, .int .i64 16, .int .i64 c3, .int .i64 2, .int .i64 mn, .int .i64 c4, .int .i64 1, .int .i64 256, .int .i64 c5, .int .i64 1, .int .i64 2, .int .i64 c7, .int .i64 2, .int .i64 1000, .int .i64 c6, .int .i64 1, .int .i64 (mx - 1), .int .i64 c8, .int .i64 1, .int .i64 64, .int .i64 c9, .int .i64 1, .int .i64 64, .int .i64 c10, .int .i64 1, .int .i64 256] = rv := ⟨_, rfl⟩
  have HIDX := Lib.hid (idx_ok c0 c1 c2 c3 c4 c5 c6 c7 c8 c9 c10 mn (mx - 1))
  rw [hrows, hrv] at HIDX
  rw [hrows] at HRW
  have HL := Lib.hid (show rows.length = 11 by rw [← hrows]; rfl)
  rw [hrv]
  have H0 := Lib.hid (show SRel rows w (.int .i64 0) W2 from ⟨0, by omega, rfl, by simp, HB2.out⟩)
  clear hrv hrows hmn hmx hm1 hm2 hb7
  go_loopw [51] (fun i wr => SRel rows w i wr) (fun i _ => 11 - (intOf i).toNat)
  case atStart => exact H0.out
  case round =>
    obtain ⟨k, hk, rfl, hr, hb⟩ := hrel
    have HR := Lib.hid hr
    have HB := Lib.hid hb
    clear hr hb H0
    by_cases hlt : k < 11
    · obtain ⟨⟨n, lo, hi⟩, hx, hix⟩ := HIDX.out k hlt
      unfold rowV at hix
      dsimp only at hix
      have HX := Lib.hid hx
      clear hx
      have HNO := Lib.hid (fun (hn : ¬ okRow (n, lo, hi)) => conf_no (c := ⟨c0, c1, c2, c3, c4, c5, c6, c7, c8, c9, c10⟩) (fun h => hn (HRW.out.2 h _ (List.mem_of_getElem? HX.out))))
      have HBX := Lib.hid (HB.out.trans ((below_a1 wr (.cells #[.int .i64 n, .int .i64 lo, .int .i64 hi] 120)).mono HB.out.size))
      by_cases h1 : n < lo
      · have F := Lib.hid (HNO.out (fun h => by unfold okRow at h; dsimp only at h; omega))
        have hd : decide (n < lo) = true := decide_eq_true h1
        clear h1
        go_wp2
        go_quiet (fail)
        go_wp2
        go_ret
        exact ⟨by rw [F.out]; rfl, below_drewN HBX.out _⟩
      · have hd : decide (n < lo) = false := decide_eq_false h1
        by_cases h2 : hi < n
        · have F := Lib.hid (HNO.out (fun h => by unfold okRow at h; dsimp only at h; omega))
          have hd2 : decide (hi < n) = true := decide_eq_true h2
          clear h1 h2
          go_wp2
          go_quiet (fail)
          go_wp2
          go_ret
          exact ⟨by rw [F.out]; rfl, below_drewN HBX.out _⟩
        · have hd2 : decide (hi < n) = false := decide_eq_false h2
          have HT := Lib.hid (show ∀ r ∈ rows.take (k + 1), okRow r by
            rw [take_next' HX.out]
            intro r hr
            rcases List.mem_append.1 hr with hr | hr
            · exact HR.out r hr
            · rw [List.mem_singleton.1 hr]; unfold okRow; dsimp only; omega)
          clear h1 h2
          go_wp2
          go_quiet (fail)
          go_wp2
          exact ⟨⟨k + 1, by omega, by go_num, HT.out, below_drewN HBX.out _⟩, by simp [intOf]; omega⟩
    · have F := Lib.hid (conf_yes (c := ⟨c0, c1, c2, c3, c4, c5, c6, c7, c8, c9, c10⟩) (HRW.out.1 (by
        have := HR.out
        rw [List.take_of_length_le (by rw [HL.out]; omega)] at this
        exact this)))
      go_wp2
      go_ret
      exact ⟨by rw [F.out]; rfl, HB.out⟩

theorem Ceil_any (a b : Int) (w : World) (hb : 1 ≤ b) (hb1 : b ≤ 4611686018427387904) (ha : 0 ≤ a ∧ a ≤ 4611686018427387904) :
    Calls Tryz.prog 109 #[.int .i64 a, .int .i64 b] w fun e w' => e = .returned (.tuple #[.int .i64 (ceilC a b), .int .i64 0]) ∧ w = w' := by
  have hc := ceil_code (a := a) hb
  have h1 := Int.ediv_le_self (a := a) b ha.1
  have h2 : 0 ≤ a / b := Int.ediv_nonneg ha.1 (by omega)
  have e1 : a.tdiv b = a / b := Int.tdiv_eq_ediv_of_nonneg ha.1
  have e2 : a.tmod b = a % b := Int.tmod_eq_emod_of_nonneg ha.1
  have hb0 : (b == 0) = false := by simpa using (by omega : b ≠ 0)
  have hbm : (b == -1) = false := by simpa using (by omega : b ≠ -1)
  have hlt : decide (b < 1) = false := decide_eq_false (by omega)
  generalize a / b = q at *
  generalize a % b = r at *
  by_cases hr : 0 < r
  · rw [if_pos hr] at hc
    rw [hc]
    go_enter Tryz.func109, Tryz.ntmps109
    go_wp2
    go_ret2
    exact ⟨rfl, rfl⟩
  · rw [if_neg hr, Int.add_zero] at hc
    rw [hc]
    go_enter Tryz.func109, Tryz.ntmps109
    go_wp2
    go_ret2
    exact ⟨rfl, rfl⟩
end Go.Proofs.YtcaeihfgdlffkaaGreatRRRRDoor.SchX
