/- Slices of records, whatever the record; rows that grow; appends (plain list and drawing region). No program is in sight but by its element types. -/
import Derived.Test.YtodiipkedhfncaaGreatDoorBase
import Derived.Deep.AppendLies
namespace Go.Proofs.YtodiipkedhfncaaGreatDoor.SeqM
set_option linter.unusedVariables false
open Go.RowKit Go.WideElems Base

section
variable {α : Type} {k : Nat} {f : α → List Value} {w w' : World} {lo lo' B B' : Nat} {v : Value} {l : List α}
/-- the slice value reads as the list l, k cells an element, in a block from lo on, below B -/
def Seq (k : Nat) (f : α → List Value) (w : World) (lo B : Nat) (v : Value) (l : List α) : Prop :=
  ∃ A cap, v = .slice A l.length cap ∧ l.length ≤ cap ∧ cap ≤ maxLen ∧ Rd w lo B k A l.length (l.flatMap f) ∧ (A = none → cap = 0)
theorem Seq.below (h : Seq k f w lo B v l) (hb : Below B w w') : Seq k f w' lo B v l := by
  obtain ⟨A, cap, e, h1, h2, h3, h4⟩ := h
  exact ⟨A, cap, e, h1, h2, h3.below hb, h4⟩
theorem Seq.more (h : Seq k f w lo B v l) (hl : lo' ≤ lo) (hB : B ≤ B') : Seq k f w lo' B' v l := by
  obtain ⟨A, cap, e, h1, h2, h3, h4⟩ := h
  exact ⟨A, cap, e, h1, h2, h3.more hl hB, h4⟩
theorem Seq.up (h : Seq k f w lo w.heap.size v l) (hb : Below w.heap.size w w') : Seq k f w' lo w'.heap.size v l := (h.below hb).more (Nat.le_refl _) hb.size
theorem Seq.drewN (h : Seq k f w lo B v l) (q : Nat) : Seq k f (w.drewN q) lo B v l := h
theorem Seq.of_own {base : Nat} {e : TypeId} (h : w.ownsRow base e k v l.length (l.flatMap f)) : Seq k f w base w.heap.size v l := by
  rcases h.2 with ⟨hv, h0⟩ | ⟨g, cap, cur, hv, hb, hg, hc, hm, _⟩
  · have : l = [] := List.eq_nil_of_length_eq_zero h0
    subst this
    exact ⟨none, 0, hv, Nat.le_refl _, by unfold maxLen; omega, Rd.nil_, fun _ => rfl⟩
  · subst hv
    exact ⟨some ⟨g, 0, none⟩, cap, rfl, hc, hm, Rd.of_own h, fun hh => by cases hh⟩
theorem Seq.nil_ : Seq k f w lo B (.slice none 0 0) ([] : List α) := ⟨none, 0, rfl, Nat.le_refl _, by unfold maxLen; omega, Rd.nil_, fun _ => rfl⟩
theorem flat_at (hk : ∀ x, (f x).length = k) : ∀ (l : List α) (i : Nat) (x : α) (j : Nat) (u : Value), l[i]? = some x → (f x)[j]? = some u → (l.flatMap f)[i * k + j]? = some u
  | [], i, x, j, u, h, _ => by simp at h
  | y :: r, 0, x, j, u, h, hj => by
    obtain rfl : y = x := by simpa using h
    rw [List.flatMap_cons, Nat.zero_mul, Nat.zero_add, List.getElem?_append_left (List.getElem?_eq_some_iff.1 hj).1]
    exact hj
  | y :: r, i + 1, x, j, u, h, hj => by
    rw [List.flatMap_cons, List.getElem?_append_right (by rw [hk y, Nat.succ_mul]; omega), hk y, show (i + 1) * k + j - k = i * k + j by rw [Nat.succ_mul]; omega]
    exact flat_at hk r i x j u (by simpa using h) hj
theorem flat_len (hk : ∀ x, (f x).length = k) : ∀ l : List α, (l.flatMap f).length = l.length * k
  | [] => by simp
  | x :: r => by rw [List.flatMap_cons, List.length_append, hk, flat_len hk r, List.length_cons, Nat.succ_mul]; omega
theorem flat_get (hk : ∀ x, (f x).length = k) (h0 : 0 < k) : ∀ (l : List α) (j : Nat) (u : Value), (l.flatMap f)[j]? = some u → ∃ x, l[j / k]? = some x ∧ (f x)[j % k]? = some u
  | [], j, u, h => by simp at h
  | y :: r, j, u, h => by
    rw [List.flatMap_cons] at h
    by_cases hj : j < k
    · rw [List.getElem?_append_left (by rw [hk]; exact hj)] at h
      exact ⟨y, by rw [Nat.div_eq_of_lt hj]; rfl, by rw [Nat.mod_eq_of_lt hj]; exact h⟩
    · rw [List.getElem?_append_right (by rw [hk]; omega), hk] at h
      obtain ⟨x, hx, hu⟩ := flat_get hk h0 r (j - k) u h
      have e1 : j / k = (j - k) / k + 1 := by
        have : j = (j - k) + k := by omega
        rw [this, Nat.add_div_right _ h0]; simp
      have e2 : j % k = (j - k) % k := by
        have : j = (j - k) + k := by omega
        rw [this, Nat.add_mod_right]; simp
      exact ⟨x, by rw [e1]; simpa using hx, by rw [e2]; exact hu⟩
theorem rdk (hk : ∀ x, (f x).length = k) {A : Option Addr} (h : Rd w lo B k A l.length (l.flatMap f)) {i : Nat} (hi : i < l.length) :
    ∃ (ad : Addr) (x : α), A = some ad ∧ lo ≤ ad.block ∧ ad.block < B ∧ l[i]? = some x ∧ ∀ j u, (f x)[j]? = some u → w.cell? (ad.add (i * k + j)) = some u := by
  obtain ⟨ad, e, hl, hb, hc⟩ := h.2 (by omega)
  have hx : l[i]? = some l[i] := List.getElem?_eq_getElem hi
  exact ⟨ad, l[i], e, hl, hb, hx, fun j u hu => hc _ _ (flat_at hk l i _ j u hx hu)⟩
end
theorem add_off (a : Addr) (i j : Nat) (h : j ≠ 0) : (⟨(a.add i).block, (a.add i).off + j, none⟩ : Addr) = a.add (i + j) := by
  unfold Addr.add
  by_cases hi : i = 0
  · subst hi; simp [h]
  · simp [hi, Nat.add_assoc]
theorem take_next {α : Type} {l : List α} {k : Nat} {x : α} (h : l[k]? = some x) : l.take (k + 1) = l.take k ++ [x] := by
  rw [List.take_add_one, h]; rfl
theorem get_app {α : Type} {l : List α} {i : Nat} {x : α} (h : l[i]? = some x) (r : List α) : (l ++ r)[i]? = some x := by
  rw [List.getElem?_append_left (List.getElem?_eq_some_iff.1 h).1]; exact h
def inC (x : Int) : List Value := [.int .i64 x]
theorem inC_len (x : Int) : (inC x).length = 1 := rfl
theorem one_int (l : List Int) : ∀ u ∈ l.flatMap inC, u.oneCell' = true := by
  intro u hu
  obtain ⟨x, _, hx⟩ := List.mem_flatMap.1 hu
  obtain rfl := List.mem_singleton.1 hx
  rfl
/-- a place of a row of numbers -/
theorem rdI {w : World} {lo B : Nat} {A : Option Addr} {l : List Int} (h : Rd w lo B 1 A l.length (l.flatMap inC)) {i : Nat} (hi : i < l.length) :
    ∃ (ad : Addr) (x : Int), A = some ad ∧ lo ≤ ad.block ∧ ad.block < B ∧ l[i]? = some x ∧ w.cell? (ad.add i) = some (.int .i64 x) := by
  obtain ⟨ad, x, e, h1, h2, hx, hc⟩ := rdk inC_len h hi
  exact ⟨ad, x, e, h1, h2, hx, by simpa using hc 0 _ rfl⟩
theorem keepA {W w1 : World} (hb : Below W.heap.size W w1) {a : Addr} {v : Value} (h : W.cell? a = some v) : w1.cell? a = some v :=
  (hb.cell (World.block_lt_of_cell? W _ h)).trans h
theorem below_a1 (w : World) (a : Obj) : Below w.heap.size w (w.alloc a) := (Below.refl _ _).alloc (Nat.le_refl _) a
theorem below_a2 (w : World) (a b : Obj) : Below w.heap.size w ((w.alloc a).alloc b) := (below_a1 w a).alloc (by simp) b
theorem bt {w W W' : World} (h : Below W.heap.size W W') (h0 : Below w.heap.size w W) : Below w.heap.size w W' := h0.trans (h.mono h0.size)

/-! ### Rows -/
def Typ (w : World) (b : Nat) (t : TypeId) : Prop := ∃ cs fz, w.heap[b]? = some (.cells cs t fz)
theorem Typ.eq {w : World} {b : Nat} {t u : TypeId} (h : Typ w b t) (h' : Typ w b u) : t = u := by
  obtain ⟨_, _, e⟩ := h
  obtain ⟨_, _, e'⟩ := h'
  rw [e] at e'
  injection e' with e'
  injection e'
theorem own_typ {w : World} {base : Nat} {e : TypeId} {size n : Nat} {v : Value} {xs : List Value} (h : w.ownsRow base e size v n xs) : ∀ g, v.ownBlock = some g → Typ w g e ∧ base ≤ g ∧ g < w.heap.size := by
  intro g hg
  rcases h.2 with ⟨hv, _⟩ | ⟨g', cap, cur, hv, hb, hc, hr⟩
  · subst hv; simp [Value.ownBlock] at hg
  · subst hv
    obtain rfl : g' = g := by simpa [Value.ownBlock] using hg
    refine ⟨⟨_, _, hc⟩, hb, ?_⟩
    rcases Nat.lt_or_ge g' w.heap.size with h' | h'
    · exact h'
    · rw [Array.getElem?_eq_none h'] at hc; cases hc
theorem own_keep {w w' : World} {base : Nat} {e : TypeId} {size n : Nat} {v : Value} {xs : List Value} (h : w.ownsRow base e size v n xs) (hk : ∀ k, k < w.heap.size → Typ w k e → w'.heap[k]? = w.heap[k]?) : w'.ownsRow base e size v n xs := by
  refine ⟨h.1, ?_⟩
  rcases h.2 with h0 | ⟨g, cap, cur, hv, hg, hc, hr⟩
  · exact .inl h0
  · refine .inr ⟨g, cap, cur, hv, hg, ?_, hr⟩
    rw [← hc]
    obtain ⟨h1, _, h2⟩ := own_typ h g (by rw [hv]; rfl)
    exact hk g h2 h1
theorem own_below {w w' : World} {base : Nat} {e : TypeId} {size n : Nat} {v : Value} {xs : List Value} (h : w.ownsRow base e size v n xs) (hb : Below w.heap.size w w') : w'.ownsRow base e size v n xs :=
  own_keep h fun k hk _ => hb.block k hk
theorem grown_keep {w w' : World} {base : Nat} {e e' : TypeId} {size n : Nat} {v : Value} {xs : List Value} (h : w.ownsRow base e size v n xs) (hg : w.grownBy w' v.ownBlock) (hne : e' ≠ e) {k : Nat} (hk : k < w.heap.size) (ht : Typ w k e') : w'.heap[k]? = w.heap[k]? :=
  hg.block k hk fun he => hne (ht.eq (own_typ h k he.symm).1)
theorem own_one (w : World) (cs : Array Value) (e : TypeId) (k : Nat) (hk : cs.size = k) : (w.alloc (.cells cs e)).ownsRow w.heap.size e k (.slice (some ⟨w.heap.size, 0, none⟩) 1 1) 1 cs.toList :=
  ⟨by simp [hk], .inr ⟨w.heap.size, 1, cs, rfl, Nat.le_refl _, heap_alloc_new w _, Nat.le_refl _, by unfold maxLen; omega, by omega, by rw [Nat.one_mul, ← hk]; exact List.take_of_length_le (by simp)⟩⟩
section
variable {P : Program}
/-- 's = append(s, x...)' in a region that draws its order, both rows of one's own, something is appended -/
theorem stepS {ops : Array Oper} {o : Oper} {a : Act} {K : Act → World → Prop} {Q : Exit → Act → World → Prop} {E' : Prop} {w : World} (hgd : o.guard = none) (s x : Operand) (t : TypeId)
    (ho : o.op = .call { callee := .builtin .append, args := #[s, x], argTypes := #[t, t] })
    {e : TypeId} {z : Value} {size bytes : Nat} (E : Elt P t e z size bytes) (base base2 : Nat) (v v2 : Value) (n m : Nat) (xs news : List Value) (hs : a.eval s = v)
    (hown : w.ownsRow base e size v n xs) (hx : a.eval x = v2) (hown2 : w.ownsRow base2 e size v2 m news) (h1 : ∀ u ∈ news, u.oneCell' = true) (hm : 0 < m)
    (hn : n + m ≤ 1073741824) (hbase : base ≤ w.heap.size)
    (h : ∀ v' w', w'.ownsRow base e size v' (n + m) (xs ++ news) → w.grownBy w' v.ownBlock → K (a.put o.dst v') w') :
    if Region.wanted o (yielded ops a.tmps) = true then Oper.wp P o a w K Q else E' := by
  obtain ⟨ht, h0, hby, i, hi, hz, hsz, hbs, hzs⟩ := E
  obtain ⟨g, cap, hv, hg, hlt⟩ := hown2.form hm
  have hr := (Rd.of_own (by rw [hv] at hown2; exact hown2)).2 hm
  obtain ⟨ad, e1, _, _, hc⟩ := hr
  obtain rfl := Option.some.inj e1
  refine step_append_lies _ hgd s x t ho base e i z size bytes ht hi hz hsz hbs hzs h0 v n xs hs hown _ m cap news (by rw [hx, hv]) hown2.1 hc h1 hm (by unfold maxLen; omega) ?_ hbase w.heap.size rfl ?_
  · have h2 : (n + m) * bytes ≤ 1073741824 * 131072 := Nat.mul_le_mul hn hby
    omega
  · intro g cp w' own hg hor hlt
    exact h _ _ own hg
/-- 's = append(s, x...)', both rows of one's own, something is appended -/
theorem listS {ops : Array Oper} {rest : List Oper} {o : Oper} {a : Act} {Q : Exit → Act → World → Prop} {w : World} (hgd : o.guard = none) (s x : Operand) (t : TypeId)
    (ho : o.op = .call { callee := .builtin .append, args := #[s, x], argTypes := #[t, t] })
    {e : TypeId} {z : Value} {size bytes : Nat} (E : Elt P t e z size bytes) (base base2 : Nat) (v v2 : Value) (n m : Nat) (xs news : List Value) (hs : a.eval s = v)
    (hown : w.ownsRow base e size v n xs) (hx : a.eval x = v2) (hown2 : w.ownsRow base2 e size v2 m news) (h1 : ∀ u ∈ news, u.oneCell' = true) (hm : 0 < m)
    (hn : n + m ≤ 1073741824) (hbase : base ≤ w.heap.size)
    (h : ∀ v' w', w'.ownsRow base e size v' (n + m) (xs ++ news) → w.grownBy w' v.ownBlock → wpList P ops Q rest (a.put o.dst v') w') :
    wpList P ops Q (o :: rest) a w := by
  obtain ⟨ht, h0, hby, i, hi, hz, hsz, hbs, hzs⟩ := E
  obtain ⟨g, cap, hv, hg, hlt⟩ := hown2.form hm
  have hr := (Rd.of_own (by rw [hv] at hown2; exact hown2)).2 hm
  obtain ⟨ad, e1, _, _, hc⟩ := hr
  obtain rfl := Option.some.inj e1
  refine wpList_append_lies _ hgd s x t ho base e i z size bytes ht hi hz hsz hbs hzs h0 v n xs hs hown _ m cap news (by rw [hx, hv]) hown2.1 hc h1 hm (by unfold maxLen; omega) ?_ hbase w.heap.size rfl ?_
  · have h2 : (n + m) * bytes ≤ 1073741824 * 131072 := Nat.mul_le_mul hn hby
    omega
  · intro g cp w' own hg hor hlt
    exact h _ _ own hg
end
/-- a block that came behind the row's is left alone as the row grows -/
theorem past {wr w4 w5 : World} {base : Nat} {e : TypeId} {size n : Nat} {v : Value} {xs : List Value} (h : wr.ownsRow base e size v n xs) (hg : w4.grownBy w5 v.ownBlock) {j : Nat} (h1 : wr.heap.size ≤ j) (h2 : j < w4.heap.size) (i : Nat) (u : Value)
    (hc : w4.cell? ⟨j, i, none⟩ = some u) : w5.cell? ⟨j, i, none⟩ = some u :=
  (World.cell?_of_block (a := ⟨j, i, none⟩) (hg.block j h2 fun he => by have := (own_typ h j he.symm).2.2; omega)).trans hc
end Go.Proofs.YtodiipkedhfncaaGreatDoor.SeqM
