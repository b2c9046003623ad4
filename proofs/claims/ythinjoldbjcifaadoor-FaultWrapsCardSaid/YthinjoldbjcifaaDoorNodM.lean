/- Slices of records; acts and nodes; a fault's tree by its nodes. small, low, at. -/
import Derived.Test.YthinjoldbjcifaaDoorFltS
import Derived.Test.YthinjoldbjcifaaDoorFltL
namespace Go.Proofs.YthinjoldbjcifaaDoor.NodM
set_option linter.unusedVariables false
open Go.RowKit Go.WideElems Base FltM FltW FltX FltI FltH FltC FltT FltS

section
variable {α : Type} {k : Nat} {f : α → List Value} {w w' : World} {lo lo' B B' : Nat} {v : Value} {l : List α}
/-- the slice value reads as the list l, k cells an element, in a block from lo on, below B -/
def Seq (k : Nat) (f : α → List Value) (w : World) (lo B : Nat) (v : Value) (l : List α) : Prop :=
  ∃ A cap, v = .slice A l.length cap ∧ l.length ≤ cap ∧ cap ≤ maxLen ∧ Rd w lo B k A l.length (l.flatMap f) ∧ (A = none → cap = 0)
theorem Seq.below (h : Seq k f w lo B v l) (hb : Below B w w') : Seq k f w' lo B v l := by
  obtain ⟨A, cap, e, h1, h2, h3, h4⟩ := h
  exact ⟨A, cap, e, h1, h2, h3.below hb, h4⟩
theorem Seq.more (h : Seq k f w lo B v l) (hl : lo' ≤ lo) (hB : B ≤ B') : Seq k f w lo' B' v l := by
  obtain ⟨A, cap, e, h1, h2, h3, h4⟩ := h
  exact ⟨A, cap, e, h1, h2, h3.more hl hB, h4⟩
theorem Seq.up (h : Seq k f w lo w.heap.size v l) (hb : Below w.heap.size w w') : Seq k f w' lo w'.heap.size v l := (h.below hb).more (Nat.le_refl _) hb.size
theorem Seq.of_own {base : Nat} {e : TypeId} (h : w.ownsRow base e k v l.length (l.flatMap f)) : Seq k f w base w.heap.size v l := by
  rcases h.2 with ⟨hv, h0⟩ | ⟨g, cap, cur, hv, hb, hg, hc, hm, _⟩
  · have : l = [] := List.eq_nil_of_length_eq_zero h0
    subst this
    exact ⟨none, 0, hv, Nat.le_refl _, by unfold maxLen; omega, Rd.nil_, fun _ => rfl⟩
  · subst hv
    exact ⟨some ⟨g, 0, none⟩, cap, rfl, hc, hm, Rd.of_own h, fun hh => by cases hh⟩
theorem Seq.nil_ : Seq k f w lo B (.slice none 0 0) ([] : List α) := ⟨none, 0, rfl, Nat.le_refl _, by unfold maxLen; omega, Rd.nil_, fun _ => rfl⟩
theorem flat_at (hk : ∀ x, (f x).length = k) : ∀ (l : List α) (i : Nat) (x : α) (j : Nat) (u : Value), l[i]? = some x → (f x)[j]? = some u → (l.flatMap f)[i * k + j]? = some u
  | [], i, x, j, u, h, _ => by simp at h
  | y :: r, 0, x, j, u, h, hj => by
    obtain rfl : y = x := by simpa using h
    rw [List.flatMap_cons, Nat.zero_mul, Nat.zero_add, List.getElem?_append_left (List.getElem?_eq_some_iff.1 hj).1]
    exact hj
  | y :: r, i + 1, x, j, u, h, hj => by
    rw [List.flatMap_cons, List.getElem?_append_right (by rw [hk y, Nat.succ_mul]; omega), hk y, show (i + 1) * k + j - k = i * k + j by rw [Nat.succ_mul]; omega]
    exact flat_at hk r i x j u (by simpa using h) hj
theorem flat_app (a b : List α) : (a ++ b).flatMap f = a.flatMap f ++ b.flatMap f := List.flatMap_append
theorem rdk (hk : ∀ x, (f x).length = k) {A : Option Addr} (h : Rd w lo B k A l.length (l.flatMap f)) {i : Nat} (hi : i < l.length) :
    ∃ (ad : Addr) (x : α), A = some ad ∧ lo ≤ ad.block ∧ ad.block < B ∧ l[i]? = some x ∧ ∀ j u, (f x)[j]? = some u → w.cell? (ad.add (i * k + j)) = some u := by
  obtain ⟨ad, e, hl, hb, hc⟩ := h.2 (by omega)
  have hx : l[i]? = some l[i] := List.getElem?_eq_getElem hi
  exact ⟨ad, l[i], e, hl, hb, hx, fun j u hu => hc _ _ (flat_at hk l i _ j u hx hu)⟩
end
theorem add_off (a : Addr) (i j : Nat) (h : j ≠ 0) : (⟨(a.add i).block, (a.add i).off + j, none⟩ : Addr) = a.add (i + j) := by
  unfold Addr.add
  by_cases hi : i = 0
  · subst hi; simp [h]
  · simp [hi, Nat.add_assoc]
theorem take_next {α : Type} {l : List α} {k : Nat} {x : α} (h : l[k]? = some x) : l.take (k + 1) = l.take k ++ [x] := by
  rw [List.take_add_one, h]; rfl

/-- an act; a node -/
structure Nd where
  do_ : Int
  op : List UInt8
  at_ : Int
  code : Int
  a : Int
  b : Int
def ndC (x : Nd) : List Value := [.int .i64 x.do_, .string ⟨x.op.toArray⟩, .int .i64 x.at_, .int .i64 x.code, .int .i64 x.a, .int .i64 x.b]
theorem ndC_len (x : Nd) : (ndC x).length = 6 := rfl
def inC (x : Int) : List Value := [.int .i64 x]
theorem inC_len (x : Int) : (inC x).length = 1 := rfl
/-- a fault that has been made: its block, its tree -/
def ptC (x : Nat × T) : List Value := [.pointer (some ⟨x.1, 0, none⟩)]
theorem ptC_len (x : Nat × T) : (ptC x).length = 1 := rfl
theorem rd6 {w : World} {lo B : Nat} {A : Option Addr} {l : List Nd} (h : Rd w lo B 6 A l.length (l.flatMap ndC)) {i : Nat} (hi : i < l.length) :
    ∃ (ad : Addr) (x : Nd), A = some ad ∧ lo ≤ ad.block ∧ ad.block < B ∧ l[i]? = some x ∧ w.cell? (ad.add (i * 6)) = some (.int .i64 x.do_) ∧ w.cell? ⟨(ad.add (i * 6)).block, (ad.add (i * 6)).off + 1, none⟩ = some (.string ⟨x.op.toArray⟩) ∧
      w.cell? ⟨(ad.add (i * 6)).block, (ad.add (i * 6)).off + 2, none⟩ = some (.int .i64 x.at_) ∧ w.cell? ⟨(ad.add (i * 6)).block, (ad.add (i * 6)).off + 3, none⟩ = some (.int .i64 x.code) ∧
      w.cell? ⟨(ad.add (i * 6)).block, (ad.add (i * 6)).off + 4, none⟩ = some (.int .i64 x.a) ∧ w.cell? ⟨(ad.add (i * 6)).block, (ad.add (i * 6)).off + 5, none⟩ = some (.int .i64 x.b) := by
  obtain ⟨ad, x, e, hl, hb, hx, hc⟩ := rdk ndC_len h hi
  refine ⟨ad, x, e, hl, hb, hx, hc 0 _ rfl, ?_, ?_, ?_, ?_, ?_⟩ <;> rw [add_off _ _ _ (by decide)]
  · exact hc 1 _ rfl
  · exact hc 2 _ rfl
  · exact hc 3 _ rfl
  · exact hc 4 _ rfl
  · exact hc 5 _ rfl

/-- node i stands for the tree -/
def Rep (l : List Nd) : Nat → T → Prop
  | i, .leaf op at_ c => ∃ a b, l[i]? = some ⟨0, op, at_, c, a, b⟩
  | i, .wrap op at_ u => ∃ (c : Int) (j : Nat) (b : Int), l[i]? = some ⟨1, op, at_, c, j, b⟩ ∧ Rep l j u
  | i, .both x y => ∃ (d : Int) (op : List UInt8) (at_ c : Int) (j k : Nat), d ≠ 0 ∧ d ≠ 1 ∧ l[i]? = some ⟨d, op, at_, c, j, k⟩ ∧ Rep l j x ∧ Rep l k y
theorem get_app {α : Type} {l : List α} {i : Nat} {x : α} (h : l[i]? = some x) (r : List α) : (l ++ r)[i]? = some x := by
  rw [List.getElem?_append_left (List.getElem?_eq_some_iff.1 h).1]; exact h
theorem Rep.app {l : List Nd} (r : List Nd) : ∀ {t : T} {i : Nat}, Rep l i t → Rep (l ++ r) i t
  | .leaf op at_ c, i, ⟨a, b, h⟩ => ⟨a, b, get_app h r⟩
  | .wrap op at_ u, i, ⟨c, j, b, h, hu⟩ => ⟨c, j, b, get_app h r, Rep.app r hu⟩
  | .both x y, i, ⟨d, op, at_, c, j, k, h0, h1, h, hx, hy⟩ => ⟨d, op, at_, c, j, k, h0, h1, get_app h r, Rep.app r hx, Rep.app r hy⟩
theorem Rep.lt {l : List Nd} : ∀ {t : T} {i : Nat}, Rep l i t → i < l.length
  | .leaf op at_ c, i, ⟨a, b, h⟩ => (List.getElem?_eq_some_iff.1 h).1
  | .wrap op at_ u, i, ⟨c, j, b, h, hu⟩ => (List.getElem?_eq_some_iff.1 h).1
  | .both x y, i, ⟨d, op, at_, c, j, k, h0, h1, h, hx, hy⟩ => (List.getElem?_eq_some_iff.1 h).1

/-! ### small, low, at -/
def smallB (l : List Nd) : Bool := l.all (fun x => decide (x.op.length ≤ 100)) && decide (l.length ≤ 12)
def intOf : Value → Int | .int _ n => n | _ => 0
def SmRel (l : List Nd) (w : World) (i : Value) (wr : World) : Prop := ∃ k : Nat, k ≤ l.length ∧ i = .int .i64 k ∧ (l.take k).all (fun x => decide (x.op.length ≤ 100)) = true ∧ w = wr
theorem small_no {l : List Nd} {k : Nat} {x : Nd} (h : l[k]? = some x) (hx : 100 < x.op.length) : smallB l = false := by
  unfold smallB
  rw [show l.all (fun x => decide (x.op.length ≤ 100)) = false from List.all_eq_false.2 ⟨x, List.mem_of_getElem? h, by simp; omega⟩]
  rfl
set_option maxHeartbeats 1000000 in
theorem small_any (v : Value) (l : List Nd) (lo B : Nat) (w : World) (h : Seq 6 ndC w lo B v l) :
    Calls Tryd.prog 7 #[v] w fun e w' => e = .returned (.bool (smallB l)) ∧ w = w' := by
  obtain ⟨A, cap, rfl, hc1, hc2, hr, _⟩ := h
  unfold maxLen at hc2
  have HR := Lib.hid hr
  have H0 := Lib.hid (show SmRel l w (.int .i64 0) w from ⟨0, Nat.zero_le _, rfl, rfl, rfl⟩)
  obtain ⟨n, hn⟩ : ∃ n, l.length = n := ⟨_, rfl⟩
  rw [hn] at hc1 ⊢
  have HN := Lib.hid hn
  clear hr hn
  go_enter Tryd.func7, Tryd.ntmps7
  go_wp2
  go_loopw [3] (fun i wr => SmRel l w i wr) (fun i _ => n - (intOf i).toNat)
  case atStart => exact H0.out
  case round =>
    obtain ⟨k, hk, rfl, ht, rfl⟩ := hrel
    rw [HN.out] at hk
    have HT := Lib.hid ht
    clear ht
    by_cases hlt : k < n
    · obtain ⟨ad, x, rfl, hlo, hb, hx, c0, c1, c2, c3, c4, c5⟩ := rd6 HR.out (i := k) (by rw [HN.out]; exact hlt)
      have HX := Lib.hid hx
      have hs := sz x.op
      obtain ⟨m, hm⟩ : ∃ m, x.op.length = m := ⟨_, rfl⟩
      rw [hm] at hs
      have HM := Lib.hid hm
      clear hx hm
      by_cases hbig : (100 : Int) < (m : Int)
      · have F := Lib.hid (show smallB l = false from small_no HX.out (by rw [HM.out]; omega))
        go_wp2
        go_ret
        exact ⟨ret_bool F.out.symm, rfl⟩
      · go_wp2
        exact ⟨⟨k + 1, by rw [HN.out]; omega, by go_num, by
          rw [take_next HX.out, List.all_append, HT.out, Bool.true_and]
          simp only [List.all_cons, List.all_nil, Bool.and_true, decide_eq_true_eq]
          rw [HM.out]; omega, rfl⟩, by simp [intOf]; omega⟩
    · have F := Lib.hid (show smallB l = decide (n ≤ 12) by
        have := HT.out
        rw [List.take_of_length_le (by rw [HN.out]; omega)] at this
        unfold smallB; rw [this, HN.out]; rfl)
      go_wp2
      go_ret
      refine ⟨?_, rfl⟩
      rw [F.out]
      refine ret_bool ?_
      by_cases h12 : n ≤ 12
      · rw [decide_eq_true h12, decide_eq_true (show (n : Int) ≤ 12 by omega)]
      · rw [decide_eq_false h12, decide_eq_false (show ¬ (n : Int) ≤ 12 by omega)]
def lowV (l : List Int) (i : Int) : Int := if i < 0 ∨ (l.length : Int) ≤ i then -1 else (l[i.toNat]?).getD (-1)
set_option maxHeartbeats 1000000 in
theorem low_any (v : Value) (l : List Int) (i : Int) (lo B : Nat) (w : World) (h : Seq 1 inC w lo B v l) :
    Calls Tryd.prog 26 #[v, .int .i64 i] w fun e w' => e = .returned (.int .i64 (lowV l i)) ∧ w = w' := by
  obtain ⟨A, cap, rfl, hc1, hc2, hr, _⟩ := h
  unfold maxLen at hc2
  by_cases hi : i < 0
  · have F := Lib.hid (show lowV l i = -1 by unfold lowV; rw [if_pos (.inl hi)])
    generalize l.length = n at *
    go_enter Tryd.func26, Tryd.ntmps26
    go_wp2
    go_ret
    exact ⟨ret_int F.out.symm, rfl⟩
  · by_cases hn : (l.length : Int) ≤ i
    · have F := Lib.hid (show lowV l i = -1 by unfold lowV; rw [if_pos (.inr hn)])
      generalize l.length = n at *
      go_enter Tryd.func26, Tryd.ntmps26
      go_wp2
      go_ret
      exact ⟨ret_int F.out.symm, rfl⟩
    · obtain ⟨k, rfl⟩ : ∃ k : Nat, i = k := ⟨i.toNat, by omega⟩
      have hk : k < l.length := by omega
      obtain ⟨ad, x, rfl, hlo, hb, hx, hc⟩ := rdk inC_len hr hk
      have c0 : w.cell? (ad.add k) = some (.int .i64 x) := by simpa using hc 0 _ rfl
      have F := Lib.hid (show lowV l k = x by unfold lowV; rw [if_neg (by omega), show ((k : Nat) : Int).toNat = k by omega, hx]; rfl)
      generalize l.length = n at *
      clear hx hc hr
      go_enter Tryd.func26, Tryd.ntmps26
      go_wp2
      go_ret
      exact ⟨ret_int F.out.symm, rfl⟩
def atO (l : List (Nat × T)) (i : Int) : Option (Nat × T) := if i < 0 ∨ (l.length : Int) ≤ i then none else l[i.toNat]?
def ptV (o : Option (Nat × T)) : Value := match o with | none => .pointer none | some x => .pointer (some ⟨x.1, 0, none⟩)
set_option maxHeartbeats 1000000 in
theorem at_any (v : Value) (l : List (Nat × T)) (i : Int) (lo B : Nat) (w : World) (h : Seq 1 ptC w lo B v l) :
    Calls Tryd.prog 27 #[v, .int .i64 i] w fun e w' => e = .returned (ptV (atO l i)) ∧ w = w' := by
  obtain ⟨A, cap, rfl, hc1, hc2, hr, _⟩ := h
  unfold maxLen at hc2
  by_cases hi : i < 0
  · have F := Lib.hid (show ptV (atO l i) = .pointer none by unfold atO; rw [if_pos (.inl hi)]; rfl)
    generalize l.length = n at *
    go_enter Tryd.func27, Tryd.ntmps27
    go_wp2
    go_ret
    exact ⟨by rw [F.out]; rfl, rfl⟩
  · by_cases hn : (l.length : Int) ≤ i
    · have F := Lib.hid (show ptV (atO l i) = .pointer none by unfold atO; rw [if_pos (.inr hn)]; rfl)
      generalize l.length = n at *
      go_enter Tryd.func27, Tryd.ntmps27
      go_wp2
      go_ret
      exact ⟨by rw [F.out]; rfl, rfl⟩
    · obtain ⟨k, rfl⟩ : ∃ k : Nat, i = k := ⟨i.toNat, by omega⟩
      have hk : k < l.length := by omega
      obtain ⟨ad, x, rfl, hlo, hb, hx, hc⟩ := rdk ptC_len hr hk
      have c0 : w.cell? (ad.add k) = some (.pointer (some ⟨x.1, 0, none⟩)) := by simpa using hc 0 _ rfl
      have F := Lib.hid (show ptV (atO l k) = .pointer (some ⟨x.1, 0, none⟩) by unfold atO; rw [if_neg (by omega), show ((k : Nat) : Int).toNat = k by omega, hx]; rfl)
      generalize l.length = n at *
      clear hx hc hr
      go_enter Tryd.func27, Tryd.ntmps27
      go_wp2
      go_ret
      exact ⟨by rw [F.out]; rfl, rfl⟩
end Go.Proofs.YthinjoldbjcifaaDoor.NodM
