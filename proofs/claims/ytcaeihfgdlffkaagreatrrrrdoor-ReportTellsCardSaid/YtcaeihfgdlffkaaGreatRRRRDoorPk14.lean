/- Trees by their nodes in preorder: the plain law. No program is in sight. -/
import Derived.Test.YtcaeihfgdlffkaaGreatRRRRDoorRows
import Derived.Test.YtcaeihfgdlffkaaGreatRRRRDoorPk00
import Derived.Deep.QuietTactic
import Derived.OwnWalk
namespace Go.Proofs.YtcaeihfgdlffkaaGreatRRRRDoor.ShpM
set_option linter.unusedVariables false

/-- a node, as it is told -/
structure Nd where
  coef : List Int
  at_ : Int
  left : Int
  right : Int
  size : Int
/-- a right tree -/
inductive B
  | leaf (n : Int)
  | fork (c : List Int) (a : Int) (l r : B)
def B.size : B → Int
  | .leaf n => n
  | .fork _ _ l r => l.size + r.size
def B.count : B → Nat
  | .leaf _ => 1
  | .fork _ _ l r => 1 + l.count + r.count
def B.high : B → Nat
  | .leaf _ => 0
  | .fork _ _ l r => 1 + max l.high r.high
/-- its nodes, the first one at a place -/
def B.nodes : B → Nat → List Nd
  | .leaf n, _ => [⟨[], 0, 0, 0, n⟩]
  | .fork c a l r, k => ⟨c, a, ((k + 1 : Nat) : Int), ((k + 1 + l.count : Nat) : Int), l.size + r.size⟩ :: (l.nodes (k + 1) ++ r.nodes (k + 1 + l.count))
theorem nodes_len : ∀ (b : B) (k : Nat), (b.nodes k).length = b.count
  | .leaf _, _ => rfl
  | .fork _ _ l r, k => by simp only [B.nodes, B.count, List.length_cons, List.length_append, nodes_len l, nodes_len r]; omega
theorem count_pos : ∀ b : B, 0 < b.count
  | .leaf _ => by simp [B.count]
  | .fork _ _ l r => by simp only [B.count]; omega
def partsOk (c : List Int) (dim : Int) : Prop := 1 ≤ dim ∧ dim ≤ 8 ∧ (c.length : Int) = dim ∧ (∀ x ∈ c, -4 ≤ x ∧ x ≤ 4) ∧ ∃ x ∈ c, x ≠ 0
def cutOk (c : List Int) (a dim : Int) : Prop := partsOk c dim ∧ -137438953472 ≤ a ∧ a ≤ 137438953472
def B.ok (dim : Int) : B → Prop
  | .leaf n => 1 ≤ n
  | .fork c a l r => cutOk c a dim ∧ l.ok dim ∧ r.ok dim
/-- from place i on the nodes are those of the tree -/
def At (l : List Nd) (i : Nat) (b : B) : Prop := ∃ rest, l.drop i = b.nodes i ++ rest
theorem at_leaf {l : List Nd} {i : Nat} {n : Int} : At l i (.leaf n) ↔ l[i]? = some ⟨[], 0, 0, 0, n⟩ := by
  unfold At
  constructor
  · rintro ⟨rest, h⟩
    have := List.getElem?_drop (xs := l) (i := i) (j := 0)
    rw [h] at this
    simpa [B.nodes] using this.symm
  · intro h
    have hi := (List.getElem?_eq_some_iff.1 h).1
    refine ⟨l.drop (i + 1), ?_⟩
    rw [List.drop_eq_getElem_cons hi]
    have : l[i] = ⟨[], 0, 0, 0, n⟩ := (List.getElem?_eq_some_iff.1 h).2
    rw [this]; rfl
theorem at_fork {l : List Nd} {i : Nat} {c : List Int} {a : Int} {x y : B} : At l i (.fork c a x y) ↔
    l[i]? = some ⟨c, a, ((i + 1 : Nat) : Int), ((i + 1 + x.count : Nat) : Int), x.size + y.size⟩ ∧ At l (i + 1) x ∧ At l (i + 1 + x.count) y := by
  unfold At
  constructor
  · rintro ⟨rest, h⟩
    have e : ∀ j, l[i + j]? = (B.nodes (.fork c a x y) i ++ rest)[j]? := fun j => by rw [← h, List.getElem?_drop]
    have e1 : l.drop (i + 1) = x.nodes (i + 1) ++ (y.nodes (i + 1 + x.count) ++ rest) := by
      have : l.drop (i + 1) = (l.drop i).drop 1 := by rw [List.drop_drop]
      rw [this, h]; simp [B.nodes]
    refine ⟨by simpa [B.nodes] using e 0, ⟨_, e1⟩, ⟨rest, ?_⟩⟩
    have : l.drop (i + 1 + x.count) = (l.drop (i + 1)).drop x.count := by rw [List.drop_drop]
    rw [this, e1, ← nodes_len x (i + 1), List.drop_left, nodes_len]
  · rintro ⟨h, ⟨r1, h1⟩, ⟨r2, h2⟩⟩
    have hi := (List.getElem?_eq_some_iff.1 h).1
    refine ⟨r2, ?_⟩
    have hr : r1 = y.nodes (i + 1 + x.count) ++ r2 := by
      have : l.drop (i + 1 + x.count) = (l.drop (i + 1)).drop x.count := by rw [List.drop_drop]
      rw [h1, ← nodes_len x (i + 1), List.drop_left, nodes_len] at this
      rw [← this, h2]
    rw [List.drop_eq_getElem_cons hi, h1, hr, (List.getElem?_eq_some_iff.1 h).2]
    simp [B.nodes]
theorem at_le : ∀ {b : B} {l : List Nd} {i : Nat}, At l i b → i + b.count ≤ l.length := by
  rintro b l i ⟨rest, h⟩
  have := congrArg List.length h
  rw [List.length_drop, List.length_append, nodes_len] at this
  have := count_pos b
  omega
theorem at_unique : ∀ {b b' : B} {l : List Nd} {i : Nat}, At l i b → At l i b' → b = b'
  | .leaf n, .leaf m, l, i, h, h' => by
    rw [at_leaf] at h h'
    rw [h] at h'
    injection h' with h'; injection h' with _ _ _ _ h5; rw [h5]
  | .leaf n, .fork c a x y, l, i, h, h' => by
    rw [at_leaf] at h; rw [at_fork] at h'
    rw [h] at h'
    have := h'.1
    injection this with this; injection this with _ _ h3 _ _; omega
  | .fork c a x y, .leaf n, l, i, h, h' => by
    rw [at_leaf] at h'; rw [at_fork] at h
    rw [h'] at h
    have := h.1
    injection this with this; injection this with _ _ h3 _ _; omega
  | .fork c a x y, .fork c' a' x' y', l, i, h, h' => by
    rw [at_fork] at h h'
    obtain ⟨h1, h2, h3⟩ := h
    obtain ⟨k1, k2, k3⟩ := h'
    obtain rfl := at_unique h2 k2
    obtain rfl := at_unique h3 k3
    rw [h1] at k1
    injection k1 with k1; injection k1 with e1 e2 _ _ _
    rw [e1, e2]
theorem at_full {b : B} {l : List Nd} (h : At l 0 b) (hc : b.count = l.length) : l = b.nodes 0 := by
  obtain ⟨rest, h⟩ := h
  rw [List.drop_zero] at h
  have : rest = [] := by
    have := congrArg List.length h
    rw [List.length_append, nodes_len] at this
    exact List.eq_nil_of_length_eq_zero (by omega)
  rw [h, this, List.append_nil]
theorem at_nodes (b : B) : At (b.nodes 0) 0 b := ⟨[], by simp⟩
theorem size_pos {dim : Int} : ∀ {b : B}, b.ok dim → 1 ≤ b.size
  | .leaf n, h => h
  | .fork c a l r, h => by have := size_pos h.2.1; have := size_pos h.2.2; simp only [B.size]; omega
theorem count_le {dim : Int} : ∀ {b : B}, b.ok dim → (b.count : Int) + 1 ≤ 2 * b.size
  | .leaf n, h => by have : (1 : Int) ≤ n := h; simp only [B.count, B.size]; omega
  | .fork c a l r, h => by have := count_le h.2.1; have := count_le h.2.2; simp only [B.count, B.size]; omega
/-- the node of a place tells its tree's size -/
theorem at_size {l : List Nd} {i : Nat} : ∀ {b : B}, At l i b → ∃ x, l[i]? = some x ∧ x.size = b.size
  | .leaf n, h => ⟨_, at_leaf.1 h, rfl⟩
  | .fork c a x y, h => ⟨_, (at_fork.1 h).1, rfl⟩
/-- each place within a tree's nodes has a tree of its own -/
theorem sub_at {dim : Int} {l : List Nd} : ∀ {b : B} {i j : Nat}, At l i b → b.ok dim → i ≤ j → j < i + b.count → ∃ b', At l j b' ∧ b'.ok dim ∧ b'.size ≤ b.size ∧ b'.high ≤ b.high ∧ j + b'.count ≤ i + b.count
  | .leaf n, i, j, h, ho, h1, h2 => by
    obtain rfl : j = i := by simp only [B.count] at h2; omega
    exact ⟨_, h, ho, Int.le_refl _, Nat.le_refl _, Nat.le_refl _⟩
  | .fork c a x y, i, j, h, ho, h1, h2 => by
    rcases Nat.eq_or_lt_of_le h1 with rfl | h1
    · exact ⟨_, h, ho, Int.le_refl _, Nat.le_refl _, Nat.le_refl _⟩
    · obtain ⟨_, hx, hy⟩ := at_fork.1 h
      have px := size_pos ho.2.1
      have py := size_pos ho.2.2
      simp only [B.count] at h2
      by_cases hj : j < i + 1 + x.count
      · obtain ⟨b', k1, k2, k3, k4, k5⟩ := sub_at hx ho.2.1 h1 hj
        exact ⟨b', k1, k2, by simp only [B.size]; omega, by simp only [B.high]; omega, by simp only [B.count]; omega⟩
      · obtain ⟨b', k1, k2, k3, k4, k5⟩ := sub_at (j := j) hy ho.2.2 (by omega) (by omega)
        exact ⟨b', k1, k2, by simp only [B.size]; omega, by simp only [B.high]; omega, by simp only [B.count]; omega⟩
/-- how many doublings reach a number, up to 64 -/
def lg (n : Int) : Nat := if n ≤ 1 then 0 else if n ≤ 2 then 1 else if n ≤ 4 then 2 else if n ≤ 8 then 3 else if n ≤ 16 then 4 else if n ≤ 32 then 5 else 6
def IsT (dim : Int) (l : List Nd) : Prop := 1 ≤ dim ∧ dim ≤ 8 ∧ ∃ b, At l 0 b ∧ b.count = l.length ∧ b.ok dim ∧ b.size ≤ 64 ∧ b.high ≤ lg b.size
open Classical in
noncomputable def isTB (dim : Int) (l : List Nd) : Bool := decide (IsT dim l)
theorem isTB_true {dim : Int} {l : List Nd} : isTB dim l = true ↔ IsT dim l := by unfold isTB; simp
theorem isTB_false {dim : Int} {l : List Nd} : isTB dim l = false ↔ ¬ IsT dim l := by unfold isTB; simp
end Go.Proofs.YtcaeihfgdlffkaaGreatRRRRDoor.ShpM

/- Vectors: vec.Is, vec.Parts, vec.Dot, and the reference's. -/
namespace Go.Proofs.YtcaeihfgdlffkaaGreatRRRRDoor.ShpV
set_option linter.unusedVariables false
open Go.RowKit Base SeqM ShpM

def rngB (x : Int) : Bool := decide (-2147483648 ≤ x ∧ x ≤ 2147483647)
def vecB (l : List Int) (dim : Int) : Bool := decide (1 ≤ dim ∧ dim ≤ 8 ∧ (l.length : Int) = dim) && l.all rngB
theorem all_next {α : Type} {l : List α} {k : Nat} {x : α} (h : l[k]? = some x) (f : α → Bool) : (l.take (k + 1)).all f = ((l.take k).all f && f x) := by
  rw [take_next h, List.all_append]; simp
theorem all_no {α : Type} {l : List α} {k : Nat} {f : α → Bool} (h : (l.take k).all f = false) : l.all f = false := by
  rw [List.all_eq_false] at h ⊢
  obtain ⟨x, hx, hf⟩ := h
  exact ⟨x, List.mem_of_mem_take hx, hf⟩
def VRel (l : List Int) (f : Int → Bool) (w : World) (ok i : Value) (wr : World) : Prop := ∃ k : Nat, k ≤ l.length ∧ ok = .bool ((l.take k).all f) ∧ i = .int .i64 k ∧ w = wr
set_option maxHeartbeats 2000000 in
theorem VIs_any (v : Value) (l : List Int) (dim : Int) (lo B : Nat) (w : World) (h : Seq 1 inC w lo B v l) :
    Calls Tryz.prog 33 #[v, .int .i64 dim] w fun e w' => e = .returned (.bool (vecB l dim)) ∧ w = w' := by
  obtain ⟨A, cap, rfl, hc1, hc2, hr, _⟩ := h
  unfold maxLen at hc2
  have HR := Lib.hid hr
  obtain ⟨n, hn⟩ : ∃ n, l.length = n := ⟨_, rfl⟩
  rw [hn] at hc1 ⊢
  have HN := Lib.hid hn
  clear hr hn
  by_cases hd : 1 ≤ dim ∧ dim ≤ 8 ∧ (n : Int) = dim
  · have HV := Lib.hid (show vecB l dim = l.all rngB by unfold vecB; rw [decide_eq_true (by rw [HN.out]; exact hd)]; rfl)
    obtain ⟨h1, h2, h3⟩ := hd
    have h3b : ((n : Int) == dim) = true := by simpa using h3
    have H0 := Lib.hid (show VRel l rngB w (.bool true) (.int .i64 0) w from ⟨0, Nat.zero_le _, by simp, rfl, rfl⟩)
    clear h3
    go_enter Tryz.func33, Tryz.ntmps33
    go_wp2
    go_loopw [5, 6] (fun ok i wr => VRel l rngB w ok i wr) (fun _ i _ => n - (intOf i).toNat)
    case atStart => exact H0.out
    case round =>
      obtain ⟨k, hk, rfl, rfl, rfl⟩ := hrel
      rw [HN.out] at hk
      clear H0
      cases hb : (l.take k).all rngB
      · have F := Lib.hid (show vecB l dim = false by rw [HV.out, all_no hb])
        clear hb
        go_wp2
        go_ret
        exact ⟨ret_bool F.out.symm, rfl⟩
      · have HT := Lib.hid hb
        clear hb
        by_cases hlt : k < n
        · obtain ⟨ad, x, rfl, _, _, hx, c0⟩ := rdI HR.out (i := k) (by rw [HN.out]; exact hlt)
          have HX := Lib.hid (all_next hx rngB)
          clear hx
          by_cases hx1 : -2147483648 ≤ x
          · by_cases hx2 : x ≤ 2147483647
            · have HB := Lib.hid (show rngB x = true from decide_eq_true ⟨hx1, hx2⟩)
              go_wp2
              exact ⟨⟨k + 1, by rw [HN.out]; omega, by rw [HX.out, HT.out, HB.out]; rfl, by go_num, rfl⟩, by simp [intOf]; omega⟩
            · have HB := Lib.hid (show rngB x = false from decide_eq_false (fun h => hx2 h.2))
              go_wp2
              exact ⟨⟨k + 1, by rw [HN.out]; omega, by rw [HX.out, HT.out, HB.out]; rfl, by go_num, rfl⟩, by simp [intOf]; omega⟩
          · have HB := Lib.hid (show rngB x = false from decide_eq_false (fun h => hx1 h.1))
            go_wp2
            exact ⟨⟨k + 1, by rw [HN.out]; omega, by rw [HX.out, HT.out, HB.out]; rfl, by go_num, rfl⟩, by simp [intOf]; omega⟩
        · have F := Lib.hid (show vecB l dim = true by
            have := HT.out
            rw [List.take_of_length_le (by rw [HN.out]; omega)] at this
            rw [HV.out, this])
          go_wp2
          go_ret
          exact ⟨ret_bool F.out.symm, rfl⟩
  · have F := Lib.hid (show vecB l dim = false by unfold vecB; rw [decide_eq_false (by rw [HN.out]; exact hd)]; rfl)
    by_cases h1 : 1 ≤ dim
    · by_cases h2 : dim ≤ 8
      · have h3 : ((n : Int) == dim) = false := by rw [beq_eq_false_iff_ne]; exact fun h => hd ⟨h1, h2, h⟩
        clear hd
        go_enter Tryz.func33, Tryz.ntmps33
        go_wp2
        go_loopw [5] (fun ok wr => ok = .bool false ∧ w = wr) (fun _ _ => 0)
        case atStart => exact ⟨rfl, rfl⟩
        case round =>
          obtain ⟨rfl, rfl⟩ := hrel
          go_wp2
          go_ret
          exact ⟨ret_bool F.out.symm, rfl⟩
      · clear hd
        go_enter Tryz.func33, Tryz.ntmps33
        go_wp2
        go_loopw [5] (fun ok wr => ok = .bool false ∧ w = wr) (fun _ _ => 0)
        case atStart => exact ⟨rfl, rfl⟩
        case round =>
          obtain ⟨rfl, rfl⟩ := hrel
          go_wp2
          go_ret
          exact ⟨ret_bool F.out.symm, rfl⟩
    · clear hd
      go_enter Tryz.func33, Tryz.ntmps33
      go_wp2
      go_loopw [5] (fun ok wr => ok = .bool false ∧ w = wr) (fun _ _ => 0)
      case atStart => exact ⟨rfl, rfl⟩
      case round =>
        obtain ⟨rfl, rfl⟩ := hrel
        go_wp2
        go_ret
        exact ⟨ret_bool F.out.symm, rfl⟩
def IRel (n : Nat) (p : Nat → Prop) (w : World) (i : Value) (wr : World) : Prop := ∃ k : Nat, k ≤ n ∧ i = .int .i64 k ∧ p k ∧ w = wr
set_option maxHeartbeats 2000000 in
theorem RIs_any (v : Value) (l : List Int) (dim : Int) (lo B : Nat) (w : World) (h : Seq 1 inC w lo B v l) :
    Calls Tryz.prog 80 #[v, .int .i64 dim] w fun e w' => e = .returned (.bool (vecB l dim)) ∧ w = w' := by
  obtain ⟨A, cap, rfl, hc1, hc2, hr, _⟩ := h
  unfold maxLen at hc2
  have HR := Lib.hid hr
  obtain ⟨n, hn⟩ : ∃ n, l.length = n := ⟨_, rfl⟩
  rw [hn] at hc1 ⊢
  have HN := Lib.hid hn
  clear hr hn
  by_cases hd : 1 ≤ dim ∧ dim ≤ 8 ∧ (n : Int) = dim
  · have HV := Lib.hid (show vecB l dim = l.all rngB by unfold vecB; rw [decide_eq_true (by rw [HN.out]; exact hd)]; rfl)
    obtain ⟨h1, h2, h3⟩ := hd
    have h3b : ((n : Int) != dim) = false := by simpa using h3
    have h1' : ¬ dim < 1 := by omega
    have h2' : ¬ 8 < dim := by omega
    have H0 := Lib.hid (show IRel n (fun k => (l.take k).all rngB = true) w (.int .i64 0) w from ⟨0, Nat.zero_le _, rfl, by simp, rfl⟩)
    clear h3
    go_enter Tryz.func80, Tryz.ntmps80
    go_wp2
    go_loopw [5] (fun i wr => IRel n (fun k => (l.take k).all rngB = true) w i wr) (fun i _ => n - (intOf i).toNat)
    case atStart => exact H0.out
    case round =>
      obtain ⟨k, hk, rfl, ht, rfl⟩ := hrel
      have HT := Lib.hid ht
      clear H0 ht
      by_cases hlt : k < n
      · obtain ⟨ad, x, rfl, _, _, hx, c0⟩ := rdI HR.out (i := k) (by rw [HN.out]; exact hlt)
        have HX := Lib.hid (all_next hx rngB)
        clear hx
        by_cases hx1 : x < -2147483648
        · have HB := Lib.hid (show vecB l dim = false by rw [HV.out]; exact all_no (k := k + 1) (by rw [HX.out, show rngB x = false from decide_eq_false (fun h => by omega)]; simp))
          go_wp2
          go_ret
          exact ⟨ret_bool HB.out.symm, rfl⟩
        · by_cases hx2 : 2147483647 < x
          · have HB := Lib.hid (show vecB l dim = false by rw [HV.out]; exact all_no (k := k + 1) (by rw [HX.out, show rngB x = false from decide_eq_false (fun h => by omega)]; simp))
            go_wp2
            go_ret
            exact ⟨ret_bool HB.out.symm, rfl⟩
          · have HB := Lib.hid (show rngB x = true from decide_eq_true ⟨by omega, by omega⟩)
            go_wp2
            exact ⟨⟨k + 1, by omega, by go_num, (show (l.take (k + 1)).all rngB = true by rw [HX.out, HT.out, HB.out]; rfl), rfl⟩, by simp [intOf]; omega⟩
      · have F := Lib.hid (show vecB l dim = true by
          have := HT.out
          rw [List.take_of_length_le (by rw [HN.out]; omega)] at this
          rw [HV.out, this])
        go_wp2
        go_ret
        exact ⟨ret_bool F.out.symm, rfl⟩
  · have F := Lib.hid (show vecB l dim = false by unfold vecB; rw [decide_eq_false (by rw [HN.out]; exact hd)]; rfl)
    by_cases h1 : dim < 1
    · clear hd
      go_enter Tryz.func80, Tryz.ntmps80
      go_wp2
      go_ret
      exact ⟨ret_bool F.out.symm, rfl⟩
    · by_cases h2 : 8 < dim
      · clear hd
        go_enter Tryz.func80, Tryz.ntmps80
        go_wp2
        go_ret
        exact ⟨ret_bool F.out.symm, rfl⟩
      · have h3 : ((n : Int) != dim) = true := by rw [bne_iff_ne]; exact fun h => hd ⟨by omega, by omega, h⟩
        clear hd
        go_enter Tryz.func80, Tryz.ntmps80
        go_wp2
        go_ret
        exact ⟨ret_bool F.out.symm, rfl⟩
end Go.Proofs.YtcaeihfgdlffkaaGreatRRRRDoor.ShpV

/- Parts of planes: vec.ends, vec.Parts, the reference's Parts. -/
namespace Go.Proofs.YtcaeihfgdlffkaaGreatRRRRDoor.ShpW
set_option linter.unusedVariables false
open Go.RowKit Base SeqM ShpM ShpV

open Classical in
noncomputable def partsB (c : List Int) (dim : Int) : Bool := decide (partsOk c dim)
theorem partsB_yes {c : List Int} {dim : Int} (h : partsOk c dim) : partsB c dim = true := by unfold partsB; simpa using h
theorem partsB_no {c : List Int} {dim : Int} (h : ¬ partsOk c dim) : partsB c dim = false := by unfold partsB; simpa using h
theorem partsB_iff {c : List Int} {dim : Int} : partsB c dim = true ↔ partsOk c dim := by unfold partsB; simp
def Least (l : List Int) (a : Int) : Prop := a ∈ l ∧ ∀ x ∈ l, a ≤ x
def Most (l : List Int) (a : Int) : Prop := a ∈ l ∧ ∀ x ∈ l, x ≤ a
def ERel (l : List Int) (n : Nat) (w : World) (a b i : Value) (wr : World) : Prop := ∃ (k : Nat) (p q : Int), k + 1 ≤ n ∧ a = .int .i64 p ∧ b = .int .i64 q ∧ i = .int .i64 k ∧ Least (l.take (k + 1)) p ∧ Most (l.take (k + 1)) q ∧ ∃ d, wr = w.drewN d
theorem least_next {l : List Int} {k : Nat} {x p : Int} (h : l[k + 1]? = some x) (hl : Least (l.take (k + 1)) p) : Least (l.take (k + 1 + 1)) (if x < p then x else p) := by
  rw [take_next h]
  by_cases h1 : x < p
  · rw [if_pos h1]
    refine ⟨by simp, fun y hy => ?_⟩
    rcases List.mem_append.1 hy with hy | hy
    · have := hl.2 y hy; omega
    · obtain rfl := List.mem_singleton.1 hy; omega
  · rw [if_neg h1]
    refine ⟨List.mem_append_left _ hl.1, fun y hy => ?_⟩
    rcases List.mem_append.1 hy with hy | hy
    · exact hl.2 y hy
    · obtain rfl := List.mem_singleton.1 hy; omega
theorem most_next {l : List Int} {k : Nat} {x p : Int} (h : l[k + 1]? = some x) (hl : Most (l.take (k + 1)) p) : Most (l.take (k + 1 + 1)) (if p < x then x else p) := by
  rw [take_next h]
  by_cases h1 : p < x
  · rw [if_pos h1]
    refine ⟨by simp, fun y hy => ?_⟩
    rcases List.mem_append.1 hy with hy | hy
    · have := hl.2 y hy; omega
    · obtain rfl := List.mem_singleton.1 hy; omega
  · rw [if_neg h1]
    refine ⟨List.mem_append_left _ hl.1, fun y hy => ?_⟩
    rcases List.mem_append.1 hy with hy | hy
    · exact hl.2 y hy
    · obtain rfl := List.mem_singleton.1 hy; omega
set_option maxHeartbeats 2000000 in
theorem ends_any (v : Value) (l : List Int) (lo B : Nat) (w : World) (h : Seq 1 inC w lo B v l) (hl : 0 < l.length) :
    Calls Tryz.prog 184 #[v] w fun e w' => (∃ a b, e = .returned (.tuple #[.int .i64 a, .int .i64 b]) ∧ Least l a ∧ Most l b) ∧ ∃ q, w' = w.drewN q := by
  obtain ⟨A, cap, rfl, hc1, hc2, hr, _⟩ := h
  unfold maxLen at hc2
  have HR := Lib.hid hr
  obtain ⟨ad, x0, rfl, _, _, hx0, c0⟩ := rdI hr hl
  have c0 : w.cell? ad = some (.int .i64 x0) := c0
  obtain ⟨m, hn⟩ : ∃ m, l.length = m + 1 := ⟨l.length - 1, by omega⟩
  rw [hn] at hc1 ⊢
  have HN := Lib.hid hn
  have HX0 := Lib.hid hx0
  clear hr hn hx0 hl
  by_cases hcap : cap = 1
  · obtain rfl : m = 0 := by omega
    subst hcap
    go_enter Tryz.func184, Tryz.ntmps184
    go_wp2_with fail
    go_quiet (fail)
    go_wp2_with fail
    have hl1 : l = [x0] := by
      have h1 := HX0.out
      have h2 := HN.out
      match l, h2 with
      | [y], _ => simpa using h1
    go_loopw [4, 5, 17] (fun a b i wr => a = .int .i64 x0 ∧ b = .int .i64 x0 ∧ i = .int .i64 0 ∧ wr = w.drewN nq) (fun _ _ _ _ => 0)
    case atStart => exact ⟨rfl, rfl, rfl, rfl⟩
    case round =>
      obtain ⟨rfl, rfl, rfl, rfl⟩ := hrel
      go_wp2_with fail
      go_ret2
      exact ⟨⟨x0, x0, rfl, by rw [hl1]; simp [Least], by rw [hl1]; simp [Most]⟩, nq, rfl⟩
  · have H0 := Lib.hid (fun nq => show ERel l (m + 1) w (.int .i64 x0) (.int .i64 x0) (.int .i64 0) (w.drewN nq) from ⟨0, x0, x0, by omega, rfl, rfl, rfl, by rw [take_next HX0.out]; simp [Least], by rw [take_next HX0.out]; simp [Most], nq, rfl⟩)
    go_enter Tryz.func184, Tryz.ntmps184
    go_wp2_with fail
    go_quiet (fail)
    go_wp2_with fail
    go_loopw [4, 5, 17] (fun a b i wr => ERel l (m + 1) w a b i wr) (fun _ _ i _ => m - (intOf i).toNat)
    case atStart => exact H0.out nq
    case round =>
      obtain ⟨k, p, q, hk, rfl, rfl, rfl, h1, h2, d, rfl⟩ := hrel
      have H1 := Lib.hid h1
      have H2 := Lib.hid h2
      clear h1 h2 H0
      by_cases hlt : k < m
      · obtain ⟨ad', x, e, _, _, hx, c1⟩ := rdI HR.out (i := k + 1) (by rw [HN.out]; omega)
        obtain rfl := Option.some.inj e
        have e2 : ad.add (k + 1) = ⟨ad.block, ad.off + 1 + k, none⟩ := by simp [Addr.add]; omega
        rw [e2] at c1
        have HX := Lib.hid hx
        clear hx e e2
        go_wp2_with fail
        exact ⟨⟨k + 1, _, _, by omega, rfl, rfl, by go_num, least_next HX.out H1.out, most_next HX.out H2.out, d, rfl⟩, by simp [intOf]; omega⟩
      · go_wp2_with fail
        go_ret2
        have e1 : l.take (k + 1) = l := List.take_of_length_le (by rw [HN.out]; omega)
        have h1 := H1.out
        have h2 := H2.out
        rw [e1] at h1 h2
        exact ⟨⟨p, q, rfl, h1, h2⟩, d, rfl⟩
theorem parts_ends {l : List Int} {dim a b : Int} (hd : 1 ≤ dim ∧ dim ≤ 8 ∧ (l.length : Int) = dim) (h1 : Least l a) (h2 : Most l b) : partsOk l dim ↔ (-4 ≤ a ∧ b ≤ 4) ∧ (a < 0 ∨ 0 < b) := by
  unfold partsOk
  constructor
  · rintro ⟨_, _, _, h, x, hx, hx0⟩
    refine ⟨⟨(h a h1.1).1, (h b h2.1).2⟩, ?_⟩
    have := h1.2 x hx; have := h2.2 x hx; omega
  · rintro ⟨⟨h3, h4⟩, h5⟩
    refine ⟨hd.1, hd.2.1, hd.2.2, fun x hx => ?_, ?_⟩
    · have := h1.2 x hx; have := h2.2 x hx; omega
    · rcases h5 with h5 | h5
      · exact ⟨a, h1.1, by omega⟩
      · exact ⟨b, h2.1, by omega⟩
set_option maxHeartbeats 2000000 in
theorem Parts_any (v : Value) (l : List Int) (dim : Int) (lo B : Nat) (w : World) (h : Seq 1 inC w lo B v l) :
    Calls Tryz.prog 176 #[v, .int .i64 dim] w fun e w' => e = .returned (.bool (partsB l dim)) ∧ ∃ q, w' = w.drewN q := by
  have HS := Lib.hid h
  obtain ⟨A, cap, rfl, hc1, hc2, _, _⟩ := h
  unfold maxLen at hc2
  obtain ⟨n, hn⟩ : ∃ n, l.length = n := ⟨_, rfl⟩
  rw [hn] at hc1 ⊢
  have HN := Lib.hid hn
  clear hn
  by_cases h1 : dim < 1
  · have F := Lib.hid (show partsB l dim = false from partsB_no (fun h => by have := h.1; omega))
    go_enter Tryz.func176, Tryz.ntmps176
    go_wp2
    go_ret
    exact ⟨ret_bool F.out.symm, 0, rfl⟩
  · by_cases h2 : 8 < dim
    · have F := Lib.hid (show partsB l dim = false from partsB_no (fun h => by have := h.2.1; omega))
      go_enter Tryz.func176, Tryz.ntmps176
      go_wp2
      go_ret
      exact ⟨ret_bool F.out.symm, 0, rfl⟩
    · by_cases h3 : (n : Int) = dim
      · have h3b : ((n : Int) != dim) = false := by simpa using h3
        have HD := Lib.hid (show 1 ≤ dim ∧ dim ≤ 8 ∧ (l.length : Int) = dim from ⟨by omega, by omega, by rw [HN.out]; exact h3⟩)
        have hpos : 0 < l.length := by rw [HN.out]; omega
        have HE := Lib.hid (ends_any _ l lo B w HS.out hpos)
        rw [HN.out] at HE
        clear h3 hpos
        go_enter Tryz.func176, Tryz.ntmps176
        go_wp2_with fail
        refine HE.out.mono ?_
        rintro e w1 ⟨⟨a, b, rfl, hl, hm⟩, q, rfl⟩
        have HP := Lib.hid (parts_ends HD.out hl hm)
        clear hl hm
        by_cases ha : -4 ≤ a
        · by_cases hb : b ≤ 4
          · by_cases ha0 : a < 0
            · have F := Lib.hid (show partsB l dim = true from partsB_yes (HP.out.2 ⟨⟨ha, hb⟩, .inl ha0⟩))
              go_wp2
              go_ret
              exact ⟨ret_bool F.out.symm, q, rfl⟩
            · by_cases hb0 : 0 < b
              · have F := Lib.hid (show partsB l dim = true from partsB_yes (HP.out.2 ⟨⟨ha, hb⟩, .inr hb0⟩))
                go_wp2
                go_ret
                exact ⟨ret_bool F.out.symm, q, rfl⟩
              · have F := Lib.hid (show partsB l dim = false from partsB_no (fun h => by have := (HP.out.1 h).2; omega))
                have HA := Lib.hid (show (decide (a < 0) || decide (0 < b)) = false by rw [decide_eq_false ha0, decide_eq_false hb0]; rfl)
                go_wp2
                go_ret
                exact ⟨ret_bool (by rw [F.out, HA.out]), q, rfl⟩
          · have F := Lib.hid (show partsB l dim = false from partsB_no (fun h => hb (HP.out.1 h).1.2))
            go_wp2
            go_ret
            exact ⟨ret_bool F.out.symm, q, rfl⟩
        · have F := Lib.hid (show partsB l dim = false from partsB_no (fun h => ha (HP.out.1 h).1.1))
          go_wp2
          go_ret
          exact ⟨ret_bool F.out.symm, q, rfl⟩
      · have h3b : ((n : Int) != dim) = true := by simpa using h3
        have F := Lib.hid (show partsB l dim = false from partsB_no (fun h => h3 (by have := h.2.2.1; rw [HN.out] at this; exact this)))
        clear h3
        go_enter Tryz.func176, Tryz.ntmps176
        go_wp2
        go_ret
        exact ⟨ret_bool F.out.symm, 0, rfl⟩
def fourB (x : Int) : Bool := decide (-4 ≤ x ∧ x ≤ 4)
def PRel (l : List Int) (w : World) (some_ i : Value) (wr : World) : Prop := ∃ k : Nat, k ≤ l.length ∧ some_ = .bool ((l.take k).any (· != 0)) ∧ i = .int .i64 k ∧ (l.take k).all fourB = true ∧ w = wr
theorem any_next {α : Type} {l : List α} {k : Nat} {x : α} (h : l[k]? = some x) (f : α → Bool) : (l.take (k + 1)).any f = ((l.take k).any f || f x) := by
  rw [take_next h, List.any_append]; simp
theorem partsB_eq {l : List Int} {dim : Int} (hd : 1 ≤ dim ∧ dim ≤ 8 ∧ (l.length : Int) = dim) : partsB l dim = (l.all fourB && l.any (· != 0)) := by
  rw [Bool.eq_iff_iff, partsB_iff]
  unfold partsOk fourB
  simp only [decide_eq_true_eq, Bool.and_eq_true, List.all_eq_true, List.any_eq_true, bne_iff_ne]
  exact ⟨fun h => ⟨h.2.2.2.1, h.2.2.2.2⟩, fun h => ⟨hd.1, hd.2.1, hd.2.2, h.1, h.2⟩⟩
set_option maxHeartbeats 2000000 in
theorem RParts_any (v : Value) (l : List Int) (dim : Int) (lo B : Nat) (w : World) (h : Seq 1 inC w lo B v l) :
    Calls Tryz.prog 185 #[v, .int .i64 dim] w fun e w' => e = .returned (.bool (partsB l dim)) ∧ w = w' := by
  obtain ⟨A, cap, rfl, hc1, hc2, hr, _⟩ := h
  unfold maxLen at hc2
  have HR := Lib.hid hr
  obtain ⟨n, hn⟩ : ∃ n, l.length = n := ⟨_, rfl⟩
  rw [hn] at hc1 ⊢
  have HN := Lib.hid hn
  clear hn hr
  by_cases h1 : dim < 1
  · have F := Lib.hid (show partsB l dim = false from partsB_no (fun h => by have := h.1; omega))
    go_enter Tryz.func185, Tryz.ntmps185
    go_wp2
    go_ret
    exact ⟨ret_bool F.out.symm, rfl⟩
  · by_cases h2 : 8 < dim
    · have F := Lib.hid (show partsB l dim = false from partsB_no (fun h => by have := h.2.1; omega))
      go_enter Tryz.func185, Tryz.ntmps185
      go_wp2
      go_ret
      exact ⟨ret_bool F.out.symm, rfl⟩
    · by_cases h3 : (n : Int) = dim
      · have h3b : ((n : Int) != dim) = false := by simpa using h3
        have HV := Lib.hid (partsB_eq (l := l) (dim := dim) ⟨by omega, by omega, by rw [HN.out]; exact h3⟩)
        have H0 := Lib.hid (show PRel l w (.bool false) (.int .i64 0) w from ⟨0, Nat.zero_le _, by simp, rfl, by simp, rfl⟩)
        clear h3
        go_enter Tryz.func185, Tryz.ntmps185
        go_wp2
        go_loopw [5, 6] (fun s i wr => PRel l w s i wr) (fun _ i _ => n - (intOf i).toNat)
        case atStart => exact H0.out
        case round =>
          obtain ⟨k, hk, rfl, rfl, ht, rfl⟩ := hrel
          rw [HN.out] at hk
          have HT := Lib.hid ht
          clear H0 ht
          by_cases hlt : k < n
          · obtain ⟨ad, x, rfl, _, _, hx, c0⟩ := rdI HR.out (i := k) (by rw [HN.out]; exact hlt)
            have HX := Lib.hid (all_next hx fourB)
            have HY := Lib.hid (any_next hx (· != 0))
            clear hx
            by_cases hx1 : x < -4
            · have HB := Lib.hid (show partsB l dim = false by rw [HV.out, all_no (k := k + 1) (f := fourB) (by rw [HX.out, show fourB x = false from decide_eq_false (fun h => by omega)]; simp)]; rfl)
              go_wp2
              go_ret
              exact ⟨ret_bool HB.out.symm, rfl⟩
            · by_cases hx2 : 4 < x
              · have HB := Lib.hid (show partsB l dim = false by rw [HV.out, all_no (k := k + 1) (f := fourB) (by rw [HX.out, show fourB x = false from decide_eq_false (fun h => by omega)]; simp)]; rfl)
                go_wp2
                go_ret
                exact ⟨ret_bool HB.out.symm, rfl⟩
              · have HB := Lib.hid (show fourB x = true from decide_eq_true ⟨by omega, by omega⟩)
                generalize hs : (l.take k).any (· != 0) = s at *
                clear hs
                cases s
                · go_wp2
                  exact ⟨⟨k + 1, by rw [HN.out]; omega, by rw [HY.out]; rfl, by go_num, by rw [HX.out, HT.out, HB.out]; rfl, rfl⟩, by simp [intOf]; omega⟩
                · go_wp2
                  exact ⟨⟨k + 1, by rw [HN.out]; omega, by rw [HY.out]; rfl, by go_num, by rw [HX.out, HT.out, HB.out]; rfl, rfl⟩, by simp [intOf]; omega⟩
          · have e1 : l.take k = l := List.take_of_length_le (by rw [HN.out]; omega)
            have F := Lib.hid (show partsB l dim = (l.take k).any (· != 0) by have := HT.out; rw [HV.out, e1] at *; rw [this]; rfl)
            clear e1
            go_wp2
            go_ret
            exact ⟨ret_bool F.out.symm, rfl⟩
      · have h3b : ((n : Int) != dim) = true := by simpa using h3
        have F := Lib.hid (show partsB l dim = false from partsB_no (fun h => h3 (by have := h.2.2.1; rw [HN.out] at this; exact this)))
        clear h3
        go_enter Tryz.func185, Tryz.ntmps185
        go_wp2
        go_ret
        exact ⟨ret_bool F.out.symm, rfl⟩
end Go.Proofs.YtcaeihfgdlffkaaGreatRRRRDoor.ShpW

/- Products; cuts: Is, Left, Same; equal lists of numbers. -/
namespace Go.Proofs.YtcaeihfgdlffkaaGreatRRRRDoor.ShpD
set_option linter.unusedVariables false
open Go.RowKit Base SeqM ShpM ShpV ShpW

def dotP (c v : List Int) : Nat → Int
  | 0 => 0
  | k + 1 => dotP c v k + (c[k]?.getD 0) * (v[k]?.getD 0)
/-- the product and its error -/
noncomputable def dotR (c v : List Int) : Int × Int := if partsB c c.length && vecB v c.length then (dotP c v c.length, 0) else (0, 80)
theorem mul4 {c v : Int} (hc : -4 ≤ c ∧ c ≤ 4) (hv : -2147483648 ≤ v ∧ v ≤ 2147483647) : -8589934592 ≤ c * v ∧ c * v ≤ 8589934592 := by
  have : c = -4 ∨ c = -3 ∨ c = -2 ∨ c = -1 ∨ c = 0 ∨ c = 1 ∨ c = 2 ∨ c = 3 ∨ c = 4 := by omega
  rcases this with rfl | rfl | rfl | rfl | rfl | rfl | rfl | rfl | rfl <;> omega
def DRel (c v : List Int) (w : World) (s i : Value) (wr : World) : Prop := ∃ k : Nat, k ≤ c.length ∧ s = .int .i64 (dotP c v k) ∧ i = .int .i64 k ∧ (-8589934592 * (k : Int) ≤ dotP c v k ∧ dotP c v k ≤ 8589934592 * (k : Int)) ∧ ∃ q, wr = w.drewN q
theorem vecB_true {l : List Int} {dim : Int} (h : vecB l dim = true) : (l.length : Int) = dim ∧ ∀ x ∈ l, -2147483648 ≤ x ∧ x ≤ 2147483647 := by
  unfold vecB at h
  rw [Bool.and_eq_true, List.all_eq_true] at h
  exact ⟨(by simpa using h.1 : 1 ≤ dim ∧ dim ≤ 8 ∧ (l.length : Int) = dim).2.2, fun x hx => by simpa [rngB] using h.2 x hx⟩
noncomputable def cutB (c : List Int) (a dim : Int) : Bool := decide (-137438953472 ≤ a ∧ a ≤ 137438953472) && partsB c dim
theorem cutB_iff {c : List Int} {a dim : Int} : cutB c a dim = true ↔ cutOk c a dim := by
  unfold cutB cutOk
  rw [Bool.and_eq_true, partsB_iff, decide_eq_true_eq]
  exact ⟨fun h => ⟨h.2, h.1⟩, fun h => ⟨h.2, h.1⟩⟩
set_option maxHeartbeats 1000000 in
set_option maxRecDepth 100000 in
theorem CIs_any (cv : Value) (c : List Int) (a dim : Int) (lo : Nat) (w : World) (h : Seq 1 inC w lo w.heap.size cv c) :
    Calls Tryz.prog 161 #[.agg #[cv, .int .i64 a], .int .i64 dim] w fun e w' => e = .returned (.bool (cutB c a dim)) ∧ Below w.heap.size w w' := by
  have HP := Lib.hid (fun w' (hb : Below w.heap.size w w') => Parts_any cv c dim lo w.heap.size w' (h.below hb))
  obtain ⟨A, cap, rfl, _, _, _, _⟩ := h
  obtain ⟨n, hn⟩ : ∃ n, c.length = n := ⟨_, rfl⟩
  rw [hn] at HP ⊢
  clear hn
  by_cases h1 : -137438953472 ≤ a
  · by_cases h2 : a ≤ 137438953472
    · have F := Lib.hid (show cutB c a dim = partsB c dim by unfold cutB; rw [decide_eq_true ⟨h1, h2⟩]; rfl)
      go_enter Tryz.func161, Tryz.ntmps161
      go_wp2_with fail
      refine (HP.out _ (below_a1 _ _)).mono ?_
      rintro e w1 ⟨rfl, q, rfl⟩
      go_wp2_with fail
      go_ret
      exact ⟨ret_bool F.out.symm, below_drewN (below_a1 _ _) q⟩
    · have F := Lib.hid (show cutB c a dim = false by unfold cutB; rw [decide_eq_false (fun h => h2 h.2)]; rfl)
      go_enter Tryz.func161, Tryz.ntmps161
      go_wp2_with fail
      go_ret
      exact ⟨ret_bool F.out.symm, below_a1 _ _⟩
  · have F := Lib.hid (show cutB c a dim = false by unfold cutB; rw [decide_eq_false (fun h => h1 h.1)]; rfl)
    go_enter Tryz.func161, Tryz.ntmps161
    go_wp2_with fail
    go_ret
    exact ⟨ret_bool F.out.symm, below_a1 _ _⟩
set_option maxHeartbeats 1000000 in
set_option maxRecDepth 100000 in
theorem RCIs_any (cv : Value) (c : List Int) (a dim : Int) (lo : Nat) (w : World) (h : Seq 1 inC w lo w.heap.size cv c) :
    Calls Tryz.prog 180 #[.agg #[cv, .int .i64 a], .int .i64 dim] w fun e w' => e = .returned (.bool (cutB c a dim)) ∧ Below w.heap.size w w' := by
  have HP := Lib.hid (fun w' (hb : Below w.heap.size w w') => RParts_any cv c dim lo w.heap.size w' (h.below hb))
  obtain ⟨A, cap, rfl, _, _, _, _⟩ := h
  obtain ⟨n, hn⟩ : ∃ n, c.length = n := ⟨_, rfl⟩
  rw [hn] at HP ⊢
  clear hn
  cases hp : partsB c dim
  · have F := Lib.hid (show cutB c a dim = false by unfold cutB; rw [hp]; simp)
    go_enter Tryz.func180, Tryz.ntmps180
    go_wp2_with fail
    refine (HP.out _ (below_a1 _ _)).mono ?_
    rintro e w1 ⟨rfl, rfl⟩
    rw [hp]
    go_wp2_with fail
    go_ret
    exact ⟨ret_bool F.out.symm, below_a1 _ _⟩
  · by_cases h1 : -137438953472 ≤ a
    · by_cases h2 : a ≤ 137438953472
      · have F := Lib.hid (show cutB c a dim = true by unfold cutB; rw [hp, decide_eq_true ⟨h1, h2⟩]; rfl)
        go_enter Tryz.func180, Tryz.ntmps180
        go_wp2_with fail
        refine (HP.out _ (below_a1 _ _)).mono ?_
        rintro e w1 ⟨rfl, rfl⟩
        rw [hp]
        go_wp2_with fail
        go_ret
        exact ⟨ret_bool F.out.symm, below_a1 _ _⟩
      · have F := Lib.hid (show cutB c a dim = false by unfold cutB; rw [decide_eq_false (fun h => h2 h.2)]; rfl)
        have HA := Lib.hid (decide_eq_false h2)
        go_enter Tryz.func180, Tryz.ntmps180
        go_wp2_with fail
        refine (HP.out _ (below_a1 _ _)).mono ?_
        rintro e w1 ⟨rfl, rfl⟩
        rw [hp]
        go_wp2_with fail
        go_ret
        exact ⟨ret_bool (by rw [F.out]; exact HA.out), below_a1 _ _⟩
    · have F := Lib.hid (show cutB c a dim = false by unfold cutB; rw [decide_eq_false (fun h => h1 h.1)]; rfl)
      go_enter Tryz.func180, Tryz.ntmps180
      go_wp2_with fail
      refine (HP.out _ (below_a1 _ _)).mono ?_
      rintro e w1 ⟨rfl, rfl⟩
      rw [hp]
      go_wp2_with fail
      go_ret
      exact ⟨ret_bool F.out.symm, below_a1 _ _⟩
/-- does a vector go to the left? and the error -/
noncomputable def leftR (c : List Int) (a : Int) (x : List Int) : Bool × Int :=
  if cutB c a c.length then (if (dotR c x).2 = 0 then (decide ((dotR c x).1 < a), 0) else (false, (dotR c x).2)) else (false, 90)
def SRel (a b : List Int) (w : World) (i : Value) (wr : World) : Prop := ∃ k : Nat, k ≤ a.length ∧ i = .int .i64 k ∧ a.take k = b.take k ∧ ∃ q, wr = w.drewN q
set_option maxHeartbeats 1000000 in
theorem RSame_any (va vb : Value) (a b : List Int) (lo lo' B B' : Nat) (w : World) (h1 : Seq 1 inC w lo B va a) (h2 : Seq 1 inC w lo' B' vb b) :
    Calls Tryz.prog 24 #[va, vb] w fun e w' => e = .returned (.bool (decide (a = b))) ∧ ∃ q, w' = w.drewN q := by
  obtain ⟨A, ca, rfl, hc1, hc2, hr1, _⟩ := h1
  obtain ⟨A2, cb, rfl, hd1, hd2, hr2, _⟩ := h2
  unfold maxLen at hc2 hd2
  have HR := Lib.hid hr1
  have HR2 := Lib.hid hr2
  by_cases hlen : a.length = b.length
  · have H0 := Lib.hid (show SRel a b w (.int .i64 0) w from ⟨0, Nat.zero_le _, rfl, rfl, 0, rfl⟩)
    obtain ⟨n, hn⟩ : ∃ n, a.length = n := ⟨_, rfl⟩
    have hn2 : b.length = n := by omega
    rw [hn] at hc1 ⊢
    rw [hn2] at hd1 ⊢
    have HN := Lib.hid hn
    have HN2 := Lib.hid hn2
    clear hr1 hr2 hlen hn hn2
    go_enter Tryz.func24, Tryz.ntmps24
    go_wp2
    go_loopw [5] (fun i wr => SRel a b w i wr) (fun i _ => n - (intOf i).toNat)
    case atStart => exact H0.out
    case round =>
      obtain ⟨k, hk, rfl, ht, q, rfl⟩ := hrel
      rw [HN.out] at hk
      have HT := Lib.hid ht
      clear ht H0
      by_cases hlt : k < n
      · obtain ⟨ad, x, rfl, hlo, hb, hx, c1⟩ := rdI HR.out (i := k) (by rw [HN.out]; exact hlt)
        obtain ⟨ad2, y, rfl, hlo2, hb2, hy, d1⟩ := rdI HR2.out (i := k) (by rw [HN2.out]; exact hlt)
        have HX := Lib.hid hx
        have HY := Lib.hid hy
        clear hx hy
        by_cases heq : x = y
        · subst heq
          go_wp2
          go_quiet (fail)
          go_wp2
          exact ⟨⟨k + 1, by rw [HN.out]; omega, by go_num, by rw [take_next HX.out, take_next HY.out, HT.out], _, rfl⟩, by simp [intOf]; omega⟩
        · have F := Lib.hid (show decide (a = b) = false from decide_eq_false (fun e => heq (by have h1 := HX.out; rw [e, HY.out] at h1; exact (Option.some.inj h1).symm)))
          have hb1 : (x != y) = true := by simpa using heq
          clear heq
          go_wp2
          go_quiet (fail)
          go_wp2
          go_ret
          exact ⟨ret_bool F.out.symm, by simp only [World.drewN_drewN]; exact ⟨_, rfl⟩⟩
      · have F := Lib.hid (show decide (a = b) = true from decide_eq_true (by
          have := HT.out
          rw [List.take_of_length_le (by rw [HN.out]; omega), List.take_of_length_le (by rw [HN2.out]; omega)] at this
          exact this))
        go_wp2
        go_ret
        exact ⟨ret_bool F.out.symm, q, rfl⟩
  · have F := Lib.hid (show decide (a = b) = false from decide_eq_false (fun e => hlen (by rw [e])))
    have hne : (a.length == b.length) = false := by simpa using hlen
    clear hlen hr1 hr2
    go_enter Tryz.func24, Tryz.ntmps24
    go_wp2
    go_ret
    exact ⟨ret_bool F.out.symm, 0, rfl⟩
/-- equal cuts -/
def sameC (c : List Int) (a : Int) (d : List Int) (b : Int) : Bool := decide (a = b) && decide (c = d)
end Go.Proofs.YtcaeihfgdlffkaaGreatRRRRDoor.ShpD
