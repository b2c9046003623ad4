/- Trees in memory; tree.leaf, logs. -/
import Derived.Test.YtmmgfelifmdnbaaDoorShpD
import Derived.Test.YtmmgfelifmdnbaaDoorShelf
namespace Go.Proofs.YtmmgfelifmdnbaaDoor.ShpT
set_option linter.unusedVariables false
open Go.RowKit Base SeqM ShpM ShpV ShpW ShpD

/-- a node in memory: the slice that holds its coefficients, and what it tells -/
def ndC (r : Value × Nd) : List Value := [r.1, .int .i64 r.2.at_, .int .i64 r.2.left, .int .i64 r.2.right, .int .i64 r.2.size]
theorem ndC_len (r : Value × Nd) : (ndC r).length = 5 := rfl
/-- a slice of nodes -/
def Nds (w : World) (lo B : Nat) (v : Value) (l : List Nd) : Prop := ∃ rs : List (Value × Nd), rs.map (·.2) = l ∧ Seq 5 ndC w lo B v rs ∧ ∀ r ∈ rs, Seq 1 inC w lo B r.1 r.2.coef
theorem Nds.below {w w' : World} {lo B : Nat} {v : Value} {l : List Nd} (h : Nds w lo B v l) (hb : Below B w w') : Nds w' lo B v l := by
  obtain ⟨rs, h1, h2, h3⟩ := h
  exact ⟨rs, h1, h2.below hb, fun r hr => (h3 r hr).below hb⟩
theorem Nds.more {w : World} {lo lo' B B' : Nat} {v : Value} {l : List Nd} (h : Nds w lo B v l) (hl : lo' ≤ lo) (hB : B ≤ B') : Nds w lo' B' v l := by
  obtain ⟨rs, h1, h2, h3⟩ := h
  exact ⟨rs, h1, h2.more hl hB, fun r hr => (h3 r hr).more hl hB⟩
theorem Nds.up {w w' : World} {lo : Nat} {v : Value} {l : List Nd} (h : Nds w lo w.heap.size v l) (hb : Below w.heap.size w w') : Nds w' lo w'.heap.size v l := (h.below hb).more (Nat.le_refl _) hb.size
theorem Nds.form {w : World} {lo B : Nat} {v : Value} {l : List Nd} (h : Nds w lo B v l) : ∃ A cap, v = .slice A l.length cap ∧ l.length ≤ cap ∧ cap ≤ 9223372036854775807 ∧ (A = none → cap = 0) := by
  obtain ⟨rs, rfl, ⟨A, cap, e, h1, h2, _, h4⟩, _⟩ := h
  unfold maxLen at h2
  exact ⟨A, cap, by simpa using e, by simpa using h1, by omega, h4⟩
/-- a node of a slice -/
theorem Nds.get {w : World} {lo B : Nat} {A : Option Addr} {n cap : Nat} {l : List Nd} (h : Nds w lo B (.slice A n cap) l) {i : Nat} {x : Nd} (hx : l[i]? = some x) :
    ∃ (ad : Addr) (cv : Value), A = some ad ∧ ad.block < B ∧ w.cell? (ad.add (i * 5)) = some cv ∧ w.cell? ⟨(ad.add (i * 5)).block, (ad.add (i * 5)).off + 1, none⟩ = some (.int .i64 x.at_) ∧
      w.cell? ⟨(ad.add (i * 5)).block, (ad.add (i * 5)).off + 2, none⟩ = some (.int .i64 x.left) ∧ w.cell? ⟨(ad.add (i * 5)).block, (ad.add (i * 5)).off + 3, none⟩ = some (.int .i64 x.right) ∧
      w.cell? ⟨(ad.add (i * 5)).block, (ad.add (i * 5)).off + 4, none⟩ = some (.int .i64 x.size) ∧ Seq 1 inC w lo B cv x.coef := by
  obtain ⟨rs, rfl, ⟨A', cap', e, _, _, hr, _⟩, hc⟩ := h
  obtain ⟨rfl, _⟩ : A = A' ∧ True := by injection e with e1; exact ⟨e1, trivial⟩
  rw [List.getElem?_map] at hx
  obtain ⟨r, hr1, rfl⟩ := Option.map_eq_some_iff.1 hx
  obtain ⟨ad, y, rfl, _, hb, hy, hcell⟩ := rdk ndC_len hr (List.getElem?_eq_some_iff.1 hr1).1
  rw [hr1] at hy
  obtain rfl := Option.some.inj hy
  refine ⟨ad, r.1, rfl, hb, hcell 0 _ rfl, ?_, ?_, ?_, ?_, hc r (List.mem_of_getElem? hr1)⟩ <;> rw [add_off _ _ _ (by decide)]
  · exact hcell 1 _ rfl
  · exact hcell 2 _ rfl
  · exact hcell 3 _ rfl
  · exact hcell 4 _ rfl
def leafB (x : Nd) : Bool := decide (x.left = 0 ∧ x.right = 0 ∧ x.coef = [] ∧ x.at_ = 0 ∧ 1 ≤ x.size)
/-- a node as a value -/
def ndV (cv : Value) (x : Nd) : Value := .agg #[cv, .int .i64 x.at_, .int .i64 x.left, .int .i64 x.right, .int .i64 x.size]
theorem leafB_no {x : Nd} (h : ¬ (x.left = 0 ∧ x.right = 0 ∧ x.coef = [] ∧ x.at_ = 0 ∧ 1 ≤ x.size)) : leafB x = false := decide_eq_false h
set_option maxHeartbeats 1000000 in
set_option maxRecDepth 100000 in
theorem leaf_any (A : Option Addr) (cap : Nat) (x : Nd) (w : World) :
    Calls Tryd.prog 53 #[ndV (.slice A x.coef.length cap) x] w fun e w' => e = .returned (.bool (leafB x)) ∧ Below w.heap.size w w' := by
  unfold ndV
  by_cases h1 : x.left = 0
  · have b1 : (x.left == 0) = true := by simpa using h1
    by_cases h2 : x.right = 0
    · have b2 : (x.right == 0) = true := by simpa using h2
      by_cases h3 : x.coef = []
      · have b3 : x.coef.length = 0 := by rw [h3]; rfl
        by_cases h4 : x.at_ = 0
        · have b4 : (x.at_ == 0) = true := by simpa using h4
          have F := Lib.hid (show leafB x = decide (1 ≤ x.size) by unfold leafB; simp [h1, h2, h3, h4])
          clear h1 h2 h3 h4
          go_enter Tryd.func53, Tryd.ntmps53
          go_wp2_with fail
          go_ret
          exact ⟨ret_bool F.out.symm, below_a1 _ _⟩
        · have b4 : (x.at_ == 0) = false := by simpa using h4
          have F := Lib.hid (leafB_no (x := x) (fun h => h4 h.2.2.2.1))
          clear h1 h2 h3 h4
          go_enter Tryd.func53, Tryd.ntmps53
          go_wp2_with fail
          go_ret
          exact ⟨ret_bool F.out.symm, below_a1 _ _⟩
      · have F := Lib.hid (leafB_no (x := x) (fun h => h3 h.2.2.1))
        obtain ⟨n, hn⟩ : ∃ n, x.coef.length = n + 1 := ⟨x.coef.length - 1, by have := List.length_pos_iff.2 h3; omega⟩
        rw [hn]
        have b3 : (((n + 1 : Nat) : Int) == 0) = false := by rw [beq_eq_false_iff_ne]; omega
        clear h1 h2 h3 hn
        go_enter Tryd.func53, Tryd.ntmps53
        go_wp2_with fail
        go_ret
        exact ⟨ret_bool F.out.symm, below_a1 _ _⟩
    · have b2 : (x.right == 0) = false := by simpa using h2
      have F := Lib.hid (leafB_no (x := x) (fun h => h2 h.2.1))
      clear h1 h2
      go_enter Tryd.func53, Tryd.ntmps53
      go_wp2_with fail
      go_ret
      exact ⟨ret_bool F.out.symm, below_a1 _ _⟩
  · have b1 : (x.left == 0) = false := by simpa using h1
    have F := Lib.hid (leafB_no (x := x) (fun h => h1 h.1))
    clear h1
    go_enter Tryd.func53, Tryd.ntmps53
    go_wp2_with fail
    go_ret
    exact ⟨ret_bool F.out.symm, below_a1 _ _⟩
/-! ### Logs -/
theorem lg_cases {n : Int} (h1 : 1 ≤ n) (h2 : n ≤ 64) : n ≤ (2 : Int) ^ lg n ∧ (0 < lg n → (2 : Int) ^ (lg n - 1) < n) ∧ lg n ≤ 6 := by
  unfold lg
  split
  · simp; omega
  split
  · simp; omega
  split
  · simp; omega
  split
  · simp; omega
  split
  · simp; omega
  split
  · simp; omega
  · simp; omega
theorem bitLen_lg : ∀ k : Fin 64, ((Lib.bitLen k.val : Nat)) = lg ((k.val : Int) + 1) := by decide +kernel
theorem pow_le2 {a b : Nat} (h : a ≤ b) : (2 : Int) ^ a ≤ (2 : Int) ^ b := by
  have := Nat.pow_le_pow_right (n := 2) (by omega) h
  exact_mod_cast this
theorem lg_up {n : Int} {j : Nat} (h1 : 1 ≤ n) (h2 : n ≤ 64) (h : (2 : Int) ^ j < n) : j + 1 ≤ lg n := by
  obtain ⟨a, _, _⟩ := lg_cases h1 h2
  rcases Nat.lt_or_ge j (lg n) with h' | h'
  · exact h'
  · have := pow_le2 h'; omega
theorem lg_eq {n : Int} {j : Nat} (h1 : 1 ≤ n) (h2 : n ≤ 64) (h : ¬ (2 : Int) ^ j < n) (hj : j ≤ lg n) : j = lg n := by
  obtain ⟨_, b, _⟩ := lg_cases h1 h2
  rcases Nat.lt_or_ge j (lg n) with h' | h'
  · have := b (by omega)
    have := pow_le2 (show j ≤ lg n - 1 by omega)
    omega
  · omega
set_option maxRecDepth 100000 in
theorem Log_any (n : Int) (w : World) (h1 : 1 ≤ n) (h2 : n ≤ 64) :
    Calls Tryd.prog 55 #[.int .i64 n] w fun e w' => e = .returned (.int .i64 (lg n)) ∧ w = w' := by
  by_cases h : n ≤ 1
  · obtain rfl : n = 1 := by omega
    go_enter Tryd.func55, Tryd.ntmps55
    go_wp2
    go_ret
    exact ⟨rfl, rfl⟩
  · obtain ⟨k, hk⟩ : ∃ k : Nat, n = (k : Int) + 1 := ⟨(n - 1).toNat, by omega⟩
    subst hk
    have HL := Lib.hid (Tryd.bits_Len64 (k : Int) w (by omega) (by omega))
    have F := Lib.hid (bitLen_lg ⟨k, by omega⟩)
    go_enter Tryd.func55, Tryd.ntmps55
    go_wp2_with fail
    refine HL.out.mono ?_
    rintro e w1 ⟨rfl, rfl⟩
    rw [Int.toNat_natCast, F.out]
    go_wp2_with fail
    go_ret
    exact ⟨rfl, rfl⟩
def LRel (n : Int) (w : World) (k p : Value) (wr : World) : Prop := ∃ j : Nat, j ≤ lg n ∧ j ≤ 6 ∧ k = .int .i64 j ∧ p = .int .i64 ((2 : Int) ^ j) ∧ w = wr
set_option maxHeartbeats 1000000 in
set_option maxRecDepth 100000 in
theorem RLog_any (n : Int) (w : World) (h1 : 1 ≤ n) (h2 : n ≤ 64) :
    Calls Tryd.prog 38 #[.int .i64 n] w fun e w' => e = .returned (.int .i64 (lg n)) ∧ w = w' := by
  have H0 := Lib.hid (show LRel n w (.int .i64 0) (.int .i64 1) w from ⟨0, by omega, by omega, rfl, rfl, rfl⟩)
  go_enter Tryd.func38, Tryd.ntmps38
  go_wp2_with fail
  go_loopw [3, 4] (fun k p wr => LRel n w k p wr) (fun k _ _ => 7 - (intOf k).toNat)
  case atStart => exact H0.out
  case round =>
    obtain ⟨j, hj, hj6, rfl, rfl, rfl⟩ := hrel
    have HJ := Lib.hid hj
    have HUP := Lib.hid (fun h => lg_up (j := j) h1 h2 h)
    have HEQ := Lib.hid (fun h => lg_eq (j := j) h1 h2 h hj)
    have h6 := lg_cases h1 h2
    have hp6 := pow_le2 hj6
    have hp1 := pow_le2 (Nat.zero_le j)
    have HP2 := Lib.hid (show (2 : Int) ^ (j + 1) = 2 ^ j * 2 from Int.pow_succ 2 j)
    obtain ⟨P, hP⟩ : ∃ P : Int, (2 : Int) ^ j = P := ⟨_, rfl⟩
    rw [hP] at HUP HEQ HP2 hp6 hp1 ⊢
    have hp64 : P ≤ 64 := by simpa using hp6
    have hp0 : 1 ≤ P := by simpa using hp1
    have HLG := Lib.hid h6.2.2
    clear hj hp6 hp1 hP h6 H0
    by_cases hlt : P < n
    · have HN := Lib.hid (HUP.out hlt)
      go_wp2_with fail
      exact ⟨⟨j + 1, HN.out, by have := HN.out; have := HLG.out; omega, by go_num, by rw [HP2.out], rfl⟩, by simp [intOf]; omega⟩
    · have HN := Lib.hid (HEQ.out hlt)
      go_wp2_with fail
      go_ret
      exact ⟨ret_int (by rw [← HN.out]), rfl⟩
end Go.Proofs.YtmmgfelifmdnbaaDoor.ShpT
