/- copseref13.All, copseref01.Same at slices of ints (lines of SclW, EqlW; printed by mklav.py). -/
import Derived.Test.YtodiipkedhfncaaGreatDoorLevW
import Derived.Deep.QuietTactic
namespace Go.Proofs.YtodiipkedhfncaaGreatDoor.LavA
set_option linter.unusedVariables false
set_option linter.unusedSimpArgs false
open Go.RowKit Base BigM BigW BigZ RptM RptO ScoX SeqM HarmM LevM

theorem take_next' {α : Type} {l : List α} {k : Nat} {x : α} (h : l[k]? = some x) : l.take (k + 1) = l.take k ++ [x] := SeqM.take_next h
theorem ret_bool' {b c : Bool} (h : b = c) : Ending.returned (.bool b) = Ending.returned (.bool c) := by rw [h]
def cellsOf (l : List (Int × Int)) : List Value := l.flatMap fun x => [.int .i64 x.1, .int .i64 x.2]
theorem cells_len (l : List (Int × Int)) : (cellsOf l).length = l.length * 2 := by
  unfold cellsOf
  induction l with
  | nil => rfl
  | cons x r ih => simp only [List.flatMap_cons, List.length_append, ih, List.length_cons, List.length_nil]; omega
theorem cells_at : ∀ (l : List (Int × Int)) (i : Nat) (x : Int × Int), l[i]? = some x → (cellsOf l)[i * 2]? = some (.int .i64 x.1) ∧ (cellsOf l)[i * 2 + 1]? = some (.int .i64 x.2)
  | [], i, x, h => by simp at h
  | y :: r, 0, x, h => by
    simp only [List.getElem?_cons_zero, Option.some.injEq] at h
    subst h
    exact ⟨rfl, rfl⟩
  | y :: r, i + 1, x, h => by
    have ih := cells_at r i x (by simpa using h)
    have e : cellsOf (y :: r) = .int .i64 y.1 :: .int .i64 y.2 :: cellsOf r := rfl
    rw [e, show (i + 1) * 2 = i * 2 + 1 + 1 by omega]
    exact ⟨by simpa using ih.1, by simpa using ih.2⟩
theorem cells_app (a b : List (Int × Int)) : cellsOf (a ++ b) = cellsOf a ++ cellsOf b := by unfold cellsOf; rw [List.flatMap_append]
theorem cells_take : ∀ (l : List (Int × Int)) (k : Nat), cellsOf (l.take k) = (cellsOf l).take (k * 2)
  | [], k => by simp [cellsOf]
  | x :: r, 0 => by simp [cellsOf]
  | x :: r, k + 1 => by
    have e : cellsOf (x :: r) = .int .i64 x.1 :: .int .i64 x.2 :: cellsOf r := rfl
    rw [e, show (k + 1) * 2 = k * 2 + 1 + 1 by omega, List.take_succ_cons, List.take_succ_cons, List.take_succ_cons, ← cells_take r k]
    rfl
theorem cells_drop : ∀ (l : List (Int × Int)) (k : Nat), cellsOf (l.drop k) = (cellsOf l).drop (k * 2)
  | [], k => by simp [cellsOf]
  | x :: r, 0 => by simp [cellsOf]
  | x :: r, k + 1 => by
    have e : cellsOf (x :: r) = .int .i64 x.1 :: .int .i64 x.2 :: cellsOf r := rfl
    rw [e, show (k + 1) * 2 = k * 2 + 1 + 1 by omega, List.drop_succ_cons, List.drop_succ_cons, List.drop_succ_cons, ← cells_drop r k]
/-- each number is one of 64 bits -/
def Fits (l : List (Int × Int)) : Prop := ∀ x ∈ l, Fit x.1 x.2
/-- the slice value reads as these scores, in a block from lo on, below B -/
def Scs (w : World) (lo B : Nat) (v : Value) (l : List (Int × Int)) : Prop :=
  ∃ A cap, v = .slice A l.length cap ∧ l.length ≤ cap ∧ cap ≤ maxLen ∧ Rd w lo B 2 A l.length (cellsOf l) ∧ (A = none → cap = 0)
theorem Scs.below {w w' : World} {lo B : Nat} {v : Value} {l : List (Int × Int)} (h : Scs w lo B v l) (hb : Below B w w') : Scs w' lo B v l := by
  obtain ⟨A, cap, e, h1, h2, h3, h4⟩ := h
  exact ⟨A, cap, e, h1, h2, h3.below hb, h4⟩
theorem Scs.more {w : World} {lo lo' B B' : Nat} {v : Value} {l : List (Int × Int)} (h : Scs w lo B v l) (hl : lo' ≤ lo) (hB : B ≤ B') : Scs w lo' B' v l := by
  obtain ⟨A, cap, e, h1, h2, h3, h4⟩ := h
  exact ⟨A, cap, e, h1, h2, h3.more hl hB, h4⟩
theorem Scs.of_own {w : World} {base : Nat} {e : TypeId} {v : Value} {l : List (Int × Int)} (h : w.ownsRow base e 2 v l.length (cellsOf l)) : Scs w base w.heap.size v l := by
  rcases h.2 with ⟨hv, h0⟩ | ⟨g, cap, cur, hv, hb, hg, hc, hm, _⟩
  · have : l = [] := List.eq_nil_of_length_eq_zero h0
    subst this
    exact ⟨none, 0, hv, Nat.le_refl _, by unfold maxLen; omega, Rd.nil_, fun _ => rfl⟩
  · subst hv
    exact ⟨some ⟨g, 0, none⟩, cap, rfl, hc, hm, Rd.of_own h, fun hh => by cases hh⟩
theorem rd2 {w : World} {lo B : Nat} {A : Option Addr} {l : List (Int × Int)} (h : Rd w lo B 2 A l.length (cellsOf l)) {i : Nat} (hi : i < l.length) :
    ∃ (ad : Addr) (x : Int × Int), A = some ad ∧ lo ≤ ad.block ∧ ad.block < B ∧ l[i]? = some x ∧ w.cell? (ad.add (i * 2)) = some (.int .i64 x.1) ∧ w.cell? ⟨(ad.add (i * 2)).block, (ad.add (i * 2)).off + 1, none⟩ = some (.int .i64 x.2) := by
  obtain ⟨ad, e, hl, hb, hc⟩ := h.2 (by omega)
  have hx : l[i]? = some l[i] := List.getElem?_eq_getElem hi
  obtain ⟨c1, c2⟩ := cells_at l i _ hx
  exact ⟨ad, l[i], e, hl, hb, hx, hc _ _ c1, by rw [add_off _ _ _ (by decide)]; exact hc _ _ c2⟩
def allS (l : List (Int × Int)) : Bool := l.all fun x => isS x.1 x.2
theorem all_at {l : List (Int × Int)} {i : Nat} {x : Int × Int} (h : l[i]? = some x) (hx : isS x.1 x.2 = false) : allS l = false := by
  unfold allS
  rw [List.all_eq_false]
  exact ⟨x, List.mem_of_getElem? h, by rw [hx]; decide⟩
theorem all_next {l : List (Int × Int)} {k : Nat} {x : Int × Int} (h : l[k]? = some x) (h1 : allS (l.take k) = true) (hx : isS x.1 x.2 = true) : allS (l.take (k + 1)) = true := by
  rw [take_next h]
  unfold allS at *
  rw [List.all_append, h1, List.all_cons, hx]; rfl
def allE (l : List (Int × Int)) : Int := if allS l = true then 0 else 130
def AllRel (l : List (Int × Int)) (w : World) (i : Value) (wr : World) : Prop := ∃ k : Nat, k ≤ l.length ∧ i = .int .i64 k ∧ allS (l.take k) = true ∧ Below w.heap.size w wr
set_option maxHeartbeats 1000000 in
theorem RAll_any (v : Value) (l : List (Int × Int)) (lo : Nat) (w : World) (h : Scs w lo w.heap.size v l) (hf : Fits l) :
    Calls Tryz.prog 24 #[v] w fun e w' => e = .returned (.bool (allS l)) ∧ Below w.heap.size w w' := by
  obtain ⟨A, cap, rfl, hc1, hc2, hr, _⟩ := h
  unfold maxLen at hc2
  have HR := Lib.hid hr
  have HF := Lib.hid hf
  have H0 := Lib.hid (show AllRel l w (.int .i64 0) w from ⟨0, Nat.zero_le _, rfl, rfl, Below.refl _ _⟩)
  obtain ⟨n, hn⟩ : ∃ n, l.length = n := ⟨_, rfl⟩
  rw [hn] at hc1 ⊢
  have HN := Lib.hid hn
  clear hr hf hn
  go_enter Tryz.func24, Tryz.ntmps24
  go_wp2
  go_loopw [3] (fun i wr => AllRel l w i wr) (fun i _ => n - (intOf i).toNat)
  case atStart => exact H0.out
  case round =>
    obtain ⟨k, hk, rfl, ht, hbel⟩ := hrel
    rw [HN.out] at hk
    have HT := Lib.hid ht
    have HB := Lib.hid hbel
    clear ht hbel
    by_cases hlt : k < n
    · obtain ⟨ad, x, rfl, hlo, hb, hx, c1, c2⟩ := rd2 (HR.out.below HB.out) (i := k) (by rw [HN.out]; exact hlt)
      have HX := Lib.hid hx
      have hfx := HF.out x (List.mem_of_getElem? hx)
      clear hx
      go_wp2_with fail
      refine (RSIs_any x.1 x.2 _ hfx).mono ?_
      rintro e w1 ⟨rfl, hb1⟩
      have HB1 := Lib.hid (bt hb1 HB.out)
      clear hb1
      cases hi : isS x.1 x.2
      · have F := Lib.hid (show allS l = false from all_at HX.out hi)
        go_wp2
        go_ret
        exact ⟨ret_bool F.out.symm, HB1.out⟩
      · have HI := Lib.hid hi
        clear hi
        go_wp2
        exact ⟨⟨k + 1, by rw [HN.out]; omega, by go_num, all_next HX.out HT.out HI.out, HB1.out⟩, by simp [intOf]; omega⟩
    · have F := Lib.hid (show allS l = true by
        have := HT.out
        rw [List.take_of_length_le (by rw [HN.out]; omega)] at this
        exact this)
      go_wp2
      go_ret
      exact ⟨ret_bool F.out.symm, HB.out⟩
def ERel {α : Type} (a b : List α) (w : World) (i : Value) (wr : World) : Prop := ∃ k : Nat, k ≤ a.length ∧ i = .int .i64 k ∧ a.take k = b.take k ∧ ∃ q, wr = w.drewN q
set_option maxHeartbeats 2000000 in
set_option maxRecDepth 100000 in
theorem RSameI_any (va vb : Value) (a b : List Int) (lo lo' B B' : Nat) (w : World) (h1 : Seq 1 inC w lo B va a) (h2 : Seq 1 inC w lo' B' vb b) :
    Calls Tryz.prog 23 #[va, vb] w fun e w' => e = .returned (.bool (decide (a = b))) ∧ ∃ q, w' = w.drewN q := by
  obtain ⟨A, ca, rfl, hc1, hc2, hr1, _⟩ := h1
  obtain ⟨A2, cb, rfl, hd1, hd2, hr2, _⟩ := h2
  unfold maxLen at hc2 hd2
  have HR := Lib.hid hr1
  have HR2 := Lib.hid hr2
  by_cases hlen : a.length = b.length
  · have H0 := Lib.hid (show ERel a b w (.int .i64 0) w from ⟨0, Nat.zero_le _, rfl, rfl, 0, rfl⟩)
    obtain ⟨n, hn⟩ : ∃ n, a.length = n := ⟨_, rfl⟩
    have hn2 : b.length = n := by omega
    rw [hn] at hc1 ⊢
    rw [hn2] at hd1 ⊢
    have HN := Lib.hid hn
    have HN2 := Lib.hid hn2
    clear hr1 hr2 hlen hn hn2
    go_enter Tryz.func23, Tryz.ntmps23
    go_wp2
    go_loopw [5] (fun i wr => ERel a b w i wr) (fun i _ => n - (intOf i).toNat)
    case atStart => exact H0.out
    case round =>
      obtain ⟨k, hk, rfl, ht, q, rfl⟩ := hrel
      rw [HN.out] at hk
      have HT := Lib.hid ht
      clear ht H0
      by_cases hlt : k < n
      · obtain ⟨ad, x, rfl, hlo, hb, hx, c1⟩ := rdI HR.out (i := k) (by rw [HN.out]; exact hlt)
        obtain ⟨ad2, y, rfl, hlo2, hb2, hy, d1⟩ := rdI HR2.out (i := k) (by rw [HN2.out]; exact hlt)
        have HX := Lib.hid hx
        have HY := Lib.hid hy
        clear hx hy
        by_cases heq : x = y
        · subst heq
          go_wp2
          go_quiet (fail)
          go_wp2
          exact ⟨⟨k + 1, by rw [HN.out]; omega, by go_num, by rw [take_next' HX.out, take_next' HY.out, HT.out], _, rfl⟩, by simp [intOf]; omega⟩
        · have F := Lib.hid (show decide (a = b) = false from decide_eq_false (fun e => heq (by have h1 := HX.out; rw [e, HY.out] at h1; exact (Option.some.inj h1).symm)))
          have hb1 : (x != y) = true := by simpa using heq
          clear heq
          go_wp2
          go_quiet (fail)
          go_wp2
          go_ret
          exact ⟨ret_bool' F.out.symm, by simp only [World.drewN_drewN]; exact ⟨_, rfl⟩⟩
      · have F := Lib.hid (show decide (a = b) = true from decide_eq_true (by
          have := HT.out
          rw [List.take_of_length_le (by rw [HN.out]; omega), List.take_of_length_le (by rw [HN2.out]; omega)] at this
          exact this))
        go_wp2
        go_ret
        exact ⟨ret_bool' F.out.symm, q, rfl⟩
  · have F := Lib.hid (show decide (a = b) = false from decide_eq_false (fun e => hlen (by rw [e])))
    have hne : (a.length == b.length) = false := by simpa using hlen
    clear hlen hr1 hr2
    go_enter Tryz.func23, Tryz.ntmps23
    go_wp2
    go_ret
    exact ⟨ret_bool' F.out.symm, 0, rfl⟩
theorem scs_seq {w : World} {lo B : Nat} {v : Value} {l : List (Int × Int)} (h : Seq 2 scC w lo B v l) : Scs w lo B v l := h
end Go.Proofs.YtodiipkedhfncaaGreatDoor.LavA
