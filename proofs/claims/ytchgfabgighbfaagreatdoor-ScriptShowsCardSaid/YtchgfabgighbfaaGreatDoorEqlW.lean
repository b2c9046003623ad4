/- Rows that are equal: slices.Equal at three types, and the reference's Same thrice (printed by mkeq.py). -/
import Derived.Test.YtchgfabgighbfaaGreatDoorSeqM
import Derived.Test.YtchgfabgighbfaaGreatDoorScrP
import Derived.Test.YtchgfabgighbfaaGreatDoorRows
namespace Go.Proofs.YtchgfabgighbfaaGreatDoor.EqlW
set_option linter.unusedVariables false
open Go.RowKit Base SeqM ScrM

def u6C (x : Nat) : List Value := [.int .u64 (x : Int)]
def kpC (x : Int × Int) : List Value := [.int .i64 x.1, .int .i64 x.2]
theorem inC_len' : ∀ x, (inC x).length = 1 := fun _ => rfl
theorem u6C_len : ∀ x, (u6C x).length = 1 := fun _ => rfl
theorem kpC_len : ∀ x, (kpC x).length = 2 := fun _ => rfl
theorem rdU {w : World} {lo B : Nat} {A : Option Addr} {l : List Nat} (h : Rd w lo B 1 A l.length (l.flatMap u6C)) {i : Nat} (hi : i < l.length) :
    ∃ (ad : Addr) (x : Nat), A = some ad ∧ lo ≤ ad.block ∧ ad.block < B ∧ l[i]? = some x ∧ w.cell? (ad.add i) = some (.int .u64 (x : Int)) := by
  obtain ⟨ad, x, e, h1, h2, hx, hc⟩ := rdk u6C_len h hi
  exact ⟨ad, x, e, h1, h2, hx, by simpa using hc 0 _ rfl⟩
theorem rdP {w : World} {lo B : Nat} {A : Option Addr} {l : List (Int × Int)} (h : Rd w lo B 2 A l.length (l.flatMap kpC)) {i : Nat} (hi : i < l.length) :
    ∃ (ad : Addr) (x : Int × Int), A = some ad ∧ lo ≤ ad.block ∧ ad.block < B ∧ l[i]? = some x ∧ w.cell? (ad.add (i * 2)) = some (.int .i64 x.1) ∧ w.cell? ⟨(ad.add (i * 2)).block, (ad.add (i * 2)).off + 1, none⟩ = some (.int .i64 x.2) := by
  obtain ⟨ad, x, e, h1, h2, hx, hc⟩ := rdk kpC_len h hi
  have h0 := hc 0 _ rfl
  have h1' := hc 1 _ rfl
  rw [Nat.add_zero] at h0
  refine ⟨ad, x, e, h1, h2, hx, h0, ?_⟩
  rw [add_off _ _ _ (by decide)]
  exact h1'
def ERel {α : Type} (a b : List α) (w : World) (i : Value) (wr : World) : Prop := ∃ k : Nat, k ≤ a.length ∧ i = .int .i64 k ∧ a.take k = b.take k ∧ ∃ q, wr = w.drewN q
theorem take_next' {α : Type} {l : List α} {k : Nat} {x : α} (h : l[k]? = some x) : l.take (k + 1) = l.take k ++ [x] := by rw [List.take_add_one, h]; rfl
theorem ret_bool' {b c : Bool} (h : b = c) : Ending.returned (.bool b) = Ending.returned (.bool c) := by rw [h]
set_option maxHeartbeats 2000000 in
set_option maxRecDepth 100000 in
theorem EqI_any (va vb : Value) (a b : List Int) (lo lo' B B' : Nat) (w : World) (h1 : Seq 1 inC w lo B va a) (h2 : Seq 1 inC w lo' B' vb b) :
    Calls Tryz.prog 49 #[va, vb] w fun e w' => e = .returned (.bool (decide (a = b))) ∧ ∃ q, w' = w.drewN q := by
  obtain ⟨A, ca, rfl, hc1, hc2, hr1, _⟩ := h1
  obtain ⟨A2, cb, rfl, hd1, hd2, hr2, _⟩ := h2
  unfold maxLen at hc2 hd2
  have HR := Lib.hid hr1
  have HR2 := Lib.hid hr2
  by_cases hlen : a.length = b.length
  · have H0 := Lib.hid (show ERel a b w (.int .i64 0) w from ⟨0, Nat.zero_le _, rfl, rfl, 0, rfl⟩)
    obtain ⟨n, hn⟩ : ∃ n, a.length = n := ⟨_, rfl⟩
    have hn2 : b.length = n := by omega
    rw [hn] at hc1 ⊢
    rw [hn2] at hd1 ⊢
    have HN := Lib.hid hn
    have HN2 := Lib.hid hn2
    clear hr1 hr2 hlen hn hn2
    go_enter Tryz.func49, Tryz.ntmps49
    go_wp2
    go_loopw [13] (fun i wr => ERel a b w i wr) (fun i _ => n - (intOf i).toNat)
    case atStart => exact H0.out
    case round =>
      obtain ⟨k, hk, rfl, ht, q, rfl⟩ := hrel
      rw [HN.out] at hk
      have HT := Lib.hid ht
      clear ht H0
      by_cases hlt : k < n
      · obtain ⟨ad, x, rfl, hlo, hb, hx, c1⟩ := rdI HR.out (i := k) (by rw [HN.out]; exact hlt)
        obtain ⟨ad2, y, rfl, hlo2, hb2, hy, d1⟩ := rdI HR2.out (i := k) (by rw [HN2.out]; exact hlt)
        have HX := Lib.hid hx
        have HY := Lib.hid hy
        clear hx hy
        by_cases heq : x = y
        · subst heq
          go_wp2
          go_quiet (fail)
          go_wp2
          exact ⟨⟨k + 1, by rw [HN.out]; omega, by go_num, by rw [take_next' HX.out, take_next' HY.out, HT.out], _, rfl⟩, by simp [intOf]; omega⟩
        · have F := Lib.hid (show decide (a = b) = false from decide_eq_false (fun e => heq (by have h1 := HX.out; rw [e, HY.out] at h1; exact (Option.some.inj h1).symm)))
          have hb1 : (x != y) = true := by simpa using heq
          clear heq
          go_wp2
          go_quiet (fail)
          go_wp2
          go_ret
          exact ⟨ret_bool' F.out.symm, by simp only [World.drewN_drewN]; exact ⟨_, rfl⟩⟩
      · have F := Lib.hid (show decide (a = b) = true from decide_eq_true (by
          have := HT.out
          rw [List.take_of_length_le (by rw [HN.out]; omega), List.take_of_length_le (by rw [HN2.out]; omega)] at this
          exact this))
        go_wp2
        go_ret
        exact ⟨ret_bool' F.out.symm, q, rfl⟩
  · have F := Lib.hid (show decide (a = b) = false from decide_eq_false (fun e => hlen (by rw [e])))
    have hne : (a.length == b.length) = false := by simpa using hlen
    clear hlen hr1 hr2
    go_enter Tryz.func49, Tryz.ntmps49
    go_wp2
    go_ret
    exact ⟨ret_bool' F.out.symm, 0, rfl⟩
set_option maxHeartbeats 2000000 in
set_option maxRecDepth 100000 in
theorem EqU_any (va vb : Value) (a b : List Nat) (lo lo' B B' : Nat) (w : World) (h1 : Seq 1 u6C w lo B va a) (h2 : Seq 1 u6C w lo' B' vb b) :
    Calls Tryz.prog 27 #[va, vb] w fun e w' => e = .returned (.bool (decide (a = b))) ∧ ∃ q, w' = w.drewN q := by
  obtain ⟨A, ca, rfl, hc1, hc2, hr1, _⟩ := h1
  obtain ⟨A2, cb, rfl, hd1, hd2, hr2, _⟩ := h2
  unfold maxLen at hc2 hd2
  have HR := Lib.hid hr1
  have HR2 := Lib.hid hr2
  by_cases hlen : a.length = b.length
  · have H0 := Lib.hid (show ERel a b w (.int .i64 0) w from ⟨0, Nat.zero_le _, rfl, rfl, 0, rfl⟩)
    obtain ⟨n, hn⟩ : ∃ n, a.length = n := ⟨_, rfl⟩
    have hn2 : b.length = n := by omega
    rw [hn] at hc1 ⊢
    rw [hn2] at hd1 ⊢
    have HN := Lib.hid hn
    have HN2 := Lib.hid hn2
    clear hr1 hr2 hlen hn hn2
    go_enter Tryz.func27, Tryz.ntmps27
    go_wp2
    go_loopw [13] (fun i wr => ERel a b w i wr) (fun i _ => n - (intOf i).toNat)
    case atStart => exact H0.out
    case round =>
      obtain ⟨k, hk, rfl, ht, q, rfl⟩ := hrel
      rw [HN.out] at hk
      have HT := Lib.hid ht
      clear ht H0
      by_cases hlt : k < n
      · obtain ⟨ad, x, rfl, hlo, hb, hx, c1⟩ := rdU HR.out (i := k) (by rw [HN.out]; exact hlt)
        obtain ⟨ad2, y, rfl, hlo2, hb2, hy, d1⟩ := rdU HR2.out (i := k) (by rw [HN2.out]; exact hlt)
        have HX := Lib.hid hx
        have HY := Lib.hid hy
        clear hx hy
        by_cases heq : x = y
        · subst heq
          go_wp2
          go_quiet (fail)
          go_wp2
          exact ⟨⟨k + 1, by rw [HN.out]; omega, by go_num, by rw [take_next' HX.out, take_next' HY.out, HT.out], _, rfl⟩, by simp [intOf]; omega⟩
        · have F := Lib.hid (show decide (a = b) = false from decide_eq_false (fun e => heq (by have h1 := HX.out; rw [e, HY.out] at h1; exact (Option.some.inj h1).symm)))
          have hb1 : ((x : Int) != (y : Int)) = true := bne_iff_ne.2 (by omega)
          clear heq
          go_wp2
          go_quiet (fail)
          go_wp2
          go_ret
          exact ⟨ret_bool' F.out.symm, by simp only [World.drewN_drewN]; exact ⟨_, rfl⟩⟩
      · have F := Lib.hid (show decide (a = b) = true from decide_eq_true (by
          have := HT.out
          rw [List.take_of_length_le (by rw [HN.out]; omega), List.take_of_length_le (by rw [HN2.out]; omega)] at this
          exact this))
        go_wp2
        go_ret
        exact ⟨ret_bool' F.out.symm, q, rfl⟩
  · have F := Lib.hid (show decide (a = b) = false from decide_eq_false (fun e => hlen (by rw [e])))
    have hne : (a.length == b.length) = false := by simpa using hlen
    clear hlen hr1 hr2
    go_enter Tryz.func27, Tryz.ntmps27
    go_wp2
    go_ret
    exact ⟨ret_bool' F.out.symm, 0, rfl⟩
set_option maxHeartbeats 2000000 in
set_option maxRecDepth 100000 in
theorem EqK_any (va vb : Value) (a b : List (Int × Int)) (lo lo' B B' : Nat) (w : World) (h1 : Seq 2 kpC w lo B va a) (h2 : Seq 2 kpC w lo' B' vb b) :
    Calls Tryz.prog 28 #[va, vb] w fun e w' => e = .returned (.bool (decide (a = b))) ∧ ∃ q, w' = w.drewN q := by
  obtain ⟨A, ca, rfl, hc1, hc2, hr1, _⟩ := h1
  obtain ⟨A2, cb, rfl, hd1, hd2, hr2, _⟩ := h2
  unfold maxLen at hc2 hd2
  have HR := Lib.hid hr1
  have HR2 := Lib.hid hr2
  by_cases hlen : a.length = b.length
  · have H0 := Lib.hid (show ERel a b w (.int .i64 0) w from ⟨0, Nat.zero_le _, rfl, rfl, 0, rfl⟩)
    obtain ⟨n, hn⟩ : ∃ n, a.length = n := ⟨_, rfl⟩
    have hn2 : b.length = n := by omega
    rw [hn] at hc1 ⊢
    rw [hn2] at hd1 ⊢
    have HN := Lib.hid hn
    have HN2 := Lib.hid hn2
    clear hr1 hr2 hlen hn hn2
    go_enter Tryz.func28, Tryz.ntmps28
    go_wp2
    go_loopw [13] (fun i wr => ERel a b w i wr) (fun i _ => n - (intOf i).toNat)
    case atStart => exact H0.out
    case round =>
      obtain ⟨k, hk, rfl, ht, q, rfl⟩ := hrel
      rw [HN.out] at hk
      have HT := Lib.hid ht
      clear ht H0
      by_cases hlt : k < n
      · obtain ⟨ad, x, rfl, hlo, hb, hx, c1, c2⟩ := rdP HR.out (i := k) (by rw [HN.out]; exact hlt)
        obtain ⟨ad2, y, rfl, hlo2, hb2, hy, d1, d2⟩ := rdP HR2.out (i := k) (by rw [HN2.out]; exact hlt)
        have HX := Lib.hid hx
        have HY := Lib.hid hy
        clear hx hy
        obtain ⟨x1, x2⟩ := x
        obtain ⟨y1, y2⟩ := y
        dsimp only at c1 c2 d1 d2
        by_cases he1 : x1 = y1
        · by_cases he2 : x2 = y2
          · subst he1 he2
            go_wp2
            go_quiet (fail)
            go_wp2
            exact ⟨⟨k + 1, by rw [HN.out]; omega, by go_num, by rw [take_next' HX.out, take_next' HY.out, HT.out], _, rfl⟩, by simp [intOf]; omega⟩
          · have F := Lib.hid (show decide (a = b) = false from decide_eq_false (fun e => he2 (by have h1 := HX.out; rw [e, HY.out] at h1; injection h1 with h1; injection h1 with _ h1; exact h1.symm)))
            have hb1 : (x2 != y2) = true := bne_iff_ne.2 he2
            have hb2 : (x2 == y2) = false := beq_eq_false_iff_ne.2 he2
            have hb3 : (x1 == y1) = true := beq_iff_eq.2 he1
            have hb4 : (x1 != y1) = false := by rw [bne, hb3]; rfl
            clear he1 he2
            go_wp2
            go_quiet (fail)
            go_wp2
            go_ret
            exact ⟨ret_bool' F.out.symm, by simp only [World.drewN_drewN]; exact ⟨_, rfl⟩⟩
        · have F := Lib.hid (show decide (a = b) = false from decide_eq_false (fun e => he1 (by have h1 := HX.out; rw [e, HY.out] at h1; injection h1 with h1; injection h1 with h1 _; exact h1.symm)))
          have hb1 : (x1 != y1) = true := bne_iff_ne.2 he1
          have hb2 : (x1 == y1) = false := beq_eq_false_iff_ne.2 he1
          clear he1
          go_wp2
          go_quiet (fail)
          go_wp2
          go_ret
          exact ⟨ret_bool' F.out.symm, by simp only [World.drewN_drewN]; exact ⟨_, rfl⟩⟩
      · have F := Lib.hid (show decide (a = b) = true from decide_eq_true (by
          have := HT.out
          rw [List.take_of_length_le (by rw [HN.out]; omega), List.take_of_length_le (by rw [HN2.out]; omega)] at this
          exact this))
        go_wp2
        go_ret
        exact ⟨ret_bool' F.out.symm, q, rfl⟩
  · have F := Lib.hid (show decide (a = b) = false from decide_eq_false (fun e => hlen (by rw [e])))
    have hne : (a.length == b.length) = false := by simpa using hlen
    clear hlen hr1 hr2
    go_enter Tryz.func28, Tryz.ntmps28
    go_wp2
    go_ret
    exact ⟨ret_bool' F.out.symm, 0, rfl⟩
set_option maxHeartbeats 2000000 in
set_option maxRecDepth 100000 in
theorem RSameI_any (va vb : Value) (a b : List Int) (lo lo' B B' : Nat) (w : World) (h1 : Seq 1 inC w lo B va a) (h2 : Seq 1 inC w lo' B' vb b) :
    Calls Tryz.prog 50 #[va, vb] w fun e w' => e = .returned (.bool (decide (a = b))) ∧ ∃ q, w' = w.drewN q := by
  obtain ⟨A, ca, rfl, hc1, hc2, hr1, _⟩ := h1
  obtain ⟨A2, cb, rfl, hd1, hd2, hr2, _⟩ := h2
  unfold maxLen at hc2 hd2
  have HR := Lib.hid hr1
  have HR2 := Lib.hid hr2
  by_cases hlen : a.length = b.length
  · have H0 := Lib.hid (show ERel a b w (.int .i64 0) w from ⟨0, Nat.zero_le _, rfl, rfl, 0, rfl⟩)
    obtain ⟨n, hn⟩ : ∃ n, a.length = n := ⟨_, rfl⟩
    have hn2 : b.length = n := by omega
    rw [hn] at hc1 ⊢
    rw [hn2] at hd1 ⊢
    have HN := Lib.hid hn
    have HN2 := Lib.hid hn2
    clear hr1 hr2 hlen hn hn2
    go_enter Tryz.func50, Tryz.ntmps50
    go_wp2
    go_loopw [5] (fun i wr => ERel a b w i wr) (fun i _ => n - (intOf i).toNat)
    case atStart => exact H0.out
    case round =>
      obtain ⟨k, hk, rfl, ht, q, rfl⟩ := hrel
      rw [HN.out] at hk
      have HT := Lib.hid ht
      clear ht H0
      by_cases hlt : k < n
      · obtain ⟨ad, x, rfl, hlo, hb, hx, c1⟩ := rdI HR.out (i := k) (by rw [HN.out]; exact hlt)
        obtain ⟨ad2, y, rfl, hlo2, hb2, hy, d1⟩ := rdI HR2.out (i := k) (by rw [HN2.out]; exact hlt)
        have HX := Lib.hid hx
        have HY := Lib.hid hy
        clear hx hy
        by_cases heq : x = y
        · subst heq
          go_wp2
          go_quiet (fail)
          go_wp2
          exact ⟨⟨k + 1, by rw [HN.out]; omega, by go_num, by rw [take_next' HX.out, take_next' HY.out, HT.out], _, rfl⟩, by simp [intOf]; omega⟩
        · have F := Lib.hid (show decide (a = b) = false from decide_eq_false (fun e => heq (by have h1 := HX.out; rw [e, HY.out] at h1; exact (Option.some.inj h1).symm)))
          have hb1 : (x != y) = true := by simpa using heq
          clear heq
          go_wp2
          go_quiet (fail)
          go_wp2
          go_ret
          exact ⟨ret_bool' F.out.symm, by simp only [World.drewN_drewN]; exact ⟨_, rfl⟩⟩
      · have F := Lib.hid (show decide (a = b) = true from decide_eq_true (by
          have := HT.out
          rw [List.take_of_length_le (by rw [HN.out]; omega), List.take_of_length_le (by rw [HN2.out]; omega)] at this
          exact this))
        go_wp2
        go_ret
        exact ⟨ret_bool' F.out.symm, q, rfl⟩
  · have F := Lib.hid (show decide (a = b) = false from decide_eq_false (fun e => hlen (by rw [e])))
    have hne : (a.length == b.length) = false := by simpa using hlen
    clear hlen hr1 hr2
    go_enter Tryz.func50, Tryz.ntmps50
    go_wp2
    go_ret
    exact ⟨ret_bool' F.out.symm, 0, rfl⟩
set_option maxHeartbeats 2000000 in
set_option maxRecDepth 100000 in
theorem RSameU_any (va vb : Value) (a b : List Nat) (lo lo' B B' : Nat) (w : World) (h1 : Seq 1 u6C w lo B va a) (h2 : Seq 1 u6C w lo' B' vb b) :
    Calls Tryz.prog 30 #[va, vb] w fun e w' => e = .returned (.bool (decide (a = b))) ∧ ∃ q, w' = w.drewN q := by
  obtain ⟨A, ca, rfl, hc1, hc2, hr1, _⟩ := h1
  obtain ⟨A2, cb, rfl, hd1, hd2, hr2, _⟩ := h2
  unfold maxLen at hc2 hd2
  have HR := Lib.hid hr1
  have HR2 := Lib.hid hr2
  by_cases hlen : a.length = b.length
  · have H0 := Lib.hid (show ERel a b w (.int .i64 0) w from ⟨0, Nat.zero_le _, rfl, rfl, 0, rfl⟩)
    obtain ⟨n, hn⟩ : ∃ n, a.length = n := ⟨_, rfl⟩
    have hn2 : b.length = n := by omega
    rw [hn] at hc1 ⊢
    rw [hn2] at hd1 ⊢
    have HN := Lib.hid hn
    have HN2 := Lib.hid hn2
    clear hr1 hr2 hlen hn hn2
    go_enter Tryz.func30, Tryz.ntmps30
    go_wp2
    go_loopw [5] (fun i wr => ERel a b w i wr) (fun i _ => n - (intOf i).toNat)
    case atStart => exact H0.out
    case round =>
      obtain ⟨k, hk, rfl, ht, q, rfl⟩ := hrel
      rw [HN.out] at hk
      have HT := Lib.hid ht
      clear ht H0
      by_cases hlt : k < n
      · obtain ⟨ad, x, rfl, hlo, hb, hx, c1⟩ := rdU HR.out (i := k) (by rw [HN.out]; exact hlt)
        obtain ⟨ad2, y, rfl, hlo2, hb2, hy, d1⟩ := rdU HR2.out (i := k) (by rw [HN2.out]; exact hlt)
        have HX := Lib.hid hx
        have HY := Lib.hid hy
        clear hx hy
        by_cases heq : x = y
        · subst heq
          go_wp2
          go_quiet (fail)
          go_wp2
          exact ⟨⟨k + 1, by rw [HN.out]; omega, by go_num, by rw [take_next' HX.out, take_next' HY.out, HT.out], _, rfl⟩, by simp [intOf]; omega⟩
        · have F := Lib.hid (show decide (a = b) = false from decide_eq_false (fun e => heq (by have h1 := HX.out; rw [e, HY.out] at h1; exact (Option.some.inj h1).symm)))
          have hb1 : ((x : Int) != (y : Int)) = true := bne_iff_ne.2 (by omega)
          clear heq
          go_wp2
          go_quiet (fail)
          go_wp2
          go_ret
          exact ⟨ret_bool' F.out.symm, by simp only [World.drewN_drewN]; exact ⟨_, rfl⟩⟩
      · have F := Lib.hid (show decide (a = b) = true from decide_eq_true (by
          have := HT.out
          rw [List.take_of_length_le (by rw [HN.out]; omega), List.take_of_length_le (by rw [HN2.out]; omega)] at this
          exact this))
        go_wp2
        go_ret
        exact ⟨ret_bool' F.out.symm, q, rfl⟩
  · have F := Lib.hid (show decide (a = b) = false from decide_eq_false (fun e => hlen (by rw [e])))
    have hne : (a.length == b.length) = false := by simpa using hlen
    clear hlen hr1 hr2
    go_enter Tryz.func30, Tryz.ntmps30
    go_wp2
    go_ret
    exact ⟨ret_bool' F.out.symm, 0, rfl⟩
set_option maxHeartbeats 2000000 in
set_option maxRecDepth 100000 in
theorem RSameK_any (va vb : Value) (a b : List (Int × Int)) (lo lo' B B' : Nat) (w : World) (h1 : Seq 2 kpC w lo B va a) (h2 : Seq 2 kpC w lo' B' vb b) :
    Calls Tryz.prog 31 #[va, vb] w fun e w' => e = .returned (.bool (decide (a = b))) ∧ ∃ q, w' = w.drewN q := by
  obtain ⟨A, ca, rfl, hc1, hc2, hr1, _⟩ := h1
  obtain ⟨A2, cb, rfl, hd1, hd2, hr2, _⟩ := h2
  unfold maxLen at hc2 hd2
  have HR := Lib.hid hr1
  have HR2 := Lib.hid hr2
  by_cases hlen : a.length = b.length
  · have H0 := Lib.hid (show ERel a b w (.int .i64 0) w from ⟨0, Nat.zero_le _, rfl, rfl, 0, rfl⟩)
    obtain ⟨n, hn⟩ : ∃ n, a.length = n := ⟨_, rfl⟩
    have hn2 : b.length = n := by omega
    rw [hn] at hc1 ⊢
    rw [hn2] at hd1 ⊢
    have HN := Lib.hid hn
    have HN2 := Lib.hid hn2
    clear hr1 hr2 hlen hn hn2
    go_enter Tryz.func31, Tryz.ntmps31
    go_wp2
    go_loopw [5] (fun i wr => ERel a b w i wr) (fun i _ => n - (intOf i).toNat)
    case atStart => exact H0.out
    case round =>
      obtain ⟨k, hk, rfl, ht, q, rfl⟩ := hrel
      rw [HN.out] at hk
      have HT := Lib.hid ht
      clear ht H0
      by_cases hlt : k < n
      · obtain ⟨ad, x, rfl, hlo, hb, hx, c1, c2⟩ := rdP HR.out (i := k) (by rw [HN.out]; exact hlt)
        obtain ⟨ad2, y, rfl, hlo2, hb2, hy, d1, d2⟩ := rdP HR2.out (i := k) (by rw [HN2.out]; exact hlt)
        have HX := Lib.hid hx
        have HY := Lib.hid hy
        clear hx hy
        obtain ⟨x1, x2⟩ := x
        obtain ⟨y1, y2⟩ := y
        dsimp only at c1 c2 d1 d2
        by_cases he1 : x1 = y1
        · by_cases he2 : x2 = y2
          · subst he1 he2
            go_wp2
            go_quiet (fail)
            go_wp2
            exact ⟨⟨k + 1, by rw [HN.out]; omega, by go_num, by rw [take_next' HX.out, take_next' HY.out, HT.out], _, rfl⟩, by simp [intOf]; omega⟩
          · have F := Lib.hid (show decide (a = b) = false from decide_eq_false (fun e => he2 (by have h1 := HX.out; rw [e, HY.out] at h1; injection h1 with h1; injection h1 with _ h1; exact h1.symm)))
            have hb1 : (x2 != y2) = true := bne_iff_ne.2 he2
            have hb2 : (x2 == y2) = false := beq_eq_false_iff_ne.2 he2
            have hb3 : (x1 == y1) = true := beq_iff_eq.2 he1
            have hb4 : (x1 != y1) = false := by rw [bne, hb3]; rfl
            clear he1 he2
            go_wp2
            go_quiet (fail)
            go_wp2
            go_ret
            exact ⟨ret_bool' F.out.symm, by simp only [World.drewN_drewN]; exact ⟨_, rfl⟩⟩
        · have F := Lib.hid (show decide (a = b) = false from decide_eq_false (fun e => he1 (by have h1 := HX.out; rw [e, HY.out] at h1; injection h1 with h1; injection h1 with h1 _; exact h1.symm)))
          have hb1 : (x1 != y1) = true := bne_iff_ne.2 he1
          have hb2 : (x1 == y1) = false := beq_eq_false_iff_ne.2 he1
          clear he1
          go_wp2
          go_quiet (fail)
          go_wp2
          go_ret
          exact ⟨ret_bool' F.out.symm, by simp only [World.drewN_drewN]; exact ⟨_, rfl⟩⟩
      · have F := Lib.hid (show decide (a = b) = true from decide_eq_true (by
          have := HT.out
          rw [List.take_of_length_le (by rw [HN.out]; omega), List.take_of_length_le (by rw [HN2.out]; omega)] at this
          exact this))
        go_wp2
        go_ret
        exact ⟨ret_bool' F.out.symm, q, rfl⟩
  · have F := Lib.hid (show decide (a = b) = false from decide_eq_false (fun e => hlen (by rw [e])))
    have hne : (a.length == b.length) = false := by simpa using hlen
    clear hlen hr1 hr2
    go_enter Tryz.func31, Tryz.ntmps31
    go_wp2
    go_ret
    exact ⟨ret_bool' F.out.symm, 0, rfl⟩
end Go.Proofs.YtchgfabgighbfaaGreatDoor.EqlW
