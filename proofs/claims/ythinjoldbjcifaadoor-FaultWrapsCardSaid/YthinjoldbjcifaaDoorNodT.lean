/- The reference's Text over nodes (printed by mknodt.py). -/
import Derived.Test.YthinjoldbjcifaaDoorNodS
import Derived.Test.YthinjoldbjcifaaDoorDigW
namespace Go.Proofs.YthinjoldbjcifaaDoor.NodT
set_option linter.unusedVariables false
open Go.RowKit Go.WideElems Base FltM FltW FltX FltI FltH FltC FltT FltS NodM PlayM NodC NodD NodS

set_option maxHeartbeats 2000000 in
set_option maxRecDepth 100000 in
theorem RText_leaf_at (v : Value) (l : List Nd) (lo : Nat) (op : List UInt8) (at_ c : Int) (a b : Int) (i : Nat) (w : World) (h : Seq 6 ndC w lo w.heap.size v l) (hx : l[i]? = some ⟨0, op, at_, c, a, b⟩) (hop : op.length ≤ 100) (ha : Num at_) (hcn : Num c) (hat : 0 ≤ at_) :
    Calls Tryd.prog 23 #[v, .int .i64 i] w fun e w' => e = .returned (.string ⟨(T.leaf op at_ c).text.toArray⟩) ∧ Below w.heap.size w w' := by
  have IC := Lib.hid (fun W => DigW.Digits_any c W hcn.1 hcn.2)
  have lc0 := itoa_len c hcn
  have IA := Lib.hid (fun W => DigW.Digits_any at_ W ha.1 ha.2)
  have la0 := itoa_len at_ ha
  have F := Lib.hid (show (T.leaf op at_ c).text = ((op ++ [32]) ++ Lib.itoa at_) ++ [61] ++ Lib.itoa c by simp only [T.text, headT]; rw [if_pos hat]; simp)
  have hge : decide (0 ≤ at_) = true := by simpa using hat
  have hnl : ¬ at_ < 0 := by omega
  obtain ⟨la, hla⟩ : ∃ l, Lib.itoa at_ = l := ⟨_, rfl⟩
  rw [hla] at IA la0 F
  obtain ⟨l1, hl1⟩ : ∃ l, op ++ [32] = l := ⟨_, rfl⟩
  have zl1 : l1.length = op.length + 1 := by rw [← hl1]; simp
  obtain ⟨hd, hhd⟩ : ∃ l, l1 ++ la = l := ⟨_, rfl⟩
  have zhd : hd.length = l1.length + la.length := by rw [← hhd]; simp
  rw [hl1, hhd] at F
  obtain ⟨l2, hl2⟩ : ∃ l, hd ++ [61] = l := ⟨_, rfl⟩
  have zl2 : l2.length = hd.length + 1 := by rw [← hl2]; simp
  obtain ⟨lc, hlc⟩ : ∃ l, Lib.itoa c = l := ⟨_, rfl⟩
  rw [hlc] at IC lc0 F
  rw [hl2] at F
  obtain ⟨R, hR⟩ : ∃ l, l2 ++ lc = l := ⟨_, rfl⟩
  rw [hR] at F
  have e1 : (⟨op.toArray⟩ : ByteArray) ++ (⟨#[32]⟩ : ByteArray) = ⟨l1.toArray⟩ := cat_eq (op) [32] l1 (by assumption)
  have n1 : ¬ 9223372036854775807 < op.length + 1 := by omega
  have s1 : ¬ 9223372036854775807 < (⟨op.toArray⟩ : ByteArray).size + 1 := by rw [sz]; omega
  have e2 : (⟨l1.toArray⟩ : ByteArray) ++ (⟨la.toArray⟩ : ByteArray) = ⟨hd.toArray⟩ := cat_eq (l1) (la) hd (by assumption)
  have n2 : ¬ 9223372036854775807 < l1.length + la.length := by omega
  have s2 : ¬ 9223372036854775807 < (⟨l1.toArray⟩ : ByteArray).size + (⟨la.toArray⟩ : ByteArray).size := by rw [sz, sz]; omega
  have e3 : (⟨hd.toArray⟩ : ByteArray) ++ (⟨#[61]⟩ : ByteArray) = ⟨l2.toArray⟩ := cat_eq (hd) [61] l2 (by assumption)
  have n3 : ¬ 9223372036854775807 < hd.length + 1 := by omega
  have s3 : ¬ 9223372036854775807 < (⟨hd.toArray⟩ : ByteArray).size + 1 := by rw [sz]; omega
  have e4 : (⟨l2.toArray⟩ : ByteArray) ++ (⟨lc.toArray⟩ : ByteArray) = ⟨R.toArray⟩ := cat_eq (l2) (lc) R (by assumption)
  have n4 : ¬ 9223372036854775807 < l2.length + lc.length := by omega
  have s4 : ¬ 9223372036854775807 < (⟨l2.toArray⟩ : ByteArray).size + (⟨lc.toArray⟩ : ByteArray).size := by rw [sz, sz]; omega
  obtain ⟨A, cap, rfl, hc1, hc2, hr, _⟩ := h
  unfold maxLen at hc2
  obtain ⟨ad, rfl, hlo, hb, hi, c0, c1, c2, c3, c4, c5⟩ := get6 hr hx
  generalize l.length = n at *
  have n0 : ¬ ((i : Int) < 0) := by omega
  dsimp only at c0 c1 c2 c3 c4 c5
  clear hr hx hl2 hR hlc hla hl1 hhd la0 zl1 lc0 hcn ha hop hat
  go_enter Tryd.func23, Tryd.ntmps23
  go_wp2_with fail
  refine (IA.out _).mono ?_
  rintro e w1 ⟨rfl, rfl⟩
  go_wp2_with fail
  refine (IC.out _).mono ?_
  rintro e w2 ⟨rfl, rfl⟩
  go_wp2_with fail
  go_ret
  exact ⟨by rw [F.out]; rfl, Below.refl _ _⟩
set_option maxHeartbeats 2000000 in
set_option maxRecDepth 100000 in
theorem RText_leaf_no (v : Value) (l : List Nd) (lo : Nat) (op : List UInt8) (at_ c : Int) (a b : Int) (i : Nat) (w : World) (h : Seq 6 ndC w lo w.heap.size v l) (hx : l[i]? = some ⟨0, op, at_, c, a, b⟩) (hop : op.length ≤ 100) (ha : Num at_) (hcn : Num c) (hat : at_ < 0) :
    Calls Tryd.prog 23 #[v, .int .i64 i] w fun e w' => e = .returned (.string ⟨(T.leaf op at_ c).text.toArray⟩) ∧ Below w.heap.size w w' := by
  have IC := Lib.hid (fun W => DigW.Digits_any c W hcn.1 hcn.2)
  have lc0 := itoa_len c hcn
  have F := Lib.hid (show (T.leaf op at_ c).text = op ++ [61] ++ Lib.itoa c by simp only [T.text, headT]; rw [if_neg (by omega)]; simp)
  have hge : decide (0 ≤ at_) = false := by simp; omega
  have hnl : ¬ 0 ≤ at_ := by omega
  obtain ⟨l2, hl2⟩ : ∃ l, op ++ [61] = l := ⟨_, rfl⟩
  have zl2 : l2.length = op.length + 1 := by rw [← hl2]; simp
  obtain ⟨lc, hlc⟩ : ∃ l, Lib.itoa c = l := ⟨_, rfl⟩
  rw [hlc] at IC lc0 F
  rw [hl2] at F
  obtain ⟨R, hR⟩ : ∃ l, l2 ++ lc = l := ⟨_, rfl⟩
  rw [hR] at F
  have e3 : (⟨op.toArray⟩ : ByteArray) ++ (⟨#[61]⟩ : ByteArray) = ⟨l2.toArray⟩ := cat_eq (op) [61] l2 (by assumption)
  have n3 : ¬ 9223372036854775807 < op.length + 1 := by omega
  have s3 : ¬ 9223372036854775807 < (⟨op.toArray⟩ : ByteArray).size + 1 := by rw [sz]; omega
  have e4 : (⟨l2.toArray⟩ : ByteArray) ++ (⟨lc.toArray⟩ : ByteArray) = ⟨R.toArray⟩ := cat_eq (l2) (lc) R (by assumption)
  have n4 : ¬ 9223372036854775807 < l2.length + lc.length := by omega
  have s4 : ¬ 9223372036854775807 < (⟨l2.toArray⟩ : ByteArray).size + (⟨lc.toArray⟩ : ByteArray).size := by rw [sz, sz]; omega
  obtain ⟨A, cap, rfl, hc1, hc2, hr, _⟩ := h
  unfold maxLen at hc2
  obtain ⟨ad, rfl, hlo, hb, hi, c0, c1, c2, c3, c4, c5⟩ := get6 hr hx
  generalize l.length = n at *
  have n0 : ¬ ((i : Int) < 0) := by omega
  dsimp only at c0 c1 c2 c3 c4 c5
  clear hr hx hl2 hR hlc lc0 hcn ha hop hat
  go_enter Tryd.func23, Tryd.ntmps23
  go_wp2_with fail
  refine (IC.out _).mono ?_
  rintro e w2 ⟨rfl, rfl⟩
  go_wp2_with fail
  go_ret
  exact ⟨by rw [F.out]; rfl, Below.refl _ _⟩
set_option maxHeartbeats 2000000 in
set_option maxRecDepth 100000 in
theorem RText_wrap_at (v : Value) (l : List Nd) (lo : Nat) (op : List UInt8) (at_ c : Int) (u : T) (j : Nat) (b : Int) (i : Nat) (w : World) (h : Seq 6 ndC w lo w.heap.size v l) (hx : l[i]? = some ⟨1, op, at_, c, (j : Nat), b⟩) (hop : op.length ≤ 100) (ha : Num at_) (hl : (T.wrap op at_ u).text.length ≤ 1073741824)
    (ih : ∀ (w : World), Seq 6 ndC w lo w.heap.size v l → Calls Tryd.prog 23 #[v, .int .i64 (j : Nat)] w fun e w' => e = .returned (.string ⟨u.text.toArray⟩) ∧ Below w.heap.size w w') (hat : 0 ≤ at_) :
    Calls Tryd.prog 23 #[v, .int .i64 i] w fun e w' => e = .returned (.string ⟨(T.wrap op at_ u).text.toArray⟩) ∧ Below w.heap.size w w' := by
  have IH := Lib.hid ih
  have HS := Lib.hid h
  clear ih
  have IA := Lib.hid (fun W => DigW.Digits_any at_ W ha.1 ha.2)
  have la0 := itoa_len at_ ha
  have F := Lib.hid (show (T.wrap op at_ u).text = ((op ++ [32]) ++ Lib.itoa at_) ++ [62] ++ u.text by simp only [T.text, headT]; rw [if_pos hat]; simp)
  have hge : decide (0 ≤ at_) = true := by simpa using hat
  have hnl : ¬ at_ < 0 := by omega
  rw [F.out] at hl
  obtain ⟨la, hla⟩ : ∃ l, Lib.itoa at_ = l := ⟨_, rfl⟩
  rw [hla] at IA la0 F hl
  obtain ⟨l1, hl1⟩ : ∃ l, op ++ [32] = l := ⟨_, rfl⟩
  have zl1 : l1.length = op.length + 1 := by rw [← hl1]; simp
  obtain ⟨hd, hhd⟩ : ∃ l, l1 ++ la = l := ⟨_, rfl⟩
  have zhd : hd.length = l1.length + la.length := by rw [← hhd]; simp
  rw [hl1, hhd] at F hl
  obtain ⟨l2, hl2⟩ : ∃ l, hd ++ [62] = l := ⟨_, rfl⟩
  have zl2 : l2.length = hd.length + 1 := by rw [← hl2]; simp
  obtain ⟨lc, hlc⟩ : ∃ l, u.text = l := ⟨_, rfl⟩
  rw [hlc] at IH F hl
  rw [hl2] at F hl
  rw [List.length_append] at hl
  obtain ⟨R, hR⟩ : ∃ l, l2 ++ lc = l := ⟨_, rfl⟩
  rw [hR] at F
  have e1 : (⟨op.toArray⟩ : ByteArray) ++ (⟨#[32]⟩ : ByteArray) = ⟨l1.toArray⟩ := cat_eq (op) [32] l1 (by assumption)
  have n1 : ¬ 9223372036854775807 < op.length + 1 := by omega
  have s1 : ¬ 9223372036854775807 < (⟨op.toArray⟩ : ByteArray).size + 1 := by rw [sz]; omega
  have e2 : (⟨l1.toArray⟩ : ByteArray) ++ (⟨la.toArray⟩ : ByteArray) = ⟨hd.toArray⟩ := cat_eq (l1) (la) hd (by assumption)
  have n2 : ¬ 9223372036854775807 < l1.length + la.length := by omega
  have s2 : ¬ 9223372036854775807 < (⟨l1.toArray⟩ : ByteArray).size + (⟨la.toArray⟩ : ByteArray).size := by rw [sz, sz]; omega
  have e3 : (⟨hd.toArray⟩ : ByteArray) ++ (⟨#[62]⟩ : ByteArray) = ⟨l2.toArray⟩ := cat_eq (hd) [62] l2 (by assumption)
  have n3 : ¬ 9223372036854775807 < hd.length + 1 := by omega
  have s3 : ¬ 9223372036854775807 < (⟨hd.toArray⟩ : ByteArray).size + 1 := by rw [sz]; omega
  have e4 : (⟨l2.toArray⟩ : ByteArray) ++ (⟨lc.toArray⟩ : ByteArray) = ⟨R.toArray⟩ := cat_eq (l2) (lc) R (by assumption)
  have n4 : ¬ 9223372036854775807 < l2.length + lc.length := by omega
  have s4 : ¬ 9223372036854775807 < (⟨l2.toArray⟩ : ByteArray).size + (⟨lc.toArray⟩ : ByteArray).size := by rw [sz, sz]; omega
  obtain ⟨A, cap, rfl, hc1, hc2, hr, _⟩ := h
  unfold maxLen at hc2
  obtain ⟨ad, rfl, hlo, hb, hi, c0, c1, c2, c3, c4, c5⟩ := get6 hr hx
  generalize l.length = n at *
  have n0 : ¬ ((i : Int) < 0) := by omega
  dsimp only at c0 c1 c2 c3 c4 c5
  clear hr hx hl2 hR hlc hla hl1 hhd la0 zl1 hl ha hop hat
  go_enter Tryd.func23, Tryd.ntmps23
  go_wp2_with fail
  refine (IA.out _).mono ?_
  rintro e w1 ⟨rfl, rfl⟩
  go_wp2_with fail
  refine (IH.out _ HS.out).mono ?_
  rintro e w2 ⟨rfl, hb2⟩
  have X2 := Lib.hid hb2
  clear hb2
  go_wp2_with fail
  go_ret
  exact ⟨by rw [F.out]; rfl, X2.out⟩
set_option maxHeartbeats 2000000 in
set_option maxRecDepth 100000 in
theorem RText_wrap_no (v : Value) (l : List Nd) (lo : Nat) (op : List UInt8) (at_ c : Int) (u : T) (j : Nat) (b : Int) (i : Nat) (w : World) (h : Seq 6 ndC w lo w.heap.size v l) (hx : l[i]? = some ⟨1, op, at_, c, (j : Nat), b⟩) (hop : op.length ≤ 100) (ha : Num at_) (hl : (T.wrap op at_ u).text.length ≤ 1073741824)
    (ih : ∀ (w : World), Seq 6 ndC w lo w.heap.size v l → Calls Tryd.prog 23 #[v, .int .i64 (j : Nat)] w fun e w' => e = .returned (.string ⟨u.text.toArray⟩) ∧ Below w.heap.size w w') (hat : at_ < 0) :
    Calls Tryd.prog 23 #[v, .int .i64 i] w fun e w' => e = .returned (.string ⟨(T.wrap op at_ u).text.toArray⟩) ∧ Below w.heap.size w w' := by
  have IH := Lib.hid ih
  have HS := Lib.hid h
  clear ih
  have F := Lib.hid (show (T.wrap op at_ u).text = op ++ [62] ++ u.text by simp only [T.text, headT]; rw [if_neg (by omega)]; simp)
  have hge : decide (0 ≤ at_) = false := by simp; omega
  have hnl : ¬ 0 ≤ at_ := by omega
  rw [F.out] at hl
  obtain ⟨l2, hl2⟩ : ∃ l, op ++ [62] = l := ⟨_, rfl⟩
  have zl2 : l2.length = op.length + 1 := by rw [← hl2]; simp
  obtain ⟨lc, hlc⟩ : ∃ l, u.text = l := ⟨_, rfl⟩
  rw [hlc] at IH F hl
  rw [hl2] at F hl
  rw [List.length_append] at hl
  obtain ⟨R, hR⟩ : ∃ l, l2 ++ lc = l := ⟨_, rfl⟩
  rw [hR] at F
  have e3 : (⟨op.toArray⟩ : ByteArray) ++ (⟨#[62]⟩ : ByteArray) = ⟨l2.toArray⟩ := cat_eq (op) [62] l2 (by assumption)
  have n3 : ¬ 9223372036854775807 < op.length + 1 := by omega
  have s3 : ¬ 9223372036854775807 < (⟨op.toArray⟩ : ByteArray).size + 1 := by rw [sz]; omega
  have e4 : (⟨l2.toArray⟩ : ByteArray) ++ (⟨lc.toArray⟩ : ByteArray) = ⟨R.toArray⟩ := cat_eq (l2) (lc) R (by assumption)
  have n4 : ¬ 9223372036854775807 < l2.length + lc.length := by omega
  have s4 : ¬ 9223372036854775807 < (⟨l2.toArray⟩ : ByteArray).size + (⟨lc.toArray⟩ : ByteArray).size := by rw [sz, sz]; omega
  obtain ⟨A, cap, rfl, hc1, hc2, hr, _⟩ := h
  unfold maxLen at hc2
  obtain ⟨ad, rfl, hlo, hb, hi, c0, c1, c2, c3, c4, c5⟩ := get6 hr hx
  generalize l.length = n at *
  have n0 : ¬ ((i : Int) < 0) := by omega
  dsimp only at c0 c1 c2 c3 c4 c5
  clear hr hx hl2 hR hlc hl ha hop hat
  go_enter Tryd.func23, Tryd.ntmps23
  go_wp2_with fail
  refine (IH.out _ HS.out).mono ?_
  rintro e w2 ⟨rfl, hb2⟩
  have X2 := Lib.hid hb2
  clear hb2
  go_wp2_with fail
  go_ret
  exact ⟨by rw [F.out]; rfl, X2.out⟩
set_option maxHeartbeats 2000000 in
set_option maxRecDepth 100000 in
theorem RText_both (v : Value) (l : List Nd) (lo : Nat) (x y : T) (d : Int) (op : List UInt8) (at_ c : Int) (j k i : Nat) (w : World) (h0 : d ≠ 0) (h1 : d ≠ 1) (h : Seq 6 ndC w lo w.heap.size v l) (hx : l[i]? = some ⟨d, op, at_, c, j, k⟩) (hl : (T.both x y).text.length ≤ 1073741824)
    (ihx : ∀ (w : World), Seq 6 ndC w lo w.heap.size v l → Calls Tryd.prog 23 #[v, .int .i64 (j : Nat)] w fun e w' => e = .returned (.string ⟨x.text.toArray⟩) ∧ Below w.heap.size w w')
    (ihy : ∀ (w : World), Seq 6 ndC w lo w.heap.size v l → Calls Tryd.prog 23 #[v, .int .i64 (k : Nat)] w fun e w' => e = .returned (.string ⟨y.text.toArray⟩) ∧ Below w.heap.size w w') :
    Calls Tryd.prog 23 #[v, .int .i64 i] w fun e w' => e = .returned (.string ⟨(T.both x y).text.toArray⟩) ∧ Below w.heap.size w w' := by
  have IX := Lib.hid ihx
  have IY := Lib.hid ihy
  have HS := Lib.hid h
  have F := Lib.hid (show (T.both x y).text = [40] ++ x.text ++ [124] ++ y.text ++ [41] by simp [T.text])
  rw [F.out] at hl
  obtain ⟨la, hla⟩ : ∃ l, x.text = l := ⟨_, rfl⟩
  obtain ⟨lb, hlb⟩ : ∃ l, y.text = l := ⟨_, rfl⟩
  rw [hla] at IX F hl
  rw [hlb] at IY F hl
  simp only [List.length_append, List.length_cons, List.length_nil] at hl
  obtain ⟨l1, hl1⟩ : ∃ l, [40] ++ la = l := ⟨_, rfl⟩
  have zl1 : l1.length = la.length + 1 := by rw [← hl1]; simp
  obtain ⟨l2, hl2⟩ : ∃ l, l1 ++ [124] = l := ⟨_, rfl⟩
  have zl2 : l2.length = l1.length + 1 := by rw [← hl2]; simp
  obtain ⟨l3, hl3⟩ : ∃ l, l2 ++ lb = l := ⟨_, rfl⟩
  have zl3 : l3.length = l2.length + lb.length := by rw [← hl3]; simp
  obtain ⟨R, hR⟩ : ∃ l, l3 ++ [41] = l := ⟨_, rfl⟩
  rw [hl1, hl2, hl3, hR] at F
  have e1 : (⟨#[40]⟩ : ByteArray) ++ (⟨la.toArray⟩ : ByteArray) = ⟨l1.toArray⟩ := cat_eq [40] (la) l1 (by assumption)
  have n1 : ¬ 9223372036854775807 < 1 + la.length := by omega
  have s1 : ¬ 9223372036854775807 < 1 + (⟨la.toArray⟩ : ByteArray).size := by rw [sz]; omega
  have e2 : (⟨l1.toArray⟩ : ByteArray) ++ (⟨#[124]⟩ : ByteArray) = ⟨l2.toArray⟩ := cat_eq (l1) [124] l2 (by assumption)
  have n2 : ¬ 9223372036854775807 < l1.length + 1 := by omega
  have s2 : ¬ 9223372036854775807 < (⟨l1.toArray⟩ : ByteArray).size + 1 := by rw [sz]; omega
  have e3 : (⟨l2.toArray⟩ : ByteArray) ++ (⟨lb.toArray⟩ : ByteArray) = ⟨l3.toArray⟩ := cat_eq (l2) (lb) l3 (by assumption)
  have n3 : ¬ 9223372036854775807 < l2.length + lb.length := by omega
  have s3 : ¬ 9223372036854775807 < (⟨l2.toArray⟩ : ByteArray).size + (⟨lb.toArray⟩ : ByteArray).size := by rw [sz, sz]; omega
  have e4 : (⟨l3.toArray⟩ : ByteArray) ++ (⟨#[41]⟩ : ByteArray) = ⟨R.toArray⟩ := cat_eq (l3) [41] R (by assumption)
  have n4 : ¬ 9223372036854775807 < l3.length + 1 := by omega
  have s4 : ¬ 9223372036854775807 < (⟨l3.toArray⟩ : ByteArray).size + 1 := by rw [sz]; omega
  obtain ⟨A, cap, rfl, hc1, hc2, hr, _⟩ := h
  unfold maxLen at hc2
  obtain ⟨ad, rfl, hlo, hb, hi, c0, c1, c2, c3, c4, c5⟩ := get6 hr hx
  generalize l.length = n at *
  have n0 : ¬ ((i : Int) < 0) := by omega
  have d0 : (d == 0) = false := by simpa using h0
  have d1 : (d == 1) = false := by simpa using h1
  have d2 : (d != 0) = true := by simpa using h0
  have d3 : (d != 1) = true := by simpa using h1
  dsimp only at c0 c1 c2 c3 c4 c5
  clear hr hx ihx ihy hla hlb hl1 hl2 hl3 hR zl1 zl2 zl3 hl h0 h1
  go_enter Tryd.func23, Tryd.ntmps23
  go_wp2_with fail
  go_region_held3 (fun w' => w'.cell? ⟨(ad.add (i * 6)).block, (ad.add (i * 6)).off + 4, none⟩ = some (.int .i64 j) ∧ w'.cell? ⟨(ad.add (i * 6)).block, (ad.add (i * 6)).off + 5, none⟩ = some (.int .i64 k))
    (first | (go_keep; done) | (exact ⟨k50, k51⟩) | (exact ⟨k60, k61⟩))
    ((first | (go_at_call_of 23 (Value.int IntKind.i64 j); refine (IX.out _ (by exact HS.out)).mono ?_; rintro e w5 ⟨rfl, hb5⟩; have X5 := Lib.hid (bt hb5 (Below.refl _ _).drew); have k50 := cell_keep hb5 c4; have k51 := cell_keep hb5 c5) | (go_at_call_of 23 (Value.int IntKind.i64 k); refine (IY.out _ (HS.out.up X5.out)).mono ?_; rintro e w6 ⟨rfl, hb6⟩; have k60 := cell_keep hb6 k50; have k61 := cell_keep hb6 k51; have X6 := Lib.hid (bt hb6 X5.out))))
  go_wp2_with fail
  go_ret
  exact ⟨by rw [F.out]; rfl, X6.out⟩
theorem RText_at (v : Value) (l : List Nd) (lo : Nat) : ∀ (t : T) (i : Nat) (w : World), Seq 6 ndC w lo w.heap.size v l → Rep l i t → t.fits → t.text.length ≤ 1073741824 →
    Calls Tryd.prog 23 #[v, .int .i64 i] w fun e w' => e = .returned (.string ⟨t.text.toArray⟩) ∧ Below w.heap.size w w'
  | .leaf op at_ c, i, w, h, ⟨a, b, hx⟩, hf, hl => by
    rcases Int.lt_or_le at_ 0 with ha | ha
    · exact RText_leaf_no v l lo op at_ c a b i w h hx hf.1 hf.2.1 hf.2.2.1 ha
    · exact RText_leaf_at v l lo op at_ c a b i w h hx hf.1 hf.2.1 hf.2.2.1 ha
  | .wrap op at_ u, i, w, h, ⟨c, j, b, hx, hu⟩, hf, hl => by
    have hlu : u.text.length ≤ 1073741824 := by simp [T.text] at hl; omega
    rcases Int.lt_or_le at_ 0 with ha | ha
    · exact RText_wrap_no v l lo op at_ c u j b i w h hx hf.1 hf.2.1 hl (fun w h => RText_at v l lo u j w h hu hf.2.2 hlu) ha
    · exact RText_wrap_at v l lo op at_ c u j b i w h hx hf.1 hf.2.1 hl (fun w h => RText_at v l lo u j w h hu hf.2.2 hlu) ha
  | .both x y, i, w, h, ⟨d, op, at_, c, j, k, h0, h1, hx, hX, hY⟩, hf, hl => by
    have hlx : x.text.length ≤ 1073741824 ∧ y.text.length ≤ 1073741824 := by simp [T.text] at hl; omega
    exact RText_both v l lo x y d op at_ c j k i w h0 h1 h hx hl (fun w h => RText_at v l lo x j w h hX hf.1 hlx.1) (fun w h => RText_at v l lo y k w h hY hf.2 hlx.2)
end Go.Proofs.YthinjoldbjcifaaDoor.NodT
