/- The walk of copseref03.Parse. -/
import Derived.Test.YtdpmijmofeechaaDoorRefTx
import Derived.Test.YtdpmijmofeechaaDoorPartW
namespace Go.Proofs.YtdpmijmofeechaaDoor.RefTy
set_option linter.unusedVariables false
open Go.RowKit Base BigM BigZ GcdM RatM RatW RefRat Glob WideM WideW Rat2 TextW TxtM TxtL DigW RefTx PartW

theorem tail_cut (c : UInt8) (r : List UInt8) : (⟨(c :: r).toArray⟩ : ByteArray).extract 1 (c :: r).length = ⟨r.toArray⟩ := by
  apply ByteArray.ext
  rw [ByteArray.data_extract]
  simp
theorem rparse_no {l : List UInt8} (h : rOk l = false) : rparse l = (0, 0, 30) := by unfold rparse; rw [h]; rfl
theorem rparse_yes {l : List UInt8} {P Q : Int} (h : rOk l = true) (hP : rP l = P) (hQ : rQ l = Q) : rparse l = (P, Q, 0) := by unfold rparse; rw [if_pos h, hP, hQ]
theorem num_nil : countB (negT []) = false := rfl
theorem num_minus (r : List UInt8) : countB (negT (45 :: r)) = countB r ∧ numV (45 :: r) = -countV r := by
  have hm : minB (45 :: r) = true := rfl
  have ht : negT (45 :: r) = r := by unfold negT; rw [if_pos hm]; rfl
  unfold numV
  rw [if_pos hm, ht]; exact ⟨rfl, rfl⟩
theorem num_plain {c : UInt8} (r : List UInt8) (h : c ≠ 45) : countB (negT (c :: r)) = countB (c :: r) ∧ numV (c :: r) = countV (c :: r) := by
  have hm : minB (c :: r) = false := by unfold minB; simp [h]
  have ht : negT (c :: r) = c :: r := by unfold negT; rw [if_neg (by rw [hm]; decide)]
  unfold numV
  rw [if_neg (by rw [hm]; decide), ht]; exact ⟨rfl, rfl⟩
/-- what stands in front of the '/', and behind it -/
inductive Kind (T : List UInt8) : Prop where
  | none (h : T = []) : Kind T
  | minus (r : List UInt8) (h : T = 45 :: r) : Kind T
  | plain (c : UInt8) (r : List UInt8) (h : T = c :: r) (h45 : c ≠ 45) : Kind T
theorem kinds (T : List UInt8) : Kind T := by
  cases T with
  | nil => exact .none rfl
  | cons c r =>
    by_cases h : c = 45
    · exact .minus r (by rw [h])
    · exact .plain c r rfl h
def PRel (l : List UInt8) (K : Nat) (t i : Value) : Prop := ∃ k : Nat, k ≤ K ∧ i = .int .i64 (k : Int) ∧ t = .string ⟨l.toArray⟩
theorem byte_ne {l : List UInt8} {k : Nat} (h : k < (⟨l.toArray⟩ : ByteArray).size) (h2 : k < l.length) (hn : l[k] ≠ 47) : ((((⟨l.toArray⟩ : ByteArray)[k]'h).toNat : Int) == 47) = false := by
  have hcl : (⟨l.toArray⟩ : ByteArray)[k]'h = l[k] := rfl
  rw [hcl, beq_eq_false_iff_ne]
  exact fun e => hn (UInt8.toNat_inj.1 (by show _ = 47; omega))
theorem byte_ne45 {l : List UInt8} {k : Nat} (h : k < (⟨l.toArray⟩ : ByteArray).size) (h2 : k < l.length) (hn : l[k] ≠ 45) : ((((⟨l.toArray⟩ : ByteArray)[k]'h).toNat : Int) == 45) = false := by
  have hcl : (⟨l.toArray⟩ : ByteArray)[k]'h = l[k] := rfl
  rw [hcl, beq_eq_false_iff_ne]
  exact fun e => hn (UInt8.toNat_inj.1 (by show _ = 45; omega))
theorem byte_eq {l : List UInt8} {k : Nat} (h : k < (⟨l.toArray⟩ : ByteArray).size) (h2 : k < l.length) (hn : l[k] = 47) : ((((⟨l.toArray⟩ : ByteArray)[k]'h).toNat : Int) == 47) = true := by
  have hcl : (⟨l.toArray⟩ : ByteArray)[k]'h = l[k] := rfl
  rw [hcl, hn]; rfl
set_option maxHeartbeats 1000000 in
set_option maxRecDepth 100000 in
theorem parse_two_bad (l T L : List UInt8) (q0 : Int) (w : World) (hl : l.length ≤ 1073741824)
    (hno : ∀ k (h : k < l.length), k < T.length → l[k] ≠ 47) (hat : ∀ h : T.length < l.length, l[T.length] = 47) (hTl : T.length < l.length) (hLL : L.length ≤ 1073741824)
    (hexL : (⟨l.toArray⟩ : ByteArray).extract (T.length + 1) l.length = ⟨L.toArray⟩) (hcL : countB L = false) (hr : rparse l = (0, 0, 30)) :
    Calls Tryd.prog 23 #[.string ⟨l.toArray⟩] w fun e w' => e = .returned (.tuple #[.agg #[.int .i64 (rparse l).1, .int .i64 (rparse l).2.1], .int .i64 (rparse l).2.2]) ∧ Below w.heap.size w w' := by
  have F := Lib.hid hr
  have HNO := Lib.hid hno
  have HAT := Lib.hid hat
  have HLL := Lib.hid hLL
  have CL := Lib.hid hcL
  clear hr hno hat hLL hcL
  have H0 := Lib.hid (show PRel l T.length (.string ⟨l.toArray⟩) (.int .i64 0) from ⟨0, Nat.zero_le _, rfl, rfl⟩)
  have hsz0 : ∀ k, k < l.length → k < (⟨l.toArray⟩ : ByteArray).size := fun k h => by show k < l.toArray.size; simpa using h
  have HSZ := Lib.hid hsz0
  clear hsz0
  go_enter Tryd.func23, Tryd.ntmps23
  go_wp2_with fail
  go_loop [5, 6] (fun t i => PRel l T.length t i) (fun _ i => l.length - (intOf i).toNat)
  case atStart => exact H0.out
  case round =>
    obtain ⟨k, hk, rfl, rfl⟩ := hrel
    have hlt : k < l.length := by omega
    by_cases hkT : k < T.length
    · have hsz := HSZ.out k hlt
      have h47 : ((((⟨l.toArray⟩ : ByteArray)[k]'hsz).toNat : Int) == 47) = false := byte_ne hsz hlt (HNO.out k hlt hkT)
      go_wp2_with fail
      exact ⟨⟨k + 1, by omega, by go_num, rfl⟩, by simp [intOf]; omega⟩
    · have hkk : T.length = k := by omega
      subst hkk
      have hsz := HSZ.out T.length hlt
      have h47 : ((((⟨l.toArray⟩ : ByteArray)[T.length]'hsz).toNat : Int) == 47) = true := byte_eq hsz hlt (HAT.out hlt)
      go_wp2_with fail
      refine (count_any L _ HLL.out).mono ?_
      rintro e w9 ⟨rfl, rfl⟩
      rw [CL.out]
      go_wp2
      refine bodyPost_ret (v := .tuple #[.agg #[.int .i64 0, .int .i64 0], .int .i64 30]) (by simp [results, Tryd.results23, go_sem]) rfl ?_
      exact ⟨ret_rat F.out.symm, below_alloc2 _ _ _⟩
set_option maxHeartbeats 2000000 in
set_option maxRecDepth 100000 in
theorem parse_one_nil_no (l T L r : List UInt8) (p0 q0 : Int) (w : World) (hl : l.length ≤ 1073741824)
    (hno : ∀ k (h : k < l.length), l[k] ≠ 47)
    (hT0 : l = []) (hcU : countB l = false) (hp0 : countV l = p0) (hpb : 0 ≤ p0 ∧ p0 < 10000000000)
    (hr : rparse l = (0, 0, 30)) :
    Calls Tryd.prog 23 #[.string ⟨l.toArray⟩] w fun e w' => e = .returned (.tuple #[.agg #[.int .i64 (rparse l).1, .int .i64 (rparse l).2.1], .int .i64 (rparse l).2.2]) ∧ Below w.heap.size w w' := by
  have F := Lib.hid hr
  have HNO := Lib.hid hno
  have CU := Lib.hid hcU
  have PU := Lib.hid hp0
  obtain ⟨pb0, pb1⟩ := hpb
  clear hr hno hcU hp0
  have hlen0 : ¬ 0 < l.length := by rw [hT0]; simp
  clear hT0
  have H0 := Lib.hid (show PRel l l.length (.string ⟨l.toArray⟩) (.int .i64 0) from ⟨0, Nat.zero_le _, rfl, rfl⟩)
  have hsz0 : ∀ k, k < l.length → k < (⟨l.toArray⟩ : ByteArray).size := fun k h => by show k < l.toArray.size; simpa using h
  have HSZ := Lib.hid hsz0
  clear hsz0
  go_enter Tryd.func23, Tryd.ntmps23
  go_wp2_with fail
  go_loop [5, 6] (fun t i => PRel l l.length t i) (fun _ i => l.length - (intOf i).toNat)
  case atStart => exact H0.out
  case round =>
    obtain ⟨k, hk, rfl, rfl⟩ := hrel
    by_cases hlt : k < l.length
    · have hsz := HSZ.out k hlt
      have h47 : ((((⟨l.toArray⟩ : ByteArray)[k]'hsz).toNat : Int) == 47) = false := byte_ne hsz hlt (HNO.out k hlt)
      go_wp2_with fail
      exact ⟨⟨k + 1, by omega, by go_num, rfl⟩, by simp [intOf]; omega⟩
    · go_wp2_with fail
      refine (count_any l _ (by omega)).mono ?_
      rintro e w8 ⟨rfl, rfl⟩
      rw [CU.out, PU.out]
      go_wp2
      refine bodyPost_ret (v := .tuple #[.agg #[.int .i64 0, .int .i64 0], .int .i64 30]) (by simp [results, Tryd.results23, go_sem]) rfl ?_
      exact ⟨ret_rat F.out.symm, below_alloc2 _ _ _⟩
set_option maxHeartbeats 2000000 in
set_option maxRecDepth 100000 in
theorem parse_one_minus_no (l T L r : List UInt8) (p0 q0 : Int) (w : World) (hl : l.length ≤ 1073741824)
    (hno : ∀ k (h : k < l.length), l[k] ≠ 47)
    (hT0 : l = 45 :: r) (hrl : r.length ≤ 1073741824) (hcU : countB r = false) (hp0 : countV r = p0) (hpb : 0 ≤ p0 ∧ p0 < 10000000000)
    (hr : rparse l = (0, 0, 30)) :
    Calls Tryd.prog 23 #[.string ⟨l.toArray⟩] w fun e w' => e = .returned (.tuple #[.agg #[.int .i64 (rparse l).1, .int .i64 (rparse l).2.1], .int .i64 (rparse l).2.2]) ∧ Below w.heap.size w w' := by
  have F := Lib.hid hr
  have HNO := Lib.hid hno
  have CU := Lib.hid hcU
  have PU := Lib.hid hp0
  obtain ⟨pb0, pb1⟩ := hpb
  clear hr hno hcU hp0
  have hex1 : (⟨l.toArray⟩ : ByteArray).extract 1 l.length = ⟨r.toArray⟩ := by rw [hT0]; exact tail_cut 45 r
  have hlen0 : 0 < l.length := by rw [hT0]; simp
  have hsz1 : 0 < (⟨l.toArray⟩ : ByteArray).size := by show 0 < l.toArray.size; simpa using hlen0
  have h45 : ((((⟨l.toArray⟩ : ByteArray)[0]'hsz1).toNat : Int) == 45) = true := by subst hT0; rfl
  clear hT0
  have H0 := Lib.hid (show PRel l l.length (.string ⟨l.toArray⟩) (.int .i64 0) from ⟨0, Nat.zero_le _, rfl, rfl⟩)
  have hsz0 : ∀ k, k < l.length → k < (⟨l.toArray⟩ : ByteArray).size := fun k h => by show k < l.toArray.size; simpa using h
  have HSZ := Lib.hid hsz0
  clear hsz0
  go_enter Tryd.func23, Tryd.ntmps23
  go_wp2_with fail
  go_loop [5, 6] (fun t i => PRel l l.length t i) (fun _ i => l.length - (intOf i).toNat)
  case atStart => exact H0.out
  case round =>
    obtain ⟨k, hk, rfl, rfl⟩ := hrel
    by_cases hlt : k < l.length
    · have hsz := HSZ.out k hlt
      have h47 : ((((⟨l.toArray⟩ : ByteArray)[k]'hsz).toNat : Int) == 47) = false := byte_ne hsz hlt (HNO.out k hlt)
      go_wp2_with fail
      exact ⟨⟨k + 1, by omega, by go_num, rfl⟩, by simp [intOf]; omega⟩
    · go_wp2_with fail
      refine (count_any r _ hrl).mono ?_
      rintro e w8 ⟨rfl, rfl⟩
      rw [CU.out, PU.out]
      go_wp2
      refine bodyPost_ret (v := .tuple #[.agg #[.int .i64 0, .int .i64 0], .int .i64 30]) (by simp [results, Tryd.results23, go_sem]) rfl ?_
      exact ⟨ret_rat F.out.symm, below_alloc2 _ _ _⟩
set_option maxHeartbeats 2000000 in
set_option maxRecDepth 100000 in
theorem parse_one_minus_ne (l T L r : List UInt8) (p0 q0 : Int) (w : World) (hl : l.length ≤ 1073741824)
    (hno : ∀ k (h : k < l.length), l[k] ≠ 47)
    (hT0 : l = 45 :: r) (hrl : r.length ≤ 1073741824) (hcU : countB r = true) (hp0 : countV r = p0) (hpb : 0 ≤ p0 ∧ p0 < 10000000000)
    (hr : rparse l = (0, 0, 30)) (hne : textR (-p0) 1 ≠ l) :
    Calls Tryd.prog 23 #[.string ⟨l.toArray⟩] w fun e w' => e = .returned (.tuple #[.agg #[.int .i64 (rparse l).1, .int .i64 (rparse l).2.1], .int .i64 (rparse l).2.2]) ∧ Below w.heap.size w w' := by
  have F := Lib.hid hr
  have HNO := Lib.hid hno
  have CU := Lib.hid hcU
  have PU := Lib.hid hp0
  obtain ⟨pb0, pb1⟩ := hpb
  have hne2 : (textR (-p0) 1 == l) = false := by simpa using hne
  clear hr hno hcU hp0 hne
  have hex1 : (⟨l.toArray⟩ : ByteArray).extract 1 l.length = ⟨r.toArray⟩ := by rw [hT0]; exact tail_cut 45 r
  have hlen0 : 0 < l.length := by rw [hT0]; simp
  have hsz1 : 0 < (⟨l.toArray⟩ : ByteArray).size := by show 0 < l.toArray.size; simpa using hlen0
  have h45 : ((((⟨l.toArray⟩ : ByteArray)[0]'hsz1).toNat : Int) == 45) = true := by subst hT0; rfl
  clear hT0
  have H0 := Lib.hid (show PRel l l.length (.string ⟨l.toArray⟩) (.int .i64 0) from ⟨0, Nat.zero_le _, rfl, rfl⟩)
  have hsz0 : ∀ k, k < l.length → k < (⟨l.toArray⟩ : ByteArray).size := fun k h => by show k < l.toArray.size; simpa using h
  have HSZ := Lib.hid hsz0
  clear hsz0
  go_enter Tryd.func23, Tryd.ntmps23
  go_wp2_with fail
  go_loop [5, 6] (fun t i => PRel l l.length t i) (fun _ i => l.length - (intOf i).toNat)
  case atStart => exact H0.out
  case round =>
    obtain ⟨k, hk, rfl, rfl⟩ := hrel
    by_cases hlt : k < l.length
    · have hsz := HSZ.out k hlt
      have h47 : ((((⟨l.toArray⟩ : ByteArray)[k]'hsz).toNat : Int) == 47) = false := byte_ne hsz hlt (HNO.out k hlt)
      go_wp2_with fail
      exact ⟨⟨k + 1, by omega, by go_num, rfl⟩, by simp [intOf]; omega⟩
    · go_wp2_with fail
      refine (count_any r _ hrl).mono ?_
      rintro e w8 ⟨rfl, rfl⟩
      rw [CU.out, PU.out]
      go_wp2_with fail
      refine (RText_any (-p0) 1 _ ⟨⟨by omega, by omega⟩, by omega, by omega⟩).mono ?_
      rintro e w1 ⟨rfl, hb1⟩
      obtain ⟨c0, c1, f0, f1, hz⟩ := keepR hb1 (r := w.heap.size) (c0 := .int .i64 0) (c1 := .int .i64 0) (by go_simp) (by go_simp) (by go_simp) (by go_simp)
      have v0 := cell_at_below hb1 (w.heap.size + 1) 0 (.int .i64 (-p0)) (by go_simp)
      have v1 := cell_at_below hb1 (w.heap.size + 1) 1 (.int .i64 1) (by go_simp)
      have hb := bt hb1 (below_alloc2 w _ _)
      clear hb1
      go_wp2
      refine bodyPost_ret (v := .tuple #[.agg #[.int .i64 0, .int .i64 0], .int .i64 30]) (by simp [results, Tryd.results23, go_sem, c0, c1]) rfl ?_
      exact ⟨ret_rat F.out.symm, (hb.setCell (Nat.le_refl _) _).setCell (Nat.le_refl _) _⟩
set_option maxHeartbeats 2000000 in
set_option maxRecDepth 100000 in
theorem parse_one_minus_eq (l T L r : List UInt8) (p0 q0 : Int) (w : World) (hl : l.length ≤ 1073741824)
    (hno : ∀ k (h : k < l.length), l[k] ≠ 47)
    (hT0 : l = 45 :: r) (hrl : r.length ≤ 1073741824) (hcU : countB r = true) (hp0 : countV r = p0) (hpb : 0 ≤ p0 ∧ p0 < 10000000000)
    (hr : rparse l = (-p0, 1, 0)) (heq : textR (-p0) 1 = l) :
    Calls Tryd.prog 23 #[.string ⟨l.toArray⟩] w fun e w' => e = .returned (.tuple #[.agg #[.int .i64 (rparse l).1, .int .i64 (rparse l).2.1], .int .i64 (rparse l).2.2]) ∧ Below w.heap.size w w' := by
  have F := Lib.hid hr
  have HNO := Lib.hid hno
  have CU := Lib.hid hcU
  have PU := Lib.hid hp0
  obtain ⟨pb0, pb1⟩ := hpb
  have heq2 : (textR (-p0) 1 == l) = true := by simpa using heq
  clear hr hno hcU hp0 heq
  have hex1 : (⟨l.toArray⟩ : ByteArray).extract 1 l.length = ⟨r.toArray⟩ := by rw [hT0]; exact tail_cut 45 r
  have hlen0 : 0 < l.length := by rw [hT0]; simp
  have hsz1 : 0 < (⟨l.toArray⟩ : ByteArray).size := by show 0 < l.toArray.size; simpa using hlen0
  have h45 : ((((⟨l.toArray⟩ : ByteArray)[0]'hsz1).toNat : Int) == 45) = true := by subst hT0; rfl
  clear hT0
  have H0 := Lib.hid (show PRel l l.length (.string ⟨l.toArray⟩) (.int .i64 0) from ⟨0, Nat.zero_le _, rfl, rfl⟩)
  have hsz0 : ∀ k, k < l.length → k < (⟨l.toArray⟩ : ByteArray).size := fun k h => by show k < l.toArray.size; simpa using h
  have HSZ := Lib.hid hsz0
  clear hsz0
  go_enter Tryd.func23, Tryd.ntmps23
  go_wp2_with fail
  go_loop [5, 6] (fun t i => PRel l l.length t i) (fun _ i => l.length - (intOf i).toNat)
  case atStart => exact H0.out
  case round =>
    obtain ⟨k, hk, rfl, rfl⟩ := hrel
    by_cases hlt : k < l.length
    · have hsz := HSZ.out k hlt
      have h47 : ((((⟨l.toArray⟩ : ByteArray)[k]'hsz).toNat : Int) == 47) = false := byte_ne hsz hlt (HNO.out k hlt)
      go_wp2_with fail
      exact ⟨⟨k + 1, by omega, by go_num, rfl⟩, by simp [intOf]; omega⟩
    · go_wp2_with fail
      refine (count_any r _ hrl).mono ?_
      rintro e w8 ⟨rfl, rfl⟩
      rw [CU.out, PU.out]
      go_wp2_with fail
      refine (RText_any (-p0) 1 _ ⟨⟨by omega, by omega⟩, by omega, by omega⟩).mono ?_
      rintro e w1 ⟨rfl, hb1⟩
      obtain ⟨c0, c1, f0, f1, hz⟩ := keepR hb1 (r := w.heap.size) (c0 := .int .i64 0) (c1 := .int .i64 0) (by go_simp) (by go_simp) (by go_simp) (by go_simp)
      have v0 := cell_at_below hb1 (w.heap.size + 1) 0 (.int .i64 (-p0)) (by go_simp)
      have v1 := cell_at_below hb1 (w.heap.size + 1) 1 (.int .i64 1) (by go_simp)
      have hb := bt hb1 (below_alloc2 w _ _)
      clear hb1
      go_wp2
      refine bodyPost_ret (v := .tuple #[.agg #[.int .i64 (-p0), .int .i64 1], .int .i64 0]) (by simp [results, Tryd.results23, go_sem, c0, c1]) rfl ?_
      exact ⟨ret_rat F.out.symm, (hb.setCell (Nat.le_refl _) _).setCell (Nat.le_refl _) _⟩
set_option maxHeartbeats 2000000 in
set_option maxRecDepth 100000 in
theorem parse_one_plain_no (l T L r : List UInt8) (p0 q0 : Int) (w : World) (hl : l.length ≤ 1073741824)
    (hno : ∀ k (h : k < l.length), l[k] ≠ 47)
    (hlen0 : 0 < l.length) (h0 : ∀ h : 0 < l.length, l[0] ≠ 45) (hcU : countB l = false) (hp0 : countV l = p0) (hpb : 0 ≤ p0 ∧ p0 < 10000000000)
    (hr : rparse l = (0, 0, 30)) :
    Calls Tryd.prog 23 #[.string ⟨l.toArray⟩] w fun e w' => e = .returned (.tuple #[.agg #[.int .i64 (rparse l).1, .int .i64 (rparse l).2.1], .int .i64 (rparse l).2.2]) ∧ Below w.heap.size w w' := by
  have F := Lib.hid hr
  have HNO := Lib.hid hno
  have CU := Lib.hid hcU
  have PU := Lib.hid hp0
  obtain ⟨pb0, pb1⟩ := hpb
  clear hr hno hcU hp0
  have hsz1 : 0 < (⟨l.toArray⟩ : ByteArray).size := by show 0 < l.toArray.size; simpa using hlen0
  have h45 : ((((⟨l.toArray⟩ : ByteArray)[0]'hsz1).toNat : Int) == 45) = false := byte_ne45 hsz1 hlen0 (h0 hlen0)
  clear h0
  have H0 := Lib.hid (show PRel l l.length (.string ⟨l.toArray⟩) (.int .i64 0) from ⟨0, Nat.zero_le _, rfl, rfl⟩)
  have hsz0 : ∀ k, k < l.length → k < (⟨l.toArray⟩ : ByteArray).size := fun k h => by show k < l.toArray.size; simpa using h
  have HSZ := Lib.hid hsz0
  clear hsz0
  go_enter Tryd.func23, Tryd.ntmps23
  go_wp2_with fail
  go_loop [5, 6] (fun t i => PRel l l.length t i) (fun _ i => l.length - (intOf i).toNat)
  case atStart => exact H0.out
  case round =>
    obtain ⟨k, hk, rfl, rfl⟩ := hrel
    by_cases hlt : k < l.length
    · have hsz := HSZ.out k hlt
      have h47 : ((((⟨l.toArray⟩ : ByteArray)[k]'hsz).toNat : Int) == 47) = false := byte_ne hsz hlt (HNO.out k hlt)
      go_wp2_with fail
      exact ⟨⟨k + 1, by omega, by go_num, rfl⟩, by simp [intOf]; omega⟩
    · go_wp2_with fail
      refine (count_any l _ hl).mono ?_
      rintro e w8 ⟨rfl, rfl⟩
      rw [CU.out, PU.out]
      go_wp2
      refine bodyPost_ret (v := .tuple #[.agg #[.int .i64 0, .int .i64 0], .int .i64 30]) (by simp [results, Tryd.results23, go_sem]) rfl ?_
      exact ⟨ret_rat F.out.symm, below_alloc2 _ _ _⟩
set_option maxHeartbeats 2000000 in
set_option maxRecDepth 100000 in
theorem parse_one_plain_ne (l T L r : List UInt8) (p0 q0 : Int) (w : World) (hl : l.length ≤ 1073741824)
    (hno : ∀ k (h : k < l.length), l[k] ≠ 47)
    (hlen0 : 0 < l.length) (h0 : ∀ h : 0 < l.length, l[0] ≠ 45) (hcU : countB l = true) (hp0 : countV l = p0) (hpb : 0 ≤ p0 ∧ p0 < 10000000000)
    (hr : rparse l = (0, 0, 30)) (hne : textR (p0) 1 ≠ l) :
    Calls Tryd.prog 23 #[.string ⟨l.toArray⟩] w fun e w' => e = .returned (.tuple #[.agg #[.int .i64 (rparse l).1, .int .i64 (rparse l).2.1], .int .i64 (rparse l).2.2]) ∧ Below w.heap.size w w' := by
  have F := Lib.hid hr
  have HNO := Lib.hid hno
  have CU := Lib.hid hcU
  have PU := Lib.hid hp0
  obtain ⟨pb0, pb1⟩ := hpb
  have hne2 : (textR (p0) 1 == l) = false := by simpa using hne
  clear hr hno hcU hp0 hne
  have hsz1 : 0 < (⟨l.toArray⟩ : ByteArray).size := by show 0 < l.toArray.size; simpa using hlen0
  have h45 : ((((⟨l.toArray⟩ : ByteArray)[0]'hsz1).toNat : Int) == 45) = false := byte_ne45 hsz1 hlen0 (h0 hlen0)
  clear h0
  have H0 := Lib.hid (show PRel l l.length (.string ⟨l.toArray⟩) (.int .i64 0) from ⟨0, Nat.zero_le _, rfl, rfl⟩)
  have hsz0 : ∀ k, k < l.length → k < (⟨l.toArray⟩ : ByteArray).size := fun k h => by show k < l.toArray.size; simpa using h
  have HSZ := Lib.hid hsz0
  clear hsz0
  go_enter Tryd.func23, Tryd.ntmps23
  go_wp2_with fail
  go_loop [5, 6] (fun t i => PRel l l.length t i) (fun _ i => l.length - (intOf i).toNat)
  case atStart => exact H0.out
  case round =>
    obtain ⟨k, hk, rfl, rfl⟩ := hrel
    by_cases hlt : k < l.length
    · have hsz := HSZ.out k hlt
      have h47 : ((((⟨l.toArray⟩ : ByteArray)[k]'hsz).toNat : Int) == 47) = false := byte_ne hsz hlt (HNO.out k hlt)
      go_wp2_with fail
      exact ⟨⟨k + 1, by omega, by go_num, rfl⟩, by simp [intOf]; omega⟩
    · go_wp2_with fail
      refine (count_any l _ hl).mono ?_
      rintro e w8 ⟨rfl, rfl⟩
      rw [CU.out, PU.out]
      go_wp2_with fail
      refine (RText_any (p0) 1 _ ⟨⟨by omega, by omega⟩, by omega, by omega⟩).mono ?_
      rintro e w1 ⟨rfl, hb1⟩
      obtain ⟨c0, c1, f0, f1, hz⟩ := keepR hb1 (r := w.heap.size) (c0 := .int .i64 0) (c1 := .int .i64 0) (by go_simp) (by go_simp) (by go_simp) (by go_simp)
      have v0 := cell_at_below hb1 (w.heap.size + 1) 0 (.int .i64 (p0)) (by go_simp)
      have v1 := cell_at_below hb1 (w.heap.size + 1) 1 (.int .i64 1) (by go_simp)
      have hb := bt hb1 (below_alloc2 w _ _)
      clear hb1
      go_wp2
      refine bodyPost_ret (v := .tuple #[.agg #[.int .i64 0, .int .i64 0], .int .i64 30]) (by simp [results, Tryd.results23, go_sem, c0, c1]) rfl ?_
      exact ⟨ret_rat F.out.symm, (hb.setCell (Nat.le_refl _) _).setCell (Nat.le_refl _) _⟩
set_option maxHeartbeats 2000000 in
set_option maxRecDepth 100000 in
theorem parse_one_plain_eq (l T L r : List UInt8) (p0 q0 : Int) (w : World) (hl : l.length ≤ 1073741824)
    (hno : ∀ k (h : k < l.length), l[k] ≠ 47)
    (hlen0 : 0 < l.length) (h0 : ∀ h : 0 < l.length, l[0] ≠ 45) (hcU : countB l = true) (hp0 : countV l = p0) (hpb : 0 ≤ p0 ∧ p0 < 10000000000)
    (hr : rparse l = (p0, 1, 0)) (heq : textR (p0) 1 = l) :
    Calls Tryd.prog 23 #[.string ⟨l.toArray⟩] w fun e w' => e = .returned (.tuple #[.agg #[.int .i64 (rparse l).1, .int .i64 (rparse l).2.1], .int .i64 (rparse l).2.2]) ∧ Below w.heap.size w w' := by
  have F := Lib.hid hr
  have HNO := Lib.hid hno
  have CU := Lib.hid hcU
  have PU := Lib.hid hp0
  obtain ⟨pb0, pb1⟩ := hpb
  have heq2 : (textR (p0) 1 == l) = true := by simpa using heq
  clear hr hno hcU hp0 heq
  have hsz1 : 0 < (⟨l.toArray⟩ : ByteArray).size := by show 0 < l.toArray.size; simpa using hlen0
  have h45 : ((((⟨l.toArray⟩ : ByteArray)[0]'hsz1).toNat : Int) == 45) = false := byte_ne45 hsz1 hlen0 (h0 hlen0)
  clear h0
  have H0 := Lib.hid (show PRel l l.length (.string ⟨l.toArray⟩) (.int .i64 0) from ⟨0, Nat.zero_le _, rfl, rfl⟩)
  have hsz0 : ∀ k, k < l.length → k < (⟨l.toArray⟩ : ByteArray).size := fun k h => by show k < l.toArray.size; simpa using h
  have HSZ := Lib.hid hsz0
  clear hsz0
  go_enter Tryd.func23, Tryd.ntmps23
  go_wp2_with fail
  go_loop [5, 6] (fun t i => PRel l l.length t i) (fun _ i => l.length - (intOf i).toNat)
  case atStart => exact H0.out
  case round =>
    obtain ⟨k, hk, rfl, rfl⟩ := hrel
    by_cases hlt : k < l.length
    · have hsz := HSZ.out k hlt
      have h47 : ((((⟨l.toArray⟩ : ByteArray)[k]'hsz).toNat : Int) == 47) = false := byte_ne hsz hlt (HNO.out k hlt)
      go_wp2_with fail
      exact ⟨⟨k + 1, by omega, by go_num, rfl⟩, by simp [intOf]; omega⟩
    · go_wp2_with fail
      refine (count_any l _ hl).mono ?_
      rintro e w8 ⟨rfl, rfl⟩
      rw [CU.out, PU.out]
      go_wp2_with fail
      refine (RText_any (p0) 1 _ ⟨⟨by omega, by omega⟩, by omega, by omega⟩).mono ?_
      rintro e w1 ⟨rfl, hb1⟩
      obtain ⟨c0, c1, f0, f1, hz⟩ := keepR hb1 (r := w.heap.size) (c0 := .int .i64 0) (c1 := .int .i64 0) (by go_simp) (by go_simp) (by go_simp) (by go_simp)
      have v0 := cell_at_below hb1 (w.heap.size + 1) 0 (.int .i64 (p0)) (by go_simp)
      have v1 := cell_at_below hb1 (w.heap.size + 1) 1 (.int .i64 1) (by go_simp)
      have hb := bt hb1 (below_alloc2 w _ _)
      clear hb1
      go_wp2
      refine bodyPost_ret (v := .tuple #[.agg #[.int .i64 (p0), .int .i64 1], .int .i64 0]) (by simp [results, Tryd.results23, go_sem, c0, c1]) rfl ?_
      exact ⟨ret_rat F.out.symm, (hb.setCell (Nat.le_refl _) _).setCell (Nat.le_refl _) _⟩
set_option maxHeartbeats 2000000 in
set_option maxRecDepth 100000 in
theorem parse_two_nil_no (l T L r : List UInt8) (p0 q0 : Int) (w : World) (hl : l.length ≤ 1073741824)
    (hno : ∀ k (h : k < l.length), k < T.length → l[k] ≠ 47) (hat : ∀ h : T.length < l.length, l[T.length] = 47) (hTl : T.length < l.length) (hLL : L.length ≤ 1073741824)
    (hexT : (⟨l.toArray⟩ : ByteArray).extract 0 T.length = ⟨T.toArray⟩) (hexL : (⟨l.toArray⟩ : ByteArray).extract (T.length + 1) l.length = ⟨L.toArray⟩)
    (hcL : countB L = true) (hq0 : countV L = q0) (hqb : 0 ≤ q0 ∧ q0 < 10000000000)
    (hT0 : T = []) (hcU : countB T = false) (hp0 : countV T = p0) (hpb : 0 ≤ p0 ∧ p0 < 10000000000)
    (hr : rparse l = (0, 0, 30)) :
    Calls Tryd.prog 23 #[.string ⟨l.toArray⟩] w fun e w' => e = .returned (.tuple #[.agg #[.int .i64 (rparse l).1, .int .i64 (rparse l).2.1], .int .i64 (rparse l).2.2]) ∧ Below w.heap.size w w' := by
  have F := Lib.hid hr
  have HNO := Lib.hid hno
  have CU := Lib.hid hcU
  have PU := Lib.hid hp0
  obtain ⟨pb0, pb1⟩ := hpb
  have HAT := Lib.hid hat
  have HLL := Lib.hid hLL
  have CL := Lib.hid hcL
  have QL := Lib.hid hq0
  obtain ⟨qb0, qb1⟩ := hqb
  clear hr hno hcU hp0 hat hLL hcL hq0
  have hlen0 : ¬ 0 < T.length := by rw [hT0]; simp
  clear hT0
  have H0 := Lib.hid (show PRel l T.length (.string ⟨l.toArray⟩) (.int .i64 0) from ⟨0, Nat.zero_le _, rfl, rfl⟩)
  have hsz0 : ∀ k, k < l.length → k < (⟨l.toArray⟩ : ByteArray).size := fun k h => by show k < l.toArray.size; simpa using h
  have HSZ := Lib.hid hsz0
  clear hsz0
  go_enter Tryd.func23, Tryd.ntmps23
  go_wp2_with fail
  go_loop [5, 6] (fun t i => PRel l T.length t i) (fun _ i => l.length - (intOf i).toNat)
  case atStart => exact H0.out
  case round =>
    obtain ⟨k, hk, rfl, rfl⟩ := hrel
    have hlt : k < l.length := by omega
    by_cases hkT : k < T.length
    · have hsz := HSZ.out k hlt
      have h47 : ((((⟨l.toArray⟩ : ByteArray)[k]'hsz).toNat : Int) == 47) = false := byte_ne hsz hlt (HNO.out k hlt hkT)
      go_wp2_with fail
      exact ⟨⟨k + 1, by omega, by go_num, rfl⟩, by simp [intOf]; omega⟩
    · have hkk : T.length = k := by omega
      subst hkk
      have hsz := HSZ.out T.length hlt
      have h47 : ((((⟨l.toArray⟩ : ByteArray)[T.length]'hsz).toNat : Int) == 47) = true := byte_eq hsz hlt (HAT.out hlt)
      go_wp2_with fail
      refine (count_any L _ HLL.out).mono ?_
      rintro e w9 ⟨rfl, rfl⟩
      rw [CL.out, QL.out]
      go_wp2_with fail
      refine (count_any T _ (by omega)).mono ?_
      rintro e w8 ⟨rfl, rfl⟩
      rw [CU.out, PU.out]
      go_wp2
      refine bodyPost_ret (v := .tuple #[.agg #[.int .i64 0, .int .i64 0], .int .i64 30]) (by simp [results, Tryd.results23, go_sem]) rfl ?_
      exact ⟨ret_rat F.out.symm, below_alloc2 _ _ _⟩
set_option maxHeartbeats 2000000 in
set_option maxRecDepth 100000 in
theorem parse_two_minus_no (l T L r : List UInt8) (p0 q0 : Int) (w : World) (hl : l.length ≤ 1073741824)
    (hno : ∀ k (h : k < l.length), k < T.length → l[k] ≠ 47) (hat : ∀ h : T.length < l.length, l[T.length] = 47) (hTl : T.length < l.length) (hLL : L.length ≤ 1073741824)
    (hexT : (⟨l.toArray⟩ : ByteArray).extract 0 T.length = ⟨T.toArray⟩) (hexL : (⟨l.toArray⟩ : ByteArray).extract (T.length + 1) l.length = ⟨L.toArray⟩)
    (hcL : countB L = true) (hq0 : countV L = q0) (hqb : 0 ≤ q0 ∧ q0 < 10000000000)
    (hT0 : T = 45 :: r) (hrl : r.length ≤ 1073741824) (hcU : countB r = false) (hp0 : countV r = p0) (hpb : 0 ≤ p0 ∧ p0 < 10000000000)
    (hr : rparse l = (0, 0, 30)) :
    Calls Tryd.prog 23 #[.string ⟨l.toArray⟩] w fun e w' => e = .returned (.tuple #[.agg #[.int .i64 (rparse l).1, .int .i64 (rparse l).2.1], .int .i64 (rparse l).2.2]) ∧ Below w.heap.size w w' := by
  have F := Lib.hid hr
  have HNO := Lib.hid hno
  have CU := Lib.hid hcU
  have PU := Lib.hid hp0
  obtain ⟨pb0, pb1⟩ := hpb
  have HAT := Lib.hid hat
  have HLL := Lib.hid hLL
  have CL := Lib.hid hcL
  have QL := Lib.hid hq0
  obtain ⟨qb0, qb1⟩ := hqb
  clear hr hno hcU hp0 hat hLL hcL hq0
  have hex1 : (⟨T.toArray⟩ : ByteArray).extract 1 T.length = ⟨r.toArray⟩ := by rw [hT0]; exact tail_cut 45 r
  have hlen0 : 0 < T.length := by rw [hT0]; simp
  have hsz1 : 0 < (⟨T.toArray⟩ : ByteArray).size := by show 0 < T.toArray.size; simpa using hlen0
  have h45 : ((((⟨T.toArray⟩ : ByteArray)[0]'hsz1).toNat : Int) == 45) = true := by subst hT0; rfl
  clear hT0
  have H0 := Lib.hid (show PRel l T.length (.string ⟨l.toArray⟩) (.int .i64 0) from ⟨0, Nat.zero_le _, rfl, rfl⟩)
  have hsz0 : ∀ k, k < l.length → k < (⟨l.toArray⟩ : ByteArray).size := fun k h => by show k < l.toArray.size; simpa using h
  have HSZ := Lib.hid hsz0
  clear hsz0
  go_enter Tryd.func23, Tryd.ntmps23
  go_wp2_with fail
  go_loop [5, 6] (fun t i => PRel l T.length t i) (fun _ i => l.length - (intOf i).toNat)
  case atStart => exact H0.out
  case round =>
    obtain ⟨k, hk, rfl, rfl⟩ := hrel
    have hlt : k < l.length := by omega
    by_cases hkT : k < T.length
    · have hsz := HSZ.out k hlt
      have h47 : ((((⟨l.toArray⟩ : ByteArray)[k]'hsz).toNat : Int) == 47) = false := byte_ne hsz hlt (HNO.out k hlt hkT)
      go_wp2_with fail
      exact ⟨⟨k + 1, by omega, by go_num, rfl⟩, by simp [intOf]; omega⟩
    · have hkk : T.length = k := by omega
      subst hkk
      have hsz := HSZ.out T.length hlt
      have h47 : ((((⟨l.toArray⟩ : ByteArray)[T.length]'hsz).toNat : Int) == 47) = true := byte_eq hsz hlt (HAT.out hlt)
      go_wp2_with fail
      refine (count_any L _ HLL.out).mono ?_
      rintro e w9 ⟨rfl, rfl⟩
      rw [CL.out, QL.out]
      go_wp2_with fail
      refine (count_any r _ hrl).mono ?_
      rintro e w8 ⟨rfl, rfl⟩
      rw [CU.out, PU.out]
      go_wp2
      refine bodyPost_ret (v := .tuple #[.agg #[.int .i64 0, .int .i64 0], .int .i64 30]) (by simp [results, Tryd.results23, go_sem]) rfl ?_
      exact ⟨ret_rat F.out.symm, below_alloc2 _ _ _⟩
set_option maxHeartbeats 2000000 in
set_option maxRecDepth 100000 in
theorem parse_two_minus_ne (l T L r : List UInt8) (p0 q0 : Int) (w : World) (hl : l.length ≤ 1073741824)
    (hno : ∀ k (h : k < l.length), k < T.length → l[k] ≠ 47) (hat : ∀ h : T.length < l.length, l[T.length] = 47) (hTl : T.length < l.length) (hLL : L.length ≤ 1073741824)
    (hexT : (⟨l.toArray⟩ : ByteArray).extract 0 T.length = ⟨T.toArray⟩) (hexL : (⟨l.toArray⟩ : ByteArray).extract (T.length + 1) l.length = ⟨L.toArray⟩)
    (hcL : countB L = true) (hq0 : countV L = q0) (hqb : 0 ≤ q0 ∧ q0 < 10000000000)
    (hT0 : T = 45 :: r) (hrl : r.length ≤ 1073741824) (hcU : countB r = true) (hp0 : countV r = p0) (hpb : 0 ≤ p0 ∧ p0 < 10000000000)
    (hr : rparse l = (0, 0, 30)) (hne : textR (-p0) q0 ≠ l) :
    Calls Tryd.prog 23 #[.string ⟨l.toArray⟩] w fun e w' => e = .returned (.tuple #[.agg #[.int .i64 (rparse l).1, .int .i64 (rparse l).2.1], .int .i64 (rparse l).2.2]) ∧ Below w.heap.size w w' := by
  have F := Lib.hid hr
  have HNO := Lib.hid hno
  have CU := Lib.hid hcU
  have PU := Lib.hid hp0
  obtain ⟨pb0, pb1⟩ := hpb
  have HAT := Lib.hid hat
  have HLL := Lib.hid hLL
  have CL := Lib.hid hcL
  have QL := Lib.hid hq0
  obtain ⟨qb0, qb1⟩ := hqb
  have hne2 : (textR (-p0) q0 == l) = false := by simpa using hne
  clear hr hno hcU hp0 hat hLL hcL hq0 hne
  have hex1 : (⟨T.toArray⟩ : ByteArray).extract 1 T.length = ⟨r.toArray⟩ := by rw [hT0]; exact tail_cut 45 r
  have hlen0 : 0 < T.length := by rw [hT0]; simp
  have hsz1 : 0 < (⟨T.toArray⟩ : ByteArray).size := by show 0 < T.toArray.size; simpa using hlen0
  have h45 : ((((⟨T.toArray⟩ : ByteArray)[0]'hsz1).toNat : Int) == 45) = true := by subst hT0; rfl
  clear hT0
  have H0 := Lib.hid (show PRel l T.length (.string ⟨l.toArray⟩) (.int .i64 0) from ⟨0, Nat.zero_le _, rfl, rfl⟩)
  have hsz0 : ∀ k, k < l.length → k < (⟨l.toArray⟩ : ByteArray).size := fun k h => by show k < l.toArray.size; simpa using h
  have HSZ := Lib.hid hsz0
  clear hsz0
  go_enter Tryd.func23, Tryd.ntmps23
  go_wp2_with fail
  go_loop [5, 6] (fun t i => PRel l T.length t i) (fun _ i => l.length - (intOf i).toNat)
  case atStart => exact H0.out
  case round =>
    obtain ⟨k, hk, rfl, rfl⟩ := hrel
    have hlt : k < l.length := by omega
    by_cases hkT : k < T.length
    · have hsz := HSZ.out k hlt
      have h47 : ((((⟨l.toArray⟩ : ByteArray)[k]'hsz).toNat : Int) == 47) = false := byte_ne hsz hlt (HNO.out k hlt hkT)
      go_wp2_with fail
      exact ⟨⟨k + 1, by omega, by go_num, rfl⟩, by simp [intOf]; omega⟩
    · have hkk : T.length = k := by omega
      subst hkk
      have hsz := HSZ.out T.length hlt
      have h47 : ((((⟨l.toArray⟩ : ByteArray)[T.length]'hsz).toNat : Int) == 47) = true := byte_eq hsz hlt (HAT.out hlt)
      go_wp2_with fail
      refine (count_any L _ HLL.out).mono ?_
      rintro e w9 ⟨rfl, rfl⟩
      rw [CL.out, QL.out]
      go_wp2_with fail
      refine (count_any r _ hrl).mono ?_
      rintro e w8 ⟨rfl, rfl⟩
      rw [CU.out, PU.out]
      go_wp2_with fail
      refine (RText_any (-p0) q0 _ ⟨⟨by omega, by omega⟩, by omega, by omega⟩).mono ?_
      rintro e w1 ⟨rfl, hb1⟩
      obtain ⟨c0, c1, f0, f1, hz⟩ := keepR hb1 (r := w.heap.size) (c0 := .int .i64 0) (c1 := .int .i64 0) (by go_simp) (by go_simp) (by go_simp) (by go_simp)
      have v0 := cell_at_below hb1 (w.heap.size + 1) 0 (.int .i64 (-p0)) (by go_simp)
      have v1 := cell_at_below hb1 (w.heap.size + 1) 1 (.int .i64 q0) (by go_simp)
      have hb := bt hb1 (below_alloc2 w _ _)
      clear hb1
      go_wp2
      refine bodyPost_ret (v := .tuple #[.agg #[.int .i64 0, .int .i64 0], .int .i64 30]) (by simp [results, Tryd.results23, go_sem, c0, c1]) rfl ?_
      exact ⟨ret_rat F.out.symm, (hb.setCell (Nat.le_refl _) _).setCell (Nat.le_refl _) _⟩
set_option maxHeartbeats 2000000 in
set_option maxRecDepth 100000 in
theorem parse_two_minus_eq (l T L r : List UInt8) (p0 q0 : Int) (w : World) (hl : l.length ≤ 1073741824)
    (hno : ∀ k (h : k < l.length), k < T.length → l[k] ≠ 47) (hat : ∀ h : T.length < l.length, l[T.length] = 47) (hTl : T.length < l.length) (hLL : L.length ≤ 1073741824)
    (hexT : (⟨l.toArray⟩ : ByteArray).extract 0 T.length = ⟨T.toArray⟩) (hexL : (⟨l.toArray⟩ : ByteArray).extract (T.length + 1) l.length = ⟨L.toArray⟩)
    (hcL : countB L = true) (hq0 : countV L = q0) (hqb : 0 ≤ q0 ∧ q0 < 10000000000)
    (hT0 : T = 45 :: r) (hrl : r.length ≤ 1073741824) (hcU : countB r = true) (hp0 : countV r = p0) (hpb : 0 ≤ p0 ∧ p0 < 10000000000)
    (hr : rparse l = (-p0, q0, 0)) (heq : textR (-p0) q0 = l) :
    Calls Tryd.prog 23 #[.string ⟨l.toArray⟩] w fun e w' => e = .returned (.tuple #[.agg #[.int .i64 (rparse l).1, .int .i64 (rparse l).2.1], .int .i64 (rparse l).2.2]) ∧ Below w.heap.size w w' := by
  have F := Lib.hid hr
  have HNO := Lib.hid hno
  have CU := Lib.hid hcU
  have PU := Lib.hid hp0
  obtain ⟨pb0, pb1⟩ := hpb
  have HAT := Lib.hid hat
  have HLL := Lib.hid hLL
  have CL := Lib.hid hcL
  have QL := Lib.hid hq0
  obtain ⟨qb0, qb1⟩ := hqb
  have heq2 : (textR (-p0) q0 == l) = true := by simpa using heq
  clear hr hno hcU hp0 hat hLL hcL hq0 heq
  have hex1 : (⟨T.toArray⟩ : ByteArray).extract 1 T.length = ⟨r.toArray⟩ := by rw [hT0]; exact tail_cut 45 r
  have hlen0 : 0 < T.length := by rw [hT0]; simp
  have hsz1 : 0 < (⟨T.toArray⟩ : ByteArray).size := by show 0 < T.toArray.size; simpa using hlen0
  have h45 : ((((⟨T.toArray⟩ : ByteArray)[0]'hsz1).toNat : Int) == 45) = true := by subst hT0; rfl
  clear hT0
  have H0 := Lib.hid (show PRel l T.length (.string ⟨l.toArray⟩) (.int .i64 0) from ⟨0, Nat.zero_le _, rfl, rfl⟩)
  have hsz0 : ∀ k, k < l.length → k < (⟨l.toArray⟩ : ByteArray).size := fun k h => by show k < l.toArray.size; simpa using h
  have HSZ := Lib.hid hsz0
  clear hsz0
  go_enter Tryd.func23, Tryd.ntmps23
  go_wp2_with fail
  go_loop [5, 6] (fun t i => PRel l T.length t i) (fun _ i => l.length - (intOf i).toNat)
  case atStart => exact H0.out
  case round =>
    obtain ⟨k, hk, rfl, rfl⟩ := hrel
    have hlt : k < l.length := by omega
    by_cases hkT : k < T.length
    · have hsz := HSZ.out k hlt
      have h47 : ((((⟨l.toArray⟩ : ByteArray)[k]'hsz).toNat : Int) == 47) = false := byte_ne hsz hlt (HNO.out k hlt hkT)
      go_wp2_with fail
      exact ⟨⟨k + 1, by omega, by go_num, rfl⟩, by simp [intOf]; omega⟩
    · have hkk : T.length = k := by omega
      subst hkk
      have hsz := HSZ.out T.length hlt
      have h47 : ((((⟨l.toArray⟩ : ByteArray)[T.length]'hsz).toNat : Int) == 47) = true := byte_eq hsz hlt (HAT.out hlt)
      go_wp2_with fail
      refine (count_any L _ HLL.out).mono ?_
      rintro e w9 ⟨rfl, rfl⟩
      rw [CL.out, QL.out]
      go_wp2_with fail
      refine (count_any r _ hrl).mono ?_
      rintro e w8 ⟨rfl, rfl⟩
      rw [CU.out, PU.out]
      go_wp2_with fail
      refine (RText_any (-p0) q0 _ ⟨⟨by omega, by omega⟩, by omega, by omega⟩).mono ?_
      rintro e w1 ⟨rfl, hb1⟩
      obtain ⟨c0, c1, f0, f1, hz⟩ := keepR hb1 (r := w.heap.size) (c0 := .int .i64 0) (c1 := .int .i64 0) (by go_simp) (by go_simp) (by go_simp) (by go_simp)
      have v0 := cell_at_below hb1 (w.heap.size + 1) 0 (.int .i64 (-p0)) (by go_simp)
      have v1 := cell_at_below hb1 (w.heap.size + 1) 1 (.int .i64 q0) (by go_simp)
      have hb := bt hb1 (below_alloc2 w _ _)
      clear hb1
      go_wp2
      refine bodyPost_ret (v := .tuple #[.agg #[.int .i64 (-p0), .int .i64 q0], .int .i64 0]) (by simp [results, Tryd.results23, go_sem, c0, c1]) rfl ?_
      exact ⟨ret_rat F.out.symm, (hb.setCell (Nat.le_refl _) _).setCell (Nat.le_refl _) _⟩
set_option maxHeartbeats 2000000 in
set_option maxRecDepth 100000 in
theorem parse_two_plain_no (l T L r : List UInt8) (p0 q0 : Int) (w : World) (hl : l.length ≤ 1073741824)
    (hno : ∀ k (h : k < l.length), k < T.length → l[k] ≠ 47) (hat : ∀ h : T.length < l.length, l[T.length] = 47) (hTl : T.length < l.length) (hLL : L.length ≤ 1073741824)
    (hexT : (⟨l.toArray⟩ : ByteArray).extract 0 T.length = ⟨T.toArray⟩) (hexL : (⟨l.toArray⟩ : ByteArray).extract (T.length + 1) l.length = ⟨L.toArray⟩)
    (hcL : countB L = true) (hq0 : countV L = q0) (hqb : 0 ≤ q0 ∧ q0 < 10000000000)
    (hlen0 : 0 < T.length) (h0 : ∀ h : 0 < T.length, T[0] ≠ 45) (hTl2 : T.length ≤ 1073741824) (hcU : countB T = false) (hp0 : countV T = p0) (hpb : 0 ≤ p0 ∧ p0 < 10000000000)
    (hr : rparse l = (0, 0, 30)) :
    Calls Tryd.prog 23 #[.string ⟨l.toArray⟩] w fun e w' => e = .returned (.tuple #[.agg #[.int .i64 (rparse l).1, .int .i64 (rparse l).2.1], .int .i64 (rparse l).2.2]) ∧ Below w.heap.size w w' := by
  have F := Lib.hid hr
  have HNO := Lib.hid hno
  have CU := Lib.hid hcU
  have PU := Lib.hid hp0
  obtain ⟨pb0, pb1⟩ := hpb
  have HAT := Lib.hid hat
  have HLL := Lib.hid hLL
  have CL := Lib.hid hcL
  have QL := Lib.hid hq0
  obtain ⟨qb0, qb1⟩ := hqb
  clear hr hno hcU hp0 hat hLL hcL hq0
  have hsz1 : 0 < (⟨T.toArray⟩ : ByteArray).size := by show 0 < T.toArray.size; simpa using hlen0
  have h45 : ((((⟨T.toArray⟩ : ByteArray)[0]'hsz1).toNat : Int) == 45) = false := byte_ne45 hsz1 hlen0 (h0 hlen0)
  clear h0
  have H0 := Lib.hid (show PRel l T.length (.string ⟨l.toArray⟩) (.int .i64 0) from ⟨0, Nat.zero_le _, rfl, rfl⟩)
  have hsz0 : ∀ k, k < l.length → k < (⟨l.toArray⟩ : ByteArray).size := fun k h => by show k < l.toArray.size; simpa using h
  have HSZ := Lib.hid hsz0
  clear hsz0
  go_enter Tryd.func23, Tryd.ntmps23
  go_wp2_with fail
  go_loop [5, 6] (fun t i => PRel l T.length t i) (fun _ i => l.length - (intOf i).toNat)
  case atStart => exact H0.out
  case round =>
    obtain ⟨k, hk, rfl, rfl⟩ := hrel
    have hlt : k < l.length := by omega
    by_cases hkT : k < T.length
    · have hsz := HSZ.out k hlt
      have h47 : ((((⟨l.toArray⟩ : ByteArray)[k]'hsz).toNat : Int) == 47) = false := byte_ne hsz hlt (HNO.out k hlt hkT)
      go_wp2_with fail
      exact ⟨⟨k + 1, by omega, by go_num, rfl⟩, by simp [intOf]; omega⟩
    · have hkk : T.length = k := by omega
      subst hkk
      have hsz := HSZ.out T.length hlt
      have h47 : ((((⟨l.toArray⟩ : ByteArray)[T.length]'hsz).toNat : Int) == 47) = true := byte_eq hsz hlt (HAT.out hlt)
      go_wp2_with fail
      refine (count_any L _ HLL.out).mono ?_
      rintro e w9 ⟨rfl, rfl⟩
      rw [CL.out, QL.out]
      go_wp2_with fail
      refine (count_any T _ hTl2).mono ?_
      rintro e w8 ⟨rfl, rfl⟩
      rw [CU.out, PU.out]
      go_wp2
      refine bodyPost_ret (v := .tuple #[.agg #[.int .i64 0, .int .i64 0], .int .i64 30]) (by simp [results, Tryd.results23, go_sem]) rfl ?_
      exact ⟨ret_rat F.out.symm, below_alloc2 _ _ _⟩
set_option maxHeartbeats 2000000 in
set_option maxRecDepth 100000 in
theorem parse_two_plain_ne (l T L r : List UInt8) (p0 q0 : Int) (w : World) (hl : l.length ≤ 1073741824)
    (hno : ∀ k (h : k < l.length), k < T.length → l[k] ≠ 47) (hat : ∀ h : T.length < l.length, l[T.length] = 47) (hTl : T.length < l.length) (hLL : L.length ≤ 1073741824)
    (hexT : (⟨l.toArray⟩ : ByteArray).extract 0 T.length = ⟨T.toArray⟩) (hexL : (⟨l.toArray⟩ : ByteArray).extract (T.length + 1) l.length = ⟨L.toArray⟩)
    (hcL : countB L = true) (hq0 : countV L = q0) (hqb : 0 ≤ q0 ∧ q0 < 10000000000)
    (hlen0 : 0 < T.length) (h0 : ∀ h : 0 < T.length, T[0] ≠ 45) (hTl2 : T.length ≤ 1073741824) (hcU : countB T = true) (hp0 : countV T = p0) (hpb : 0 ≤ p0 ∧ p0 < 10000000000)
    (hr : rparse l = (0, 0, 30)) (hne : textR (p0) q0 ≠ l) :
    Calls Tryd.prog 23 #[.string ⟨l.toArray⟩] w fun e w' => e = .returned (.tuple #[.agg #[.int .i64 (rparse l).1, .int .i64 (rparse l).2.1], .int .i64 (rparse l).2.2]) ∧ Below w.heap.size w w' := by
  have F := Lib.hid hr
  have HNO := Lib.hid hno
  have CU := Lib.hid hcU
  have PU := Lib.hid hp0
  obtain ⟨pb0, pb1⟩ := hpb
  have HAT := Lib.hid hat
  have HLL := Lib.hid hLL
  have CL := Lib.hid hcL
  have QL := Lib.hid hq0
  obtain ⟨qb0, qb1⟩ := hqb
  have hne2 : (textR (p0) q0 == l) = false := by simpa using hne
  clear hr hno hcU hp0 hat hLL hcL hq0 hne
  have hsz1 : 0 < (⟨T.toArray⟩ : ByteArray).size := by show 0 < T.toArray.size; simpa using hlen0
  have h45 : ((((⟨T.toArray⟩ : ByteArray)[0]'hsz1).toNat : Int) == 45) = false := byte_ne45 hsz1 hlen0 (h0 hlen0)
  clear h0
  have H0 := Lib.hid (show PRel l T.length (.string ⟨l.toArray⟩) (.int .i64 0) from ⟨0, Nat.zero_le _, rfl, rfl⟩)
  have hsz0 : ∀ k, k < l.length → k < (⟨l.toArray⟩ : ByteArray).size := fun k h => by show k < l.toArray.size; simpa using h
  have HSZ := Lib.hid hsz0
  clear hsz0
  go_enter Tryd.func23, Tryd.ntmps23
  go_wp2_with fail
  go_loop [5, 6] (fun t i => PRel l T.length t i) (fun _ i => l.length - (intOf i).toNat)
  case atStart => exact H0.out
  case round =>
    obtain ⟨k, hk, rfl, rfl⟩ := hrel
    have hlt : k < l.length := by omega
    by_cases hkT : k < T.length
    · have hsz := HSZ.out k hlt
      have h47 : ((((⟨l.toArray⟩ : ByteArray)[k]'hsz).toNat : Int) == 47) = false := byte_ne hsz hlt (HNO.out k hlt hkT)
      go_wp2_with fail
      exact ⟨⟨k + 1, by omega, by go_num, rfl⟩, by simp [intOf]; omega⟩
    · have hkk : T.length = k := by omega
      subst hkk
      have hsz := HSZ.out T.length hlt
      have h47 : ((((⟨l.toArray⟩ : ByteArray)[T.length]'hsz).toNat : Int) == 47) = true := byte_eq hsz hlt (HAT.out hlt)
      go_wp2_with fail
      refine (count_any L _ HLL.out).mono ?_
      rintro e w9 ⟨rfl, rfl⟩
      rw [CL.out, QL.out]
      go_wp2_with fail
      refine (count_any T _ hTl2).mono ?_
      rintro e w8 ⟨rfl, rfl⟩
      rw [CU.out, PU.out]
      go_wp2_with fail
      refine (RText_any (p0) q0 _ ⟨⟨by omega, by omega⟩, by omega, by omega⟩).mono ?_
      rintro e w1 ⟨rfl, hb1⟩
      obtain ⟨c0, c1, f0, f1, hz⟩ := keepR hb1 (r := w.heap.size) (c0 := .int .i64 0) (c1 := .int .i64 0) (by go_simp) (by go_simp) (by go_simp) (by go_simp)
      have v0 := cell_at_below hb1 (w.heap.size + 1) 0 (.int .i64 (p0)) (by go_simp)
      have v1 := cell_at_below hb1 (w.heap.size + 1) 1 (.int .i64 q0) (by go_simp)
      have hb := bt hb1 (below_alloc2 w _ _)
      clear hb1
      go_wp2
      refine bodyPost_ret (v := .tuple #[.agg #[.int .i64 0, .int .i64 0], .int .i64 30]) (by simp [results, Tryd.results23, go_sem, c0, c1]) rfl ?_
      exact ⟨ret_rat F.out.symm, (hb.setCell (Nat.le_refl _) _).setCell (Nat.le_refl _) _⟩
set_option maxHeartbeats 2000000 in
set_option maxRecDepth 100000 in
theorem parse_two_plain_eq (l T L r : List UInt8) (p0 q0 : Int) (w : World) (hl : l.length ≤ 1073741824)
    (hno : ∀ k (h : k < l.length), k < T.length → l[k] ≠ 47) (hat : ∀ h : T.length < l.length, l[T.length] = 47) (hTl : T.length < l.length) (hLL : L.length ≤ 1073741824)
    (hexT : (⟨l.toArray⟩ : ByteArray).extract 0 T.length = ⟨T.toArray⟩) (hexL : (⟨l.toArray⟩ : ByteArray).extract (T.length + 1) l.length = ⟨L.toArray⟩)
    (hcL : countB L = true) (hq0 : countV L = q0) (hqb : 0 ≤ q0 ∧ q0 < 10000000000)
    (hlen0 : 0 < T.length) (h0 : ∀ h : 0 < T.length, T[0] ≠ 45) (hTl2 : T.length ≤ 1073741824) (hcU : countB T = true) (hp0 : countV T = p0) (hpb : 0 ≤ p0 ∧ p0 < 10000000000)
    (hr : rparse l = (p0, q0, 0)) (heq : textR (p0) q0 = l) :
    Calls Tryd.prog 23 #[.string ⟨l.toArray⟩] w fun e w' => e = .returned (.tuple #[.agg #[.int .i64 (rparse l).1, .int .i64 (rparse l).2.1], .int .i64 (rparse l).2.2]) ∧ Below w.heap.size w w' := by
  have F := Lib.hid hr
  have HNO := Lib.hid hno
  have CU := Lib.hid hcU
  have PU := Lib.hid hp0
  obtain ⟨pb0, pb1⟩ := hpb
  have HAT := Lib.hid hat
  have HLL := Lib.hid hLL
  have CL := Lib.hid hcL
  have QL := Lib.hid hq0
  obtain ⟨qb0, qb1⟩ := hqb
  have heq2 : (textR (p0) q0 == l) = true := by simpa using heq
  clear hr hno hcU hp0 hat hLL hcL hq0 heq
  have hsz1 : 0 < (⟨T.toArray⟩ : ByteArray).size := by show 0 < T.toArray.size; simpa using hlen0
  have h45 : ((((⟨T.toArray⟩ : ByteArray)[0]'hsz1).toNat : Int) == 45) = false := byte_ne45 hsz1 hlen0 (h0 hlen0)
  clear h0
  have H0 := Lib.hid (show PRel l T.length (.string ⟨l.toArray⟩) (.int .i64 0) from ⟨0, Nat.zero_le _, rfl, rfl⟩)
  have hsz0 : ∀ k, k < l.length → k < (⟨l.toArray⟩ : ByteArray).size := fun k h => by show k < l.toArray.size; simpa using h
  have HSZ := Lib.hid hsz0
  clear hsz0
  go_enter Tryd.func23, Tryd.ntmps23
  go_wp2_with fail
  go_loop [5, 6] (fun t i => PRel l T.length t i) (fun _ i => l.length - (intOf i).toNat)
  case atStart => exact H0.out
  case round =>
    obtain ⟨k, hk, rfl, rfl⟩ := hrel
    have hlt : k < l.length := by omega
    by_cases hkT : k < T.length
    · have hsz := HSZ.out k hlt
      have h47 : ((((⟨l.toArray⟩ : ByteArray)[k]'hsz).toNat : Int) == 47) = false := byte_ne hsz hlt (HNO.out k hlt hkT)
      go_wp2_with fail
      exact ⟨⟨k + 1, by omega, by go_num, rfl⟩, by simp [intOf]; omega⟩
    · have hkk : T.length = k := by omega
      subst hkk
      have hsz := HSZ.out T.length hlt
      have h47 : ((((⟨l.toArray⟩ : ByteArray)[T.length]'hsz).toNat : Int) == 47) = true := byte_eq hsz hlt (HAT.out hlt)
      go_wp2_with fail
      refine (count_any L _ HLL.out).mono ?_
      rintro e w9 ⟨rfl, rfl⟩
      rw [CL.out, QL.out]
      go_wp2_with fail
      refine (count_any T _ hTl2).mono ?_
      rintro e w8 ⟨rfl, rfl⟩
      rw [CU.out, PU.out]
      go_wp2_with fail
      refine (RText_any (p0) q0 _ ⟨⟨by omega, by omega⟩, by omega, by omega⟩).mono ?_
      rintro e w1 ⟨rfl, hb1⟩
      obtain ⟨c0, c1, f0, f1, hz⟩ := keepR hb1 (r := w.heap.size) (c0 := .int .i64 0) (c1 := .int .i64 0) (by go_simp) (by go_simp) (by go_simp) (by go_simp)
      have v0 := cell_at_below hb1 (w.heap.size + 1) 0 (.int .i64 (p0)) (by go_simp)
      have v1 := cell_at_below hb1 (w.heap.size + 1) 1 (.int .i64 q0) (by go_simp)
      have hb := bt hb1 (below_alloc2 w _ _)
      clear hb1
      go_wp2
      refine bodyPost_ret (v := .tuple #[.agg #[.int .i64 (p0), .int .i64 q0], .int .i64 0]) (by simp [results, Tryd.results23, go_sem, c0, c1]) rfl ?_
      exact ⟨ret_rat F.out.symm, (hb.setCell (Nat.le_refl _) _).setCell (Nat.le_refl _) _⟩
theorem ext_take (l : List UInt8) (K : Nat) : (⟨l.toArray⟩ : ByteArray).extract 0 K = ⟨(l.take K).toArray⟩ := by
  rw [Lib.extract_eq]; simp
theorem ext_drop (l : List UInt8) (K : Nat) : (⟨l.toArray⟩ : ByteArray).extract K l.length = ⟨(l.drop K).toArray⟩ := by
  rw [Lib.extract_eq]
  congr 2
  rw [show ((⟨l.toArray⟩ : ByteArray).data.toList) = l from rfl]
  exact List.take_of_length_le (by rw [List.length_drop]; exact Nat.le_refl _)
theorem rOk_no1 {l : List UInt8} (h : countB (negT (cutT l)) = false) : rparse l = (0, 0, 30) := rparse_no (by unfold rOk; rw [h, Bool.and_false, Bool.false_and])
theorem rOk_no2 {l : List UInt8} (h : (textR (rP l) (rQ l) == l) = false) : rparse l = (0, 0, 30) := rparse_no (by unfold rOk; rw [h, Bool.and_false])
theorem RParse_one (l : List UInt8) (w : World) (hl : l.length ≤ 1073741824) (hB : cutB l = false) :
    Calls Tryd.prog 23 #[.string ⟨l.toArray⟩] w fun e w' => e = .returned (.tuple #[.agg #[.int .i64 (rparse l).1, .int .i64 (rparse l).2.1], .int .i64 (rparse l).2.2]) ∧ Below w.heap.size w w' := by
  obtain ⟨e1, e2, e3⟩ := cut3 l
  have hF := cutAt_false (l := l) (c := 47) (by rw [← e3]; exact hB)
  have hT : cutT l = l := by rw [e1]; exact hF.1
  have hno : ∀ k (h : k < l.length), l[k] ≠ 47 := fun k h e => hF.2 (by rw [← e]; exact List.getElem_mem h)
  have hQ : rQ l = 1 := by unfold rQ; rw [if_neg (by rw [hB]; decide)]
  rcases kinds l with h | ⟨r, h⟩ | ⟨c, r, h, h45⟩
  · have hn : countB (negT (cutT l)) = false := by rw [hT, h]; rfl
    exact parse_one_nil_no l [] [] [] _ 0 w hl hno h (by rw [h]; rfl) rfl (count_bd l) (rOk_no1 hn)
  · obtain ⟨n1, n2⟩ := num_minus r
    have hP : rP l = -countV r := by unfold rP; rw [hT, h, n2]
    have hrl : r.length ≤ 1073741824 := by rw [h] at hl; simp at hl; omega
    cases hc : countB r
    · exact parse_one_minus_no l [] [] r _ 0 w hl hno h hrl hc rfl (count_bd r) (rOk_no1 (by rw [hT, h, n1]; exact hc))
    · by_cases ht : textR (-countV r) 1 = l
      · exact parse_one_minus_eq l [] [] r _ 0 w hl hno h hrl hc rfl (count_bd r) (rparse_yes (by unfold rOk; rw [hP, hQ, hT, hB]; rw [show countB (negT l) = true by rw [h, n1]; exact hc, ht]; simp) hP hQ) ht
      · exact parse_one_minus_ne l [] [] r _ 0 w hl hno h hrl hc rfl (count_bd r) (rOk_no2 (by rw [hP, hQ]; simpa using ht)) ht
  · obtain ⟨n1, n2⟩ := num_plain r h45
    have hP : rP l = countV l := by unfold rP; rw [hT, h, n2]
    have h0 : 0 < l.length := by rw [h]; simp
    have h00 : ∀ hh : 0 < l.length, l[0] ≠ 45 := fun hh => by subst h; exact h45
    cases hc : countB l
    · exact parse_one_plain_no l [] [] [] _ 0 w hl hno h0 h00 hc rfl (count_bd l) (rOk_no1 (by rw [hT, h, n1, ← h]; exact hc))
    · by_cases ht : textR (countV l) 1 = l
      · exact parse_one_plain_eq l [] [] [] _ 0 w hl hno h0 h00 hc rfl (count_bd l) (rparse_yes (by unfold rOk; rw [hP, hQ, hT, hB]; rw [show countB (negT l) = true by rw [h, n1, ← h]; exact hc, ht]; simp) hP hQ) ht
      · exact parse_one_plain_ne l [] [] [] _ 0 w hl hno h0 h00 hc rfl (count_bd l) (rOk_no2 (by rw [hP, hQ]; simpa using ht)) ht
theorem RParse_two (l : List UInt8) (w : World) (hl : l.length ≤ 1073741824) (hB : cutB l = true) :
    Calls Tryd.prog 23 #[.string ⟨l.toArray⟩] w fun e w' => e = .returned (.tuple #[.agg #[.int .i64 (rparse l).1, .int .i64 (rparse l).2.1], .int .i64 (rparse l).2.2]) ∧ Below w.heap.size w w' := by
  obtain ⟨e1, e2, e3⟩ := cut3 l
  have hF := cutAt_true (l := l) (c := 47) (by rw [← e3]; exact hB)
  have hN := cutAt_notin (c := 47) (l := l)
  rw [← e1, ← e2] at hF
  rw [← e1] at hN
  obtain ⟨T, hT⟩ : ∃ T, cutT l = T := ⟨_, rfl⟩
  obtain ⟨L, hL⟩ : ∃ L, cutL l = L := ⟨_, rfl⟩
  rw [hT, hL] at hF
  rw [hT] at hN
  have hlen : l.length = T.length + (L.length + 1) := by rw [hF]; simp
  have hTl : T.length < l.length := by omega
  have htk : l.take T.length = T := by rw [hF]; simp
  have hdr : l.drop (T.length + 1) = L := by rw [hF]; simp
  have hno : ∀ k (h : k < l.length), k < T.length → l[k] ≠ 47 := fun k h hk e => hN (by
    have h2 : l[k]? = some l[k] := List.getElem?_eq_getElem h
    rw [e, hF, List.getElem?_append_left hk, List.getElem?_eq_getElem hk] at h2
    have this := Option.some.inj h2
    rw [← this]; exact List.getElem_mem hk)
  have hat : ∀ h : T.length < l.length, l[T.length] = 47 := fun h => by
    have h2 : l[T.length]? = some 47 := by rw [hF]; simp
    rw [List.getElem?_eq_getElem h] at h2
    exact Option.some.inj h2
  have hexT : (⟨l.toArray⟩ : ByteArray).extract 0 T.length = ⟨T.toArray⟩ := by rw [ext_take, htk]
  have hexL : (⟨l.toArray⟩ : ByteArray).extract (T.length + 1) l.length = ⟨L.toArray⟩ := by rw [ext_drop, hdr]
  have hLL : L.length ≤ 1073741824 := by omega
  have hTT : T.length ≤ 1073741824 := by omega
  have hQ : rQ l = countV L := by unfold rQ; rw [if_pos hB, hL]
  cases hcL : countB L
  · exact parse_two_bad l T L 0 w hl hno hat hTl hLL hexL hcL (rparse_no (by unfold rOk; rw [hB, hL, hcL]; simp))
  · rcases kinds T with h | ⟨r, h⟩ | ⟨c, r, h, h45⟩
    · exact parse_two_nil_no l T L [] _ _ w hl hno hat hTl hLL hexT hexL hcL rfl (count_bd L) h (by rw [h]; rfl) rfl (count_bd T) (rOk_no1 (by rw [hT, h]; rfl))
    · obtain ⟨n1, n2⟩ := num_minus r
      have hP : rP l = -countV r := by unfold rP; rw [hT, h, n2]
      have hrl : r.length ≤ 1073741824 := by rw [h] at hTT; simp at hTT; omega
      cases hc : countB r
      · exact parse_two_minus_no l T L r _ _ w hl hno hat hTl hLL hexT hexL hcL rfl (count_bd L) h hrl hc rfl (count_bd r) (rOk_no1 (by rw [hT, h, n1]; exact hc))
      · by_cases ht : textR (-countV r) (countV L) = l
        · exact parse_two_minus_eq l T L r _ _ w hl hno hat hTl hLL hexT hexL hcL rfl (count_bd L) h hrl hc rfl (count_bd r) (rparse_yes (by unfold rOk; rw [hP, hQ, hT, hB, hL, hcL]; rw [show countB (negT T) = true by rw [h, n1]; exact hc, ht]; simp) hP hQ) ht
        · exact parse_two_minus_ne l T L r _ _ w hl hno hat hTl hLL hexT hexL hcL rfl (count_bd L) h hrl hc rfl (count_bd r) (rOk_no2 (by rw [hP, hQ]; simpa using ht)) ht
    · obtain ⟨n1, n2⟩ := num_plain r h45
      have hP : rP l = countV T := by unfold rP; rw [hT, h, n2]
      have h0 : 0 < T.length := by rw [h]; simp
      have h00 : ∀ hh : 0 < T.length, T[0] ≠ 45 := fun hh => by subst h; exact h45
      cases hc : countB T
      · exact parse_two_plain_no l T L [] _ _ w hl hno hat hTl hLL hexT hexL hcL rfl (count_bd L) h0 h00 hTT hc rfl (count_bd T) (rOk_no1 (by rw [hT, h, n1, ← h]; exact hc))
      · by_cases ht : textR (countV T) (countV L) = l
        · exact parse_two_plain_eq l T L [] _ _ w hl hno hat hTl hLL hexT hexL hcL rfl (count_bd L) h0 h00 hTT hc rfl (count_bd T) (rparse_yes (by unfold rOk; rw [hP, hQ, hT, hB, hL, hcL]; rw [show countB (negT T) = true by rw [h, n1, ← h]; exact hc, ht]; simp) hP hQ) ht
        · exact parse_two_plain_ne l T L [] _ _ w hl hno hat hTl hLL hexT hexL hcL rfl (count_bd L) h0 h00 hTT hc rfl (count_bd T) (rOk_no2 (by rw [hP, hQ]; simpa using ht)) ht
theorem RParse_any (l : List UInt8) (w : World) (hl : l.length ≤ 1073741824) :
    Calls Tryd.prog 23 #[.string ⟨l.toArray⟩] w fun e w' => e = .returned (.tuple #[.agg #[.int .i64 (rparse l).1, .int .i64 (rparse l).2.1], .int .i64 (rparse l).2.2]) ∧ Below w.heap.size w w' := by
  cases hB : cutB l
  · exact RParse_one l w hl hB
  · exact RParse_two l w hl hB
end Go.Proofs.YtdpmijmofeechaaDoor.RefTy
