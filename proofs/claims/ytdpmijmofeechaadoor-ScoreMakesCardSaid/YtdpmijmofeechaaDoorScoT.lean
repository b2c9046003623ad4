/- Scores as texts: score.Text, Parse; copseref13.Text, digits, Parse. -/
import Derived.Test.YtdpmijmofeechaaDoorScoW
import Derived.Test.YtdpmijmofeechaaDoorRefTy
import Derived.Deep.DeepMust
namespace Go.Proofs.YtdpmijmofeechaaDoor.ScoT
set_option linter.unusedVariables false
open Go.RowKit Base BigM BigZ GcdM RatM RatW RefRat Glob WideM WideW Rat2 TextW PartW TxtM TxtL DigW RefTx RefTy ScoW

def textS (p q : Int) : List UInt8 := if isS p q = true then Lib.itoa p ++ 47 :: Lib.itoa q else []
theorem textS_no {p q : Int} (h : isS p q = false) : textS p q = [] := by unfold textS; rw [h]; rfl
theorem textS_yes {p q : Int} (h : isS p q = true) : textS p q = Lib.itoa p ++ 47 :: Lib.itoa q := by unfold textS; rw [if_pos h]
set_option maxHeartbeats 1000000 in
theorem SText_any (p q : Int) (w : World) (hG : G w) (hf : Fit p q) :
    Calls Tryd.prog 40 #[.agg #[.int .i64 p, .int .i64 q]] w fun e w' => e = .returned (.string ⟨(textS p q).toArray⟩) ∧ Below w.heap.size w w' := by
  cases h : isS p q
  · have F := Lib.hid (textS_no h)
    go_enter Tryd.func40, Tryd.ntmps40
    go_wp2_with fail
    refine (SIs_any p q _ hf).mono ?_
    rintro e w1 ⟨rfl, hb1⟩
    go_wp2
    go_ret
    exact ⟨by rw [F.out]; rfl, (below_alloc1 _ _).trans (hb1.mono (below_alloc1 _ _).size)⟩
  · obtain ⟨x1, x2, x3, x4, _⟩ := isS_true h
    have F := Lib.hid (textS_yes h)
    have hG1 := Lib.hid (hG.below (below_alloc1 w (.cells #[.int .i64 p, .int .i64 q] 36)))
    clear hG
    have l1 := Lib.itoa_length_le p (by omega) (by omega)
    have l2 := Lib.itoa_length_le q (by omega) (by omega)
    have n1 : ¬ 9223372036854775807 < (Lib.itoa p).length + 1 := by omega
    have n2 : ¬ 9223372036854775807 < (Lib.itoa p).length + 1 + (Lib.itoa q).length := by omega
    have n3 : ¬ 9223372036854775807 < (⟨(Lib.itoa p).toArray⟩ : ByteArray).size + 1 := by show ¬ 9223372036854775807 < (Lib.itoa p).toArray.size + 1; rw [List.size_toArray]; omega
    have n4 : ¬ 9223372036854775807 < (⟨(Lib.itoa p).toArray⟩ : ByteArray).size + 1 + (⟨(Lib.itoa q).toArray⟩ : ByteArray).size := by show ¬ 9223372036854775807 < (Lib.itoa p).toArray.size + 1 + (Lib.itoa q).toArray.size; rw [List.size_toArray, List.size_toArray]; omega
    clear l1 l2
    go_enter Tryd.func40, Tryd.ntmps40
    go_wp2_with fail
    refine (SIs_any p q _ hf).mono ?_
    rintro e w1 ⟨rfl, hb1⟩
    have hG2 := Lib.hid ((hG1.out).below hb1)
    have c1 := cell_at_below hb1 w.heap.size 0 (.int .i64 p) (by go_simp)
    have c2 := cell_at_below hb1 w.heap.size 1 (.int .i64 q) (by go_simp)
    have hbz := (below_alloc1 w (.cells #[.int .i64 p, .int .i64 q] 36)).trans (hb1.mono (below_alloc1 _ _).size)
    clear hb1
    go_wp2_with fail
    go_region_held3 (fun w' => w'.cell? ⟨w.heap.size, 0, none⟩ = some (.int .i64 p) ∧ w'.cell? ⟨w.heap.size, 1, none⟩ = some (.int .i64 q))
      (first | (go_keep; done) | (exact ⟨cell_at_below hb3 _ _ _ (cell_at_below hb2 _ _ _ c1), cell_at_below hb3 _ _ _ (cell_at_below hb2 _ _ _ c2)⟩) | (exact ⟨cell_at_below hb2 _ _ _ c1, cell_at_below hb2 _ _ _ c2⟩))
      ((first | (go_at_call_of 66 (Value.int IntKind.i64 p); refine (Itoa_any p _ (by exact (hG2.out.below (Below.refl _ _).drew)) hf.1.1 hf.1.2).mono ?_; rintro e w2 ⟨rfl, hb2⟩) | (go_at_call_of 66 (Value.int IntKind.i64 q); refine (Itoa_any q _ (by exact (hG2.out.below (Below.refl _ _).drew).below hb2) hf.2.1 hf.2.2).mono ?_; rintro e w3 ⟨rfl, hb3⟩)))
    go_wp2
    go_ret
    refine ⟨?_, (hbz.drew.trans (hb2.mono hbz.size)).trans (hb3.mono ?_)⟩
    · rw [F.out]; exact ret_str3 _ _
    · exact Nat.le_trans hbz.size hb2.size
set_option maxHeartbeats 1000000 in
theorem RSText_any (p q : Int) (w : World) (hf : Fit p q) :
    Calls Tryd.prog 43 #[.agg #[.int .i64 p, .int .i64 q]] w fun e w' => e = .returned (.string ⟨(textS p q).toArray⟩) ∧ Below w.heap.size w w' := by
  cases h : isS p q
  · have F := Lib.hid (textS_no h)
    go_enter Tryd.func43, Tryd.ntmps43
    go_wp2_with fail
    refine (RSIs_any p q _ hf).mono ?_
    rintro e w1 ⟨rfl, hb1⟩
    go_wp2
    go_ret
    exact ⟨by rw [F.out]; rfl, (below_alloc1 _ _).trans (hb1.mono (below_alloc1 _ _).size)⟩
  · obtain ⟨x1, x2, x3, x4, _⟩ := isS_true h
    have F := Lib.hid (textS_yes h)
    have l1 := Lib.itoa_length_le p (by omega) (by omega)
    have l2 := Lib.itoa_length_le q (by omega) (by omega)
    have n1 : ¬ 9223372036854775807 < (Lib.itoa p).length + 1 := by omega
    have n2 : ¬ 9223372036854775807 < (Lib.itoa p).length + 1 + (Lib.itoa q).length := by omega
    have n3 : ¬ 9223372036854775807 < (⟨(Lib.itoa p).toArray⟩ : ByteArray).size + 1 := by show ¬ 9223372036854775807 < (Lib.itoa p).toArray.size + 1; rw [List.size_toArray]; omega
    have n4 : ¬ 9223372036854775807 < (⟨(Lib.itoa p).toArray⟩ : ByteArray).size + 1 + (⟨(Lib.itoa q).toArray⟩ : ByteArray).size := by show ¬ 9223372036854775807 < (Lib.itoa p).toArray.size + 1 + (Lib.itoa q).toArray.size; rw [List.size_toArray, List.size_toArray]; omega
    clear l1 l2
    go_enter Tryd.func43, Tryd.ntmps43
    go_wp2_with fail
    refine (RSIs_any p q _ hf).mono ?_
    rintro e w1 ⟨rfl, hb1⟩
    have c1 := cell_at_below hb1 w.heap.size 0 (.int .i64 p) (by go_simp)
    have c2 := cell_at_below hb1 w.heap.size 1 (.int .i64 q) (by go_simp)
    have hbz := (below_alloc1 w (.cells #[.int .i64 p, .int .i64 q] 36)).trans (hb1.mono (below_alloc1 _ _).size)
    clear hb1
    go_wp2_with fail
    go_quiet ((first | (go_at_call_of 70 (Value.int IntKind.i64 p); exact Calls.quiet_of_same (quiet_of_left (Digits_any p _ (by omega) (by omega)))) | (go_at_call_of 70 (Value.int IntKind.i64 q); exact Calls.quiet_of_same (quiet_of_left (Digits_any q _ (by omega) (by omega))))))
    go_wp2
    go_ret
    refine ⟨?_, below_drewN hbz _⟩
    rw [F.out]; exact ret_str3 _ _

/-- the number of digits alone, up to thirteen; -1: there is none -/
def digB (l : List UInt8) : Bool := !l.isEmpty && decide (l.length ≤ 13) && l.all isD
def digV (l : List UInt8) : Int := if digB l = true then ((digN 0 l : Nat) : Int) else -1
theorem dig_no {l : List UInt8} (h : digB l = false) : digV l = -1 := by unfold digV; rw [h]; rfl
theorem dig_false {l : List UInt8} (k : Nat) (h : k < l.length) (hd : isD l[k] = false) : digB l = false := by
  unfold digB
  have : l.all isD = false := by
    rw [List.all_eq_false]
    exact ⟨l[k], List.getElem_mem h, by rw [hd]; decide⟩
  rw [this, Bool.and_false]
theorem dig_bd (l : List UInt8) : -1 ≤ digV l ∧ digV l < 10000000000000 := by
  cases h : digB l
  · rw [dig_no h]; omega
  · unfold digV
    rw [if_pos h]
    unfold digB at h
    rw [Bool.and_eq_true, Bool.and_eq_true] at h
    have h2 : l.length ≤ 13 := of_decide_eq_true h.1.2
    have h3 := digN_lt l 0 h.2
    have h4 := Nat.pow_le_pow_right (n := 10) (by omega) h2
    simp only [Nat.zero_add, Nat.one_mul] at h3
    have e : (10 : Nat) ^ 13 = 10000000000000 := by decide
    omega
set_option maxHeartbeats 1000000 in
theorem digits_any (l : List UInt8) (w : World) (hl : l.length ≤ 1073741824) :
    Calls Tryd.prog 82 #[.string ⟨l.toArray⟩] w fun e w' => e = .returned (.int .i64 (digV l)) ∧ w = w' := by
  by_cases h0 : l = []
  · subst h0
    go_enter Tryd.func82, Tryd.ntmps82
    go_wp2
    go_ret
    exact ⟨rfl, rfl⟩
  by_cases h10 : 13 < l.length
  · have F := Lib.hid (show digB l = false by unfold digB; rw [decide_eq_false (by omega), Bool.and_false, Bool.false_and])
    have FV := Lib.hid (dig_no F.out)
    have e0 : l.isEmpty = false := by cases l with | nil => exact absurd rfl h0 | cons _ _ => rfl
    have h10I : (13 : Int) < (l.length : Int) := by omega
    go_enter Tryd.func82, Tryd.ntmps82
    go_wp2
    go_ret
    exact ⟨ret_int FV.out.symm, rfl⟩
  · have e0 : l.isEmpty = false := by cases l with | nil => exact absurd rfl h0 | cons _ _ => rfl
    have h10I : ¬ (13 : Int) < (l.length : Int) := by omega
    have H0 := Lib.hid (show CntRel l (.int .i64 0) (.int .i64 0) from ⟨0, Nat.zero_le _, rfl, rfl, rfl⟩)
    go_enter Tryd.func82, Tryd.ntmps82
    go_wp2
    go_loop [3, 4] (fun n i => CntRel l n i) (fun _ i => l.length - (intOf i).toNat)
    case atStart => exact H0.out
    case round =>
      obtain ⟨k, hk, rfl, rfl, hall⟩ := hrel
      have HA := Lib.hid hall
      have hb := digN_lt (l.take k) 0 hall
      have hlk : (l.take k).length ≤ 12 ∨ k = l.length := by rw [List.length_take]; omega
      clear hall
      by_cases hlt : k < l.length
      · have hb9 : digN 0 (l.take k) < 1000000000000 := by
          have h9 : (l.take k).length ≤ 12 := by omega
          have := Nat.pow_le_pow_right (n := 10) (by omega) h9
          have e : (10 : Nat) ^ 12 = 1000000000000 := by decide
          simp only [Nat.zero_add, Nat.one_mul] at hb
          omega
        have HS := Lib.hid (show l.take (k + 1) = l.take k ++ [l[k]] from take_snoc l k hlt)
        obtain ⟨N, hN⟩ : ∃ N, digN 0 (l.take k) = N := ⟨_, rfl⟩
        rw [hN] at hb9 ⊢
        have HN := Lib.hid hN
        clear hb hlk hN
        have hsz : k < (⟨l.toArray⟩ : ByteArray).size := by show k < l.toArray.size; simpa using hlt
        have hcl : (⟨l.toArray⟩ : ByteArray)[k]'hsz = l[k] := rfl
        have hlt8 := (l[k]).toNat_lt
        by_cases d1 : (((⟨l.toArray⟩ : ByteArray)[k]'hsz).toNat : Int) < 48
        · have F := Lib.hid (dig_false k hlt (by unfold isD; rw [← hcl]; exact decide_eq_false (by omega)))
          have FV := Lib.hid (dig_no F.out)
          clear hcl
          go_wp2
          go_ret
          exact ⟨ret_int FV.out.symm, rfl⟩
        · by_cases d2 : (57 : Int) < (((⟨l.toArray⟩ : ByteArray)[k]'hsz).toNat : Int)
          · have F := Lib.hid (dig_false k hlt (by unfold isD; rw [← hcl]; exact decide_eq_false (by omega)))
            have FV := Lib.hid (dig_no F.out)
            clear hcl
            go_wp2
            go_ret
            exact ⟨ret_int FV.out.symm, rfl⟩
          · have HC := Lib.hid hcl
            have HD := Lib.hid (show isD l[k] = true by unfold isD; rw [← hcl]; exact decide_eq_true (by omega))
            have HV := Lib.hid (show (((N * 10 + (l[k].toNat - 48) : Nat)) : Int) = 10 * (N : Int) + (((⟨l.toArray⟩ : ByteArray)[k]'hsz).toNat : Int) - 48 by rw [← hcl]; omega)
            clear hcl
            go_wp2
            refine ⟨⟨k + 1, by omega, by go_num, ?_, ?_⟩, by simp [intOf]; omega⟩
            · rw [HS.out, digN_snoc, HN.out, HV.out]
            · rw [HS.out, List.all_append, HA.out, List.all_cons, HD.out]; rfl
      · have hkl : k = l.length := by omega
        have F := Lib.hid (show digB l = true by
          have := HA.out
          rw [hkl, List.take_length] at this
          unfold digB
          rw [this, decide_eq_true (by omega), e0]; rfl)
        have FV := Lib.hid (show digV l = ((digN 0 (l.take k) : Nat) : Int) by unfold digV; rw [if_pos F.out, hkl, List.take_length])
        clear hb hlk hkl
        go_wp2
        go_ret
        exact ⟨ret_int FV.out.symm, rfl⟩

/-- which score a text is -/
def okS (l : List UInt8) : Bool := cutB l && (textS (digV (cutT l)) (digV (cutL l)) == l)
def parseS (l : List UInt8) : Int × Int × Int := if okS l = true then (digV (cutT l), digV (cutL l), 0) else (0, 0, 20)
theorem parseS_no {l : List UInt8} (h : okS l = false) : parseS l = (0, 0, 20) := by unfold parseS; rw [h]; rfl
theorem parseS_yes {l : List UInt8} (h : okS l = true) : parseS l = (digV (cutT l), digV (cutL l), 0) := by unfold parseS; rw [if_pos h]
theorem dig_itoa (n : Int) (h1 : 0 ≤ n) (h2 : n < 10000000000000) : digV (Lib.itoa n) = n := by
  obtain ⟨u, rfl⟩ := Int.eq_ofNat_of_zero_le h1
  have e : Lib.itoa (u : Int) = Lib.decDigits u := Lib.itoa_nonneg u
  have h1 : (Lib.decDigits u).isEmpty = false := by
    cases he : Lib.decDigits u with
    | nil => exact absurd he (dec_ne u)
    | cons _ _ => rfl
  have hp13 : u < 10 ^ (12 + 1) := by
    have e13 : (10 : Nat) ^ (12 + 1) = 10000000000000 := by decide
    omega
  have h3 : (Lib.decDigits u).length ≤ 13 := by rw [Lib.decDigits_length]; exact nDigits_le 12 u hp13
  have hb : digB (Lib.decDigits u) = true := by unfold digB; rw [h1, (dec_dig u).2, decide_eq_true h3]; rfl
  rw [e]
  unfold digV
  rw [if_pos hb, (dec_dig u).1]
theorem cut_score (p : Int) (m : List UInt8) : cutT (Lib.itoa p ++ 47 :: m) = Lib.itoa p ∧ cutL (Lib.itoa p ++ 47 :: m) = m ∧ cutB (Lib.itoa p ++ 47 :: m) = true := cut_two p m
/-- any score's text is read as it was -/
theorem text_score {p q : Int} (h : isS p q = true) : cutB (textS p q) = true ∧ digV (cutT (textS p q)) = p ∧ digV (cutL (textS p q)) = q ∧ atoiOk (cutT (textS p q)) = true ∧ atoiOk (cutL (textS p q)) = true ∧ atoiV (cutT (textS p q)) = p ∧ atoiV (cutL (textS p q)) = q := by
  obtain ⟨x1, x2, x3, x4, _⟩ := isS_true h
  obtain ⟨c1, c2, c3⟩ := cut_two p (Lib.itoa q)
  have a1 := atoi_itoa p (by omega) (by omega)
  have a2 := atoi_itoa q (by omega) (by omega)
  rw [textS_yes h, c1, c2, c3]
  refine ⟨rfl, dig_itoa p x3 (by omega), dig_itoa q (by omega) (by omega), ?_, ?_, ?_, ?_⟩
  · unfold atoiOk; rw [a1]
  · unfold atoiOk; rw [a2]
  · unfold atoiV; rw [a1]
  · unfold atoiV; rw [a2]
theorem text_ne {p q : Int} {l : List UInt8} (hB : cutB l = true) (h : textS p q = l) : isS p q = true := by
  cases hs : isS p q
  · rw [textS_no hs] at h
    subst h
    exact absurd hB (by decide)
  · rfl
/-- the program's reading is the document's -/
theorem okS_no {l : List UInt8} (h : ¬ (cutB l = true ∧ atoiOk (cutT l) = true ∧ atoiOk (cutL l) = true ∧ textS (atoiV (cutT l)) (atoiV (cutL l)) = l)) : parseS l = (0, 0, 20) := by
  refine parseS_no ?_
  cases hk : okS l
  · rfl
  · exfalso
    unfold okS at hk
    rw [Bool.and_eq_true, beq_iff_eq] at hk
    have hs := text_ne hk.1 hk.2
    obtain ⟨t1, t2, t3, t4, t5, t6, t7⟩ := text_score hs
    rw [hk.2] at t1 t2 t3 t4 t5 t6 t7
    exact h ⟨t1, t4, t5, by rw [t6, t7]; exact hk.2⟩
theorem okS_yes {l : List UInt8} (hB : cutB l = true) (h : textS (atoiV (cutT l)) (atoiV (cutL l)) = l) : parseS l = (atoiV (cutT l), atoiV (cutL l), 0) := by
  have hs := text_ne hB h
  obtain ⟨t1, t2, t3, t4, t5, t6, t7⟩ := text_score hs
  rw [h] at t1 t2 t3 t4 t5 t6 t7
  have : okS l = true := by unfold okS; rw [hB, t2, t3, h]; simp
  rw [parseS_yes this, t2, t3]
set_option maxHeartbeats 2000000 in
set_option maxRecDepth 100000 in
theorem sparse_n_y_n_no (l : List UInt8) (a b : Int) (w : World) (hG : G w) (hl : l.length ≤ 1073741824) (hB : cutB l = false) (hT : atoiOk (cutT l) = true) (hL : atoiOk (cutL l) = false) (ha : atoiV (cutT l) = a) (hb : atoiV (cutL l) = b) (hp : parseS l = (0, 0, 20)) :
    Calls Tryd.prog 41 #[.string ⟨l.toArray⟩] w fun e w' => e = .returned (.tuple #[.agg #[.int .i64 (parseS l).1, .int .i64 (parseS l).2.1], .int .i64 (parseS l).2.2]) ∧ Below w.heap.size w w' := by
  have HG := Lib.hid hG
  have HB := Lib.hid hB
  have HP := Lib.hid hp
  have HT := Lib.hid hT
  have HL := Lib.hid hL
  have HVA := Lib.hid ha
  have HVB := Lib.hid hb
  have ba := atoiV_bounds (cutT l)
  have bb := atoiV_bounds (cutL l)
  rw [ha] at ba
  rw [hb] at bb
  have lT := Nat.le_trans (cutT_le l) hl
  have lL := Nat.le_trans (cutL_le l) hl
  clear hG hB hp hT hL ha hb
  go_enter Tryd.func41, Tryd.ntmps41
  go_wp2_with fail
  refine (Cut47_any l _ (HG.out.below ((below_alloc1 w (.cells #[.int .i64 0, .int .i64 0] 36)))) hl).mono ?_
  rintro e w1 ⟨rfl, hb1⟩
  rw [HB.out]
  have c0 := cell_at_below hb1 w.heap.size 0 (.int .i64 0) (by go_simp)
  have c2 := cell_at_below hb1 w.heap.size 1 (.int .i64 0) (by go_simp)
  have f1 := free_at_below hb1 w.heap.size 0 (by go_simp) (by go_simp)
  have f3 := free_at_below hb1 w.heap.size 1 (by go_simp) (by go_simp)
  have z0_ : w.heap.size < w1.heap.size := Nat.lt_of_lt_of_le (by first | assumption | (simp; done) | (simp; omega)) hb1.size
  have W1 := Lib.hid (bt hb1 ((below_alloc1 w (.cells #[.int .i64 0, .int .i64 0] 36))))
  clear hb1
  go_wp2_with fail
  refine (Atoi_yes ⟨(cutT l).toArray⟩ _ (HG.out.below (W1.out)) (by simpa [ByteArray.size] using lT) HT.out).mono ?_
  rintro e w2 ⟨rfl, hb2⟩
  have c0 := cell_at_below hb2 w.heap.size 0 (.int .i64 0) (by go_simp)
  have c2 := cell_at_below hb2 w.heap.size 1 (.int .i64 0) (by go_simp)
  have f1 := free_at_below hb2 w.heap.size 0 (by go_simp) (by go_simp)
  have f3 := free_at_below hb2 w.heap.size 1 (by go_simp) (by go_simp)
  have z0_ : w.heap.size < w2.heap.size := Nat.lt_of_lt_of_le (by first | assumption | (simp; done) | (simp; omega)) hb2.size
  have W2 := Lib.hid (bt hb2 (W1.out))
  clear hb2
  try rw [show atoiV ((⟨(cutT l).toArray⟩ : ByteArray).data.toList) = a from HVA.out]
  go_wp2_with fail
  refine (Atoi_no ⟨(cutL l).toArray⟩ _ (HG.out.below (W2.out)) (by simpa [ByteArray.size] using lL) HL.out).mono ?_
  rintro e w3 ⟨pt3, rfl, hb3⟩
  have c0 := cell_at_below hb3 w.heap.size 0 (.int .i64 0) (by go_simp)
  have c2 := cell_at_below hb3 w.heap.size 1 (.int .i64 0) (by go_simp)
  have f1 := free_at_below hb3 w.heap.size 0 (by go_simp) (by go_simp)
  have f3 := free_at_below hb3 w.heap.size 1 (by go_simp) (by go_simp)
  have z0_ : w.heap.size < w3.heap.size := Nat.lt_of_lt_of_le (by first | assumption | (simp; done) | (simp; omega)) hb3.size
  have W3 := Lib.hid (bt hb3 (W2.out))
  clear hb3
  try rw [show atoiV ((⟨(cutL l).toArray⟩ : ByteArray).data.toList) = b from HVB.out]
  go_wp2_with fail
  refine bodyPost_ret (v := .tuple #[.agg #[.int .i64 0, .int .i64 0], .int .i64 20]) (by simp [results, Tryd.results41, go_sem, World.cell?_alloc_past, z0_, c0, c2]) rfl ?_
  refine ⟨ret_rat HP.out.symm, ?_⟩
  repeat' (first | exact W3.out | refine Below.setCell ?_ ?_ _ | refine Below.alloc ?_ ?_ _)
  all_goals (first | exact Nat.le_refl _ | (simp; omega) | omega)
set_option maxHeartbeats 2000000 in
set_option maxRecDepth 100000 in
theorem sparse_n_n_n_no (l : List UInt8) (a b : Int) (w : World) (hG : G w) (hl : l.length ≤ 1073741824) (hB : cutB l = false) (hT : atoiOk (cutT l) = false) (hL : atoiOk (cutL l) = false) (ha : atoiV (cutT l) = a) (hb : atoiV (cutL l) = b) (hp : parseS l = (0, 0, 20)) :
    Calls Tryd.prog 41 #[.string ⟨l.toArray⟩] w fun e w' => e = .returned (.tuple #[.agg #[.int .i64 (parseS l).1, .int .i64 (parseS l).2.1], .int .i64 (parseS l).2.2]) ∧ Below w.heap.size w w' := by
  have HG := Lib.hid hG
  have HB := Lib.hid hB
  have HP := Lib.hid hp
  have HT := Lib.hid hT
  have HL := Lib.hid hL
  have HVA := Lib.hid ha
  have HVB := Lib.hid hb
  have ba := atoiV_bounds (cutT l)
  have bb := atoiV_bounds (cutL l)
  rw [ha] at ba
  rw [hb] at bb
  have lT := Nat.le_trans (cutT_le l) hl
  have lL := Nat.le_trans (cutL_le l) hl
  clear hG hB hp hT hL ha hb
  go_enter Tryd.func41, Tryd.ntmps41
  go_wp2_with fail
  refine (Cut47_any l _ (HG.out.below ((below_alloc1 w (.cells #[.int .i64 0, .int .i64 0] 36)))) hl).mono ?_
  rintro e w1 ⟨rfl, hb1⟩
  rw [HB.out]
  have c0 := cell_at_below hb1 w.heap.size 0 (.int .i64 0) (by go_simp)
  have c2 := cell_at_below hb1 w.heap.size 1 (.int .i64 0) (by go_simp)
  have f1 := free_at_below hb1 w.heap.size 0 (by go_simp) (by go_simp)
  have f3 := free_at_below hb1 w.heap.size 1 (by go_simp) (by go_simp)
  have z0_ : w.heap.size < w1.heap.size := Nat.lt_of_lt_of_le (by first | assumption | (simp; done) | (simp; omega)) hb1.size
  have W1 := Lib.hid (bt hb1 ((below_alloc1 w (.cells #[.int .i64 0, .int .i64 0] 36))))
  clear hb1
  go_wp2_with fail
  refine (Atoi_no ⟨(cutT l).toArray⟩ _ (HG.out.below (W1.out)) (by simpa [ByteArray.size] using lT) HT.out).mono ?_
  rintro e w2 ⟨pt2, rfl, hb2⟩
  have c0 := cell_at_below hb2 w.heap.size 0 (.int .i64 0) (by go_simp)
  have c2 := cell_at_below hb2 w.heap.size 1 (.int .i64 0) (by go_simp)
  have f1 := free_at_below hb2 w.heap.size 0 (by go_simp) (by go_simp)
  have f3 := free_at_below hb2 w.heap.size 1 (by go_simp) (by go_simp)
  have z0_ : w.heap.size < w2.heap.size := Nat.lt_of_lt_of_le (by first | assumption | (simp; done) | (simp; omega)) hb2.size
  have W2 := Lib.hid (bt hb2 (W1.out))
  clear hb2
  try rw [show atoiV ((⟨(cutT l).toArray⟩ : ByteArray).data.toList) = a from HVA.out]
  go_wp2_with fail
  refine (Atoi_no ⟨(cutL l).toArray⟩ _ (HG.out.below (W2.out)) (by simpa [ByteArray.size] using lL) HL.out).mono ?_
  rintro e w3 ⟨pt3, rfl, hb3⟩
  have c0 := cell_at_below hb3 w.heap.size 0 (.int .i64 0) (by go_simp)
  have c2 := cell_at_below hb3 w.heap.size 1 (.int .i64 0) (by go_simp)
  have f1 := free_at_below hb3 w.heap.size 0 (by go_simp) (by go_simp)
  have f3 := free_at_below hb3 w.heap.size 1 (by go_simp) (by go_simp)
  have z0_ : w.heap.size < w3.heap.size := Nat.lt_of_lt_of_le (by first | assumption | (simp; done) | (simp; omega)) hb3.size
  have W3 := Lib.hid (bt hb3 (W2.out))
  clear hb3
  try rw [show atoiV ((⟨(cutL l).toArray⟩ : ByteArray).data.toList) = b from HVB.out]
  go_wp2_with fail
  refine bodyPost_ret (v := .tuple #[.agg #[.int .i64 0, .int .i64 0], .int .i64 20]) (by simp [results, Tryd.results41, go_sem, World.cell?_alloc_past, z0_, c0, c2]) rfl ?_
  refine ⟨ret_rat HP.out.symm, ?_⟩
  repeat' (first | exact W3.out | refine Below.setCell ?_ ?_ _ | refine Below.alloc ?_ ?_ _)
  all_goals (first | exact Nat.le_refl _ | (simp; omega) | omega)
set_option maxHeartbeats 2000000 in
set_option maxRecDepth 100000 in
theorem sparse_y_n_y_no (l : List UInt8) (a b : Int) (w : World) (hG : G w) (hl : l.length ≤ 1073741824) (hB : cutB l = true) (hT : atoiOk (cutT l) = false) (hL : atoiOk (cutL l) = true) (ha : atoiV (cutT l) = a) (hb : atoiV (cutL l) = b) (hp : parseS l = (0, 0, 20)) :
    Calls Tryd.prog 41 #[.string ⟨l.toArray⟩] w fun e w' => e = .returned (.tuple #[.agg #[.int .i64 (parseS l).1, .int .i64 (parseS l).2.1], .int .i64 (parseS l).2.2]) ∧ Below w.heap.size w w' := by
  have HG := Lib.hid hG
  have HB := Lib.hid hB
  have HP := Lib.hid hp
  have HT := Lib.hid hT
  have HL := Lib.hid hL
  have HVA := Lib.hid ha
  have HVB := Lib.hid hb
  have ba := atoiV_bounds (cutT l)
  have bb := atoiV_bounds (cutL l)
  rw [ha] at ba
  rw [hb] at bb
  have lT := Nat.le_trans (cutT_le l) hl
  have lL := Nat.le_trans (cutL_le l) hl
  clear hG hB hp hT hL ha hb
  go_enter Tryd.func41, Tryd.ntmps41
  go_wp2_with fail
  refine (Cut47_any l _ (HG.out.below ((below_alloc1 w (.cells #[.int .i64 0, .int .i64 0] 36)))) hl).mono ?_
  rintro e w1 ⟨rfl, hb1⟩
  rw [HB.out]
  have c0 := cell_at_below hb1 w.heap.size 0 (.int .i64 0) (by go_simp)
  have c2 := cell_at_below hb1 w.heap.size 1 (.int .i64 0) (by go_simp)
  have f1 := free_at_below hb1 w.heap.size 0 (by go_simp) (by go_simp)
  have f3 := free_at_below hb1 w.heap.size 1 (by go_simp) (by go_simp)
  have z0_ : w.heap.size < w1.heap.size := Nat.lt_of_lt_of_le (by first | assumption | (simp; done) | (simp; omega)) hb1.size
  have W1 := Lib.hid (bt hb1 ((below_alloc1 w (.cells #[.int .i64 0, .int .i64 0] 36))))
  clear hb1
  go_wp2_with fail
  refine (Atoi_no ⟨(cutT l).toArray⟩ _ (HG.out.below (W1.out)) (by simpa [ByteArray.size] using lT) HT.out).mono ?_
  rintro e w2 ⟨pt2, rfl, hb2⟩
  have c0 := cell_at_below hb2 w.heap.size 0 (.int .i64 0) (by go_simp)
  have c2 := cell_at_below hb2 w.heap.size 1 (.int .i64 0) (by go_simp)
  have f1 := free_at_below hb2 w.heap.size 0 (by go_simp) (by go_simp)
  have f3 := free_at_below hb2 w.heap.size 1 (by go_simp) (by go_simp)
  have z0_ : w.heap.size < w2.heap.size := Nat.lt_of_lt_of_le (by first | assumption | (simp; done) | (simp; omega)) hb2.size
  have W2 := Lib.hid (bt hb2 (W1.out))
  clear hb2
  try rw [show atoiV ((⟨(cutT l).toArray⟩ : ByteArray).data.toList) = a from HVA.out]
  go_wp2_with fail
  refine (Atoi_yes ⟨(cutL l).toArray⟩ _ (HG.out.below (W2.out)) (by simpa [ByteArray.size] using lL) HL.out).mono ?_
  rintro e w3 ⟨rfl, hb3⟩
  have c0 := cell_at_below hb3 w.heap.size 0 (.int .i64 0) (by go_simp)
  have c2 := cell_at_below hb3 w.heap.size 1 (.int .i64 0) (by go_simp)
  have f1 := free_at_below hb3 w.heap.size 0 (by go_simp) (by go_simp)
  have f3 := free_at_below hb3 w.heap.size 1 (by go_simp) (by go_simp)
  have z0_ : w.heap.size < w3.heap.size := Nat.lt_of_lt_of_le (by first | assumption | (simp; done) | (simp; omega)) hb3.size
  have W3 := Lib.hid (bt hb3 (W2.out))
  clear hb3
  try rw [show atoiV ((⟨(cutL l).toArray⟩ : ByteArray).data.toList) = b from HVB.out]
  go_wp2_with fail
  refine bodyPost_ret (v := .tuple #[.agg #[.int .i64 0, .int .i64 0], .int .i64 20]) (by simp [results, Tryd.results41, go_sem, World.cell?_alloc_past, z0_, c0, c2]) rfl ?_
  refine ⟨ret_rat HP.out.symm, ?_⟩
  repeat' (first | exact W3.out | refine Below.setCell ?_ ?_ _ | refine Below.alloc ?_ ?_ _)
  all_goals (first | exact Nat.le_refl _ | (simp; omega) | omega)
set_option maxHeartbeats 2000000 in
set_option maxRecDepth 100000 in
theorem sparse_y_n_n_no (l : List UInt8) (a b : Int) (w : World) (hG : G w) (hl : l.length ≤ 1073741824) (hB : cutB l = true) (hT : atoiOk (cutT l) = false) (hL : atoiOk (cutL l) = false) (ha : atoiV (cutT l) = a) (hb : atoiV (cutL l) = b) (hp : parseS l = (0, 0, 20)) :
    Calls Tryd.prog 41 #[.string ⟨l.toArray⟩] w fun e w' => e = .returned (.tuple #[.agg #[.int .i64 (parseS l).1, .int .i64 (parseS l).2.1], .int .i64 (parseS l).2.2]) ∧ Below w.heap.size w w' := by
  have HG := Lib.hid hG
  have HB := Lib.hid hB
  have HP := Lib.hid hp
  have HT := Lib.hid hT
  have HL := Lib.hid hL
  have HVA := Lib.hid ha
  have HVB := Lib.hid hb
  have ba := atoiV_bounds (cutT l)
  have bb := atoiV_bounds (cutL l)
  rw [ha] at ba
  rw [hb] at bb
  have lT := Nat.le_trans (cutT_le l) hl
  have lL := Nat.le_trans (cutL_le l) hl
  clear hG hB hp hT hL ha hb
  go_enter Tryd.func41, Tryd.ntmps41
  go_wp2_with fail
  refine (Cut47_any l _ (HG.out.below ((below_alloc1 w (.cells #[.int .i64 0, .int .i64 0] 36)))) hl).mono ?_
  rintro e w1 ⟨rfl, hb1⟩
  rw [HB.out]
  have c0 := cell_at_below hb1 w.heap.size 0 (.int .i64 0) (by go_simp)
  have c2 := cell_at_below hb1 w.heap.size 1 (.int .i64 0) (by go_simp)
  have f1 := free_at_below hb1 w.heap.size 0 (by go_simp) (by go_simp)
  have f3 := free_at_below hb1 w.heap.size 1 (by go_simp) (by go_simp)
  have z0_ : w.heap.size < w1.heap.size := Nat.lt_of_lt_of_le (by first | assumption | (simp; done) | (simp; omega)) hb1.size
  have W1 := Lib.hid (bt hb1 ((below_alloc1 w (.cells #[.int .i64 0, .int .i64 0] 36))))
  clear hb1
  go_wp2_with fail
  refine (Atoi_no ⟨(cutT l).toArray⟩ _ (HG.out.below (W1.out)) (by simpa [ByteArray.size] using lT) HT.out).mono ?_
  rintro e w2 ⟨pt2, rfl, hb2⟩
  have c0 := cell_at_below hb2 w.heap.size 0 (.int .i64 0) (by go_simp)
  have c2 := cell_at_below hb2 w.heap.size 1 (.int .i64 0) (by go_simp)
  have f1 := free_at_below hb2 w.heap.size 0 (by go_simp) (by go_simp)
  have f3 := free_at_below hb2 w.heap.size 1 (by go_simp) (by go_simp)
  have z0_ : w.heap.size < w2.heap.size := Nat.lt_of_lt_of_le (by first | assumption | (simp; done) | (simp; omega)) hb2.size
  have W2 := Lib.hid (bt hb2 (W1.out))
  clear hb2
  try rw [show atoiV ((⟨(cutT l).toArray⟩ : ByteArray).data.toList) = a from HVA.out]
  go_wp2_with fail
  refine (Atoi_no ⟨(cutL l).toArray⟩ _ (HG.out.below (W2.out)) (by simpa [ByteArray.size] using lL) HL.out).mono ?_
  rintro e w3 ⟨pt3, rfl, hb3⟩
  have c0 := cell_at_below hb3 w.heap.size 0 (.int .i64 0) (by go_simp)
  have c2 := cell_at_below hb3 w.heap.size 1 (.int .i64 0) (by go_simp)
  have f1 := free_at_below hb3 w.heap.size 0 (by go_simp) (by go_simp)
  have f3 := free_at_below hb3 w.heap.size 1 (by go_simp) (by go_simp)
  have z0_ : w.heap.size < w3.heap.size := Nat.lt_of_lt_of_le (by first | assumption | (simp; done) | (simp; omega)) hb3.size
  have W3 := Lib.hid (bt hb3 (W2.out))
  clear hb3
  try rw [show atoiV ((⟨(cutL l).toArray⟩ : ByteArray).data.toList) = b from HVB.out]
  go_wp2_with fail
  refine bodyPost_ret (v := .tuple #[.agg #[.int .i64 0, .int .i64 0], .int .i64 20]) (by simp [results, Tryd.results41, go_sem, World.cell?_alloc_past, z0_, c0, c2]) rfl ?_
  refine ⟨ret_rat HP.out.symm, ?_⟩
  repeat' (first | exact W3.out | refine Below.setCell ?_ ?_ _ | refine Below.alloc ?_ ?_ _)
  all_goals (first | exact Nat.le_refl _ | (simp; omega) | omega)
set_option maxHeartbeats 2000000 in
set_option maxRecDepth 100000 in
theorem sparse_y_y_n_no (l : List UInt8) (a b : Int) (w : World) (hG : G w) (hl : l.length ≤ 1073741824) (hB : cutB l = true) (hT : atoiOk (cutT l) = true) (hL : atoiOk (cutL l) = false) (ha : atoiV (cutT l) = a) (hb : atoiV (cutL l) = b) (hp : parseS l = (0, 0, 20)) :
    Calls Tryd.prog 41 #[.string ⟨l.toArray⟩] w fun e w' => e = .returned (.tuple #[.agg #[.int .i64 (parseS l).1, .int .i64 (parseS l).2.1], .int .i64 (parseS l).2.2]) ∧ Below w.heap.size w w' := by
  have HG := Lib.hid hG
  have HB := Lib.hid hB
  have HP := Lib.hid hp
  have HT := Lib.hid hT
  have HL := Lib.hid hL
  have HVA := Lib.hid ha
  have HVB := Lib.hid hb
  have ba := atoiV_bounds (cutT l)
  have bb := atoiV_bounds (cutL l)
  rw [ha] at ba
  rw [hb] at bb
  have lT := Nat.le_trans (cutT_le l) hl
  have lL := Nat.le_trans (cutL_le l) hl
  clear hG hB hp hT hL ha hb
  go_enter Tryd.func41, Tryd.ntmps41
  go_wp2_with fail
  refine (Cut47_any l _ (HG.out.below ((below_alloc1 w (.cells #[.int .i64 0, .int .i64 0] 36)))) hl).mono ?_
  rintro e w1 ⟨rfl, hb1⟩
  rw [HB.out]
  have c0 := cell_at_below hb1 w.heap.size 0 (.int .i64 0) (by go_simp)
  have c2 := cell_at_below hb1 w.heap.size 1 (.int .i64 0) (by go_simp)
  have f1 := free_at_below hb1 w.heap.size 0 (by go_simp) (by go_simp)
  have f3 := free_at_below hb1 w.heap.size 1 (by go_simp) (by go_simp)
  have z0_ : w.heap.size < w1.heap.size := Nat.lt_of_lt_of_le (by first | assumption | (simp; done) | (simp; omega)) hb1.size
  have W1 := Lib.hid (bt hb1 ((below_alloc1 w (.cells #[.int .i64 0, .int .i64 0] 36))))
  clear hb1
  go_wp2_with fail
  refine (Atoi_yes ⟨(cutT l).toArray⟩ _ (HG.out.below (W1.out)) (by simpa [ByteArray.size] using lT) HT.out).mono ?_
  rintro e w2 ⟨rfl, hb2⟩
  have c0 := cell_at_below hb2 w.heap.size 0 (.int .i64 0) (by go_simp)
  have c2 := cell_at_below hb2 w.heap.size 1 (.int .i64 0) (by go_simp)
  have f1 := free_at_below hb2 w.heap.size 0 (by go_simp) (by go_simp)
  have f3 := free_at_below hb2 w.heap.size 1 (by go_simp) (by go_simp)
  have z0_ : w.heap.size < w2.heap.size := Nat.lt_of_lt_of_le (by first | assumption | (simp; done) | (simp; omega)) hb2.size
  have W2 := Lib.hid (bt hb2 (W1.out))
  clear hb2
  try rw [show atoiV ((⟨(cutT l).toArray⟩ : ByteArray).data.toList) = a from HVA.out]
  go_wp2_with fail
  refine (Atoi_no ⟨(cutL l).toArray⟩ _ (HG.out.below (W2.out)) (by simpa [ByteArray.size] using lL) HL.out).mono ?_
  rintro e w3 ⟨pt3, rfl, hb3⟩
  have c0 := cell_at_below hb3 w.heap.size 0 (.int .i64 0) (by go_simp)
  have c2 := cell_at_below hb3 w.heap.size 1 (.int .i64 0) (by go_simp)
  have f1 := free_at_below hb3 w.heap.size 0 (by go_simp) (by go_simp)
  have f3 := free_at_below hb3 w.heap.size 1 (by go_simp) (by go_simp)
  have z0_ : w.heap.size < w3.heap.size := Nat.lt_of_lt_of_le (by first | assumption | (simp; done) | (simp; omega)) hb3.size
  have W3 := Lib.hid (bt hb3 (W2.out))
  clear hb3
  try rw [show atoiV ((⟨(cutL l).toArray⟩ : ByteArray).data.toList) = b from HVB.out]
  go_wp2_with fail
  refine bodyPost_ret (v := .tuple #[.agg #[.int .i64 0, .int .i64 0], .int .i64 20]) (by simp [results, Tryd.results41, go_sem, World.cell?_alloc_past, z0_, c0, c2]) rfl ?_
  refine ⟨ret_rat HP.out.symm, ?_⟩
  repeat' (first | exact W3.out | refine Below.setCell ?_ ?_ _ | refine Below.alloc ?_ ?_ _)
  all_goals (first | exact Nat.le_refl _ | (simp; omega) | omega)
set_option maxHeartbeats 2000000 in
set_option maxRecDepth 100000 in
theorem sparse_y_y_y_ne (l : List UInt8) (a b : Int) (w : World) (hG : G w) (hl : l.length ≤ 1073741824) (hB : cutB l = true) (hT : atoiOk (cutT l) = true) (hL : atoiOk (cutL l) = true) (ha : atoiV (cutT l) = a) (hb : atoiV (cutL l) = b) (he : textS a b ≠ l) (hp : parseS l = (0, 0, 20)) :
    Calls Tryd.prog 41 #[.string ⟨l.toArray⟩] w fun e w' => e = .returned (.tuple #[.agg #[.int .i64 (parseS l).1, .int .i64 (parseS l).2.1], .int .i64 (parseS l).2.2]) ∧ Below w.heap.size w w' := by
  have HG := Lib.hid hG
  have HB := Lib.hid hB
  have HP := Lib.hid hp
  have HT := Lib.hid hT
  have HL := Lib.hid hL
  have HVA := Lib.hid ha
  have HVB := Lib.hid hb
  have ba := atoiV_bounds (cutT l)
  have bb := atoiV_bounds (cutL l)
  rw [ha] at ba
  rw [hb] at bb
  have lT := Nat.le_trans (cutT_le l) hl
  have lL := Nat.le_trans (cutL_le l) hl
  clear hG hB hp hT hL ha hb
  have he2 : (textS a b == l) = false := by simpa using he
  clear he
  go_enter Tryd.func41, Tryd.ntmps41
  go_wp2_with fail
  refine (Cut47_any l _ (HG.out.below ((below_alloc1 w (.cells #[.int .i64 0, .int .i64 0] 36)))) hl).mono ?_
  rintro e w1 ⟨rfl, hb1⟩
  rw [HB.out]
  have c0 := cell_at_below hb1 w.heap.size 0 (.int .i64 0) (by go_simp)
  have c2 := cell_at_below hb1 w.heap.size 1 (.int .i64 0) (by go_simp)
  have f1 := free_at_below hb1 w.heap.size 0 (by go_simp) (by go_simp)
  have f3 := free_at_below hb1 w.heap.size 1 (by go_simp) (by go_simp)
  have z0_ : w.heap.size < w1.heap.size := Nat.lt_of_lt_of_le (by first | assumption | (simp; done) | (simp; omega)) hb1.size
  have W1 := Lib.hid (bt hb1 ((below_alloc1 w (.cells #[.int .i64 0, .int .i64 0] 36))))
  clear hb1
  go_wp2_with fail
  refine (Atoi_yes ⟨(cutT l).toArray⟩ _ (HG.out.below (W1.out)) (by simpa [ByteArray.size] using lT) HT.out).mono ?_
  rintro e w2 ⟨rfl, hb2⟩
  have c0 := cell_at_below hb2 w.heap.size 0 (.int .i64 0) (by go_simp)
  have c2 := cell_at_below hb2 w.heap.size 1 (.int .i64 0) (by go_simp)
  have f1 := free_at_below hb2 w.heap.size 0 (by go_simp) (by go_simp)
  have f3 := free_at_below hb2 w.heap.size 1 (by go_simp) (by go_simp)
  have z0_ : w.heap.size < w2.heap.size := Nat.lt_of_lt_of_le (by first | assumption | (simp; done) | (simp; omega)) hb2.size
  have W2 := Lib.hid (bt hb2 (W1.out))
  clear hb2
  try rw [show atoiV ((⟨(cutT l).toArray⟩ : ByteArray).data.toList) = a from HVA.out]
  go_wp2_with fail
  refine (Atoi_yes ⟨(cutL l).toArray⟩ _ (HG.out.below (W2.out)) (by simpa [ByteArray.size] using lL) HL.out).mono ?_
  rintro e w3 ⟨rfl, hb3⟩
  have c0 := cell_at_below hb3 w.heap.size 0 (.int .i64 0) (by go_simp)
  have c2 := cell_at_below hb3 w.heap.size 1 (.int .i64 0) (by go_simp)
  have f1 := free_at_below hb3 w.heap.size 0 (by go_simp) (by go_simp)
  have f3 := free_at_below hb3 w.heap.size 1 (by go_simp) (by go_simp)
  have z0_ : w.heap.size < w3.heap.size := Nat.lt_of_lt_of_le (by first | assumption | (simp; done) | (simp; omega)) hb3.size
  have W3 := Lib.hid (bt hb3 (W2.out))
  clear hb3
  try rw [show atoiV ((⟨(cutL l).toArray⟩ : ByteArray).data.toList) = b from HVB.out]
  go_wp2_with fail
  refine (SText_any a b _ (HG.out.below (bt (below_alloc1 w3 (.cells #[.int .i64 a, .int .i64 b] 36)) (W3.out))) ⟨ba, bb⟩).mono ?_
  rintro e w4 ⟨rfl, hb4⟩
  have c0 := cell_at_below hb4 w.heap.size 0 (.int .i64 0) (by go_simp)
  have c2 := cell_at_below hb4 w.heap.size 1 (.int .i64 0) (by go_simp)
  have c4 := cell_at_below hb4 w3.heap.size 0 (.int .i64 a) (by go_simp)
  have c5 := cell_at_below hb4 w3.heap.size 1 (.int .i64 b) (by go_simp)
  have f1 := free_at_below hb4 w.heap.size 0 (by go_simp) (by go_simp)
  have f3 := free_at_below hb4 w.heap.size 1 (by go_simp) (by go_simp)
  have z0_ : w.heap.size < w4.heap.size := Nat.lt_of_lt_of_le (by first | assumption | (simp; done) | (simp; omega)) hb4.size
  have z1_ : w3.heap.size < w4.heap.size := Nat.lt_of_lt_of_le (by first | assumption | (simp; done) | (simp; omega)) hb4.size
  have W4 := Lib.hid (bt hb4 (bt (below_alloc1 w3 (.cells #[.int .i64 a, .int .i64 b] 36)) (W3.out)))
  clear hb4
  go_wp2_with fail
  refine bodyPost_ret (v := .tuple #[.agg #[.int .i64 0, .int .i64 0], .int .i64 20]) (by simp [results, Tryd.results41, go_sem, c0, c2]) rfl ?_
  refine ⟨ret_rat HP.out.symm, ?_⟩
  repeat' (first | exact W4.out | refine Below.setCell ?_ ?_ _ | refine Below.alloc ?_ ?_ _)
  all_goals (first | exact Nat.le_refl _ | (simp; omega) | omega)
set_option maxHeartbeats 2000000 in
set_option maxRecDepth 100000 in
theorem sparse_y_y_y_eq (l : List UInt8) (a b : Int) (w : World) (hG : G w) (hl : l.length ≤ 1073741824) (hB : cutB l = true) (hT : atoiOk (cutT l) = true) (hL : atoiOk (cutL l) = true) (ha : atoiV (cutT l) = a) (hb : atoiV (cutL l) = b) (he : textS a b = l) (hp : parseS l = (a, b, 0)) :
    Calls Tryd.prog 41 #[.string ⟨l.toArray⟩] w fun e w' => e = .returned (.tuple #[.agg #[.int .i64 (parseS l).1, .int .i64 (parseS l).2.1], .int .i64 (parseS l).2.2]) ∧ Below w.heap.size w w' := by
  have HG := Lib.hid hG
  have HB := Lib.hid hB
  have HP := Lib.hid hp
  have HT := Lib.hid hT
  have HL := Lib.hid hL
  have HVA := Lib.hid ha
  have HVB := Lib.hid hb
  have ba := atoiV_bounds (cutT l)
  have bb := atoiV_bounds (cutL l)
  rw [ha] at ba
  rw [hb] at bb
  have lT := Nat.le_trans (cutT_le l) hl
  have lL := Nat.le_trans (cutL_le l) hl
  clear hG hB hp hT hL ha hb
  have he2 : (textS a b == l) = true := by simpa using he
  clear he
  go_enter Tryd.func41, Tryd.ntmps41
  go_wp2_with fail
  refine (Cut47_any l _ (HG.out.below ((below_alloc1 w (.cells #[.int .i64 0, .int .i64 0] 36)))) hl).mono ?_
  rintro e w1 ⟨rfl, hb1⟩
  rw [HB.out]
  have c0 := cell_at_below hb1 w.heap.size 0 (.int .i64 0) (by go_simp)
  have c2 := cell_at_below hb1 w.heap.size 1 (.int .i64 0) (by go_simp)
  have f1 := free_at_below hb1 w.heap.size 0 (by go_simp) (by go_simp)
  have f3 := free_at_below hb1 w.heap.size 1 (by go_simp) (by go_simp)
  have z0_ : w.heap.size < w1.heap.size := Nat.lt_of_lt_of_le (by first | assumption | (simp; done) | (simp; omega)) hb1.size
  have W1 := Lib.hid (bt hb1 ((below_alloc1 w (.cells #[.int .i64 0, .int .i64 0] 36))))
  clear hb1
  go_wp2_with fail
  refine (Atoi_yes ⟨(cutT l).toArray⟩ _ (HG.out.below (W1.out)) (by simpa [ByteArray.size] using lT) HT.out).mono ?_
  rintro e w2 ⟨rfl, hb2⟩
  have c0 := cell_at_below hb2 w.heap.size 0 (.int .i64 0) (by go_simp)
  have c2 := cell_at_below hb2 w.heap.size 1 (.int .i64 0) (by go_simp)
  have f1 := free_at_below hb2 w.heap.size 0 (by go_simp) (by go_simp)
  have f3 := free_at_below hb2 w.heap.size 1 (by go_simp) (by go_simp)
  have z0_ : w.heap.size < w2.heap.size := Nat.lt_of_lt_of_le (by first | assumption | (simp; done) | (simp; omega)) hb2.size
  have W2 := Lib.hid (bt hb2 (W1.out))
  clear hb2
  try rw [show atoiV ((⟨(cutT l).toArray⟩ : ByteArray).data.toList) = a from HVA.out]
  go_wp2_with fail
  refine (Atoi_yes ⟨(cutL l).toArray⟩ _ (HG.out.below (W2.out)) (by simpa [ByteArray.size] using lL) HL.out).mono ?_
  rintro e w3 ⟨rfl, hb3⟩
  have c0 := cell_at_below hb3 w.heap.size 0 (.int .i64 0) (by go_simp)
  have c2 := cell_at_below hb3 w.heap.size 1 (.int .i64 0) (by go_simp)
  have f1 := free_at_below hb3 w.heap.size 0 (by go_simp) (by go_simp)
  have f3 := free_at_below hb3 w.heap.size 1 (by go_simp) (by go_simp)
  have z0_ : w.heap.size < w3.heap.size := Nat.lt_of_lt_of_le (by first | assumption | (simp; done) | (simp; omega)) hb3.size
  have W3 := Lib.hid (bt hb3 (W2.out))
  clear hb3
  try rw [show atoiV ((⟨(cutL l).toArray⟩ : ByteArray).data.toList) = b from HVB.out]
  go_wp2_with fail
  refine (SText_any a b _ (HG.out.below (bt (below_alloc1 w3 (.cells #[.int .i64 a, .int .i64 b] 36)) (W3.out))) ⟨ba, bb⟩).mono ?_
  rintro e w4 ⟨rfl, hb4⟩
  have c0 := cell_at_below hb4 w.heap.size 0 (.int .i64 0) (by go_simp)
  have c2 := cell_at_below hb4 w.heap.size 1 (.int .i64 0) (by go_simp)
  have c4 := cell_at_below hb4 w3.heap.size 0 (.int .i64 a) (by go_simp)
  have c5 := cell_at_below hb4 w3.heap.size 1 (.int .i64 b) (by go_simp)
  have f1 := free_at_below hb4 w.heap.size 0 (by go_simp) (by go_simp)
  have f3 := free_at_below hb4 w.heap.size 1 (by go_simp) (by go_simp)
  have z0_ : w.heap.size < w4.heap.size := Nat.lt_of_lt_of_le (by first | assumption | (simp; done) | (simp; omega)) hb4.size
  have z1_ : w3.heap.size < w4.heap.size := Nat.lt_of_lt_of_le (by first | assumption | (simp; done) | (simp; omega)) hb4.size
  have W4 := Lib.hid (bt hb4 (bt (below_alloc1 w3 (.cells #[.int .i64 a, .int .i64 b] 36)) (W3.out)))
  clear hb4
  go_wp2_with fail
  refine bodyPost_ret (v := .tuple #[.agg #[.int .i64 a, .int .i64 b], .int .i64 0]) (by simp [results, Tryd.results41, go_sem, c0, c2]) rfl ?_
  refine ⟨ret_rat HP.out.symm, ?_⟩
  repeat' (first | exact W4.out | refine Below.setCell ?_ ?_ _ | refine Below.alloc ?_ ?_ _)
  all_goals (first | exact Nat.le_refl _ | (simp; omega) | omega)
theorem SParse_any (l : List UInt8) (w : World) (hG : G w) (hl : l.length ≤ 1073741824) :
    Calls Tryd.prog 41 #[.string ⟨l.toArray⟩] w fun e w' => e = .returned (.tuple #[.agg #[.int .i64 (parseS l).1, .int .i64 (parseS l).2.1], .int .i64 (parseS l).2.2]) ∧ Below w.heap.size w w' := by
  cases hB : cutB l
  · have hL : cutL l = [] := by
      obtain ⟨e1, e2, e3⟩ := cut3 l
      rw [e2]; exact cutAt_low (by rw [← e3]; exact hB)
    have hLn : atoiOk (cutL l) = false := by rw [hL]; rfl
    have hp := okS_no (l := l) (fun k => by rw [hB] at k; cases k.1)
    cases hT : atoiOk (cutT l)
    · exact sparse_n_n_n_no l _ _ w hG hl hB hT hLn rfl rfl hp
    · exact sparse_n_y_n_no l _ _ w hG hl hB hT hLn rfl rfl hp
  · cases hT : atoiOk (cutT l)
    · have hp := okS_no (l := l) (fun k => by rw [hT] at k; cases k.2.1)
      cases hL : atoiOk (cutL l)
      · exact sparse_y_n_n_no l _ _ w hG hl hB hT hL rfl rfl hp
      · exact sparse_y_n_y_no l _ _ w hG hl hB hT hL rfl rfl hp
    · cases hL : atoiOk (cutL l)
      · exact sparse_y_y_n_no l _ _ w hG hl hB hT hL rfl rfl (okS_no (l := l) (fun k => by rw [hL] at k; cases k.2.2.1))
      · by_cases he : textS (atoiV (cutT l)) (atoiV (cutL l)) = l
        · exact sparse_y_y_y_eq l _ _ w hG hl hB hT hL rfl rfl he (okS_yes hB he)
        · exact sparse_y_y_y_ne l _ _ w hG hl hB hT hL rfl rfl he (okS_no (l := l) (fun k => he k.2.2.2))
end Go.Proofs.YtdpmijmofeechaaDoor.ScoT
