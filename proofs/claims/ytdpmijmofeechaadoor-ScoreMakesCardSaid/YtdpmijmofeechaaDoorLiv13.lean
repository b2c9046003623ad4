/- The walk of copselaw13.lives. -/
import Derived.Test.YtdpmijmofeechaaDoorOddW
import Derived.Test.YtdpmijmofeechaaDoorLvlW
import Derived.Test.YtdpmijmofeechaaDoorScoU
namespace Go.Proofs.YtdpmijmofeechaaDoor.Liv13
set_option linter.unusedVariables false
open Go.RowKit Base BigM BigZ GcdM RatM RatW RefRat Glob WideM WideW Rat2 TextW PartW ScoW SclW SorM SorW SorX SorY OddW LvlW ScoT ScoU

theorem e_a : ofS 6442450944 4 = (1610612736, 1, 0) := by decide +kernel
theorem e_b : ofS 1073741824 1 = (1073741824, 1, 0) := by decide +kernel
theorem e_cmp : cmpS 1073741824 1 1610612736 1 = 1 ∧ cmpSE 1073741824 1 1610612736 1 = 0 := by decide +kernel
theorem e_lvl : levelV 1610612736 1 2 = 400 ∧ levelE 1610612736 1 2 = 0 := by decide +kernel
theorem e_mean : meanV 1610612736 1 = 1610612736 ∧ meanE 1610612736 1 = 0 := by decide +kernel
theorem e_sort : sortV [(1073741824, 1), (1610612736, 1)] = [(1610612736, 1), (1073741824, 1)] ∧ allE [(1073741824, 1), (1610612736, 1)] = 0 := by decide +kernel
theorem e_odd : oddestV [(1610612736, 1), (1073741824, 1)] = 1 ∧ oddestE [(1610612736, 1), (1073741824, 1)] = 0 := by decide +kernel
theorem e_is : isS 1 3 = true ∧ isS 2 4 = false := by decide +kernel
theorem parse_text {p q : Int} (h : isS p q = true) : parseS (textS p q) = (p, q, 0) := by
  obtain ⟨t1, t2, t3, t4, t5, t6, t7⟩ := text_score h
  rw [okS_yes t1 (by rw [t6, t7]), t6, t7]
theorem e_text : textS 1 3 = [49, 47, 51] := by
  rw [textS_yes e_is.1, show Lib.itoa 1 = [49] from by rw [show (1 : Int) = ((1 : Nat) : Int) from rfl, Lib.itoa_nonneg, Lib.decDigits_one (by omega)]; rfl,
    show Lib.itoa 3 = [51] from by rw [show (3 : Int) = ((3 : Nat) : Int) from rfl, Lib.itoa_nonneg, Lib.decDigits_one (by omega)]; rfl]
  rfl
theorem e_parse : parseS [49, 47, 51] = (1, 3, 0) := by rw [← e_text]; exact parse_text e_is.1
theorem fits2 (a b c d : Int) (h : Fit a b) (h2 : Fit c d) : Fits [(a, b), (c, d)] := by
  intro x hx
  rcases List.mem_cons.1 hx with rfl | hx
  · exact h
  · rcases List.mem_cons.1 hx with rfl | hx
    · exact h2
    · cases hx
theorem scs2 (w : World) (a b c d : Int) (t : TypeId) : Scs (w.alloc (.cells #[.int .i64 a, .int .i64 b, .int .i64 c, .int .i64 d] t)) w.heap.size (w.alloc (.cells #[.int .i64 a, .int .i64 b, .int .i64 c, .int .i64 d] t)).heap.size (.slice (some ⟨w.heap.size, 0, none⟩) 2 2) [(a, b), (c, d)] :=
  ⟨some ⟨w.heap.size, 0, none⟩, 2, rfl, Nat.le_refl _, by unfold maxLen; show 2 ≤ _; omega, ⟨rfl, fun _ => ⟨_, rfl, Nat.le_refl _, by simp, fun j u hu => World.news_of_block (heap_alloc_new w _) j u hu⟩⟩, fun h => by cases h⟩
theorem scs2g {w : World} {g : Nat} (hg : w.heap.size = g) (a b c d : Int) (t : TypeId) : Scs (w.alloc (.cells #[.int .i64 a, .int .i64 b, .int .i64 c, .int .i64 d] t)) g (w.alloc (.cells #[.int .i64 a, .int .i64 b, .int .i64 c, .int .i64 d] t)).heap.size (.slice (some ⟨g, 0, none⟩) 2 2) [(a, b), (c, d)] := by
  subst hg; exact scs2 w a b c d t
theorem same_below {va vb : Value} {a b : List (Int × Int)} {lo lo' B B' : Nat} {w : World} (h1 : Scs w lo B va a) (h2 : Scs w lo' B' vb b) :
    Calls Tryd.prog 39 #[va, vb] w fun e w' => e = .returned (.bool (sameS a b)) ∧ Below w.heap.size w w' :=
  (SSame_any va vb a b lo lo' B B' w h1 h2).mono fun _ _ ⟨he, q, hw⟩ => ⟨he, by rw [hw]; exact below_drewN (Below.refl _ _) q⟩
set_option maxHeartbeats 4000000 in
set_option maxRecDepth 100000 in
theorem lives13_any (w : World) (hG : G w) :
    Calls Tryd.prog 27 #[] w fun e w' => e = .returned (.bool true) ∧ Below w.heap.size w w' := by
  have HG := Lib.hid hG
  clear hG
  have fA : Fit 1610612736 1 := ⟨⟨by omega, by omega⟩, by omega, by omega⟩
  have fB : Fit 1073741824 1 := ⟨⟨by omega, by omega⟩, by omega, by omega⟩
  have fC : Fit 1 3 := ⟨⟨by omega, by omega⟩, by omega, by omega⟩
  have fD : Fit 2 4 := ⟨⟨by omega, by omega⟩, by omega, by omega⟩
  go_enter Tryd.func27, Tryd.ntmps27
  go_wp2_with fail
  refine (SOf_any 6442450944 4 _ (by omega) (by omega)).mono ?_
  rintro e w1 ⟨rfl, hb1⟩
  rw [e_a]
  have W1 := Lib.hid (bt hb1 (Below.refl w.heap.size w))
  clear hb1
  go_wp2_with fail
  refine (SOf_any 1073741824 1 _ (by omega) (by omega)).mono ?_
  rintro e w2 ⟨rfl, hb2⟩
  rw [e_b]
  have c0 := cell_at_below hb2 w1.heap.size 0 (.int .i64 1610612736) (by go_simp)
  have c1 := cell_at_below hb2 w1.heap.size 1 (.int .i64 1) (by go_simp)
  have z0_ : w1.heap.size < w2.heap.size := Nat.lt_of_lt_of_le (by first | assumption | (simp; done) | (simp; omega)) hb2.size
  have W2 := Lib.hid (bt hb2 (bt (below_alloc1 w1 (.cells #[.int .i64 1610612736, .int .i64 1] 36)) (W1.out)))
  clear hb2
  go_wp2_with fail
  refine (SCmp_any 1073741824 1 1610612736 1 _ fB fA).mono ?_
  rintro e w3 ⟨rfl, hb3⟩
  rw [e_cmp.1, e_cmp.2]
  have c0 := cell_at_below hb3 w1.heap.size 0 (.int .i64 1610612736) (by go_simp)
  have c1 := cell_at_below hb3 w1.heap.size 1 (.int .i64 1) (by go_simp)
  have c2 := cell_at_below hb3 w2.heap.size 0 (.int .i64 1073741824) (by go_simp)
  have c3 := cell_at_below hb3 w2.heap.size 1 (.int .i64 1) (by go_simp)
  have z0_ : w1.heap.size < w3.heap.size := Nat.lt_of_lt_of_le (by first | assumption | (simp; done) | (simp; omega)) hb3.size
  have z1_ : w2.heap.size < w3.heap.size := Nat.lt_of_lt_of_le (by first | assumption | (simp; done) | (simp; omega)) hb3.size
  have W3 := Lib.hid (bt hb3 (bt (below_alloc1 w2 (.cells #[.int .i64 1073741824, .int .i64 1] 36)) (W2.out)))
  clear hb3
  go_wp2_with fail
  refine (Level_any 1610612736 1 2 _ fA).mono ?_
  rintro e w4 ⟨rfl, hb4⟩
  rw [e_lvl.1, e_lvl.2]
  have c0 := cell_at_below hb4 w1.heap.size 0 (.int .i64 1610612736) (by go_simp)
  have c1 := cell_at_below hb4 w1.heap.size 1 (.int .i64 1) (by go_simp)
  have c2 := cell_at_below hb4 w2.heap.size 0 (.int .i64 1073741824) (by go_simp)
  have c3 := cell_at_below hb4 w2.heap.size 1 (.int .i64 1) (by go_simp)
  have z0_ : w1.heap.size < w4.heap.size := Nat.lt_of_lt_of_le (by first | assumption | (simp; done) | (simp; omega)) hb4.size
  have z1_ : w2.heap.size < w4.heap.size := Nat.lt_of_lt_of_le (by first | assumption | (simp; done) | (simp; omega)) hb4.size
  have W4 := Lib.hid (bt hb4 (W3.out))
  clear hb4
  go_wp2_with fail
  refine (Mean_any 1610612736 1 _ fA).mono ?_
  rintro e w5 ⟨rfl, hb5⟩
  rw [e_mean.1, e_mean.2]
  have c0 := cell_at_below hb5 w1.heap.size 0 (.int .i64 1610612736) (by go_simp)
  have c1 := cell_at_below hb5 w1.heap.size 1 (.int .i64 1) (by go_simp)
  have c2 := cell_at_below hb5 w2.heap.size 0 (.int .i64 1073741824) (by go_simp)
  have c3 := cell_at_below hb5 w2.heap.size 1 (.int .i64 1) (by go_simp)
  have z0_ : w1.heap.size < w5.heap.size := Nat.lt_of_lt_of_le (by first | assumption | (simp; done) | (simp; omega)) hb5.size
  have z1_ : w2.heap.size < w5.heap.size := Nat.lt_of_lt_of_le (by first | assumption | (simp; done) | (simp; omega)) hb5.size
  have W5 := Lib.hid (bt hb5 (W4.out))
  clear hb5
  go_wp2_with fail
  refine (Sort_any _ [(1073741824, 1), (1610612736, 1)] _ _ (scs2 w5 1073741824 1 1610612736 1 36) (fits2 _ _ _ _ fB fA) (by decide)).mono ?_
  rintro e w6 ⟨⟨v, rfl, hv⟩, hb6⟩
  rw [e_sort.2]
  have c0 := cell_at_below hb6 w1.heap.size 0 (.int .i64 1610612736) (by go_simp)
  have c1 := cell_at_below hb6 w1.heap.size 1 (.int .i64 1) (by go_simp)
  have c2 := cell_at_below hb6 w2.heap.size 0 (.int .i64 1073741824) (by go_simp)
  have c3 := cell_at_below hb6 w2.heap.size 1 (.int .i64 1) (by go_simp)
  have z0_ : w1.heap.size < w6.heap.size := Nat.lt_of_lt_of_le (by first | assumption | (simp; done) | (simp; omega)) hb6.size
  have z1_ : w2.heap.size < w6.heap.size := Nat.lt_of_lt_of_le (by first | assumption | (simp; done) | (simp; omega)) hb6.size
  have W6 := Lib.hid (bt hb6 (bt (below_alloc1 w5 (.cells #[.int .i64 1073741824, .int .i64 1, .int .i64 1610612736, .int .i64 1] 36)) (W5.out)))
  clear hb6
  rw [e_sort.1] at hv
  have HV := Lib.hid hv
  clear hv
  go_wp2_with fail
  refine (Oddest_any v [(1610612736, 1), (1073741824, 1)] _ _ HV.out (fits2 _ _ _ _ fA fB)).mono ?_
  rintro e w7 ⟨rfl, hb7⟩
  rw [e_odd.1, e_odd.2]
  have c0 := cell_at_below hb7 w1.heap.size 0 (.int .i64 1610612736) (by go_simp)
  have c1 := cell_at_below hb7 w1.heap.size 1 (.int .i64 1) (by go_simp)
  have c2 := cell_at_below hb7 w2.heap.size 0 (.int .i64 1073741824) (by go_simp)
  have c3 := cell_at_below hb7 w2.heap.size 1 (.int .i64 1) (by go_simp)
  have z0_ : w1.heap.size < w7.heap.size := Nat.lt_of_lt_of_le (by first | assumption | (simp; done) | (simp; omega)) hb7.size
  have z1_ : w2.heap.size < w7.heap.size := Nat.lt_of_lt_of_le (by first | assumption | (simp; done) | (simp; omega)) hb7.size
  have X_w6_7 := Lib.hid (bt hb7 (Below.refl w6.heap.size w6))
  have W7 := Lib.hid (bt hb7 (W6.out))
  clear hb7
  go_wp2_with fail
  refine (SParse_any [49, 47, 51] _ (HG.out.below (W7.out)) (by decide)).mono ?_
  rintro e w8 ⟨rfl, hb8⟩
  rw [e_parse]
  have c0 := cell_at_below hb8 w1.heap.size 0 (.int .i64 1610612736) (by go_simp)
  have c1 := cell_at_below hb8 w1.heap.size 1 (.int .i64 1) (by go_simp)
  have c2 := cell_at_below hb8 w2.heap.size 0 (.int .i64 1073741824) (by go_simp)
  have c3 := cell_at_below hb8 w2.heap.size 1 (.int .i64 1) (by go_simp)
  have z0_ : w1.heap.size < w8.heap.size := Nat.lt_of_lt_of_le (by first | assumption | (simp; done) | (simp; omega)) hb8.size
  have z1_ : w2.heap.size < w8.heap.size := Nat.lt_of_lt_of_le (by first | assumption | (simp; done) | (simp; omega)) hb8.size
  have X_w6_8 := Lib.hid (bt hb8 (X_w6_7.out))
  have W8 := Lib.hid (bt hb8 (W7.out))
  clear hb8
  go_wp2_with fail
  refine (same_below (HV.out.below (bt (below_alloc1 (w8.alloc (.cells #[.int .i64 1, .int .i64 3] 36)) (.cells #[.int .i64 1610612736, .int .i64 1, .int .i64 1073741824, .int .i64 1] 36)) (bt (below_alloc1 w8 (.cells #[.int .i64 1, .int .i64 3] 36)) (X_w6_8.out)))) (scs2g (w := (w8.alloc (.cells #[.int .i64 1, .int .i64 3] 36))) (g := w8.heap.size + 1) (by simp) 1610612736 1 1073741824 1 36)).mono ?_
  rintro e w9 ⟨rfl, hb9⟩
  rw [show sameS [(1610612736, 1), (1073741824, 1)] [(1610612736, 1), (1073741824, 1)] = true from decide_eq_true rfl]
  have c0 := cell_at_below hb9 w1.heap.size 0 (.int .i64 1610612736) (by go_simp)
  have c1 := cell_at_below hb9 w1.heap.size 1 (.int .i64 1) (by go_simp)
  have c2 := cell_at_below hb9 w2.heap.size 0 (.int .i64 1073741824) (by go_simp)
  have c3 := cell_at_below hb9 w2.heap.size 1 (.int .i64 1) (by go_simp)
  have c4 := cell_at_below hb9 w8.heap.size 0 (.int .i64 1) (by go_simp)
  have c5 := cell_at_below hb9 w8.heap.size 1 (.int .i64 3) (by go_simp)
  have z0_ : w1.heap.size < w9.heap.size := Nat.lt_of_lt_of_le (by first | assumption | (simp; done) | (simp; omega)) hb9.size
  have z1_ : w2.heap.size < w9.heap.size := Nat.lt_of_lt_of_le (by first | assumption | (simp; done) | (simp; omega)) hb9.size
  have z2_ : w8.heap.size < w9.heap.size := Nat.lt_of_lt_of_le (by first | assumption | (simp; done) | (simp; omega)) hb9.size
  have X_w6_9 := Lib.hid (bt hb9 (bt (below_alloc1 (w8.alloc (.cells #[.int .i64 1, .int .i64 3] 36)) (.cells #[.int .i64 1610612736, .int .i64 1, .int .i64 1073741824, .int .i64 1] 36)) (bt (below_alloc1 w8 (.cells #[.int .i64 1, .int .i64 3] 36)) (X_w6_8.out))))
  have W9 := Lib.hid (bt hb9 (bt (below_alloc1 (w8.alloc (.cells #[.int .i64 1, .int .i64 3] 36)) (.cells #[.int .i64 1610612736, .int .i64 1, .int .i64 1073741824, .int .i64 1] 36)) (bt (below_alloc1 w8 (.cells #[.int .i64 1, .int .i64 3] 36)) (W8.out))))
  clear hb9
  go_wp2_with fail
  refine (SText_any 1 3 _ (HG.out.below (W9.out)) fC).mono ?_
  rintro e w10 ⟨rfl, hb10⟩
  rw [e_text]
  have c0 := cell_at_below hb10 w1.heap.size 0 (.int .i64 1610612736) (by go_simp)
  have c1 := cell_at_below hb10 w1.heap.size 1 (.int .i64 1) (by go_simp)
  have c2 := cell_at_below hb10 w2.heap.size 0 (.int .i64 1073741824) (by go_simp)
  have c3 := cell_at_below hb10 w2.heap.size 1 (.int .i64 1) (by go_simp)
  have c4 := cell_at_below hb10 w8.heap.size 0 (.int .i64 1) (by go_simp)
  have c5 := cell_at_below hb10 w8.heap.size 1 (.int .i64 3) (by go_simp)
  have z0_ : w1.heap.size < w10.heap.size := Nat.lt_of_lt_of_le (by first | assumption | (simp; done) | (simp; omega)) hb10.size
  have z1_ : w2.heap.size < w10.heap.size := Nat.lt_of_lt_of_le (by first | assumption | (simp; done) | (simp; omega)) hb10.size
  have z2_ : w8.heap.size < w10.heap.size := Nat.lt_of_lt_of_le (by first | assumption | (simp; done) | (simp; omega)) hb10.size
  have W10 := Lib.hid (bt hb10 (W9.out))
  clear hb10
  go_wp2_with fail
  refine (SIs_any 1 3 _ fC).mono ?_
  rintro e w11 ⟨rfl, hb11⟩
  rw [e_is.1]
  have c0 := cell_at_below hb11 w1.heap.size 0 (.int .i64 1610612736) (by go_simp)
  have c1 := cell_at_below hb11 w1.heap.size 1 (.int .i64 1) (by go_simp)
  have c2 := cell_at_below hb11 w2.heap.size 0 (.int .i64 1073741824) (by go_simp)
  have c3 := cell_at_below hb11 w2.heap.size 1 (.int .i64 1) (by go_simp)
  have c4 := cell_at_below hb11 w8.heap.size 0 (.int .i64 1) (by go_simp)
  have c5 := cell_at_below hb11 w8.heap.size 1 (.int .i64 3) (by go_simp)
  have z0_ : w1.heap.size < w11.heap.size := Nat.lt_of_lt_of_le (by first | assumption | (simp; done) | (simp; omega)) hb11.size
  have z1_ : w2.heap.size < w11.heap.size := Nat.lt_of_lt_of_le (by first | assumption | (simp; done) | (simp; omega)) hb11.size
  have z2_ : w8.heap.size < w11.heap.size := Nat.lt_of_lt_of_le (by first | assumption | (simp; done) | (simp; omega)) hb11.size
  have W11 := Lib.hid (bt hb11 (W10.out))
  clear hb11
  go_wp2_with fail
  refine (SIs_any 2 4 _ fD).mono ?_
  rintro e w12 ⟨rfl, hb12⟩
  rw [e_is.2]
  have c0 := cell_at_below hb12 w1.heap.size 0 (.int .i64 1610612736) (by go_simp)
  have c1 := cell_at_below hb12 w1.heap.size 1 (.int .i64 1) (by go_simp)
  have c2 := cell_at_below hb12 w2.heap.size 0 (.int .i64 1073741824) (by go_simp)
  have c3 := cell_at_below hb12 w2.heap.size 1 (.int .i64 1) (by go_simp)
  have c4 := cell_at_below hb12 w8.heap.size 0 (.int .i64 1) (by go_simp)
  have c5 := cell_at_below hb12 w8.heap.size 1 (.int .i64 3) (by go_simp)
  have z0_ : w1.heap.size < w12.heap.size := Nat.lt_of_lt_of_le (by first | assumption | (simp; done) | (simp; omega)) hb12.size
  have z1_ : w2.heap.size < w12.heap.size := Nat.lt_of_lt_of_le (by first | assumption | (simp; done) | (simp; omega)) hb12.size
  have z2_ : w8.heap.size < w12.heap.size := Nat.lt_of_lt_of_le (by first | assumption | (simp; done) | (simp; omega)) hb12.size
  have W12 := Lib.hid (bt hb12 (W11.out))
  clear hb12
  go_wp2
  go_ret
  exact ⟨rfl, W12.out⟩
end Go.Proofs.YtdpmijmofeechaaDoor.Liv13
