/- The walk of copselaw03.lives: it answers true. -/
import Derived.Test.YtdpmijmofeechaaDoorPartW
namespace Go.Proofs.YtdpmijmofeechaaDoor.LivesW
set_option linter.unusedVariables false
open Go.RowKit Base BigM BigZ GcdM RatM RatW RefRat Glob WideM WideW Rat2 TextW PartW

theorem itoa_m3 : Lib.itoa (-3) = [45, 51] := by
  rw [show (-3 : Int) = -((3 : Nat) : Int) from rfl, Lib.itoa_neg 3 (by omega), Lib.decDigits_one (by omega)]; rfl
theorem itoa_2 : Lib.itoa 2 = [50] := by
  rw [show (2 : Int) = ((2 : Nat) : Int) from rfl, Lib.itoa_nonneg 2, Lib.decDigits_one (by omega)]; rfl
theorem e_of : ofR 6 (-4) = (-3, 2, 0) := by decide +kernel
theorem e_add : addR 1 6 1 3 = (1, 2, 0) := by decide +kernel
theorem e_cmp : cmpV (-3) 2 1 2 = -1 ∧ bothE (-3) 2 1 2 = 0 := by decide +kernel
theorem e_div : doR 3 (-3) 2 0 1 = (0, 0, 11) := by decide +kernel
theorem e_floor : floorV (-3) 2 = -2 ∧ isE (-3) 2 = 0 := by decide +kernel
theorem e_is : isR (-3) 2 = true := by decide +kernel
theorem e_not : isR 2 4 = false := by decide +kernel
theorem e_text : textR (-3) 2 = [45, 51, 47, 50] := by rw [textR_two e_is (by omega), itoa_m3, itoa_2]; rfl
theorem e_parse : parseR [45, 51, 47, 50] = (-3, 2, 0) := by
  have h1 : cutB [45, 51, 47, 50] = true := by decide +kernel
  have h2 : cutT [45, 51, 47, 50] = [45, 51] := by decide +kernel
  have h3 : cutL [45, 51, 47, 50] = [50] := by decide +kernel
  have h4 : atoiV [45, 51] = -3 := by decide +kernel
  have h5 : atoiV [50] = 2 := by decide +kernel
  have h6 : atoiOk [45, 51] = true := by decide +kernel
  have h7 : atoiOk [50] = true := by decide +kernel
  have hp : parP [45, 51, 47, 50] = -3 := by unfold parP; rw [h2, h4]
  rw [parseR_two h1 (by rw [h2, partOk_yes h6, h4, itoa_m3]; rfl) (by rw [h3, partOk_yes h7, h5, itoa_2]; rfl) (by rw [h3, h5]; rfl) (by rw [hp, h3, h5]; exact e_is), hp, h3, h5]
theorem fit (p q : Int) (h : (-100 ≤ p ∧ p ≤ 100) ∧ -100 ≤ q ∧ q ≤ 100) : Fit p q := ⟨⟨by omega, by omega⟩, by omega, by omega⟩
set_option maxHeartbeats 4000000 in
set_option maxRecDepth 100000 in
theorem lives_any (w : World) (hG : G w) :
    Calls Tryd.prog 16 #[] w fun e w' => e = .returned (.bool true) ∧ Below w.heap.size w w' := by
  have E1 := Lib.hid e_of
  have E2 := Lib.hid e_add
  have E4 := Lib.hid e_cmp
  have E5 := Lib.hid e_div
  have E6 := Lib.hid e_parse
  have E7 := Lib.hid e_floor
  have E8 := Lib.hid e_text
  have E9 := Lib.hid e_is
  have EA := Lib.hid e_not
  have HG := Lib.hid hG
  clear hG
  go_enter Tryd.func16, Tryd.ntmps16
  go_wp2_with fail
  refine (Of_any 6 (-4) _ (fit _ _ (by omega))).mono ?_
  rintro e w1 ⟨rfl, hb1⟩
  rw [E1.out]
  have W1 := Lib.hid (bt (below_alloc1 w1 (.cells #[.int .i64 (-3), .int .i64 2] 23)) hb1)
  clear hb1
  go_wp2_with fail
  refine (Add_any 1 6 1 3 _ (fit _ _ (by omega)) (fit _ _ (by omega))).mono ?_
  rintro e w2 ⟨rfl, hb2⟩
  rw [E2.out]
  obtain ⟨a0, a1, _, _, z2⟩ := keepA hb2
  have z2 : w1.heap.size < w2.heap.size := z2
  have W2 := Lib.hid (bt (below_alloc1 w2 (.cells #[.int .i64 1, .int .i64 2] 23)) (bt hb2 W1.out))
  clear hb2 W1
  go_wp2_with fail
  refine (Part_lives _ (HG.out.below W2.out)).mono ?_
  rintro e w3 ⟨rfl, hb3⟩
  obtain ⟨b0, b1, _, _, z3⟩ := keepA hb3
  have z3 : w2.heap.size < w3.heap.size := z3
  have a0 := cell_at_below hb3 _ _ _ (cell_at_below (below_alloc1 w2 (.cells #[.int .i64 1, .int .i64 2] 23)) _ _ _ a0)
  have a1 := cell_at_below hb3 _ _ _ (cell_at_below (below_alloc1 w2 (.cells #[.int .i64 1, .int .i64 2] 23)) _ _ _ a1)
  have W3 := Lib.hid (bt hb3 W2.out)
  clear hb3 W2
  go_wp2_with fail
  refine (Cmp_any (-3) 2 1 2 _ (fit _ _ (by omega)) (fit _ _ (by omega))).mono ?_
  rintro e w4 ⟨rfl, hb4⟩
  rw [E4.out.1, E4.out.2]
  have a0 := cell_at_below hb4 _ _ _ a0
  have a1 := cell_at_below hb4 _ _ _ a1
  have b0 := cell_at_below hb4 _ _ _ b0
  have b1 := cell_at_below hb4 _ _ _ b1
  have W4 := Lib.hid (bt hb4 W3.out)
  have s4 := hb4.size
  clear hb4 W3
  go_wp2_with fail
  refine (Div_any (-3) 2 0 1 _ (fit _ _ (by omega)) (fit _ _ (by omega))).mono ?_
  rintro e w5 ⟨rfl, hb5⟩
  rw [E5.out]
  have hA := below_alloc1 w5 (.cells #[.int .i64 0, .int .i64 0] 23)
  have s5 := hb5.size
  have a0 := cell_at_below hA _ _ _ (cell_at_below hb5 _ _ _ a0)
  have a1 := cell_at_below hA _ _ _ (cell_at_below hb5 _ _ _ a1)
  have b0 := cell_at_below hA _ _ _ (cell_at_below hb5 _ _ _ b0)
  have b1 := cell_at_below hA _ _ _ (cell_at_below hb5 _ _ _ b1)
  have W5 := Lib.hid (bt hA (bt hb5 W4.out))
  clear hb5 W4 hA
  go_wp2_with fail
  refine (Parse_any [45, 51, 47, 50] _ (HG.out.below W5.out) (by decide)).mono ?_
  rintro e w6 ⟨rfl, hb6⟩
  rw [E6.out]
  have hA := below_alloc1 w6 (.cells #[.int .i64 (-3), .int .i64 2] 23)
  have s6 := hb6.size
  have a0 := cell_at_below hA _ _ _ (cell_at_below hb6 _ _ _ a0)
  have a1 := cell_at_below hA _ _ _ (cell_at_below hb6 _ _ _ a1)
  have b0 := cell_at_below hA _ _ _ (cell_at_below hb6 _ _ _ b0)
  have b1 := cell_at_below hA _ _ _ (cell_at_below hb6 _ _ _ b1)
  have W6 := Lib.hid (bt hA (bt hb6 W5.out))
  clear hb6 W5 hA
  go_wp2_with fail
  refine (Floor_any (-3) 2 _ (fit _ _ (by omega))).mono ?_
  rintro e w7 ⟨rfl, hb7⟩
  rw [E7.out.1, E7.out.2]
  obtain ⟨d0, d1, _, _, z7⟩ := keepA hb7
  have a0 := cell_at_below hb7 _ _ _ a0
  have a1 := cell_at_below hb7 _ _ _ a1
  have b0 := cell_at_below hb7 _ _ _ b0
  have b1 := cell_at_below hb7 _ _ _ b1
  have W7 := Lib.hid (bt hb7 W6.out)
  have G7 := Lib.hid (HG.out.below W7.out)
  clear hb7 W6
  go_wp2_with fail
  refine (Text_any (-3) 2 _ G7.out (fit _ _ (by omega))).mono ?_
  rintro e w8 ⟨rfl, hb8⟩
  rw [E8.out]
  have a0 := cell_at_below hb8 _ _ _ a0
  have a1 := cell_at_below hb8 _ _ _ a1
  have W8 := Lib.hid (bt hb8 W7.out)
  clear hb8 W7
  go_wp2_with fail
  refine (Is_any (-3) 2 _ (by omega) (by omega) (by omega) (by omega)).mono ?_
  rintro e w9 ⟨rfl, hb9⟩
  rw [E9.out]
  have W9 := Lib.hid (bt hb9 W8.out)
  clear hb9 W8
  go_wp2_with fail
  refine (Is_any 2 4 _ (by omega) (by omega) (by omega) (by omega)).mono ?_
  rintro e w10 ⟨rfl, hb10⟩
  rw [EA.out]
  have WA := Lib.hid (bt hb10 W9.out)
  clear hb10 W9
  go_wp2
  go_ret
  exact ⟨rfl, WA.out⟩
end Go.Proofs.YtdpmijmofeechaaDoor.LivesW
