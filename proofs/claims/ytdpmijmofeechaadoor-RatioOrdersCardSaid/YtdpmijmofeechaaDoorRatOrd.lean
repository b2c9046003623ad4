/- The walk of copselaw03.RatioOrders. -/
import Derived.Test.YtdpmijmofeechaaDoorLivesW
namespace Go.Proofs.YtdpmijmofeechaaDoor.RatOrd
set_option linter.unusedVariables false
open Go.RowKit Base BigM BigZ GcdM RatM RatW RefRat Glob WideM WideW Rat2 TextW PartW LivesW

theorem ord_swap (a b : Int) : ord b a = -ord a b := by
  unfold ord; split <;> (try split) <;> (try split) <;> omega
theorem ordV_swap (p q r s : Int) : ordV r s p q = -ordV p q r s := by
  unfold ordV
  by_cases h : q < 1 ∨ s < 1
  · rw [if_pos h, if_pos (by omega)]; rfl
  · rw [if_neg h, if_neg (by omega)]; exact ord_swap _ _
theorem ordE_swap (q s : Int) : ordE s q = ordE q s := by
  unfold ordE
  by_cases h : q < 1 ∨ s < 1
  · rw [if_pos h, if_pos (by omega)]
  · rw [if_neg h, if_neg (by omega)]
theorem ordV_bd (p q r s : Int) : -1 ≤ ordV p q r s ∧ ordV p q r s ≤ 1 := by
  unfold ordV; split
  · omega
  · exact ord_bd _ _
set_option maxHeartbeats 2000000 in
theorem RatioOrders_any (p q r s : Int) (w : World) (hG : G w) (h1 : Fit p q) (h2 : Fit r s) :
    Calls Tryd.prog 4 #[.int .i64 p, .int .i64 q, .int .i64 r, .int .i64 s] w fun e w' => e = .returned (.bool true) ∧ Below w.heap.size w w' := by
  have hs := ordV_swap p q r s
  have he := ordE_swap q s
  have hbd := ordV_bd p q r s
  obtain ⟨v, hv⟩ : ∃ v, ordV p q r s = v := ⟨_, rfl⟩
  obtain ⟨x, hx⟩ : ∃ x, ordE q s = x := ⟨_, rfl⟩
  rw [hv] at hs hbd
  rw [hx] at he
  have HS := Lib.hid hs
  have HE := Lib.hid he
  have HV := Lib.hid hv
  have HX := Lib.hid hx
  have HG := Lib.hid hG
  clear hs he hv hx hG
  go_enter Tryd.func4, Tryd.ntmps4
  go_wp2_with fail
  refine (Order_any p q r s _ h1 h2).mono ?_
  rintro e w1 ⟨rfl, hb1⟩
  rw [HV.out, HX.out]
  go_wp2_with fail
  refine (ROrder_any p q r s _ h1 h2).mono ?_
  rintro e w2 ⟨rfl, hb2⟩
  rw [HV.out, HX.out]
  go_wp2_with fail
  refine (Order_any r s p q _ h2 h1).mono ?_
  rintro e w3 ⟨rfl, hb3⟩
  rw [HS.out, HE.out]
  have W3 := Lib.hid (bt hb3 (bt hb2 hb1))
  clear hb1 hb2 hb3
  go_wp2_with fail
  refine (lives_any _ (HG.out.below W3.out)).mono ?_
  rintro e w4 ⟨rfl, hb4⟩
  go_wp2
  go_ret
  exact ⟨rfl, bt hb4 W3.out⟩
end Go.Proofs.YtdpmijmofeechaaDoor.RatOrd
