/- The walk of copselaw03.RatioWholes. -/
import Derived.Test.YtdpmijmofeechaaDoorLivesW
import Derived.Test.YtdpmijmofeechaaDoorRefPt
namespace Go.Proofs.YtdpmijmofeechaaDoor.RatWh
set_option linter.unusedVariables false
open Go.RowKit Base BigM BigZ GcdM RatM RatW RefRat Glob WideM WideW Rat2 TextW PartW LivesW PartM PartV RefPt

/-- what RatioWholes needs of Floor and Ceil -/
theorem wholes (p q : Int) : ∃ a c e : Int, floorV p q = a ∧ rceilV p q = c ∧ isE p q = e ∧ ((e = 30 ∧ a = 0 ∧ c = 0) ∨ (e = 0 ∧ -1073741824 ≤ a ∧ a ≤ 1073741824 ∧ a ≤ c ∧ c ≤ a + 1)) := by
  refine ⟨_, _, _, rfl, rfl, rfl, ?_⟩
  cases h : isR p q
  · left
    unfold isE floorV rceilV
    rw [h]; exact ⟨rfl, rfl, rfl⟩
  · right
    obtain ⟨x1, x2, x3, x4, _⟩ := isR_true h
    have hlo : -1073741824 ≤ p / q := by
      apply Int.le_ediv_of_mul_le (by omega)
      omega
    have hhi : p / q ≤ 1073741824 := by
      have : p / q ≤ 1073741824 / q := Int.ediv_le_ediv (by omega) x4
      have h2 := Int.ediv_le_self q (show (0 : Int) ≤ 1073741824 by omega)
      omega
    unfold isE floorV rceilV
    rw [h, if_pos rfl, if_pos rfl, if_pos rfl, ceil_floor p q x1]
    refine ⟨rfl, hlo, hhi, ?_⟩
    split <;> omega
set_option maxHeartbeats 2000000 in
set_option maxRecDepth 100000 in
theorem RatioWholes_any (n p q : Int) (w : World) (hG : G w) (hn : -9223372036854775808 ≤ n ∧ n ≤ 9223372036854775807) (hf : Fit p q) :
    Calls Tryd.prog 13 #[.int .i64 n, .agg #[.int .i64 p, .int .i64 q]] w fun e w' => e = .returned (.bool true) ∧ Below w.heap.size w w' := by
  obtain ⟨a, c, x, ea, ec, ex, hx⟩ := wholes p q
  have FL := Lib.hid (fun W => Floor_any p q W hf)
  have RF := Lib.hid (fun W => RFloor_any p q W hf)
  have CL := Lib.hid (fun W => Ceil_any p q W hf)
  have RC := Lib.hid (fun W => RCeil_any p q W hf)
  have PT := Lib.hid (fun W => Part_any n p q W hn hf)
  have RP := Lib.hid (fun W => RPart_any n p q W hn hf)
  rw [ea, ex] at FL RF
  rw [ec, ex] at CL RC
  obtain ⟨u, eu⟩ : ∃ u, partV n p q = u := ⟨_, rfl⟩
  obtain ⟨v, ev⟩ : ∃ v, partE n p q = v := ⟨_, rfl⟩
  rw [eu, ev] at PT RP
  have HG := Lib.hid hG
  clear ea ec ex eu ev hG
  rcases hx with ⟨rfl, rfl, rfl⟩ | ⟨rfl, a0, a1, c0', c1'⟩
  all_goals
    go_enter Tryd.func13, Tryd.ntmps13
    go_wp2_with fail
    refine (FL.out _).mono ?_
    rintro e w1 ⟨rfl, hb1⟩
    have c0 := cell_at_below hb1 w.heap.size 0 (.int .i64 p) (by go_simp)
    have c1 := cell_at_below hb1 w.heap.size 1 (.int .i64 q) (by go_simp)
    have W1 := Lib.hid (bt hb1 (below_alloc1 _ _))
    clear hb1
    go_wp2_with fail
    refine (RF.out _).mono ?_
    rintro e w2 ⟨rfl, hb2⟩
    have c0 := cell_at_below hb2 _ _ _ c0
    have c1 := cell_at_below hb2 _ _ _ c1
    have W2 := Lib.hid (bt hb2 W1.out)
    clear hb2 W1
    go_wp2_with fail
    refine (lives_any _ (HG.out.below W2.out)).mono ?_
    rintro e w3 ⟨rfl, hb3⟩
    have c0 := cell_at_below hb3 _ _ _ c0
    have c1 := cell_at_below hb3 _ _ _ c1
    have W3 := Lib.hid (bt hb3 W2.out)
    clear hb3 W2
    go_wp2_with fail
    refine (CL.out _).mono ?_
    rintro e w4 ⟨rfl, hb4⟩
    have c0 := cell_at_below hb4 _ _ _ c0
    have c1 := cell_at_below hb4 _ _ _ c1
    have W4 := Lib.hid (bt hb4 W3.out)
    clear hb4 W3
    go_wp2_with fail
    refine (RC.out _).mono ?_
    rintro e w5 ⟨rfl, hb5⟩
    have c0 := cell_at_below hb5 _ _ _ c0
    have c1 := cell_at_below hb5 _ _ _ c1
    have W5 := Lib.hid (bt hb5 W4.out)
    clear hb5 W4
    go_wp2_with fail
    refine (PT.out _).mono ?_
    rintro e w6 ⟨rfl, hb6⟩
    have c0 := cell_at_below hb6 _ _ _ c0
    have c1 := cell_at_below hb6 _ _ _ c1
    have W6 := Lib.hid (bt hb6 W5.out)
    clear hb6 W5
    go_wp2_with fail
    refine (RP.out _).mono ?_
    rintro e w7 ⟨rfl, hb7⟩
    have W7 := Lib.hid (bt hb7 W6.out)
    clear hb7 W6
    go_wp2
    go_ret
    exact ⟨rfl, W7.out⟩
end Go.Proofs.YtdpmijmofeechaaDoor.RatWh
