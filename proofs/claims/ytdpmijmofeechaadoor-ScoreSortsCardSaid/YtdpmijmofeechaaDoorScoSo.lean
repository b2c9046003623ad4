/- The walk of copselaw13.ScoreSorts. -/
import Derived.Test.YtdpmijmofeechaaDoorLiv13
namespace Go.Proofs.YtdpmijmofeechaaDoor.ScoSo
set_option linter.unusedVariables false
open Go.RowKit Base BigM BigZ GcdM RatM RatW RefRat Glob WideM WideW Rat2 TextW PartW ScoW SclW SorM SorW SorX SorY OddW Liv13

theorem Scs.below' {w w' : World} {lo B B' : Nat} {v : Value} {l : List (Int × Int)} (h : Scs w lo B v l) (hb : Below B' w w') (hB : B ≤ B') : Scs w' lo B v l := h.below (hb.mono hB)
set_option maxHeartbeats 2000000 in
set_option maxRecDepth 100000 in
theorem ScoreSorts_any (v : Value) (l : List (Int × Int)) (lo : Nat) (w : World) (hG : G w) (h : Scs w lo w.heap.size v l) (hf : Fits l) :
    Calls Tryd.prog 9 #[v] w fun e w' => e = .returned (.bool true) ∧ Below w.heap.size w w' := by
  obtain ⟨A, cap, rfl⟩ := scs_lt h
  have HG := Lib.hid hG
  have H := Lib.hid h
  obtain ⟨n, hn⟩ : ∃ n, l.length = n := ⟨_, rfl⟩
  rw [hn] at H ⊢
  have HN := Lib.hid hn
  clear hG h hn
  by_cases hl : 80 < n
  · have hI : (80 : Int) < (n : Int) := by omega
    go_enter Tryd.func9, Tryd.ntmps9
    go_wp2_with fail
    refine (lives13_any _ HG.out).mono ?_
    rintro e w1 ⟨rfl, hb1⟩
    go_wp2
    go_ret
    exact ⟨rfl, hb1⟩
  · have hI : ¬ (80 : Int) < (n : Int) := by omega
    go_enter Tryd.func9, Tryd.ntmps9
    go_wp2_with fail
    refine (Sort_any _ l lo _ H.out hf (by rw [HN.out]; omega)).mono ?_
    rintro e w1 ⟨⟨va, rfl, hva⟩, hb1⟩
    have HVA := Lib.hid hva
    have W1 := Lib.hid hb1
    clear hva hb1
    go_wp2_with fail
    refine (RSort_any _ l lo _ ((H.out.below W1.out).more (Nat.le_refl _) W1.out.size) hf (by rw [HN.out]; omega)).mono ?_
    rintro e w2 ⟨⟨vb, rfl, hvb⟩, hb2⟩
    have HVB := Lib.hid hvb
    have W2 := Lib.hid hb2
    have X2 := Lib.hid (bt W2.out W1.out)
    clear hvb hb2
    obtain ⟨o1, ho1⟩ : ∃ o, oddestV l = o := ⟨_, rfl⟩
    obtain ⟨o2, ho2⟩ : ∃ o, oddestE l = o := ⟨_, rfl⟩
    have HO1 := Lib.hid ho1
    have HO2 := Lib.hid ho2
    clear ho1 ho2
    go_wp2_with fail
    refine (Oddest_any _ l lo _ ((H.out.below X2.out).more (Nat.le_refl _) X2.out.size) hf).mono ?_
    rintro e w3 ⟨rfl, hb3⟩
    rw [HO1.out, HO2.out]
    have W3 := Lib.hid hb3
    have X3 := Lib.hid (bt W3.out X2.out)
    clear hb3
    go_wp2_with fail
    refine (ROddest_any _ l lo _ ((H.out.below X3.out).more (Nat.le_refl _) X3.out.size) hf).mono ?_
    rintro e w4 ⟨rfl, hb4⟩
    rw [HO1.out, HO2.out]
    have W4 := Lib.hid hb4
    have X4 := Lib.hid (bt W4.out X3.out)
    clear hb4
    go_wp2_with fail
    refine (same_below (Scs.below' (Scs.below' (HVA.out.below W2.out) W3.out W2.out.size) W4.out (Nat.le_trans W2.out.size W3.out.size)) (Scs.below' (HVB.out.below W3.out) W4.out W3.out.size)).mono ?_
    rintro e w5 ⟨rfl, hb5⟩
    rw [show sameS (sortV l) (sortV l) = true from decide_eq_true rfl]
    have X5 := Lib.hid (bt hb5 X4.out)
    clear hb5
    go_wp2_with fail
    refine (lives13_any _ (HG.out.below X5.out)).mono ?_
    rintro e w6 ⟨rfl, hb6⟩
    go_wp2
    go_ret
    exact ⟨rfl, bt hb6 X5.out⟩
end Go.Proofs.YtdpmijmofeechaaDoor.ScoSo
