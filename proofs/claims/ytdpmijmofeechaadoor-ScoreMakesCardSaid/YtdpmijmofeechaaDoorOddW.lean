/- The walks of score.none, cmp.Or, score.Oddest and copseref13.Oddest; copseref13.Sort as a whole. -/
import Derived.Test.YtdpmijmofeechaaDoorSorY
namespace Go.Proofs.YtdpmijmofeechaaDoor.OddW
set_option linter.unusedVariables false
open Go.RowKit Base BigM BigZ GcdM RatM RatW RefRat Glob WideM WideW Rat2 TextW PartW ScoW SclW SorM SorW SorX SorY

theorem RSort_any (v : Value) (l : List (Int × Int)) (lo : Nat) (w : World) (h1 : Scs w lo w.heap.size v l) (hf : Fits l) (hm : l.length ≤ 1000000) :
    Calls Tryd.prog 36 #[v] w fun e w' => (∃ v, e = .returned (.tuple #[v, .int .i64 (allE l)]) ∧ Scs w' w.heap.size w'.heap.size v (sortV l)) ∧ Below w.heap.size w w' := by
  cases ha : allS l
  · have F := Lib.hid (show allE l = 130 ∧ sortV l = [] by unfold allE sortV; rw [ha]; exact ⟨rfl, rfl⟩)
    have H1 := Lib.hid h1
    have HA := Lib.hid ha
    clear ha h1
    rw [F.out.1, F.out.2]
    go_enter Tryd.func36, Tryd.ntmps36
    go_wp2_with fail
    refine (RAll_any v l lo _ H1.out hf).mono ?_
    rintro e w1 ⟨rfl, hb1⟩
    rw [HA.out]
    go_wp2
    go_ret2
    exact ⟨⟨_, rfl, none, 0, rfl, Nat.le_refl _, by unfold maxLen; omega, Rd.nil_, fun _ => rfl⟩, hb1⟩
  · have F := Lib.hid (show allE l = 0 ∧ sortV l = insL l by unfold allE sortV; rw [ha]; exact ⟨rfl, rfl⟩)
    rw [F.out.1, F.out.2]
    exact RSort_yes v l lo w h1 ha hm
def noneE (n : Nat) : Int := if n = 0 then 4 else 0
theorem none_any (n : Nat) (w : World) : Calls Tryd.prog 80 #[.int .i64 (n : Int)] w fun e w' => e = .returned (.int .i64 (noneE n)) ∧ w = w' := by
  by_cases h : n = 0
  · subst h
    have HE := Lib.hid (show noneE 0 = 4 from rfl)
    go_enter Tryd.func80, Tryd.ntmps80
    go_wp2
    go_ret
    exact ⟨ret_int HE.out.symm, rfl⟩
  · have hb : ((n : Int) == 0) = false := by simpa using h
    have HE := Lib.hid (show noneE n = 0 from if_neg h)
    clear h
    go_enter Tryd.func80, Tryd.ntmps80
    go_wp2
    go_ret
    exact ⟨ret_int HE.out.symm, rfl⟩
def orV (a b : Int) : Int := if a ≠ 0 then a else b
def OrRel (a b : Int) (vi : Value) : Prop := vi = .int .i64 0 ∨ (vi = .int .i64 1 ∧ a = 0) ∨ (vi = .int .i64 2 ∧ a = 0 ∧ b = 0)
set_option maxHeartbeats 1000000 in
theorem Or_any (g cap : Nat) (a b : Int) (w : World) (c0 : w.cell? ⟨g, 0, none⟩ = some (.int .i64 a)) (c1 : w.cell? ⟨g, 1, none⟩ = some (.int .i64 b)) :
    Calls Tryd.prog 79 #[.slice (some ⟨g, 0, none⟩) 2 cap] w fun e w' => e = .returned (.int .i64 (orV a b)) ∧ w = w' := by
  have H0 := Lib.hid (show OrRel a b (.int .i64 0) from .inl rfl)
  go_enter Tryd.func79, Tryd.ntmps79
  go_wp2
  go_loop [8] (fun vi => OrRel a b vi) (fun vi => 2 - (intOf vi).toNat)
  case atStart => exact H0.out
  case round =>
    rcases hrel with rfl | ⟨rfl, ha⟩ | ⟨rfl, ha, hb⟩
    · by_cases ha : a = 0
      · have hn : (a != 0) = false := by simpa using ha
        have HA := Lib.hid ha
        clear ha
        go_wp2
        exact ⟨.inr (.inl ⟨rfl, HA.out⟩), by simp [intOf]⟩
      · have hn : (a != 0) = true := by simpa using ha
        have HA := Lib.hid ha
        clear ha
        go_wp2
        go_ret
        exact ⟨ret_int (by unfold orV; rw [if_pos HA.out]), rfl⟩
    · have HA := Lib.hid ha
      clear ha
      by_cases hb : b = 0
      · have hn : (b != 0) = false := by simpa using hb
        have HB := Lib.hid hb
        clear hb
        go_wp2
        exact ⟨.inr (.inr ⟨rfl, HA.out, HB.out⟩), by simp [intOf]⟩
      · have hn : (b != 0) = true := by simpa using hb
        clear hb
        go_wp2
        go_ret
        exact ⟨ret_int (by unfold orV; rw [if_neg (by rw [HA.out]; decide)]), rfl⟩
    · have HA := Lib.hid ha
      have HB := Lib.hid hb
      clear ha hb
      go_wp2
      go_ret
      exact ⟨ret_int (by unfold orV; rw [if_neg (by rw [HA.out]; decide), HB.out]), rfl⟩
/-- the place of the first one of the first k than which none of them is odder -/
def bestI (l : List (Int × Int)) : Nat → Nat
  | 0 => 0
  | k + 1 => if 0 < oddX (l.getD k (0, 1)) (l.getD (bestI l k) (0, 1)) then k else bestI l k
theorem best_le (l : List (Int × Int)) : ∀ k, bestI l k ≤ k
  | 0 => Nat.le_refl _
  | k + 1 => by
    unfold bestI
    have := best_le l k
    split <;> omega
theorem best_lt (l : List (Int × Int)) {k : Nat} (h : k < l.length) : bestI l k < l.length := Nat.lt_of_le_of_lt (best_le l k) h
def oddestV (l : List (Int × Int)) : Int := if allS l = true then (bestI l l.length : Int) else 0
def oddestE (l : List (Int × Int)) : Int := if allS l = true then (if l.length = 0 then 4 else 0) else 130
theorem best_step {l : List (Int × Int)} {k : Nat} {x y : Int × Int} (hx : l[k]? = some x) (hy : l[bestI l k]? = some y) : bestI l (k + 1) = if 0 < oddV x.1 x.2 y.1 y.2 then k else bestI l k := by
  rw [bestI]
  simp only [List.getD_eq_getElem?_getD, hx, hy, Option.getD_some]
  rfl
def BestRel (l : List (Int × Int)) (w : World) (vb vi : Value) (wr : World) : Prop := ∃ k : Nat, k ≤ l.length ∧ vi = .int .i64 k ∧ vb = .int .i64 (bestI l k : Int) ∧ Below w.heap.size w wr
set_option maxHeartbeats 2000000 in
set_option maxRecDepth 100000 in
theorem Oddest_any (v : Value) (l : List (Int × Int)) (lo : Nat) (w : World) (h1 : Scs w lo w.heap.size v l) (hf : Fits l) :
    Calls Tryd.prog 37 #[v] w fun e w' => e = .returned (.tuple #[.int .i64 (oddestV l), .int .i64 (oddestE l)]) ∧ Below w.heap.size w w' := by
  have H1 := Lib.hid h1
  obtain ⟨A, cap, rfl, hc1, hc2, hr, hz⟩ := h1
  unfold maxLen at hc2
  have HR := Lib.hid hr
  obtain ⟨n, hn⟩ : ∃ n, l.length = n := ⟨_, rfl⟩
  rw [hn] at hc1 H1 ⊢
  have HN := Lib.hid hn
  clear hr hz hn
  cases ha : allS l
  · have F := Lib.hid (show oddestV l = 0 ∧ oddestE l = 130 by unfold oddestV oddestE; rw [ha]; exact ⟨rfl, rfl⟩)
    have HE := Lib.hid (show allE l = 130 by unfold allE; rw [ha]; rfl)
    clear ha
    go_enter Tryd.func37, Tryd.ntmps37
    go_wp2_with fail
    refine (all_any _ l lo _ H1.out hf).mono ?_
    rintro e w1 ⟨rfl, hb1⟩
    rw [HE.out]
    go_wp2_with fail
    refine (none_any n _).mono ?_
    rintro e w2 ⟨rfl, rfl⟩
    go_wp2_with fail
    refine (Or_any _ _ 130 (noneE n) _ (by go_simp) (by go_simp)).mono ?_
    rintro e w3 ⟨rfl, rfl⟩
    rw [show ∀ b, orV 130 b = 130 from fun b => rfl]
    go_wp2
    go_ret2
    exact ⟨ret_int2 F.out.1.symm F.out.2.symm, bt (below_alloc1 _ _) hb1⟩
  · have HE := Lib.hid (show allE l = 0 by unfold allE; rw [ha]; rfl)
    by_cases h0 : n = 0
    · have F := Lib.hid (show oddestV l = 0 ∧ oddestE l = 4 by
        have := HN.out
        unfold oddestV oddestE; rw [ha, this, h0]; exact ⟨rfl, rfl⟩)
      have H4 := Lib.hid (show noneE n = 4 from if_pos h0)
      clear ha h0
      go_enter Tryd.func37, Tryd.ntmps37
      go_wp2_with fail
      refine (all_any _ l lo _ H1.out hf).mono ?_
      rintro e w1 ⟨rfl, hb1⟩
      rw [HE.out]
      go_wp2_with fail
      refine (none_any n _).mono ?_
      rintro e w2 ⟨rfl, rfl⟩
      rw [H4.out]
      go_wp2_with fail
      refine (Or_any _ _ 0 4 _ (by go_simp) (by go_simp)).mono ?_
      rintro e w3 ⟨rfl, rfl⟩
      rw [show orV 0 4 = 4 from rfl]
      go_wp2
      go_ret2
      exact ⟨ret_int2 F.out.1.symm F.out.2.symm, bt (below_alloc1 _ _) hb1⟩
    · have F := Lib.hid (show oddestV l = (bestI l n : Int) ∧ oddestE l = 0 by
        have := HN.out
        unfold oddestV oddestE; rw [ha, this]; exact ⟨rfl, if_neg h0⟩)
      have H4 := Lib.hid (show noneE n = 0 from if_neg h0)
      have HA := Lib.hid ha
      clear ha h0
      go_enter Tryd.func37, Tryd.ntmps37
      go_wp2_with fail
      refine (all_any _ l lo _ H1.out hf).mono ?_
      rintro e w1 ⟨rfl, hb1⟩
      rw [HE.out]
      go_wp2_with fail
      refine (none_any n _).mono ?_
      rintro e w2 ⟨rfl, rfl⟩
      rw [H4.out]
      go_wp2_with fail
      refine (Or_any _ _ 0 0 _ (by go_simp) (by go_simp)).mono ?_
      rintro e w3 ⟨rfl, rfl⟩
      rw [show orV 0 0 = 0 from rfl]
      have H0 := Lib.hid (fun ww => show Below w.heap.size w ww → BestRel l w (.int .i64 0) (.int .i64 0) ww from fun hh => ⟨0, Nat.zero_le _, rfl, rfl, hh⟩)
      have HB1 := Lib.hid hb1
      clear hb1
      go_wp2_with fail
      go_loopw [5, 20] (fun vb vi wr => BestRel l w vb vi wr) (fun _ vi _ => n - (intOf vi).toNat)
      case atStart => exact H0.out _ (bt (below_alloc1 _ _) HB1.out)
      case round =>
        obtain ⟨k, hk, rfl, rfl, hbel⟩ := hrel
        rw [HN.out] at hk
        have HB := Lib.hid hbel
        have hsz := hbel.size
        clear hbel
        by_cases hlt : k < n
        · obtain ⟨ad, x, rfl, hlo, hb, hx, x1, x2⟩ := rd2 (HR.out.below HB.out) (i := k) (by rw [HN.out]; exact hlt)
          have hbl := best_lt l (k := k) (by rw [HN.out]; exact hlt)
          obtain ⟨ad', y, hae, hlo', hb', hy, y1, y2⟩ := rd2 (HR.out.below HB.out) (i := bestI l k) hbl
          obtain rfl := Option.some.inj hae
          have HST := Lib.hid (best_step hx hy)
          have fx := fits_right HA.out x (List.mem_of_getElem? hx)
          have fy := fits_right HA.out y (List.mem_of_getElem? hy)
          rw [HN.out] at hbl
          obtain ⟨j, hj⟩ : ∃ j, bestI l k = j := ⟨_, rfl⟩
          rw [hj] at hbl y1 y2 HST ⊢
          have HJ := Lib.hid hj
          clear hx hy hj hae
          have hjI : (j : Int) < (n : Int) := by omega
          have hkI : (k : Int) < (n : Int) := by omega
          have hA := below_alloc1 wr (.cells #[.int .i64 x.1, .int .i64 x.2] 36)
          have y3 := (hA.cell (p := ad.add (j * 2)) (by rw [add_block]; omega)).trans y1
          have y4 := (hA.cell (p := ⟨(ad.add (j * 2)).block, (ad.add (j * 2)).off + 1, none⟩) (by show (ad.add (j * 2)).block < _; rw [add_block]; omega)).trans y2
          have HB2 := Lib.hid (bt hA HB.out)
          have z1 : (wr.alloc (.cells #[.int .i64 x.1, .int .i64 x.2] 36)).cell? ⟨wr.heap.size, 0, none⟩ = some (.int .i64 x.1) := by go_simp
          have z2 : (wr.alloc (.cells #[.int .i64 x.1, .int .i64 x.2] 36)).cell? ⟨wr.heap.size, 1, none⟩ = some (.int .i64 x.2) := by go_simp
          clear y1 y2 hA
          by_cases hlt2 : 0 < oddV x.1 x.2 y.1 y.2
          · have HS2 := Lib.hid (HST.out.trans (if_pos hlt2))
            go_wp2_with fail
            generalize wr.alloc (.cells #[.int .i64 x.1, .int .i64 x.2] 36) = wq at z1 z2 y3 y4 HB2 ⊢
            go_still_tail 5, (by kernel_rfl)
            go_wp2_with fail
            refine (odder_any x.1 x.2 y.1 y.2 _ fx fy).mono ?_
            rintro e w4 ⟨rfl, hb4⟩
            have HB4 := Lib.hid (bt hb4 (HB2.out.drew))
            clear hb4
            go_wp2_with fail
            exact ⟨⟨k + 1, by rw [HN.out]; omega, by go_num, by rw [HS2.out], HB4.out⟩, by simp [intOf]; omega⟩
          · have HS2 := Lib.hid (HST.out.trans (if_neg hlt2))
            go_wp2_with fail
            generalize wr.alloc (.cells #[.int .i64 x.1, .int .i64 x.2] 36) = wq at z1 z2 y3 y4 HB2 ⊢
            go_still_tail 5, (by kernel_rfl)
            go_wp2_with fail
            refine (odder_any x.1 x.2 y.1 y.2 _ fx fy).mono ?_
            rintro e w4 ⟨rfl, hb4⟩
            have HB4 := Lib.hid (bt hb4 (HB2.out.drew))
            clear hb4
            go_wp2_with fail
            exact ⟨⟨k + 1, by rw [HN.out]; omega, by go_num, by rw [HS2.out], HB4.out⟩, by simp [intOf]; omega⟩
        · have hkn : k = n := by omega
          have HK := Lib.hid hkn
          clear hkn
          go_wp2_with fail
          go_ret2
          exact ⟨ret_int2 (by rw [F.out.1, HK.out]) F.out.2.symm, HB.out⟩
set_option maxHeartbeats 2000000 in
set_option maxRecDepth 100000 in
theorem ROddest_any (v : Value) (l : List (Int × Int)) (lo : Nat) (w : World) (h1 : Scs w lo w.heap.size v l) (hf : Fits l) :
    Calls Tryd.prog 38 #[v] w fun e w' => e = .returned (.tuple #[.int .i64 (oddestV l), .int .i64 (oddestE l)]) ∧ Below w.heap.size w w' := by
  have H1 := Lib.hid h1
  obtain ⟨A, cap, rfl, hc1, hc2, hr, hz⟩ := h1
  unfold maxLen at hc2
  have HR := Lib.hid hr
  obtain ⟨n, hn⟩ : ∃ n, l.length = n := ⟨_, rfl⟩
  rw [hn] at hc1 H1 ⊢
  have HN := Lib.hid hn
  clear hr hz hn
  cases ha : allS l
  · have F := Lib.hid (show oddestV l = 0 ∧ oddestE l = 130 by unfold oddestV oddestE; rw [ha]; exact ⟨rfl, rfl⟩)
    have HA := Lib.hid ha
    clear ha
    go_enter Tryd.func38, Tryd.ntmps38
    go_wp2_with fail
    refine (RAll_any _ l lo _ H1.out hf).mono ?_
    rintro e w1 ⟨rfl, hb1⟩
    rw [HA.out]
    go_wp2
    go_ret2
    exact ⟨ret_int2 F.out.1.symm F.out.2.symm, hb1⟩
  · have HA := Lib.hid ha
    by_cases h0 : n = 0
    · have F := Lib.hid (show oddestV l = 0 ∧ oddestE l = 4 by
        have := HN.out
        unfold oddestV oddestE; rw [ha, this, h0]; exact ⟨rfl, rfl⟩)
      have hb0 : ((n : Int) == 0) = true := by simpa using h0
      clear ha h0
      go_enter Tryd.func38, Tryd.ntmps38
      go_wp2_with fail
      refine (RAll_any _ l lo _ H1.out hf).mono ?_
      rintro e w1 ⟨rfl, hb1⟩
      rw [HA.out]
      go_wp2
      go_ret2
      exact ⟨ret_int2 F.out.1.symm F.out.2.symm, hb1⟩
    · have F := Lib.hid (show oddestV l = (bestI l n : Int) ∧ oddestE l = 0 by
        have := HN.out
        unfold oddestV oddestE; rw [ha, this]; exact ⟨rfl, if_neg h0⟩)
      have hb0 : ((n : Int) == 0) = false := by simpa using h0
      clear ha h0
      go_enter Tryd.func38, Tryd.ntmps38
      go_wp2_with fail
      refine (RAll_any _ l lo _ H1.out hf).mono ?_
      rintro e w1 ⟨rfl, hb1⟩
      rw [HA.out]
      have H0 := Lib.hid (show BestRel l w (.int .i64 0) (.int .i64 0) w1 from ⟨0, Nat.zero_le _, rfl, rfl, hb1⟩)
      clear hb1
      go_wp2_with fail
      go_loopw [4, 5] (fun vb vi wr => BestRel l w vb vi wr) (fun _ vi _ => n - (intOf vi).toNat)
      case atStart => exact H0.out
      case round =>
        obtain ⟨k, hk, rfl, rfl, hbel⟩ := hrel
        rw [HN.out] at hk
        have HB := Lib.hid hbel
        have hsz := hbel.size
        clear hbel
        by_cases hlt : k < n
        · obtain ⟨ad, x, rfl, hlo, hb, hx, x1, x2⟩ := rd2 (HR.out.below HB.out) (i := k) (by rw [HN.out]; exact hlt)
          have hbl := best_lt l (k := k) (by rw [HN.out]; exact hlt)
          obtain ⟨ad', y, hae, hlo', hb', hy, y1, y2⟩ := rd2 (HR.out.below HB.out) (i := bestI l k) hbl
          obtain rfl := Option.some.inj hae
          have HST := Lib.hid (best_step hx hy)
          have RX := Lib.hid (all_mem HA.out (List.mem_of_getElem? hx))
          have RY := Lib.hid (all_mem HA.out (List.mem_of_getElem? hy))
          rw [HN.out] at hbl
          obtain ⟨j, hj⟩ : ∃ j, bestI l k = j := ⟨_, rfl⟩
          rw [hj] at hbl y1 y2 HST ⊢
          have HJ := Lib.hid hj
          clear hx hy hj hae
          have hjI : (j : Int) < (n : Int) := by omega
          have hkI : (k : Int) < (n : Int) := by omega
          by_cases hlt2 : 0 < oddV x.1 x.2 y.1 y.2
          · have HS2 := Lib.hid (HST.out.trans (if_pos hlt2))
            go_wp2_with fail
            go_still_tail 8, (by kernel_rfl)
            go_wp2_with fail
            refine (Odder_any x.1 x.2 y.1 y.2 _ RX.out RY.out).mono ?_
            rintro e w4 ⟨rfl, hb4⟩
            have HB4 := Lib.hid (bt hb4 (HB.out.drew))
            clear hb4
            go_wp2_with fail
            exact ⟨⟨k + 1, by rw [HN.out]; omega, by go_num, by rw [HS2.out], HB4.out⟩, by simp [intOf]; omega⟩
          · have HS2 := Lib.hid (HST.out.trans (if_neg hlt2))
            go_wp2_with fail
            go_still_tail 8, (by kernel_rfl)
            go_wp2_with fail
            refine (Odder_any x.1 x.2 y.1 y.2 _ RX.out RY.out).mono ?_
            rintro e w4 ⟨rfl, hb4⟩
            have HB4 := Lib.hid (bt hb4 (HB.out.drew))
            clear hb4
            go_wp2_with fail
            exact ⟨⟨k + 1, by rw [HN.out]; omega, by go_num, by rw [HS2.out], HB4.out⟩, by simp [intOf]; omega⟩
        · have hkn : k = n := by omega
          have HK := Lib.hid hkn
          clear hkn
          go_wp2_with fail
          go_ret2
          exact ⟨ret_int2 (by rw [F.out.1, HK.out]) F.out.2.symm, HB.out⟩
end Go.Proofs.YtdpmijmofeechaaDoor.OddW
