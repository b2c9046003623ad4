/- The walks of num.size, num.Gcd, and of package ratio: Is, both, Of, Add. -/
import Derived.Test.YtdpmijmofeechaaDoorGcdW
import Derived.Test.YtdpmijmofeechaaDoorRatM
namespace Go.Proofs.YtdpmijmofeechaaDoor.RatW
set_option linter.unusedVariables false
open Go.RowKit Base BigM BigW BigZ GcdM RatM

theorem size_any (a : Int) (w : World) (a0 : -9223372036854775808 ≤ a) (a1 : a ≤ 9223372036854775807) :
    Calls Tryd.prog 92 #[.int .i64 a] w fun e w' => e = .returned (.int .u64 (a.natAbs : Int)) ∧ w = w' := by
  by_cases h : a < 0
  · go_enter Tryd.func92, Tryd.ntmps92
    go_wp2
    go_ret
    exact ⟨ret_int (by first | omega | (simp [IntKind.wrap]; omega) | (unfold IntKind.wrap; simp [IntKind.bits, IntKind.signed]; omega)), rfl⟩
  · go_enter Tryd.func92, Tryd.ntmps92
    go_wp2
    go_ret
    exact ⟨ret_int (by omega), rfl⟩

def UGcdRel (a b : Int) (x y : Value) : Prop := ∃ p q : Int, x = .int .u64 p ∧ y = .int .u64 q ∧ g p q = g a b ∧ (0 ≤ p ∧ p ≤ 9223372036854775808) ∧ (0 ≤ q ∧ q ≤ 9223372036854775808)
theorem ugcd_step {a b p q : Int} (h : g p q = g a b) (hp : 0 ≤ p) (hq : 0 < q) : g q (p % q) = g a b := by
  rw [← h, g_step p q, Int.tmod_eq_emod_of_nonneg hp]
set_option maxHeartbeats 1000000 in
theorem Gcd_any (a b : Int) (w : World) (a0 : -9223372036854775808 ≤ a) (a1 : a ≤ 9223372036854775807) (b0 : -9223372036854775808 ≤ b) (b1 : b ≤ 9223372036854775807) :
    Calls Tryd.prog 57 #[.int .i64 a, .int .i64 b] w fun e w' => e = .returned (.tuple #[.int .i64 (gcdV a b), .int .i64 (gcdE a b)]) ∧ ∃ q, w' = w.drewN q := by
  have H0 := Lib.hid (show UGcdRel a b (.int .u64 (a.natAbs : Int)) (.int .u64 (b.natAbs : Int)) from ⟨_, _, rfl, rfl, g_natAbs a b, by omega, by omega⟩)
  have hbd := g_bd a b ⟨a0, a1⟩ ⟨b0, b1⟩
  have HBD := Lib.hid hbd
  clear hbd
  go_enter Tryd.func57, Tryd.ntmps57
  go_wp2_with fail
  refine (size_any a _ a0 a1).mono ?_
  rintro e w1 ⟨rfl, rfl⟩
  go_wp2_with fail
  refine (size_any b _ b0 b1).mono ?_
  rintro e w1 ⟨rfl, rfl⟩
  go_wp2_with fail
  go_loopw [6, 7] (fun x y wr => UGcdRel a b x y ∧ ∃ q, wr = w.drewN q) (fun _ y _ => (intOf y).toNat)
  case atStart => exact ⟨H0.out, 0, rfl⟩
  case round =>
    obtain ⟨⟨p, q, rfl, rfl, hg, hp, hq⟩, k, rfl⟩ := hrel
    have HG := Lib.hid hg
    clear hg
    by_cases hz : 0 < q
    · have hm : 0 ≤ p % q ∧ p % q < q := ⟨Int.emod_nonneg _ (by omega), Int.emod_lt_of_pos _ hz⟩
      go_wp2
      go_quiet (fail)
      go_wp2
      exact ⟨⟨⟨q, _, rfl, rfl, ugcd_step HG.out hp.1 hz, hq, by omega⟩, by simp only [World.drewN_drewN]; exact ⟨_, rfl⟩⟩, by simp only [intOf]; omega⟩
    · obtain rfl : q = 0 := by omega
      have hgp := HG.out
      rw [g_zero] at hgp
      have HGP := Lib.hid (show p = g a b by omega)
      clear hgp
      by_cases hbig : 9223372036854775807 < p
      · have HE := Lib.hid (show gcdV a b = 0 ∧ gcdE a b = 10 from fits_out (by rw [← HGP.out]; omega))
        go_wp2
        go_ret2
        exact ⟨ret_int2 HE.out.1.symm HE.out.2.symm, _, rfl⟩
      · have HE := Lib.hid (gcd_in (a := a) (b := b) (by rw [← HGP.out]; omega))
        go_wp2
        go_ret2
        exact ⟨ret_int2 (by rw [HE.out.1, ← HGP.out]) HE.out.2.symm, _, rfl⟩

set_option maxHeartbeats 1000000 in
theorem Is_any (p q : Int) (w : World) (p0 : -9223372036854775808 ≤ p) (p1 : p ≤ 9223372036854775807) (q0 : -9223372036854775808 ≤ q) (q1 : q ≤ 9223372036854775807) :
    Calls Tryd.prog 17 #[.agg #[.int .i64 p, .int .i64 q]] w fun e w' => e = .returned (.bool (isR p q)) ∧ Below w.heap.size w w' := by
  by_cases hok : 1 ≤ q ∧ q ≤ 1073741824 ∧ -1073741824 ≤ p ∧ p ≤ 1073741824
  · obtain ⟨h1, h2, h3, h4⟩ := hok
    have HG := Lib.hid (isR_g h1 h2 h3 h4)
    go_enter Tryd.func17, Tryd.ntmps17
    go_wp2_with fail
    refine (Gcd_any p q _ p0 p1 q0 q1).mono ?_
    rintro e w1 ⟨rfl, k, rfl⟩
    go_wp2
    go_ret
    exact ⟨ret_bool HG.out, below_drewN (below_alloc1 _ _) _⟩
  · have HN := Lib.hid (isR_no hok)
    by_cases h1 : q < 1
    · go_enter Tryd.func17, Tryd.ntmps17
      go_wp2
      go_ret
      exact ⟨ret_bool HN.out.symm, below_alloc1 _ _⟩
    · by_cases h2 : 1073741824 < q
      · go_enter Tryd.func17, Tryd.ntmps17
        go_wp2
        go_ret
        exact ⟨ret_bool HN.out.symm, below_alloc1 _ _⟩
      · by_cases h3 : p < -1073741824
        · go_enter Tryd.func17, Tryd.ntmps17
          go_wp2
          go_ret
          exact ⟨ret_bool HN.out.symm, below_alloc1 _ _⟩
        · have h4 : 1073741824 < p := by omega
          clear hok
          go_enter Tryd.func17, Tryd.ntmps17
          go_wp2
          go_ret
          exact ⟨ret_bool HN.out.symm, below_alloc1 _ _⟩
end Go.Proofs.YtdpmijmofeechaaDoor.RatW
