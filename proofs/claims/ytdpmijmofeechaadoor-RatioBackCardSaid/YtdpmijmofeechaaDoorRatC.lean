/- Plain law for RatioBack: of two the greater one stays so, with as much more. -/
import Derived.Test.YtdpmijmofeechaaDoorRatB
import Derived.Test.YtdpmijmofeechaaDoorRefCmp
namespace Go.Proofs.YtdpmijmofeechaaDoor.RatC
open BigM GcdM RatM RatW Rat2 RefCmp

theorem cmp_add {p q r s u v x y m n : Int} (e1 : addR p q r s = (x, y, 0)) (e2 : addR u v r s = (m, n, 0)) :
    cmpV x y m n = cmpV p q u v ∧ bothE p q u v = 0 ∧ bothE x y m n = 0 := by
  obtain ⟨a1, b1, s1, i1⟩ := add_is e1
  obtain ⟨a2, _, s2, i2⟩ := add_is e2
  obtain ⟨c1, c2⟩ := cmp_yes (show (isR p q && isR u v) = true by rw [a1, a2]; rfl)
  obtain ⟨d1, d2⟩ := cmp_yes (show (isR x y && isR m n) = true by rw [s1, s2]; rfl)
  have q1 := (isR_true a1).1
  have sq := (isR_true b1).1
  have v1 := (isR_true a2).1
  have y1 := (isR_true s1).1
  have n1 := (isR_true s2).1
  have k1 : 0 < (y * n) * (s * s) := Int.mul_pos (Int.mul_pos (by omega) (by omega)) (Int.mul_pos (by omega) (by omega))
  have k2 : 0 < (q * s) * (v * s) := Int.mul_pos (Int.mul_pos (by omega) (by omega)) (Int.mul_pos (by omega) (by omega))
  rw [c1, d1]
  exact ⟨(ord_diff k1 k2 (cross_id i1 i2)).symm, c2, d2⟩
end Go.Proofs.YtdpmijmofeechaaDoor.RatC
