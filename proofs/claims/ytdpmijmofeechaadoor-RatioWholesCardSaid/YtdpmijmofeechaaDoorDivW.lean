/- The walk of bits.Div64 where the high word is not 0 and the divisor is below 2^31. -/
import Derived.Test.YtdpmijmofeechaaDoorLenW
import Derived.Test.YtdpmijmofeechaaDoorDivM
namespace Go.Proofs.YtdpmijmofeechaaDoor.DivW
set_option linter.unusedVariables false
open Go.RowKit Base LenW DivM
set_option maxHeartbeats 2000000 in
set_option maxRecDepth 100000 in
theorem Div64_hi (hi lo y : Int) (w : World) (a0 : 1 ≤ hi) (a1 : hi < y) (l0 : 0 ≤ lo) (l1 : lo ≤ 18446744073709551615) (y1 : y < 2147483648) :
    Calls Tryd.prog 106 #[.int .u64 hi, .int .u64 lo, .int .u64 y] w fun e w' => e = .returned (.tuple #[.int .u64 ((hi * 18446744073709551616 + lo) / y), .int .u64 ((hi * 18446744073709551616 + lo) % y)]) ∧ w = w' := by
  obtain ⟨k, k1, k2, b1, b2, HL⟩ := Lead_any y (by omega) (by omega)
  obtain ⟨hk, Y, Y1, H, L, U, V, V1, Q1, R1, U2, Q0, R0, e1, e2, eY, e3, e4, e5, e6, e7, e8, e9, e10, e11, e12, e13, e14, g1, g2, u0, u1, v0, v1, q0, q1, r0, r1, x0, x1, p0, p1, s0, s1, z1, z2, z3, z4, F1, F2⟩ :=
    div_facts hi lo y k a0 a1 l0 l1 y1 k1 b1 b2
  have hy : (y == 0) = false := by simpa using (by omega : y ≠ 0)
  have hhi : (hi == 0) = false := by simpa using (by omega : hi ≠ 0)
  have hY1 : (Y1 == 0) = false := by simpa using (by omega : Y1 ≠ 0)
  have e5' : lo / 2 ^ (64 - (64 - k)) = L := by rw [show 64 - (64 - k) = k by omega]; exact e5
  have w1 : IntKind.u64.wrap (Q1 * Y1) = Q1 * Y1 := wr _ z1 (by omega)
  have w2 : IntKind.u64.wrap (Q0 * Y1) = Q0 * Y1 := wr _ z3 (by omega)
  have n1 : IntKind.u64.wrap (IntKind.u64.wrap (IntKind.u64.wrap (U * 4294967296) + V1) - IntKind.u64.wrap (Q1 * Y)) = U2 := by
    rw [eY, ← Int.mul_assoc, IntKind.wrap_u64, IntKind.wrap_u64, IntKind.wrap_u64, IntKind.wrap_u64]; omega
  have n2 : IntKind.u64.wrap (IntKind.u64.wrap (IntKind.u64.wrap (U2 * 4294967296)) - IntKind.u64.wrap (Q0 * Y)) = R0 * 4294967296 := by
    rw [eY, ← Int.mul_assoc, IntKind.wrap_u64, IntKind.wrap_u64, IntKind.wrap_u64, IntKind.wrap_u64]; omega
  have HLL := Lib.hid HL
  have EY := Lib.hid eY
  have FF := Lib.hid (And.intro F1 F2)
  clear HL e5 b1 b2 eY F1 F2
  rw [← FF.out.1, ← FF.out.2]
  go_enter Tryd.func106, Tryd.ntmps106
  go_wp2_with fail
  refine (HLL.out _).mono ?_
  rintro e w1 ⟨rfl, rfl⟩
  go_wp2
  go_loop [15, 16] (fun a b => a = .int .u64 Q1 ∧ b = .int .u64 R1) (fun _ _ => 0)
  case atStart => exact ⟨rfl, rfl⟩
  case round =>
    obtain ⟨rfl, rfl⟩ := hrel
    go_wp2
    go_loop [18, 16] (fun a b => a = .int .u64 Q0 ∧ b = .int .u64 R0) (fun _ _ => 0)
    case atStart => exact ⟨rfl, rfl⟩
    case round =>
      obtain ⟨rfl, rfl⟩ := hrel
      go_wp2
      refine bodyPost_ret (v := .tuple #[.int .u64 (Q1 * 4294967296 + Q0), .int .u64 (R0 * 4294967296 / 2 ^ (64 - k))]) (by simp [results, Tryd.results106, go_sem]) rfl ?_
      exact ⟨rfl, rfl⟩
end Go.Proofs.YtdpmijmofeechaaDoor.DivW
