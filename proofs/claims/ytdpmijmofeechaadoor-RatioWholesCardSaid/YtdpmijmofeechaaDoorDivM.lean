/- Plain laws of bits.Div64's long division by two digits of 32 bits, where the divisor's lower digit is 0. No program is in sight. -/
import Derived.Laws.Entries
import Derived.Laws.Bits64
namespace Go.Proofs.YtdpmijmofeechaaDoor.DivM
open Go

theorem ofInt_nat (a : Nat) (ha : a < 18446744073709551616) : (BitVec.ofInt 64 (a : Int)).toNat = a := by
  rw [BitVec.ofInt_natCast, BitVec.toNat_ofNat]; exact Nat.mod_eq_of_lt (by omega)
theorem or_u64 (a b : Nat) (ha : a < 18446744073709551616) (hb : b < 18446744073709551616) : bits .or .u64 (a : Int) (b : Int) = ((a ||| b : Nat) : Int) := by
  have hx : a ||| b < 2 ^ 64 := Nat.or_lt_two_pow (by omega) (by omega)
  show IntKind.u64.wrap ((BitVec.ofInt 64 (a : Int) ||| BitVec.ofInt 64 (b : Int)).toNat : Int) = _
  rw [BitVec.toNat_or, ofInt_nat a ha, ofInt_nat b hb, IntKind.wrap_u64]
  omega
theorem and_u64 (a b : Nat) (ha : a < 18446744073709551616) (hb : b < 18446744073709551616) : bits .and .u64 (a : Int) (b : Int) = ((a &&& b : Nat) : Int) := by
  have hx : a &&& b < 2 ^ 64 := Nat.and_lt_two_pow a (by omega)
  show IntKind.u64.wrap ((BitVec.ofInt 64 (a : Int) &&& BitVec.ofInt 64 (b : Int)).toNat : Int) = _
  rw [BitVec.toNat_and, ofInt_nat a ha, ofInt_nat b hb, IntKind.wrap_u64]
  omega
/-- a mask of 32 bits -/
theorem mask_u64 (x : Int) (h0 : 0 ≤ x) (h1 : x < 18446744073709551616) : bits .and .u64 x 4294967295 = x % 4294967296 := by
  obtain ⟨a, rfl⟩ := Int.eq_ofNat_of_zero_le h0
  rw [show (4294967295 : Int) = ((4294967295 : Nat) : Int) by rfl, and_u64 a _ (by omega) (by omega), show (4294967295 : Nat) = 2 ^ 32 - 1 by decide, Nat.and_two_pow_sub_one_eq_mod]
  rfl
/-- two numbers that share no bit -/
theorem or_sum (a b : Int) (n : Nat) (c : Int) (hc : a = c * 2 ^ n) (h0 : 0 ≤ c) (h1 : a < 18446744073709551616) (b0 : 0 ≤ b) (b1 : b < 2 ^ n) (b2 : b < 18446744073709551616) : bits .or .u64 a b = a + b := by
  obtain ⟨C, rfl⟩ := Int.eq_ofNat_of_zero_le h0
  obtain ⟨B, rfl⟩ := Int.eq_ofNat_of_zero_le b0
  have ha : a = ((2 ^ n * C : Nat) : Int) := by rw [hc, Int.mul_comm]; simp
  subst ha
  have hB : B < 2 ^ n := by exact_mod_cast b1
  rw [or_u64 _ _ (Int.ofNat_lt.1 (show ((2 ^ n * C : Nat) : Int) < ((18446744073709551616 : Nat) : Int) from h1)) (Int.ofNat_lt.1 (show (B : Int) < ((18446744073709551616 : Nat) : Int) from b2)), ← Nat.two_pow_add_eq_or_of_lt hB]
  simp
theorem wr (x : Int) (h0 : 0 ≤ x) (h1 : x < 18446744073709551616) : IntKind.u64.wrap x = x := by rw [IntKind.wrap_u64]; omega

/-- a step: a number below D * 2^32 leaves a digit and a rest -/
theorem digit (U D : Int) (h0 : 0 ≤ U) (hD : 1 ≤ D) (hU : U < D * 4294967296) : 0 ≤ U / D ∧ U / D < 4294967296 ∧ 0 ≤ U % D ∧ U % D < D ∧ U = U / D * D + U % D ∧ U / D * D ≤ U := by
  have a := Int.mul_ediv_add_emod U D
  rw [Int.mul_comm] at a
  have b := Int.emod_nonneg U (show D ≠ 0 by omega)
  have c := Int.emod_lt_of_pos U (show 0 < D by omega)
  have d := Int.ediv_nonneg h0 (show 0 ≤ D by omega)
  have e : U / D < 4294967296 := Int.ediv_lt_of_lt_mul (by omega) (by rw [Int.mul_comm]; exact hU)
  exact ⟨d, e, b, c, a.symm, by omega⟩

/-- all that the walk of bits.Div64 wants -/
theorem div_facts (hi lo y : Int) (k : Nat) (a0 : 1 ≤ hi) (a1 : hi < y) (l0 : 0 ≤ lo) (l1 : lo ≤ 18446744073709551615) (y1 : y < 2147483648) (k1 : 1 ≤ k) (b1 : (2 : Int) ^ (k - 1) ≤ y) (b2 : y < (2 : Int) ^ k) :
    k ≤ 31 ∧ ∃ Y Y1 H L U V V1 Q1 R1 U2 Q0 R0 : Int,
      IntKind.u64.wrap (y * 2 ^ (64 - k)) = Y ∧ Y / 4294967296 = Y1 ∧ Y = Y1 * 4294967296 ∧ bits .and .u64 Y 4294967295 = 0 ∧ IntKind.u64.wrap (hi * 2 ^ (64 - k)) = H ∧ lo / 2 ^ k = L ∧ bits .or .u64 H L = U ∧
      IntKind.u64.wrap (lo * 2 ^ (64 - k)) = V ∧ V / 4294967296 = V1 ∧ bits .and .u64 V 4294967295 = 0 ∧ U.tdiv Y1 = Q1 ∧ U - Q1 * Y1 = R1 ∧ R1 * 4294967296 + V1 = U2 ∧ U2.tdiv Y1 = Q0 ∧ U2 - Q0 * Y1 = R0 ∧
      2147483648 ≤ Y1 ∧ Y1 < 4294967296 ∧ 0 ≤ U ∧ U < 18446744073709551616 ∧ 0 ≤ V1 ∧ V1 < 4294967296 ∧ 0 ≤ Q1 ∧ Q1 < 4294967296 ∧ 0 ≤ R1 ∧ R1 < Y1 ∧ 0 ≤ U2 ∧ U2 < 18446744073709551616 ∧ 0 ≤ Q0 ∧ Q0 < 4294967296 ∧ 0 ≤ R0 ∧ R0 < Y1 ∧
      0 ≤ Q1 * Y1 ∧ Q1 * Y1 ≤ U ∧ 0 ≤ Q0 * Y1 ∧ Q0 * Y1 ≤ U2 ∧
      Q1 * 4294967296 + Q0 = (hi * 18446744073709551616 + lo) / y ∧ R0 * 4294967296 / 2 ^ (64 - k) = (hi * 18446744073709551616 + lo) % y := by
  have hk : k ≤ 31 := by
    rcases Nat.lt_or_ge k 32 with h | h
    · omega
    · exfalso
      have : (2 : Int) ^ 31 ≤ 2 ^ (k - 1) := by exact_mod_cast Nat.pow_le_pow_right (by decide) (show 31 ≤ k - 1 by omega)
      rw [show (2 : Int) ^ 31 = 2147483648 by decide] at this
      omega
  refine ⟨hk, ?_⟩
  obtain ⟨S, hS⟩ : ∃ S : Int, (2 : Int) ^ k = S := ⟨_, rfl⟩
  obtain ⟨D, hD⟩ : ∃ D : Int, (2 : Int) ^ (32 - k) = D := ⟨_, rfl⟩
  have hT : (2 : Int) ^ (64 - k) = D * 4294967296 := by
    rw [show 64 - k = (32 - k) + 32 by omega, Int.pow_add, hD]; rfl
  have hDS : D * S = 4294967296 := by
    rw [← hD, ← hS, ← Int.pow_add, show 32 - k + k = 32 by omega]; rfl
  have hDp : 1 ≤ D := by
    rw [← hD]; exact Int.pow_pos (by decide)
  have hSp : 1 ≤ S := by
    rw [← hS]; exact Int.pow_pos (by decide)
  have hS2 : S = 2 * 2 ^ (k - 1) := by
    rw [← hS]; conv => lhs; rw [show k = (k - 1) + 1 by omega, Int.pow_add]
    rw [Int.mul_comm]; rfl
  have hy2 : S ≤ 2 * y := by omega
  have hyS : y < S := by rw [← hS]; exact b2
  -- the divisor, shifted
  have f1 : D * S ≤ D * (2 * y) := Int.mul_le_mul_of_nonneg_left hy2 (by omega)
  have f2 : D * y < D * S := Int.mul_lt_mul_of_pos_left hyS (by omega)
  have f3 : D * (2 * y) = 2 * (y * D) := by rw [Int.mul_comm y D, Int.mul_left_comm]
  have f4 : D * y = y * D := Int.mul_comm ..
  have g1 : 2147483648 ≤ y * D := by omega
  have g2 : y * D < 4294967296 := by omega
  have eY : IntKind.u64.wrap (y * 2 ^ (64 - k)) = y * D * 4294967296 := by
    rw [hT, ← Int.mul_assoc]; exact wr _ (by omega) (by omega)
  -- the upper word
  have h1 : hi * D ≤ y * D - D := by
    have : hi * D ≤ (y - 1) * D := Int.mul_le_mul_of_nonneg_right (by omega) (by omega)
    rw [Int.sub_mul, Int.one_mul] at this
    omega
  have h0 : 0 ≤ hi * D := Int.mul_nonneg (by omega) (by omega)
  have eH : IntKind.u64.wrap (hi * 2 ^ (64 - k)) = hi * D * 4294967296 := by
    rw [hT, ← Int.mul_assoc]; exact wr _ (by omega) (by omega)
  have hDS2 : S * (D * 4294967296) = 18446744073709551616 := by
    rw [← Int.mul_assoc, Int.mul_comm S D, hDS]; rfl
  have d1 := Int.mul_ediv_add_emod lo S
  have d2 := Int.emod_nonneg lo (show S ≠ 0 by omega)
  have d3 := Int.emod_lt_of_pos lo (show 0 < S by omega)
  have d4 := Int.ediv_nonneg l0 (show 0 ≤ S by omega)
  have d5 : lo / S < D * 4294967296 := Int.ediv_lt_of_lt_mul (by omega) (by rw [Int.mul_comm, hDS2]; omega)
  have d6 : D ≤ 4294967296 := by
    have : D * 1 ≤ D * S := Int.mul_le_mul_of_nonneg_left hSp (by omega)
    omega
  have eU : bits .or .u64 (hi * D * 4294967296) (lo / S) = hi * D * 4294967296 + lo / S :=
    or_sum _ _ (64 - k) hi (by rw [hT, Int.mul_assoc]) (by omega) (by omega) d4 (by rw [hT]; exact d5) (by omega)
  -- the lower word
  have m1 : 0 ≤ lo % S * D := Int.mul_nonneg d2 (by omega)
  have m2 : lo % S * D ≤ D * S - D := by
    have : lo % S * D ≤ (S - 1) * D := Int.mul_le_mul_of_nonneg_right (by omega) (by omega)
    rw [Int.sub_mul, Int.one_mul, Int.mul_comm S D] at this
    exact this
  have eV : IntKind.u64.wrap (lo * 2 ^ (64 - k)) = lo % S * D * 4294967296 := by
    rw [hT, IntKind.wrap_u64]
    have e : lo * (D * 4294967296) = lo % S * D * 4294967296 + 18446744073709551616 * (lo / S) := by
      conv => lhs; rw [← d1]
      rw [Int.add_mul, Int.mul_comm S (lo / S), Int.mul_assoc (lo / S), hDS2, Int.mul_comm (lo / S), Int.mul_assoc (lo % S)]
      omega
    rw [e, Int.add_mul_emod_self_left]
    exact Int.emod_eq_of_lt (by omega) (by omega)
  obtain ⟨Y1, eY1⟩ : ∃ Y1, y * D = Y1 := ⟨_, rfl⟩
  obtain ⟨V1, eV1⟩ : ∃ V1, lo % S * D = V1 := ⟨_, rfl⟩
  obtain ⟨U, eU1⟩ : ∃ U, hi * D * 4294967296 + lo / S = U := ⟨_, rfl⟩
  rw [eY1] at g1 g2 h1 eY
  rw [eV1] at m1 m2 eV
  have u0 : 0 ≤ U := by omega
  have u1 : U < Y1 * 4294967296 := by omega
  obtain ⟨q0, q1, r0, r1, q2, q3⟩ := digit U Y1 u0 (by omega) u1
  have e1 : U.tdiv Y1 = U / Y1 := Int.tdiv_eq_ediv_of_nonneg u0
  have w0 : 0 ≤ U % Y1 * 4294967296 + V1 := by omega
  have w1 : U % Y1 * 4294967296 + V1 < Y1 * 4294967296 := by omega
  obtain ⟨p0, p1, s0, s1, p2, p3⟩ := digit (U % Y1 * 4294967296 + V1) Y1 w0 (by omega) w1
  have e2 : (U % Y1 * 4294967296 + V1).tdiv Y1 = (U % Y1 * 4294967296 + V1) / Y1 := Int.tdiv_eq_ediv_of_nonneg w0
  obtain ⟨R1, eR1⟩ : ∃ R, U % Y1 = R := ⟨_, rfl⟩
  rw [eR1] at r0 r1 q2 w0 w1 p0 p1 s0 s1 p2 p3 e2
  obtain ⟨Q1, eQ1⟩ : ∃ Q, U / Y1 = Q := ⟨_, rfl⟩
  rw [eQ1] at q0 q1 q2 q3 e1
  obtain ⟨U2, eU2⟩ : ∃ Q, R1 * 4294967296 + V1 = Q := ⟨_, rfl⟩
  rw [eU2] at w0 w1 p0 p1 s0 s1 p2 p3 e2
  obtain ⟨R0, eR0⟩ : ∃ R, U2 % Y1 = R := ⟨_, rfl⟩
  rw [eR0] at s0 s1 p2
  obtain ⟨Q0, eQ0⟩ : ∃ Q, U2 / Y1 = Q := ⟨_, rfl⟩
  rw [eQ0] at p0 p1 p2 p3 e2
  have z1 : 0 ≤ Q1 * Y1 := Int.mul_nonneg q0 (by omega)
  have z2 : 0 ≤ Q0 * Y1 := Int.mul_nonneg p0 (by omega)
  -- the whole
  have hN : (hi * 18446744073709551616 + lo) * (D * 4294967296) = U * 18446744073709551616 + V1 * 4294967296 := by
    rw [← eU1, ← eV1]
    have e : lo * (D * 4294967296) = lo % S * D * 4294967296 + 18446744073709551616 * (lo / S) := by
      conv => lhs; rw [← d1]
      rw [Int.add_mul, Int.mul_comm S (lo / S), Int.mul_assoc (lo / S), hDS2, Int.mul_comm (lo / S), Int.mul_assoc (lo % S)]
      omega
    rw [Int.add_mul, e, show hi * 18446744073709551616 * (D * 4294967296) = hi * D * 79228162514264337593543950336 by
      rw [Int.mul_assoc, Int.mul_assoc, Int.mul_left_comm (18446744073709551616 : Int)]
      rw [show (18446744073709551616 * 4294967296 : Int) = 79228162514264337593543950336 by decide]]
    omega
  have hW : U * 18446744073709551616 + V1 * 4294967296 = (Q1 * 4294967296 + Q0) * Y1 * 4294967296 + R0 * 4294967296 := by
    rw [Int.add_mul, show Q1 * 4294967296 * Y1 = Q1 * Y1 * 4294967296 by rw [Int.mul_assoc, Int.mul_comm 4294967296 Y1, Int.mul_assoc]]
    omega
  obtain ⟨N, eN⟩ : ∃ N, hi * 18446744073709551616 + lo = N := ⟨_, rfl⟩
  obtain ⟨q, eq⟩ : ∃ q, Q1 * 4294967296 + Q0 = q := ⟨_, rfl⟩
  have hfin : (N - q * y) * (D * 4294967296) = R0 * 4294967296 := by
    rw [Int.sub_mul, ← eN, hN, hW, eq, ← eY1]
    rw [show q * y * (D * 4294967296) = q * (y * D) * 4294967296 by simp only [Int.mul_assoc]]
    omega
  have hT0 : 0 < D * 4294967296 := by omega
  have t0 : 0 ≤ N - q * y := by
    rcases Int.lt_or_le (N - q * y) 0 with h | h
    · have : (N - q * y) * (D * 4294967296) < 0 := Int.mul_neg_of_neg_of_pos h hT0
      omega
    · exact h
  have t1 : N - q * y < y := by
    rcases Int.lt_or_le (N - q * y) y with h | h
    · exact h
    · have : y * (D * 4294967296) ≤ (N - q * y) * (D * 4294967296) := Int.mul_le_mul_of_nonneg_right h (by omega)
      rw [← Int.mul_assoc, eY1] at this
      omega
  have hq : q = N / y := by
    have : N = (N - q * y) + y * q := by rw [Int.mul_comm y q]; omega
    rw [this, Int.add_mul_ediv_left _ _ (by omega), Int.ediv_eq_zero_of_lt t0 t1, Int.zero_add]
  have hr : N - q * y = N % y := by
    have := Int.mul_ediv_add_emod N y
    rw [← hq, Int.mul_comm] at this
    omega
  refine ⟨Y1 * 4294967296, Y1, hi * D * 4294967296, lo / S, U, V1 * 4294967296, V1, Q1, R1, U2, Q0, R0, eY, by omega, rfl, ?_, eH, by rw [hS], by rw [eU, eU1], eV, by omega, ?_, e1, by omega, eU2, e2, by omega,
    g1, g2, u0, by omega, m1, by omega, q0, q1, r0, r1, w0, by omega, p0, p1, s0, s1, z1, q3, z2, p3, ?_, ?_⟩
  · rw [mask_u64 _ (by omega) (by omega)]; omega
  · rw [mask_u64 _ (by omega) (by omega)]; omega
  · rw [eN, eq]; exact hq
  · rw [hT, eN, ← hfin, Int.mul_ediv_cancel _ (by omega)]; exact hr
end Go.Proofs.YtdpmijmofeechaaDoor.DivM
