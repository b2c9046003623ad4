/- Plain mathematics: what is told of harmonic numbers holds. No program is in sight. -/
import Derived.Test.YtkbojgjhhdbjgaaHarmM
namespace Go.Proofs.Ytkbojgjhhdbjgaa.HarmM
open BigM GcdM RatM
def encB (k : Nat) : Bool := decide (lowN k * botN k ≤ topN k * 1073741824) && decide (topN k * 1073741824 ≤ (lowN k + brokenN k) * botN k)
theorem enc_all : ∀ k, k < 257 → encB k = true := by decide +kernel
theorem enc_of (k : Nat) (hk : k ≤ 256) : lowN k * botN k ≤ topN k * 1073741824 ∧ topN k * 1073741824 ≤ (lowN k + brokenN k) * botN k := by
  have := enc_all k (by omega)
  unfold encB at this
  rw [Bool.and_eq_true] at this
  exact ⟨of_decide_eq_true this.1, of_decide_eq_true this.2⟩
theorem botN_pos (k : Nat) : 0 < botN k := by
  induction k with
  | zero => decide
  | succ k ih => exact Int.mul_pos ih (by omega)
theorem topN_nonneg (k : Nat) : 0 ≤ topN k := by
  induction k with
  | zero => decide
  | succ k ih => have := botN_pos k; have := Int.mul_nonneg ih (show (0 : Int) ≤ (k : Int) + 1 by omega); simp only [topN]; omega
/-- the mean's parts -/
def mlo (k : Nat) : Int := endsLo k (lowN (k - 1))
def mhi (k : Nat) : Int := endsHi k (lowN (k - 1)) (brokenN (k - 1))
def mmid (k : Nat) : Int := (topN (k - 1) * k - botN (k - 1) * ((k : Int) - 1)) * 2 * 1073741824
def meanB (k : Nat) : Bool := decide (k < 2) || (decide (botN (k - 1) * ((k : Int) - 1) ≤ topN (k - 1) * k) && decide (mlo k * (botN (k - 1) * k) ≤ mmid k) && decide (mmid k ≤ mhi k * (botN (k - 1) * k)))
theorem mean_all : ∀ k, k < 257 → meanB k = true := by decide +kernel
theorem mean_of (k : Nat) (h2 : 2 ≤ k) (hk : k ≤ 256) : botN (k - 1) * ((k : Int) - 1) ≤ topN (k - 1) * k ∧ mlo k * (botN (k - 1) * k) ≤ mmid k ∧ mmid k ≤ mhi k * (botN (k - 1) * k) := by
  have := mean_all k (by omega)
  unfold meanB at this
  rw [Bool.or_eq_true] at this
  rcases this with h | h
  · have := of_decide_eq_true h; omega
  · rw [Bool.and_eq_true, Bool.and_eq_true] at h
    exact ⟨of_decide_eq_true h.1.1, of_decide_eq_true h.1.2, of_decide_eq_true h.2⟩
def normK (k : Nat) : Int := (mlo k + mhi k) / 2
def growB (k : Nat) : Bool := decide (k < 1) || decide (normK k < normK (k + 1))
theorem grow_all : ∀ k, k < 256 → growB k = true := by decide +kernel
theorem norm_of (n : Int) (k : Nat) (h : held n = k) : eLo n = mlo k ∧ eHi n = mhi k ∧ norm n = normK k := by
  have hk := held_bd n
  have h1 : k = 0 ∨ held ((k : Int) - 1) = ((k - 1 : Nat) : Int) := by
    rcases Nat.eq_zero_or_pos k with h0 | h0
    · exact .inl h0
    · right; rw [held_held _ (by omega) (by omega)]; omega
  have e : eLo n = mlo k ∧ eHi n = mhi k := by
    unfold eLo eHi mlo mhi
    rw [h]
    rcases h1 with rfl | h1
    · exact ⟨rfl, rfl⟩
    · unfold low brok; rw [h1]; exact ⟨rfl, rfl⟩
  refine ⟨e.1, e.2, ?_⟩
  unfold norm normK
  rw [e.1, e.2]
theorem norm_grows (n : Int) (h1 : 1 ≤ held n) (h2 : held n < 256) : norm n < norm (held n + 1) := by
  obtain ⟨k, hk⟩ : ∃ k : Nat, held n = k := ⟨(held n).toNat, by omega⟩
  have hk2 : held (held n + 1) = ((k + 1 : Nat) : Int) := by rw [held_held _ (by omega) (by omega)]; omega
  rw [(norm_of n k hk).2.2, (norm_of (held n + 1) (k + 1) hk2).2.2]
  have := grow_all k (by omega)
  unfold growB at this
  rw [Bool.or_eq_true] at this
  rcases this with h | h
  · have := of_decide_eq_true h; omega
  · exact of_decide_eq_true h
theorem lo_le_hi (n : Int) : eLo n ≤ eHi n := by
  have h := brok_bd (held n - 1)
  unfold eLo eHi endsLo endsHi
  split
  · omega
  · split <;> omega
theorem norm_between (n : Int) : eLo n ≤ norm n ∧ norm n ≤ eHi n := by
  have := lo_le_hi n
  unfold norm
  omega
theorem norm_small0 (n : Int) (h : held n < 2) : norm n = 0 := by
  unfold norm eLo eHi endsLo endsHi; rw [if_pos h, if_pos h]; rfl

/-- what is told of two numbers is their ratio, exactly -/
theorem ofR_exact {p q x y : Int} (h : ofR p q = (x, y, 0)) : q ≠ 0 ∧ x * q = p * y ∧ 0 < y := by
  by_cases hz : q = 0
  · subst hz; rw [ofR_zero] at h; simp at h
  · refine ⟨hz, ?_⟩
    have hg := g_pos (p := p) hz
    have d1 : g p q ∣ p := by unfold g; exact Int.gcd_dvd_left ..
    have d2 : g p q ∣ q := by unfold g; exact Int.gcd_dvd_right ..
    have e1 : ofX p q * g p q = p := Int.tdiv_mul_cancel d1
    have e2 : ofY p q * g p q = q := Int.tdiv_mul_cancel d2
    have h0 : ofY p q ≠ 0 := by intro e; rw [e, Int.zero_mul] at e2; omega
    have key : ofX p q * q = p * ofY p q := by
      have k1 : ofX p q * (ofY p q * g p q) = ofX p q * g p q * ofY p q := by rw [Int.mul_assoc, Int.mul_comm (ofY p q)]
      rw [e2, e1] at k1
      exact k1
    cases hl : (longB (ofX p q) || longB (ofY p q))
    · by_cases hneg : ofY p q < 0
      · rw [ofR_neg hz hl hneg] at h
        simp only [Prod.mk.injEq] at h
        obtain ⟨rfl, rfl, _⟩ := h
        rw [Int.neg_mul, Int.mul_neg, key]; omega
      · rw [ofR_pos hz hl hneg] at h
        simp only [Prod.mk.injEq] at h
        obtain ⟨rfl, rfl, _⟩ := h
        exact ⟨key, by omega⟩
    · rw [ofR_long hz hl] at h; simp at h
theorem frac_exact (k : Nat) : ∀ p q : Int, fracN k = (p, q, 0) → p * botN k = topN k * q ∧ 0 < q := by
  induction k with
  | zero => intro p q h; simp only [fracN, Prod.mk.injEq] at h; obtain ⟨rfl, rfl, _⟩ := h; simp [topN, botN]
  | succ k ih =>
    intro p q h
    rw [fracN] at h
    split at h
    · rename_i h1; rw [h] at h1; simp at h1
    · rename_i h1
      split at h
      · rename_i h2; simp only [Prod.mk.injEq] at h; exact absurd h.2.2 h2
      · obtain ⟨⟨r, s, e⟩, hr⟩ : ∃ t, fracN k = t := ⟨_, rfl⟩
        rw [hr] at h h1
        obtain rfl : e = 0 := by simpa using h1
        obtain ⟨i1, i2⟩ := ih r s hr
        simp only [addR] at h
        split at h
        · obtain ⟨_, h3, h4⟩ := ofR_exact h
          refine ⟨?_, h4⟩
          have hs : s ≠ 0 := by omega
          have hk : (k : Int) + 1 ≠ 0 := by omega
          -- p * (s * (k+1)) = (r * (k+1) + 1 * s) * q
          have h5 : s * (p * (botN k * ((k : Int) + 1))) = s * ((topN k * ((k : Int) + 1) + botN k) * q) := by
            have e1 : s * (p * (botN k * ((k : Int) + 1))) = botN k * (p * (s * ((k : Int) + 1))) := by
              simp only [Int.mul_left_comm, Int.mul_comm, Int.mul_assoc]
            rw [e1, h3]
            have e2 : botN k * ((r * ((k : Int) + 1) + 1 * s) * q) = (r * botN k) * (((k : Int) + 1) * q) + botN k * s * q := by
              rw [Int.one_mul, Int.add_mul, Int.mul_add]
              congr 1
              · simp only [Int.mul_left_comm, Int.mul_comm, Int.mul_assoc]
              · rw [Int.mul_assoc]
            have e3 : ∀ K : Int, s * ((topN k * K + botN k) * q) = topN k * s * (K * q) + botN k * s * q := by
              intro K
              rw [Int.add_mul, Int.mul_add]
              congr 1
              · simp only [Int.mul_left_comm, Int.mul_comm, Int.mul_assoc]
              · simp only [Int.mul_left_comm, Int.mul_comm]
            rw [e2, i1, e3]
          exact Int.eq_of_mul_eq_mul_left hs h5
        · simp at h
theorem frac_between (k : Nat) (hk : k ≤ 256) {p q : Int} (h : fracN k = (p, q, 0)) : lowN k * q ≤ p * 1073741824 ∧ p * 1073741824 ≤ (lowN k + brokenN k) * q := by
  obtain ⟨h1, h2⟩ := frac_exact k p q h
  obtain ⟨e1, e2⟩ := enc_of k hk
  have hb := botN_pos k
  constructor
  · apply Int.le_of_mul_le_mul_right (a := botN k) _ hb
    have a1 : lowN k * q * botN k = lowN k * botN k * q := by rw [Int.mul_assoc, Int.mul_comm q, ← Int.mul_assoc]
    have a2 : p * 1073741824 * botN k = topN k * 1073741824 * q := by rw [Int.mul_assoc, Int.mul_comm 1073741824, ← Int.mul_assoc, h1, Int.mul_assoc, Int.mul_comm q, ← Int.mul_assoc]
    rw [a1, a2]
    exact Int.mul_le_mul_of_nonneg_right e1 (by omega)
  · apply Int.le_of_mul_le_mul_right (a := botN k) _ hb
    have a1 : (lowN k + brokenN k) * q * botN k = (lowN k + brokenN k) * botN k * q := by rw [Int.mul_assoc, Int.mul_comm q, ← Int.mul_assoc]
    have a2 : p * 1073741824 * botN k = topN k * 1073741824 * q := by rw [Int.mul_assoc, Int.mul_comm 1073741824, ← Int.mul_assoc, h1, Int.mul_assoc, Int.mul_comm q, ← Int.mul_assoc]
    rw [a1, a2]
    exact Int.mul_le_mul_of_nonneg_right e2 (by omega)
end Go.Proofs.Ytkbojgjhhdbjgaa.HarmM
