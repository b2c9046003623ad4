/- The walks of copseref01.Same, of both Fracs and of the law's lives. -/
import Derived.Test.YtkbojgjhhdbjgaaHarmV
namespace Go.Proofs.Ytkbojgjhhdbjgaa.HarmW
set_option linter.unusedVariables false
open Go.RowKit Base BigM BigW BigZ GcdW GcdM RatM RatW RefRat HarmM

def sameB (a b : List Int) : Bool := decide (a = b)
theorem same_len {a b : List Int} (h : a.length ≠ b.length) : sameB a b = false := decide_eq_false (fun e => h (by rw [e]))
theorem take_eq_succ {a b : List Int} {k : Nat} (ha : k < a.length) (hb : k < b.length) (h : a.take k = b.take k) (hd : dg a k = dg b k) : a.take (k + 1) = b.take (k + 1) := by
  rw [take_succ_getD a k ha, take_succ_getD b k hb, h, hd]
set_option maxHeartbeats 1000000 in
theorem Same_any (va vb : Value) (a b : List Int) (lo B lo' B' : Nat) (w : World) (ha : Ints w lo B va a) (hb : Ints w lo' B' vb b) (hl : a.length ≤ 1073741824) :
    Calls Try.prog 15 #[va, vb] w fun e w' => e = .returned (.bool (sameB a b)) ∧ ∃ q, w' = w.drewN q := by
  obtain ⟨A, ca, rfl, _, _, hra⟩ := ha
  obtain ⟨A2, cb, rfl, _, _, hrb⟩ := hb
  by_cases hlen : a.length = b.length
  · obtain ⟨n, hn⟩ : ∃ n, a.length = n := ⟨_, rfl⟩
    have hn2 : b.length = n := by omega
    rw [hn] at hra hl ⊢
    rw [hn2] at hrb ⊢
    have HN := Lib.hid hn
    have HN2 := Lib.hid hn2
    clear hlen hn hn2
    go_enter Try.func15, Try.ntmps15
    go_wp2
    go_loopw [5] (fun i wr => ∃ k : Nat, k ≤ n ∧ i = .int .i64 k ∧ Hid (a.take k = b.take k) ∧ ∃ q, wr = w.drewN q) (fun i _ => n - (intOf i).toNat)
    case atStart => exact ⟨0, by omega, rfl, Lib.hid (by simp), 0, rfl⟩
    case round =>
      obtain ⟨k, hk, rfl, HT, q, rfl⟩ := hrel
      by_cases hlt : k < n
      · obtain ⟨ad, d, rfl, hb1, hc1, HD⟩ := rd_at hra hlt
        obtain ⟨ad2, d2, rfl, hb2, hc2, HD2⟩ := rd_at hrb hlt
        by_cases heq : d = d2
        · have hne : (d == d2) = true := by simpa using heq
          have HQ := Lib.hid heq
          clear heq
          go_wp2
          go_quiet (fail)
          go_wp2
          refine ⟨⟨k + 1, by omega, by go_num, Lib.hid (take_eq_succ (by rw [HN.out]; exact hlt) (by rw [HN2.out]; exact hlt) HT.out (by rw [HD.out, HD2.out, HQ.out])), _, rfl⟩, by simp [intOf]; omega⟩
        · have hne : (d == d2) = false := by simpa using heq
          have HF := Lib.hid (show sameB a b = false from decide_eq_false (fun e => heq (by rw [← HD.out, ← HD2.out, e])))
          clear heq
          go_wp2
          go_quiet (fail)
          go_wp2
          go_ret
          exact ⟨ret_bool HF.out.symm, by simp only [World.drewN_drewN]; exact ⟨_, rfl⟩⟩
      · have HF := Lib.hid (show sameB a b = true from decide_eq_true (by
          have := HT.out
          rw [List.take_of_length_le (by rw [HN.out]; omega), List.take_of_length_le (by rw [HN2.out]; omega)] at this
          exact this))
        go_wp2
        go_ret
        exact ⟨ret_bool HF.out.symm, q, rfl⟩
  · have HF := Lib.hid (same_len hlen)
    have hne : (a.length == b.length) = false := by simpa using hlen
    clear hlen
    go_enter Try.func15, Try.ntmps15
    go_wp2
    go_ret
    exact ⟨ret_bool HF.out.symm, 0, rfl⟩

theorem isR_fit {p q : Int} (h : isR p q = true) : Fit p q := by
  obtain ⟨h1, h2, h3, h4, _⟩ := isR_true h
  exact ⟨⟨by omega, by omega⟩, by omega, by omega⟩
/-- what is told of a ratio fits -/
theorem ofR_fit (p q : Int) (hf : Fit p q) : Fit (ofR p q).1 (ofR p q).2.1 := by
  obtain ⟨hp, hq⟩ := hf
  by_cases hz : q = 0
  · subst hz; rw [ofR_zero]; exact ⟨⟨by decide, by decide⟩, by decide, by decide⟩
  · have hx := tdiv_bd p (g p q) (g_pos hz) hp
    have hy := tdiv_bd q (g p q) (g_pos hz) hq
    cases hl : (longB (ofX p q) || longB (ofY p q))
    · have h1 : longB (ofX p q) = false := by cases h : longB (ofX p q) <;> simp [h] at hl ⊢
      have h2 : longB (ofY p q) = false := by cases h : longB (ofY p q) <;> simp [h] at hl ⊢
      have h1 := of_decide_eq_false h1
      have h2 := of_decide_eq_false h2
      by_cases hneg : ofY p q < 0
      · rw [ofR_neg hz hl hneg]; exact ⟨⟨by simp only; omega, by simp only; omega⟩, by simp only; omega, by simp only; omega⟩
      · rw [ofR_pos hz hl hneg]; exact ⟨⟨by simp only; omega, by simp only; omega⟩, by simp only; omega, by simp only; omega⟩
    · rw [ofR_long hz hl]; exact ⟨⟨by decide, by decide⟩, by decide, by decide⟩
theorem doR_fit (k p q r s : Int) : Fit (doR k p q r s).1 (doR k p q r s).2.1 := by
  by_cases h : (isR p q && isR r s) = true
  · rw [doR_ok h]
    rw [Bool.and_eq_true] at h
    obtain ⟨x1, x2, x3, x4, _⟩ := isR_true h.1
    obtain ⟨y1, y2, y3, y4, _⟩ := isR_true h.2
    have m1 := mul60 (a := p) (b := s) ⟨x3, x4⟩ ⟨by omega, y2⟩
    have m2 := mul60 (a := r) (b := q) ⟨y3, y4⟩ ⟨by omega, x2⟩
    have m3 := mul60 (a := q) (b := s) ⟨by omega, x2⟩ ⟨by omega, y2⟩
    have m4 := mul60 (a := p) (b := r) ⟨x3, x4⟩ ⟨y3, y4⟩
    have m5 := mul60 (a := q) (b := r) ⟨by omega, x2⟩ ⟨y3, y4⟩
    refine ofR_fit _ _ ⟨?_, ?_⟩
    · unfold numP; repeat' split
      all_goals omega
    · unfold numQ; repeat' split
      all_goals omega
  · rw [doR_bad h]; exact ⟨⟨by decide, by decide⟩, by decide, by decide⟩

theorem frac_next {k : Nat} (h : (fracN k).2.2 = 0) (h2 : (addR (fracN k).1 (fracN k).2.1 1 ((k : Int) + 1)).2.2 = 0) : fracN (k + 1) = addR (fracN k).1 (fracN k).2.1 1 ((k : Int) + 1) := by
  rw [fracN, if_neg (by rw [h]; decide), if_neg (by rw [h2]; decide)]
theorem frac_stop {k : Nat} (h : (fracN k).2.2 = 0) (h2 : (addR (fracN k).1 (fracN k).2.1 1 ((k : Int) + 1)).2.2 ≠ 0) : fracN (k + 1) = (0, 0, (addR (fracN k).1 (fracN k).2.1 1 ((k : Int) + 1)).2.2) := by
  rw [fracN, if_neg (by rw [h]; decide), if_pos h2]
theorem frac_stuck {k : Nat} (h : (fracN k).2.2 ≠ 0) (j : Nat) : fracN (k + j) = fracN k := by
  induction j with
  | zero => rfl
  | succ j ih => rw [← Nat.add_assoc, fracN, ih, if_pos h]
theorem frac_fit (k : Nat) : Fit (fracN k).1 (fracN k).2.1 := by
  induction k with
  | zero => exact ⟨⟨by decide, by decide⟩, by decide, by decide⟩
  | succ k ih =>
    rw [fracN]
    split
    · exact ih
    · split
      · exact ⟨⟨by simp only; decide, by simp only; decide⟩, by simp only; decide, by simp only; decide⟩
      · exact doR_fit 0 _ _ _ _
def FracRel (w : World) (m : Nat) (i : Value) (wr : World) : Prop :=
  ∃ (k : Nat) (p q : Int), i = .int .i64 k ∧ k ≤ m ∧ fracN k = (p, q, 0) ∧ wr.cell? ⟨w.heap.size + 1, 0, none⟩ = some (.int .i64 p) ∧ wr.cell? ⟨w.heap.size + 1, 1, none⟩ = some (.int .i64 q) ∧
    wr.cell? ⟨w.heap.size, 0, none⟩ = some (.int .i64 0) ∧ wr.cell? ⟨w.heap.size, 1, none⟩ = some (.int .i64 0) ∧
    wr.frozen? ⟨w.heap.size + 1, 0, none⟩ = false ∧ wr.frozen? ⟨w.heap.size + 1, 1, none⟩ = false ∧ wr.frozen? ⟨w.heap.size, 0, none⟩ = false ∧ wr.frozen? ⟨w.heap.size, 1, none⟩ = false ∧ Below w.heap.size w wr
set_option maxHeartbeats 4000000 in
theorem Frac_any (n : Int) (w : World) :
    Calls Try.prog 25 #[.int .i64 n] w fun e w' => e = .returned (.tuple #[.agg #[.int .i64 (fracN (held n).toNat).1, .int .i64 (fracN (held n).toNat).2.1], .int .i64 (fracN (held n).toNat).2.2]) ∧ Below w.heap.size w w' := by
  have hb := held_bd n
  obtain ⟨m, hm⟩ : ∃ m : Nat, held n = m := ⟨(held n).toNat, by omega⟩
  have HM := Lib.hid hm
  have hmb : m ≤ 256 := by omega
  have HT := Lib.hid (show (held n).toNat = m by omega)
  clear hm hb
  go_enter Try.func25, Try.ntmps25
  go_wp2_with fail
  refine (held_any n _).mono ?_
  rintro e w' ⟨rfl, rfl⟩
  rw [HM.out]
  go_wp2_with fail
  have H0 := Lib.hid (show FracRel w m (.int .i64 0) ((w.alloc (.cells #[.int .i64 0, .int .i64 0] 38)).alloc (.cells #[.int .i64 0, .int .i64 1] 38)) from
    ⟨0, 0, 1, rfl, by omega, rfl, by go_simp, by go_simp, by go_simp, by go_simp, by go_simp, by go_simp, by go_simp, by go_simp, below_alloc2 _ _ _⟩)
  go_loopw [11] (fun i wr => FracRel w m i wr) (fun i _ => m - (intOf i).toNat)
  case atStart => exact H0.out
  case round =>
    obtain ⟨k, p, q, rfl, hk, hfr, c1, c2, c3, c4, f1, f2, f3, f4, hbel⟩ := hrel
    have HFR := Lib.hid hfr
    have hfit := frac_fit k
    rw [hfr] at hfit
    clear hfr
    by_cases hlt : k < m
    · go_wp2_with fail
      refine (Add_any p q 1 ((k : Int) + 1) _ hfit ⟨⟨by omega, by omega⟩, by omega, by omega⟩).mono ?_
      rintro e w1 ⟨rfl, hb1⟩
      obtain ⟨⟨x, y, E⟩, ht⟩ : ∃ t, addR p q 1 ((k : Int) + 1) = t := ⟨_, rfl⟩
      rw [ht]
      have HADD := Lib.hid ht
      have d1 := cell_at_below hb1 _ _ _ c1
      have d2 := cell_at_below hb1 _ _ _ c2
      have d3 := cell_at_below hb1 _ _ _ c3
      have d4 := cell_at_below hb1 _ _ _ c4
      have hz1 := World.block_lt_of_cell? wr _ c1
      have hz3 := World.block_lt_of_cell? wr _ c3
      have g1 := free_at_below hb1 _ _ f1 hz1
      have g2 := free_at_below hb1 _ _ f2 hz1
      have g3 := free_at_below hb1 _ _ f3 hz3
      have g4 := free_at_below hb1 _ _ f4 hz3
      have hz : w.heap.size + 1 < w1.heap.size := by have := hb1.size; simp at hz1; omega
      have hz0 : w.heap.size < w1.heap.size := by omega
      have hbel1 := hbel.trans (hb1.mono hbel.size)
      clear ht c1 c2 c3 c4 f1 f2 f3 f4 hz1 hz3 hb1 hbel
      by_cases hE : E = 0
      · subst hE
        have HN := Lib.hid (show fracN (k + 1) = (x, y, 0) by rw [frac_next (by rw [HFR.out]) (by rw [HFR.out]; simp only; rw [HADD.out]), HFR.out]; simp only; rw [HADD.out])
        go_wp2_with fail
        have hne : (⟨w.heap.size, 0, none⟩ : Addr) ≠ ⟨w.heap.size + 1, 0, none⟩ := by simp
        refine ⟨⟨k + 1, x, y, by go_num, by omega, HN.out, ?_, ?_, ?_, ?_, ?_, ?_, ?_, ?_, ?_⟩, by simp [intOf]; omega⟩
        all_goals first
          | (simp [go_sem, d1, d2, d3, d4, g1, g2, g3, g4, hz, hz0]; done)
          | skip
        exact (below_set1 hbel1 (Nat.le_succ _) _ _ _ _).alloc (by simp [World.setCell]; omega) _
      · have hE2 : (E == 0) = false := by simpa using hE
        have HE := Lib.hid hE
        have HN := Lib.hid (show fracN m = (0, 0, E) by
          have h1 : fracN (k + 1) = (0, 0, E) := by rw [frac_stop (by rw [HFR.out]) (by rw [HFR.out]; simp only; rw [HADD.out]; exact hE), HFR.out]; simp only; rw [HADD.out]
          have h2 := frac_stuck (k := k + 1) (by rw [h1]; exact hE) (m - (k + 1))
          rw [show k + 1 + (m - (k + 1)) = m by omega] at h2
          rw [h2, h1])
        clear hE
        go_wp2_with fail
        refine bodyPost_ret (v := .tuple #[.agg #[.int .i64 0, .int .i64 0], .int .i64 E]) (by simp [results, Try.results25, go_sem, d3, d4, hz0]) rfl ?_
        exact ⟨ret_rat (by rw [HT.out, HN.out]), (below_set1 hbel1 (Nat.le_refl _) _ _ _ _).alloc (by simp [World.setCell]; omega) _⟩
    · go_wp2
      have HK := Lib.hid (show fracN m = (p, q, 0) by rw [show m = k by omega]; exact HFR.out)
      refine bodyPost_ret (v := .tuple #[.agg #[.int .i64 p, .int .i64 q], .int .i64 0]) (by simp [results, Try.results25, go_sem, c3, c4]) rfl ?_
      exact ⟨ret_rat (by rw [HT.out, HK.out]), below_set1 hbel (Nat.le_refl _) _ _ _ _⟩
def RFracRel (w : World) (m : Nat) (i : Value) (wr : World) : Prop :=
  ∃ (k : Nat) (p q : Int), i = .int .i64 ((k : Int) + 1) ∧ k ≤ m ∧ fracN k = (p, q, 0) ∧ wr.cell? ⟨w.heap.size + 1, 0, none⟩ = some (.int .i64 p) ∧ wr.cell? ⟨w.heap.size + 1, 1, none⟩ = some (.int .i64 q) ∧
    wr.cell? ⟨w.heap.size, 0, none⟩ = some (.int .i64 0) ∧ wr.cell? ⟨w.heap.size, 1, none⟩ = some (.int .i64 0) ∧
    wr.frozen? ⟨w.heap.size + 1, 0, none⟩ = false ∧ wr.frozen? ⟨w.heap.size + 1, 1, none⟩ = false ∧ wr.frozen? ⟨w.heap.size, 0, none⟩ = false ∧ wr.frozen? ⟨w.heap.size, 1, none⟩ = false ∧ Below w.heap.size w wr
set_option maxHeartbeats 4000000 in
theorem RFrac_any (n : Int) (w : World) :
    Calls Try.prog 26 #[.int .i64 n] w fun e w' => e = .returned (.tuple #[.agg #[.int .i64 (fracN (held n).toNat).1, .int .i64 (fracN (held n).toNat).2.1], .int .i64 (fracN (held n).toNat).2.2]) ∧ Below w.heap.size w w' := by
  have hb := held_bd n
  obtain ⟨m, hm⟩ : ∃ m : Nat, held n = m := ⟨(held n).toNat, by omega⟩
  have HM := Lib.hid hm
  have hmb : m ≤ 256 := by omega
  have HT := Lib.hid (show (held n).toNat = m by omega)
  clear hm hb
  go_enter Try.func26, Try.ntmps26
  go_wp2_with fail
  have H0 := Lib.hid (show RFracRel w m (.int .i64 1) ((w.alloc (.cells #[.int .i64 0, .int .i64 0] 38)).alloc (.cells #[.int .i64 0, .int .i64 1] 38)) from
    ⟨0, 0, 1, rfl, by omega, rfl, by go_simp, by go_simp, by go_simp, by go_simp, by go_simp, by go_simp, by go_simp, by go_simp, below_alloc2 _ _ _⟩)
  go_loopw [5] (fun i wr => RFracRel w m i wr) (fun i _ => m + 1 - (intOf i).toNat)
  case atStart => exact H0.out
  case round =>
    obtain ⟨k, p, q, rfl, hk, hfr, c1, c2, c3, c4, f1, f2, f3, f4, hbel⟩ := hrel
    have HFR := Lib.hid hfr
    have hfit := frac_fit k
    rw [hfr] at hfit
    clear hfr
    go_wp2_with fail
    refine (Held_any n _).mono ?_
    rintro e w' ⟨rfl, rfl⟩
    rw [HM.out]
    by_cases hlt : k < m
    · go_wp2_with fail
      refine (Do_any 0 p q 1 ((k : Int) + 1) _ (.inl rfl) hfit ⟨⟨by omega, by omega⟩, by omega, by omega⟩).mono ?_
      rintro e w1 ⟨rfl, hb1⟩
      obtain ⟨⟨x, y, E⟩, ht⟩ : ∃ t, doR 0 p q 1 ((k : Int) + 1) = t := ⟨_, rfl⟩
      rw [ht]
      have HADD := Lib.hid (show addR p q 1 ((k : Int) + 1) = (x, y, E) from ht)
      have d1 := cell_at_below hb1 _ _ _ c1
      have d2 := cell_at_below hb1 _ _ _ c2
      have d3 := cell_at_below hb1 _ _ _ c3
      have d4 := cell_at_below hb1 _ _ _ c4
      have hz1 := World.block_lt_of_cell? wr _ c1
      have hz3 := World.block_lt_of_cell? wr _ c3
      have g1 := free_at_below hb1 _ _ f1 hz1
      have g2 := free_at_below hb1 _ _ f2 hz1
      have g3 := free_at_below hb1 _ _ f3 hz3
      have g4 := free_at_below hb1 _ _ f4 hz3
      have hz : w.heap.size + 1 < w1.heap.size := by have := hb1.size; simp at hz1; omega
      have hz0 : w.heap.size < w1.heap.size := by omega
      have hbel1 := hbel.trans (hb1.mono hbel.size)
      clear ht c1 c2 c3 c4 f1 f2 f3 f4 hz1 hz3 hb1 hbel
      by_cases hE : E = 0
      · subst hE
        have HN := Lib.hid (show fracN (k + 1) = (x, y, 0) by rw [frac_next (by rw [HFR.out]) (by rw [HFR.out]; simp only; rw [HADD.out]), HFR.out]; simp only; rw [HADD.out])
        go_wp2_with fail
        have hne : (⟨w.heap.size, 0, none⟩ : Addr) ≠ ⟨w.heap.size + 1, 0, none⟩ := by simp
        refine ⟨⟨k + 1, x, y, by go_num, by omega, HN.out, ?_, ?_, ?_, ?_, ?_, ?_, ?_, ?_, ?_⟩, by simp [intOf]; omega⟩
        all_goals first
          | (simp [go_sem, d1, d2, d3, d4, g1, g2, g3, g4, hz, hz0]; done)
          | skip
        exact (below_set1 hbel1 (Nat.le_succ _) _ _ _ _).alloc (by simp [World.setCell]; omega) _
      · have hE2 : (E == 0) = false := by simpa using hE
        have HE := Lib.hid hE
        have HN := Lib.hid (show fracN m = (0, 0, E) by
          have h1 : fracN (k + 1) = (0, 0, E) := by rw [frac_stop (by rw [HFR.out]) (by rw [HFR.out]; simp only; rw [HADD.out]; exact hE), HFR.out]; simp only; rw [HADD.out]
          have h2 := frac_stuck (k := k + 1) (by rw [h1]; exact hE) (m - (k + 1))
          rw [show k + 1 + (m - (k + 1)) = m by omega] at h2
          rw [h2, h1])
        clear hE
        go_wp2_with fail
        refine bodyPost_ret (v := .tuple #[.agg #[.int .i64 0, .int .i64 0], .int .i64 E]) (by simp [results, Try.results26, go_sem, d3, d4, hz0]) rfl ?_
        exact ⟨ret_rat (by rw [HT.out, HN.out]), (below_set1 hbel1 (Nat.le_refl _) _ _ _ _).alloc (by simp [World.setCell]; omega) _⟩
    · go_wp2
      have HK := Lib.hid (show fracN m = (p, q, 0) by rw [show m = k by omega]; exact HFR.out)
      refine bodyPost_ret (v := .tuple #[.agg #[.int .i64 p, .int .i64 q], .int .i64 0]) (by simp [results, Try.results26, go_sem, c3, c4]) rfl ?_
      exact ⟨ret_rat (by rw [HT.out, HK.out]), below_set1 hbel (Nat.le_refl _) _ _ _ _⟩
end Go.Proofs.Ytkbojgjhhdbjgaa.HarmW
