/- The walks of package wide: size, sign, Cmp, Mul, Of, Prods; of cmp.Compare. -/
import Derived.Test.YtdpmijmofeechaaDoorGlob
import Derived.Test.YtdpmijmofeechaaDoorWideM
import Derived.Test.YtdpmijmofeechaaDoorBigY
namespace Go.Proofs.YtdpmijmofeechaaDoor.WideW
set_option linter.unusedVariables false
open Go.RowKit Base BigM BigZ Glob WideM

theorem isNaN_any (x : Int) (w : World) : Calls Tryd.prog 115 #[.int .i64 x] w fun e w' => e = .returned (.bool false) ∧ w = w' := by
  go_enter Tryd.func115, Tryd.ntmps115
  go_wp2
  go_ret
  exact ⟨ret_bool (by simp), rfl⟩
theorem isNaNu_any (x : Int) (w : World) : Calls Tryd.prog 131 #[.int .u64 x] w fun e w' => e = .returned (.bool false) ∧ w = w' := by
  go_enter Tryd.func131, Tryd.ntmps131
  go_wp2
  go_ret
  exact ⟨ret_bool (by simp), rfl⟩
theorem Compare_any (x y : Int) (w : World) : Calls Tryd.prog 100 #[.int .i64 x, .int .i64 y] w fun e w' => e = .returned (.int .i64 (ord x y)) ∧ w = w' := by
  rcases ord_cases x y with ⟨e, h⟩ | ⟨e, h⟩ | ⟨e, h⟩
  all_goals
    have HE := Lib.hid e
    clear e
    go_enter Tryd.func100, Tryd.ntmps100
    go_wp2_with (go_at_call 115; refine (isNaN_any _ _).mono ?_; rintro e w' ⟨rfl, rfl⟩)
    go_ret
    exact ⟨ret_int HE.out.symm, rfl⟩
theorem Compareu_any (x y : Int) (w : World) : Calls Tryd.prog 116 #[.int .u64 x, .int .u64 y] w fun e w' => e = .returned (.int .i64 (ord x y)) ∧ w = w' := by
  rcases ord_cases x y with ⟨e, h⟩ | ⟨e, h⟩ | ⟨e, h⟩
  all_goals
    have HE := Lib.hid e
    clear e
    go_enter Tryd.func116, Tryd.ntmps116
    go_wp2_with (go_at_call 131; refine (isNaNu_any _ _).mono ?_; rintro e w' ⟨rfl, rfl⟩)
    go_ret
    exact ⟨ret_int HE.out.symm, rfl⟩
theorem sign_any (a b : Int) (w : World) : Calls Tryd.prog 99 #[.int .i64 a, .int .i64 b] w fun e w' => e = .returned (.int .i64 (ord (a * b) 0)) ∧ w = w' := by
  have HS := Lib.hid (sgn_mul a b)
  have h1 := ord_bd a 0
  have h2 := ord_bd b 0
  have h3 : -1 ≤ ord a 0 * ord b 0 ∧ ord a 0 * ord b 0 ≤ 1 := by rw [← HS.out]; exact ord_bd _ _
  go_enter Tryd.func99, Tryd.ntmps99
  go_wp2_with (go_at_call 100; refine (Compare_any _ _ _).mono ?_; rintro e w' ⟨rfl, rfl⟩)
  go_ret
  exact ⟨ret_int HS.out.symm, rfl⟩
theorem wsize_any (a : Int) (w : World) (a0 : -9223372036854775808 ≤ a) (a1 : a ≤ 9223372036854775807) :
    Calls Tryd.prog 102 #[.int .i64 a] w fun e w' => e = .returned (.int .u64 (a.natAbs : Int)) ∧ w = w' := by
  by_cases h : a < 0
  · go_enter Tryd.func102, Tryd.ntmps102
    go_wp2
    go_ret
    exact ⟨ret_int (by first | omega | (simp [IntKind.wrap]; omega) | (unfold IntKind.wrap; simp [IntKind.bits, IntKind.signed]; omega)), rfl⟩
  · go_enter Tryd.func102, Tryd.ntmps102
    go_wp2
    go_ret
    exact ⟨ret_int (by omega), rfl⟩
set_option maxHeartbeats 1000000 in
theorem WCmp_any (h l h' l' : Int) (w : World) (h0 : 0 ≤ l) (h1 : l ≤ 18446744073709551615) (h2 : 0 ≤ l') (h3 : l' ≤ 18446744073709551615) :
    Calls Tryd.prog 101 #[.agg #[.int .u64 h, .int .u64 l], .agg #[.int .u64 h', .int .u64 l']] w fun e w' => e = .returned (.int .i64 (ord (h * two64 + l) (h' * two64 + l'))) ∧ Below w.heap.size w w' := by
  have HW := Lib.hid (ord_words (h := h) (h' := h') h0 (by unfold two64; omega) h2 (by unfold two64; omega))
  by_cases he : h = h'
  · have HE := Lib.hid (show ord (h * two64 + l) (h' * two64 + l') = ord l l' by rw [← HW.out, if_pos he])
    subst he
    go_enter Tryd.func101, Tryd.ntmps101
    go_wp2_with (go_at_call 116; refine (Compareu_any _ _ _).mono ?_; rintro e w' ⟨rfl, rfl⟩)
    go_ret
    exact ⟨ret_int HE.out.symm, below_alloc2 _ _ _⟩
  · have HE := Lib.hid (show ord (h * two64 + l) (h' * two64 + l') = ord h h' by rw [← HW.out, if_neg he])
    have hb : (h == h') = false := by simpa using he
    clear he
    go_enter Tryd.func101, Tryd.ntmps101
    go_wp2_with (go_at_call 116; refine (Compareu_any _ _ _).mono ?_; rintro e w' ⟨rfl, rfl⟩)
    go_ret
    exact ⟨ret_int HE.out.symm, below_alloc2 _ _ _⟩
set_option maxHeartbeats 1000000 in
theorem WMul_any (x y : Int) (w : World) (h0 : 0 ≤ x) (h1 : x ≤ 18446744073709551615) (h2 : 0 ≤ y) (h3 : y ≤ 18446744073709551615) :
    Calls Tryd.prog 74 #[.int .u64 x, .int .u64 y] w fun e w' => e = .returned (.agg #[.int .u64 (x * y / 18446744073709551616), .int .u64 (x * y % 18446744073709551616)]) ∧ Below w.heap.size w w' := by
  obtain ⟨a, ea⟩ : ∃ a, x * y / 18446744073709551616 = a := ⟨_, rfl⟩
  obtain ⟨b, eb⟩ : ∃ b, x * y % 18446744073709551616 = b := ⟨_, rfl⟩
  rw [ea, eb]
  have EA := Lib.hid ea
  have EB := Lib.hid eb
  clear ea eb
  go_enter Tryd.func74, Tryd.ntmps74
  go_wp2_with fail
  refine (Mul64_any x y _ h0 h1 h2 h3).mono ?_
  rintro e w' ⟨rfl, rfl⟩
  rw [EA.out, EB.out]
  go_wp2
  refine bodyPost_ret (v := .agg #[.int .u64 a, .int .u64 b]) (by simp [results, Tryd.results74, go_sem]) rfl ?_
  exact ⟨rfl, below_alloc1 _ _⟩
set_option maxHeartbeats 2000000 in
theorem Prods_any (a b c d : Int) (w : World) (a0 : -9223372036854775808 ≤ a ∧ a ≤ 9223372036854775807) (b0 : -9223372036854775808 ≤ b ∧ b ≤ 9223372036854775807) (c0 : -9223372036854775808 ≤ c ∧ c ≤ 9223372036854775807) (d0 : -9223372036854775808 ≤ d ∧ d ≤ 9223372036854775807) :
    Calls Tryd.prog 65 #[.int .i64 a, .int .i64 b, .int .i64 c, .int .i64 d] w fun e w' => e = .returned (.int .i64 (ord (a * b) (c * d))) ∧ Below w.heap.size w w' := by
  have p1 := ord_bd (a * b) 0
  have p2 := ord_bd (c * d) 0
  obtain ⟨s, es⟩ : ∃ s, ord (a * b) 0 = s := ⟨_, rfl⟩
  obtain ⟨t, et⟩ : ∃ t, ord (c * d) 0 = t := ⟨_, rfl⟩
  rw [es] at p1
  rw [et] at p2
  have ES := Lib.hid es
  have ET := Lib.hid et
  by_cases hst : s = t
  · have HE := prods_eq (a * b) (c * d) (by rw [es, et, hst])
    rw [es] at HE
    have HE := Lib.hid HE
    subst hst
    have na := natAbs_bd a0.1 a0.2
    have nb := natAbs_bd b0.1 b0.2
    have nc := natAbs_bd c0.1 c0.2
    have nd := natAbs_bd d0.1 d0.2
    have hx := Lib.hid (natAbs_mul' a b)
    have hy := Lib.hid (natAbs_mul' c d)
    have hr := ord_bd (a * b) (c * d)
    clear es et
    go_enter Tryd.func65, Tryd.ntmps65
    go_wp2_with fail
    refine (sign_any a b _).mono ?_
    rintro e w' ⟨rfl, rfl⟩
    rw [ES.out]
    go_wp2_with fail
    refine (sign_any c d _).mono ?_
    rintro e w' ⟨rfl, rfl⟩
    rw [ET.out]
    go_wp2_with fail
    refine (wsize_any a _ a0.1 a0.2).mono ?_
    rintro e w' ⟨rfl, rfl⟩
    go_wp2_with fail
    refine (wsize_any b _ b0.1 b0.2).mono ?_
    rintro e w' ⟨rfl, rfl⟩
    go_wp2_with fail
    refine (WMul_any _ _ _ na.1 (by omega) nb.1 (by omega)).mono ?_
    rintro e w1 ⟨rfl, hb1⟩
    rw [hx.out]
    go_wp2_with fail
    refine (wsize_any c _ c0.1 c0.2).mono ?_
    rintro e w' ⟨rfl, rfl⟩
    go_wp2_with fail
    refine (wsize_any d _ d0.1 d0.2).mono ?_
    rintro e w' ⟨rfl, rfl⟩
    go_wp2_with fail
    refine (WMul_any _ _ _ nc.1 (by omega) nd.1 (by omega)).mono ?_
    rintro e w2 ⟨rfl, hb2⟩
    rw [hy.out]
    go_wp2_with fail
    refine (WCmp_any _ _ _ _ _ (by omega) (by omega) (by omega) (by omega)).mono ?_
    rintro e w3 ⟨rfl, hb3⟩
    rw [words, words]
    obtain ⟨o, eo⟩ : ∃ o, ord ((a * b).natAbs : Int) ((c * d).natAbs : Int) = o := ⟨_, rfl⟩
    have ho := ord_bd ((a * b).natAbs : Int) ((c * d).natAbs : Int)
    rw [eo] at ho ⊢
    have EO := Lib.hid (show s * o = ord (a * b) (c * d) by rw [← eo]; exact HE.out)
    have hso : -1 ≤ s * o ∧ s * o ≤ 1 := by rw [EO.out]; exact ord_bd _ _
    clear eo
    go_wp2
    go_ret
    exact ⟨ret_int EO.out, hb1.trans ((hb2.trans (hb3.mono hb2.size)).mono hb1.size)⟩
  · have HE := Lib.hid (show ord s t = ord (a * b) (c * d) by rw [← es, ← et]; exact prods_ne _ _ (by rw [es, et]; exact hst))
    have hb : (s == t) = false := by simpa using hst
    clear es et hst
    go_enter Tryd.func65, Tryd.ntmps65
    go_wp2_with fail
    refine (sign_any a b _).mono ?_
    rintro e w' ⟨rfl, rfl⟩
    rw [ES.out]
    go_wp2_with fail
    refine (sign_any c d _).mono ?_
    rintro e w' ⟨rfl, rfl⟩
    rw [ET.out]
    go_wp2_with (go_at_call 100; refine (Compare_any _ _ _).mono ?_; rintro e w' ⟨rfl, rfl⟩)
    go_ret
    exact ⟨ret_int HE.out, Below.refl _ _⟩
end Go.Proofs.YtdpmijmofeechaaDoor.WideW
