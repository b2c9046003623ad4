/- The walks of package wide that report reaches: cmp.Compare, Cmp, Mul, Add, Sub, Root (lines of WideW, Glob, PartW turned); report.size. -/
import Derived.Test.YtodiipkedhfncaaGreatDoorShelf
import Derived.Test.YtodiipkedhfncaaGreatDoorRows
import Derived.Test.YtodiipkedhfncaaGreatDoorWideM
import Derived.Test.YtodiipkedhfncaaGreatDoorBigY
import Derived.Test.YtodiipkedhfncaaGreatDoorRptC
import Derived.Laws.Externs
import Derived.Deep.RegionLaw
import Derived.Shelf.Spec.BitsCarry
import Derived.Deep.DeepMust
namespace Go.Proofs.YtodiipkedhfncaaGreatDoor.WidX
set_option linter.unusedVariables false
open Go.RowKit Go.Sort Base BigM BigZ WideM RptM RptO RptC

theorem Mul64_any (x y : Int) (w : World) (h0 : 0 ≤ x) (h1 : x ≤ 18446744073709551615) (h2 : 0 ≤ y) (h3 : y ≤ 18446744073709551615) :
    Calls Tryz.prog 97 #[.int .u64 x, .int .u64 y] w fun e w' => e = .returned (.tuple #[.int .u64 (x * y / 18446744073709551616), .int .u64 (x * y % 18446744073709551616)]) ∧ w = w' := by
  obtain ⟨a, rfl⟩ := Int.eq_ofNat_of_zero_le h0
  obtain ⟨b, rfl⟩ := Int.eq_ofNat_of_zero_le h2
  refine (Tryz.bits_Mul64 a b (by omega) (by omega) w).mono fun _ _ ⟨he, hw⟩ => ⟨?_, hw.symm⟩
  rw [he]
  exact ret_int2 (by simp) (by simp)
theorem isNaNu_any (x : Int) (w : World) : Calls Tryz.prog 125 #[.int .u64 x] w fun e w' => e = .returned (.bool false) ∧ w = w' := by
  go_enter Tryz.func125, Tryz.ntmps125
  go_wp2
  go_ret
  exact ⟨ret_bool (by simp), rfl⟩
theorem Compareu_any (x y : Int) (w : World) : Calls Tryz.prog 96 #[.int .u64 x, .int .u64 y] w fun e w' => e = .returned (.int .i64 (ord x y)) ∧ w = w' := by
  rcases ord_cases x y with ⟨e, h⟩ | ⟨e, h⟩ | ⟨e, h⟩
  all_goals
    have HE := Lib.hid e
    clear e
    go_enter Tryz.func96, Tryz.ntmps96
    go_wp2_with (go_at_call 125; refine (isNaNu_any _ _).mono ?_; rintro e w' ⟨rfl, rfl⟩)
    go_ret
    exact ⟨ret_int HE.out.symm, rfl⟩
set_option maxHeartbeats 1000000 in
theorem WCmp_any (h l h' l' : Int) (w : World) (h0 : 0 ≤ l) (h1 : l ≤ 18446744073709551615) (h2 : 0 ≤ l') (h3 : l' ≤ 18446744073709551615) :
    Calls Tryz.prog 64 #[.agg #[.int .u64 h, .int .u64 l], .agg #[.int .u64 h', .int .u64 l']] w fun e w' => e = .returned (.int .i64 (ord (h * two64 + l) (h' * two64 + l'))) ∧ Below w.heap.size w w' := by
  have HW := Lib.hid (ord_words (h := h) (h' := h') h0 (by unfold two64; omega) h2 (by unfold two64; omega))
  by_cases he : h = h'
  · have HE := Lib.hid (show ord (h * two64 + l) (h' * two64 + l') = ord l l' by rw [← HW.out, if_pos he])
    subst he
    go_enter Tryz.func64, Tryz.ntmps64
    go_wp2_with (go_at_call 96; refine (Compareu_any _ _ _).mono ?_; rintro e w' ⟨rfl, rfl⟩)
    go_ret
    exact ⟨ret_int HE.out.symm, below_alloc2 _ _ _⟩
  · have HE := Lib.hid (show ord (h * two64 + l) (h' * two64 + l') = ord h h' by rw [← HW.out, if_neg he])
    have hb : (h == h') = false := by simpa using he
    clear he
    go_enter Tryz.func64, Tryz.ntmps64
    go_wp2_with (go_at_call 96; refine (Compareu_any _ _ _).mono ?_; rintro e w' ⟨rfl, rfl⟩)
    go_ret
    exact ⟨ret_int HE.out.symm, below_alloc2 _ _ _⟩
set_option maxHeartbeats 1000000 in
theorem WMul_any (x y : Int) (w : World) (h0 : 0 ≤ x) (h1 : x ≤ 18446744073709551615) (h2 : 0 ≤ y) (h3 : y ≤ 18446744073709551615) :
    Calls Tryz.prog 65 #[.int .u64 x, .int .u64 y] w fun e w' => e = .returned (.agg #[.int .u64 (x * y / 18446744073709551616), .int .u64 (x * y % 18446744073709551616)]) ∧ Below w.heap.size w w' := by
  obtain ⟨a, ea⟩ : ∃ a, x * y / 18446744073709551616 = a := ⟨_, rfl⟩
  obtain ⟨b, eb⟩ : ∃ b, x * y % 18446744073709551616 = b := ⟨_, rfl⟩
  rw [ea, eb]
  have EA := Lib.hid ea
  have EB := Lib.hid eb
  clear ea eb
  go_enter Tryz.func65, Tryz.ntmps65
  go_wp2_with fail
  refine (Mul64_any x y _ h0 h1 h2 h3).mono ?_
  rintro e w' ⟨rfl, rfl⟩
  rw [EA.out, EB.out]
  go_wp2
  refine bodyPost_ret (v := .agg #[.int .u64 a, .int .u64 b]) (by simp [results, Tryz.results65, go_sem]) rfl ?_
  exact ⟨rfl, below_alloc1 _ _⟩
theorem add64 (x y c : Int) (hx : 0 ≤ x) (hy : 0 ≤ y) (hc0 : 0 ≤ c) (hc : c ≤ 1) (w : World) : (callFunc 123 #[.int .u64 x, .int .u64 y, .int .u64 c]).run Tryz.prog w =
    .ok (.value (.tuple #[.int .u64 ((x + y + c) % 18446744073709551616), .int .u64 ((x + y + c) / 18446744073709551616)])) w := by
  rw [run_callFunc_extern Tryz.func123 (by kernel_rfl) (by kernel_rfl) (by kernel_rfl) (e := add64Entry) (by kernel_rfl), run_add64 x y c hx hy hc0 hc]
  rfl
theorem add64_0 (x y : Int) (hx : 0 ≤ x) (hy : 0 ≤ y) (w : World) : (callFunc 123 #[.int .u64 x, .int .u64 y, .int .u64 0]).run Tryz.prog w =
    .ok (.value (.tuple #[.int .u64 ((x + y) % 18446744073709551616), .int .u64 ((x + y) / 18446744073709551616)])) w := by
  simpa using add64 x y 0 hx hy (Int.le_refl 0) (by decide) w

/-- A word. -/
def Word (x : Int) : Prop := 0 ≤ x ∧ x ≤ 18446744073709551615

set_option maxHeartbeats 1000000 in
theorem WAdd_any (ah al bh bl : Int) (h1 : Word ah) (h2 : Word al) (h3 : Word bh) (h4 : Word bl) (hno : ah + bh + (al + bl) / 18446744073709551616 ≤ 18446744073709551615) (w : World) :
    Calls Tryz.prog 93 #[.agg #[.int .u64 ah, .int .u64 al], .agg #[.int .u64 bh, .int .u64 bl]] w fun e w' =>
      e = .returned (.tuple #[.agg #[.int .u64 (ah + bh + (al + bl) / 18446744073709551616), .int .u64 ((al + bl) % 18446744073709551616)], .int .i64 0]) ∧ Below w.heap.size w w' := by
  obtain ⟨a1, a2⟩ := h1; obtain ⟨b1, b2⟩ := h2; obtain ⟨c1, c2⟩ := h3; obtain ⟨d1, d2⟩ := h4
  have k0 : 0 ≤ (al + bl) / 18446744073709551616 := by omega
  have k1 : (al + bl) / 18446744073709551616 ≤ 1 := by omega
  have k2 : (ah + bh + (al + bl) / 18446744073709551616) / 18446744073709551616 = 0 := by omega
  have k3 : (ah + bh + (al + bl) / 18446744073709551616) % 18446744073709551616 = ah + bh + (al + bl) / 18446744073709551616 := by omega
  go_enter Tryz.func93, Tryz.ntmps93
  go_wp2_with (first | simp only [add64_0 al bl b1 d1] | simp only [add64 ah bh _ a1 c1 k0 k1])
  refine bodyPost_ret (v := .tuple #[.agg #[.int .u64 (ah + bh + (al + bl) / 18446744073709551616), .int .u64 ((al + bl) % 18446744073709551616)], .int .i64 0]) (by simp [results, Tryz.results93, go_sem]) rfl ?_
  exact ⟨rfl, below_alloc3 _ _ _ _⟩

/-- a wide number as a value -/
def WV (z : Int) : Value := .agg #[.int .u64 (hiW z), .int .u64 (loW z)]
theorem wv_words {z : Int} (h0 : 0 ≤ z) (h1 : z < 340282366920938463463374607431768211456) : Word (hiW z) ∧ Word (loW z) ∧ hiW z * two64 + loW z = z := by
  have := W_range h0 h1
  exact ⟨⟨this.1.1, by have := this.1.2; omega⟩, ⟨this.2.1.1, by have := this.2.1.2; omega⟩, this.2.2⟩
theorem Add_any (a b : Int) (ha : 0 ≤ a) (hb : 0 ≤ b) (h : a + b < 340282366920938463463374607431768211456) (w : World) :
    Calls Tryz.prog 93 #[WV a, WV b] w fun e w' => e = .returned (.tuple #[WV (a + b), .int .i64 0]) ∧ Below w.heap.size w w' := by
  have h1 := wv_words ha (by omega)
  have h2 := wv_words hb (by omega)
  have h3 := W_add a b
  have h4 := (wv_words (z := a + b) (by omega) h).1
  refine (WAdd_any (hiW a) (loW a) (hiW b) (loW b) h1.1 h1.2.1 h2.1 h2.2.1 (by rw [← h3.2]; exact h4.2) w).mono ?_
  rintro e w' ⟨rfl, hw⟩
  refine ⟨?_, hw⟩
  unfold WV
  rw [h3.1, h3.2]
theorem Mul_any (x y : Int) (hx : Word x) (hy : Word y) (w : World) :
    Calls Tryz.prog 65 #[.int .u64 x, .int .u64 y] w fun e w' => e = .returned (WV (x * y)) ∧ Below w.heap.size w w' := WMul_any x y w hx.1 hx.2 hy.1 hy.2
theorem Cmp_any (a b : Int) (ha : 0 ≤ a ∧ a < 340282366920938463463374607431768211456) (hb : 0 ≤ b ∧ b < 340282366920938463463374607431768211456) (w : World) :
    Calls Tryz.prog 64 #[WV a, WV b] w fun e w' => e = .returned (.int .i64 (ord a b)) ∧ Below w.heap.size w w' := by
  have h1 := wv_words ha.1 ha.2
  have h2 := wv_words hb.1 hb.2
  refine (WCmp_any (hiW a) (loW a) (hiW b) (loW b) w h1.2.1.1 h1.2.1.2 h2.2.1.1 h2.2.1.2).mono ?_
  rintro e w' ⟨rfl, hw⟩
  rw [h1.2.2, h2.2.2]
  exact ⟨rfl, hw⟩
theorem sub64 (x y c : Int) (hx : 0 ≤ x) (hy : 0 ≤ y) (hy1 : y ≤ 18446744073709551615) (hc0 : 0 ≤ c) (hc : c ≤ 1) (w : World) : (callFunc 124 #[.int .u64 x, .int .u64 y, .int .u64 c]).run Tryz.prog w =
    .ok (.value (.tuple #[.int .u64 ((x - y - c) % 18446744073709551616), .int .u64 (if x < y + c then 1 else 0)])) w := by
  obtain ⟨x, rfl⟩ := Int.eq_ofNat_of_zero_le hx
  obtain ⟨y, rfl⟩ := Int.eq_ofNat_of_zero_le hy
  obtain ⟨c, rfl⟩ := Int.eq_ofNat_of_zero_le hc0
  rw [run_callFunc_extern Tryz.func124 (by kernel_rfl) (by kernel_rfl) (by kernel_rfl) (e := sub64Entry) (by kernel_rfl), run_sub64 x y c (by omega)]
  have e1 : (((x + 18446744073709551616 - y - c) % 18446744073709551616 : Nat) : Int) = ((x : Int) - y - c) % 18446744073709551616 := by omega
  have e2 : ((if x < y + c then 1 else 0 : Nat) : Int) = if (x : Int) < y + c then 1 else 0 := by split <;> split <;> omega
  show Result.ok (Next.value (.tuple #[.int .u64 _, .int .u64 _])) w = _
  rw [e1, e2]
set_option maxHeartbeats 1000000 in
theorem Sub_any (a b : Int) (hb : 0 ≤ b) (hle : b ≤ a) (h : a < 340282366920938463463374607431768211456) (w : World) :
    Calls Tryz.prog 95 #[WV a, WV b] w fun e w' => e = .returned (.tuple #[WV (a - b), .int .i64 0]) ∧ Below w.heap.size w w' := by
  have h1 := wv_words (z := a) (by omega) h
  have h2 := wv_words hb (by omega)
  have h3 := W_sub a b
  have h4 := wv_words (z := a - b) (by omega) (by omega)
  unfold WV
  generalize hiW a = ah at *
  generalize loW a = al at *
  generalize hiW b = bh at *
  generalize loW b = bl at *
  obtain ⟨⟨a1, a2⟩, ⟨b1, b2⟩, _⟩ := h1
  obtain ⟨⟨c1, c2⟩, ⟨d1, d2⟩, _⟩ := h2
  have k0 : (0 : Int) ≤ (if al < bl + 0 then 1 else 0) ∧ (if al < bl + 0 then (1 : Int) else 0) ≤ 1 := by split <;> omega
  obtain ⟨c, hc⟩ : ∃ c : Int, (if al < bl + 0 then (1 : Int) else 0) = c := ⟨_, rfl⟩
  have e1 := sub64 al bl 0 b1 d1 d2 (Int.le_refl 0) (by decide)
  rw [hc] at e1 k0
  have hhi : hiW (a - b) = ah - bh - c := by rw [h3.2, ← hc]; simp
  have hlo : loW (a - b) = (al - bl - 0) % 18446744073709551616 := by rw [h3.1]; simp
  have hx := h4.1
  rw [hhi] at hx
  have k1 : (if ah < bh + c then (1 : Int) else 0) = 0 := by rw [if_neg (by have := hx.1; omega)]
  have k2 : (ah - bh - c) % 18446744073709551616 = ah - bh - c := by have := hx.1; have := hx.2; omega
  have e2 := sub64 ah bh c a1 c1 c2 k0.1 k0.2
  rw [k1, k2] at e2
  rw [hhi, hlo]
  obtain ⟨lo, hl⟩ : ∃ lo, (al - bl - 0) % 18446744073709551616 = lo := ⟨_, rfl⟩
  rw [hl] at e1 ⊢
  obtain ⟨hi, hh⟩ : ∃ hi, ah - bh - c = hi := ⟨_, rfl⟩
  rw [hh] at e2 ⊢
  clear h3 h4 hc hhi hlo hx k1 k2 hl hh
  go_enter Tryz.func95, Tryz.ntmps95
  go_wp2_with (first | simp only [e1] | simp only [e2])
  refine bodyPost_ret (v := .tuple #[.agg #[.int .u64 hi, .int .u64 lo], .int .i64 0]) (by simp [results, Tryz.results95, go_sem]) rfl ?_
  exact ⟨rfl, below_alloc3 _ _ _ _⟩
theorem size_any (a : Int) (w : World) (a0 : -9223372036854775808 < a) (a1 : a ≤ 9223372036854775807) :
    Calls Tryz.prog 94 #[.int .i64 a] w fun e w' => e = .returned (.int .u64 (a.natAbs : Int)) ∧ w = w' := by
  have e : wrap64 (-a) = -a := by unfold wrap64; omega
  go_enter Tryz.func94, Tryz.ntmps94
  go_wp2
  go_ret
  exact ⟨ret_int (by omega), rfl⟩
end Go.Proofs.YtodiipkedhfncaaGreatDoor.WidX
