/- report.Deviation, walked. -/
import Derived.Test.YtodiipkedhfncaaGreatDoorRotW
namespace Go.Proofs.YtodiipkedhfncaaGreatDoor.DevW
set_option linter.unusedVariables false
set_option linter.unusedSimpArgs false
open Go.RowKit Base BigM BigZ WideM RptM RptO RptC WidX SeqM HzW RotW

/-- a column as a value -/
structure Col where
  least : Int
  most : Int
  mid : Int
  sum : Int
  sp : Int
def colC (c : Col) : List Value := [.int .i64 c.least, .int .i64 c.most, .int .i64 c.mid, .int .i64 c.sum, .int .u64 (hiW c.sp), .int .u64 (loW c.sp)]
def CV (c : Col) : Value := .agg (colC c).toArray
def Spr (z : Int) : Prop := 0 ≤ z ∧ z < 340282366920938463463374607431768211456
set_option maxHeartbeats 2000000 in
theorem Dev_any (c : Col) (n : Int) (hs : Spr c.sp) (hn : -9223372036854775808 ≤ n ∧ n ≤ 9223372036854775807) (w : World) :
    Calls Tryz.prog 16 #[CV c, .int .i64 n] w fun e w' => e = .returned (.tuple #[.int .i64 (devV c.sp n), .int .i64 (devE c.sp n)]) ∧ Below w.heap.size w w' := by
  obtain ⟨l, m, d, s, a⟩ := c
  have HS := Lib.hid hs
  obtain ⟨hi, eh⟩ : ∃ hi, hiW a = hi := ⟨_, rfl⟩
  obtain ⟨lo, el⟩ : ∃ lo, loW a = lo := ⟨_, rfl⟩
  have HW := Lib.hid (show WV a = .agg #[.int .u64 hi, .int .u64 lo] by unfold WV; rw [eh, el])
  have HC : CV ⟨l, m, d, s, a⟩ = .agg #[.int .i64 l, .int .i64 m, .int .i64 d, .int .i64 s, .int .u64 hi, .int .u64 lo] := by
    unfold CV colC; rw [eh, el]
  rw [HC]
  clear HC eh el hs
  by_cases h1 : n < 1
  · have F := Lib.hid (dev_arg (a := a) (n := n) (.inl h1))
    go_enter Tryz.func16, Tryz.ntmps16
    go_wp2
    go_ret2
    exact ⟨ret_int2 F.out.1.symm F.out.2.symm, below_alloc1 _ _⟩
  by_cases h2 : 256 < n
  · have F := Lib.hid (dev_arg (a := a) (n := n) (.inr h2))
    go_enter Tryz.func16, Tryz.ntmps16
    go_wp2
    go_ret2
    exact ⟨ret_int2 F.out.1.symm F.out.2.symm, below_alloc1 _ _⟩
  have HR := Lib.hid (fun W => Root_any a HS.out.1 HS.out.2 W)
  have hr : rootF a.toNat < 18446744073709551616 := rootF_lt (by have h8 : 0 ≤ a ∧ a < 340282366920938463463374607431768211456 := HS.out; omega)
  obtain ⟨r, er⟩ : ∃ r, rootF a.toNat = r := ⟨_, rfl⟩
  rw [er] at hr HR
  have hq0 : 0 ≤ (r : Int) / n := Int.ediv_nonneg (by omega) (by omega)
  have hq1 : (r : Int) / n ≤ 18446744073709551615 := Int.le_trans (Int.ediv_le_self _ (by omega)) (by omega)
  have hn0 : (n == 0) = false := by simpa using (by omega : n ≠ 0)
  have hu : IntKind.u64.wrap n = n := IntWalk.u64_in _ (by omega)
  have HU := Lib.hid hu
  have ht : (r : Int).tdiv n = (r : Int) / n := Int.tdiv_eq_ediv_of_nonneg (by omega)
  by_cases h3 : 9223372036854775807 < (r : Int) / n
  · have F := Lib.hid (dev_over (a := a) (n := n) (by omega) (by rw [er]; exact h3))
    obtain ⟨q, eq⟩ : ∃ q, (r : Int) / n = q := ⟨_, rfl⟩
    rw [eq] at h3 hq0 hq1
    go_enter Tryz.func16, Tryz.ntmps16
    go_wp2_with fail
    rw [← HW.out]
    refine (HR.out _).mono ?_
    rintro e w1 ⟨rfl, hb1⟩
    have HB := Lib.hid (bt hb1 (below_alloc1 w _))
    clear hb1
    go_wp2
    go_ret2
    exact ⟨ret_int2 F.out.1.symm F.out.2.symm, HB.out⟩
  · have F := Lib.hid (dev_ok (a := a) (n := n) (by omega) (by rw [er]; exact h3))
    rw [er] at F
    obtain ⟨q, eq⟩ : ∃ q, (r : Int) / n = q := ⟨_, rfl⟩
    rw [eq] at h3 hq0 hq1 F
    have hi64 := IntWalk.i64_in q (by omega)
    go_enter Tryz.func16, Tryz.ntmps16
    go_wp2_with fail
    rw [← HW.out]
    refine (HR.out _).mono ?_
    rintro e w1 ⟨rfl, hb1⟩
    have HB := Lib.hid (bt hb1 (below_alloc1 w _))
    clear hb1
    go_wp2
    go_ret2
    exact ⟨ret_int2 F.out.1.symm F.out.2.symm, HB.out⟩
end Go.Proofs.YtodiipkedhfncaaGreatDoor.DevW
