/- The walk of copseref01.Order: how two numbers lie, by their digits from the top. -/
import Derived.Test.YtodiipkedhfncaaGreatDoorBigW
namespace Go.Proofs.YtodiipkedhfncaaGreatDoor.BigW
set_option linter.unusedVariables false
open Go.RowKit Base BigM

def OrderRel (w : World) (a b : List Int) (i : Value) (wr : World) : Prop :=
  (∃ q, wr = w.drewN q) ∧ ((i = .int .i64 (-1) ∧ val a = val b) ∨ ∃ j : Nat, j < a.length ∧ i = .int .i64 j ∧ a.drop (j + 1) = b.drop (j + 1))
theorem order_next {w : World} {a b : List Int} {j q : Nat} (hl : a.length = b.length) (hj : j < a.length) (hd : a.drop (j + 1) = b.drop (j + 1)) (he : dg a j = dg b j) (v : Int) (hv : v = (j : Int) - 1) :
    OrderRel w a b (.int .i64 v) (w.drewN q) := by
  have h : a.drop j = b.drop j := by rw [drop_getD a j hj, drop_getD b j (by omega), he, hd]
  subst hv
  refine ⟨⟨q, rfl⟩, ?_⟩
  cases j with
  | zero => exact .inl ⟨rfl, by simp at h; rw [h]⟩
  | succ j => exact .inr ⟨j, by omega, by go_num, h⟩
theorem dig_gt {l r : List Int} (hl : Dig l) (hr : Dig r) (k : Nat) (h1 : k < l.length) (h2 : k < r.length) (he : l.drop (k + 1) = r.drop (k + 1)) (hlt : dg r k < dg l k) : val r < val l :=
  dig_lt hr hl k h2 h1 he.symm hlt

theorem Order_any (va vb : Value) (N M : Int) (s t : Nat) (w : World) (ha : Big w 0 w.heap.size va N s) (hb : Big w 0 w.heap.size vb M t) (hs : s ≤ 1000000) (ht : t ≤ 1000000) :
    Calls Tryz.prog 13 #[va, vb] w fun e w' => e = .returned (.int .i64 (ord N M)) ∧ ∃ q, w' = w.drewN q := by
  obtain ⟨A, n, ca, a, rfl, ha⟩ := ha
  obtain ⟨A2, n2, cb, b, rfl, hb⟩ := hb
  have hn := ha.small
  have hn2 := hb.small
  have HA := Lib.hid ha
  have HB := Lib.hid hb
  have HLA := Lib.hid ha.len
  have HLB := Lib.hid hb.len
  clear ha hb
  rcases Nat.lt_trichotomy n n2 with h | h | h
  · have HR := Lib.hid (show ord N M = -1 from ord_lt (by rw [← HA.out.val, ← HB.out.val]; exact canon_len_lt HA.out.canon.1 HB.out.canon (by rw [HLA.out, HLB.out]; exact h)))
    have hne : (n == n2) = false := by simp; omega
    go_enter Tryz.func13, Tryz.ntmps13
    go_wp2
    go_ret
    exact ⟨ret_int HR.out.symm, 0, rfl⟩
  · subst h
    have HLE := Lib.hid (show a.length = b.length by rw [HLA.out, HLB.out])
    have H0 : OrderRel w a b (.int .i64 ((n : Int) - 1)) w := by
      cases n with
      | zero =>
        have e1 : a = [] := List.eq_nil_of_length_eq_zero HLA.out
        have e2 : b = [] := List.eq_nil_of_length_eq_zero HLB.out
        exact ⟨⟨0, rfl⟩, .inl ⟨rfl, by rw [e1, e2]⟩⟩
      | succ n =>
        exact ⟨⟨0, rfl⟩, .inr ⟨n, by rw [HLA.out]; omega, by go_num, by rw [List.drop_of_length_le (by rw [HLA.out]; omega), List.drop_of_length_le (by rw [HLB.out]; omega)]⟩⟩
    have H0 := Lib.hid H0
    go_enter Tryz.func13, Tryz.ntmps13
    go_wp2
    go_loopw [5] (fun i wr => OrderRel w a b i wr) (fun i _ => (intOf i + 1).toNat)
    case atStart => exact H0.out
    case round =>
      obtain ⟨⟨q, rfl⟩, ⟨rfl, he⟩ | ⟨j, hj, rfl, hd⟩⟩ := hrel
      · have HR := Lib.hid (show ord N M = 0 from ord_eq (by rw [← HA.out.val, ← HB.out.val]; exact he))
        clear he
        go_wp2
        go_ret
        exact ⟨ret_int HR.out.symm, q, rfl⟩
      · have hjn : j < n := by rw [HLA.out] at hj; exact hj
        have HD := Lib.hid hd
        have HJ := Lib.hid hj
        clear hd hj
        obtain ⟨ad, d, rfl, hbl, hcell, HX⟩ := rd_at HA.out.rd hjn
        obtain ⟨ad2, d2, rfl, hbl2, hcell2, HX2⟩ := rd_at HB.out.rd hjn
        by_cases c1 : d < d2
        · have HR := Lib.hid (show ord N M = -1 from ord_lt (by rw [← HA.out.val, ← HB.out.val]; exact dig_lt HA.out.canon.1 HB.out.canon.1 j HJ.out (by rw [HLB.out]; exact hjn) HD.out (by rw [HX.out, HX2.out]; exact c1)))
          go_wp2_with fail
          go_quiet (fail)
          go_wp2
          go_ret
          exact ⟨ret_int HR.out.symm, by simp only [World.drewN_drewN]; exact ⟨_, rfl⟩⟩
        · by_cases c2 : d2 < d
          · have HR := Lib.hid (show ord N M = 1 from ord_gt (by rw [← HA.out.val, ← HB.out.val]; exact dig_gt HA.out.canon.1 HB.out.canon.1 j HJ.out (by rw [HLB.out]; exact hjn) HD.out (by rw [HX.out, HX2.out]; exact c2)))
            go_wp2_with fail
            go_quiet (fail)
            go_wp2_with fail
            go_quiet (fail)
            go_wp2
            go_ret
            exact ⟨ret_int HR.out.symm, by simp only [World.drewN_drewN]; exact ⟨_, rfl⟩⟩
          · have HEQ := Lib.hid (show dg a j = dg b j by rw [HX.out, HX2.out]; omega)
            go_wp2_with fail
            go_quiet (fail)
            go_wp2_with fail
            go_quiet (fail)
            go_wp2
            exact ⟨order_next HLE.out HJ.out HD.out HEQ.out _ rfl, by simp only [intOf]; omega⟩
  · have HR := Lib.hid (show ord N M = 1 from ord_gt (by rw [← HA.out.val, ← HB.out.val]; exact canon_len_lt HB.out.canon.1 HA.out.canon (by rw [HLA.out, HLB.out]; exact h)))
    have hne : (n == n2) = false := by simp; omega
    go_enter Tryz.func13, Tryz.ntmps13
    go_wp2
    go_ret
    exact ⟨ret_int HR.out.symm, 0, rfl⟩
end Go.Proofs.YtodiipkedhfncaaGreatDoor.BigW
