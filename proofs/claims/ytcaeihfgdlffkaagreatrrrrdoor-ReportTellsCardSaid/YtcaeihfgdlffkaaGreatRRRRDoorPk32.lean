/- The reference's Big of a wide number, and its Deviation, walked (printed by mkrdv.py). -/
import Derived.Test.YtcaeihfgdlffkaaGreatRRRRDoorPk12
namespace Go.Proofs.YtcaeihfgdlffkaaGreatRRRRDoor.RdvW
set_option linter.unusedVariables false
set_option linter.unusedSimpArgs false
open Go.RowKit Base BigM BigW BigZ WideM RptM RptO RptC WidX SeqM HzW RotW DevW

theorem own_lit (w : World) (cs : Array Value) (e : TypeId) (n : Nat) (hk : cs.size = n) (hn : n ≤ maxLen) : (w.alloc (.cells cs e)).ownsRow w.heap.size e 1 (.slice (some ⟨w.heap.size, 0, none⟩) n n) n cs.toList :=
  ⟨by simp [hk], .inr ⟨w.heap.size, n, cs, rfl, Nat.le_refl _, heap_alloc_new w _, Nat.le_refl _, hn, by omega, by rw [Nat.mul_one, ← hk]; exact List.take_of_length_le (by simp)⟩⟩
theorem turn_canon : Canon [0, 0, 0, 0, 1] := ⟨by intro d hd; simp at hd; omega, by intro d hd; simp at hd; omega⟩
theorem Turn64_any (w : World) : Calls Tryz.prog 93 #[] w fun e w' => (∃ v, e = .returned v ∧ Big w' w.heap.size w'.heap.size v two64 5) ∧ Below w.heap.size w w' := by
  go_enter Tryz.func93, Tryz.ntmps93
  go_wp2
  go_ret
  refine ⟨⟨_, rfl, some ⟨w.heap.size, 0, none⟩, 5, 5, [0, 0, 0, 0, 1], rfl, ?_⟩, below_alloc1 _ _⟩
  exact { rd := Rd.of_own (own_lit w #[.int .i64 0, .int .i64 0, .int .i64 0, .int .i64 0, .int .i64 1] _ 5 rfl (by unfold maxLen; omega)), len := rfl, capl := Nat.le_refl _, capm := by unfold maxLen; omega, canon := turn_canon, val := by simp [val, two64], small := Nat.le_refl _ }
set_option maxHeartbeats 2000000 in
theorem RBig_any (a : Int) (ha : Spr a) (w : World) :
    Calls Tryz.prog 54 #[WV a] w fun e w' => (∃ v, e = .returned v ∧ Big w' w.heap.size w'.heap.size v a 10) ∧ Below w.heap.size w w' := by
  have h1 := wv_words ha.1 ha.2
  obtain ⟨hi, eh⟩ : ∃ hi, hiW a = hi := ⟨_, rfl⟩
  obtain ⟨lo, el⟩ : ∃ lo, loW a = lo := ⟨_, rfl⟩
  unfold WV
  rw [eh, el] at h1 ⊢
  have HV := Lib.hid h1.2.2
  have HOF := Lib.hid (fun W => Of_any hi W h1.1.1 (by have := h1.1.2; omega))
  have HOL := Lib.hid (fun W => Of_any lo W h1.2.1.1 (by have := h1.2.1.2; omega))
  clear eh el h1
  go_enter Tryz.func54, Tryz.ntmps54
  go_wp2_with fail
  obtain ⟨W, eW⟩ : ∃ W, w.alloc (.cells #[.int .u64 hi, .int .u64 lo] 49) = W := ⟨_, rfl⟩
  have HC := Lib.hid (show W.cell? ⟨w.heap.size, 0, none⟩ = some (.int .u64 hi) ∧ W.cell? ⟨w.heap.size, 1, none⟩ = some (.int .u64 lo) by subst eW; constructor <;> go_simp)
  have HB := Lib.hid (show Below w.heap.size w W by rw [← eW]; exact below_alloc1 _ _)
  try rw [eW]
  clear eW
  refine regionZ 9 (fun w' => w'.cell? ⟨w.heap.size, 0, none⟩ = some (.int .u64 hi) ∧ w'.cell? ⟨w.heap.size, 1, none⟩ = some (.int .u64 lo)) (by kernel_rfl) (⟨HC.out.1, HC.out.2⟩) (fun hH => ?_)
  refine takeZ 0 (v := ?_) (gi rfl) (by kernel_rfl) (fun _ _ _ h => h) hH (.inl ⟨rfl, fun w hW => ?_⟩) ?_
  rotate_left
  · (go_simp; try with_reducible rfl)
  try simp only [Act.put, List.setIfInBounds_toArray, List.set_cons_zero, List.set_cons_succ]
  refine takeZ 1 (v := ?_) (gi rfl) (by kernel_rfl) (fun _ _ _ h => h) hH (.inl ⟨rfl, fun w hW => ?_⟩) ?_
  rotate_left
  · (obtain ⟨hW1, hW2⟩ := hW; go_simp; try with_reducible rfl)
  try simp only [Act.put, List.setIfInBounds_toArray, List.set_cons_zero, List.set_cons_succ]
  refine takeZ 5 (v := ?_) (gi rfl) (by kernel_rfl) (fun _ _ _ h => h) hH (.inl ⟨rfl, fun w hW => ?_⟩) ?_
  rotate_left
  · (go_simp; try with_reducible rfl)
  try simp only [Act.put, List.setIfInBounds_toArray, List.set_cons_zero, List.set_cons_succ]
  refine takeZ 6 (v := ?_) (gi rfl) (by kernel_rfl) (fun _ _ _ h => h) hH (.inl ⟨rfl, fun w hW => ?_⟩) ?_
  rotate_left
  · (obtain ⟨hW1, hW2⟩ := hW; go_simp; try with_reducible rfl)
  try simp only [Act.put, List.setIfInBounds_toArray, List.set_cons_zero, List.set_cons_succ]
  refine oneZ 2 (by kernel_rfl) (gi rfl) (fun K hK => ?_)
  try simp only [Act.put, List.setIfInBounds_toArray, List.set_cons_zero, List.set_cons_succ]
  go_simp
  refine (HOF.out _).mono ?_
  rintro e w1 ⟨⟨v1, rfl, hv1⟩, hb1⟩
  have HB1 := Lib.hid hb1
  have HV1 := Lib.hid hv1
  clear hb1 hv1
  refine hK.out _ _ (fun _ => ⟨(keepA HB1.out HC.out.1), (keepA HB1.out HC.out.2)⟩) (fun hH => ?_)
  replace hH := hH (by decide)
  clear hK K
  try simp only [Act.put, List.setIfInBounds_toArray, List.set_cons_zero, List.set_cons_succ]
  refine oneZ 3 (by kernel_rfl) (gi rfl) (fun K hK => ?_)
  try simp only [Act.put, List.setIfInBounds_toArray, List.set_cons_zero, List.set_cons_succ]
  go_simp
  refine (Turn64_any _).mono ?_
  rintro e w2 ⟨⟨v2, rfl, hv2⟩, hb2⟩
  have HB2 := Lib.hid hb2
  have HV2 := Lib.hid hv2
  clear hb2 hv2
  refine hK.out _ _ (fun _ => ⟨(keepA HB2.out (keepA HB1.out HC.out.1)), (keepA HB2.out (keepA HB1.out HC.out.2))⟩) (fun hH => ?_)
  replace hH := hH (by decide)
  clear hK K
  try simp only [Act.put, List.setIfInBounds_toArray, List.set_cons_zero, List.set_cons_succ]
  refine oneZ 4 (by kernel_rfl) (gi rfl) (fun K hK => ?_)
  try simp only [Act.put, List.setIfInBounds_toArray, List.set_cons_zero, List.set_cons_succ]
  go_simp
  refine (Times_any _ _ _ _ _ _ _ (HV1.out.up HB2.out) (HV2.out.more (Nat.zero_le _) (Nat.le_refl _) (Nat.le_refl _)) (by omega) (by omega)).mono ?_
  rintro e w3 ⟨⟨v3, rfl, hv3⟩, hb3⟩
  have HB3 := Lib.hid hb3
  have HV3 := Lib.hid hv3
  clear hb3 hv3
  refine hK.out _ _ (fun _ => ⟨(keepA HB3.out (keepA HB2.out (keepA HB1.out HC.out.1))), (keepA HB3.out (keepA HB2.out (keepA HB1.out HC.out.2)))⟩) (fun hH => ?_)
  replace hH := hH (by decide)
  clear hK K
  try simp only [Act.put, List.setIfInBounds_toArray, List.set_cons_zero, List.set_cons_succ]
  refine oneZ 7 (by kernel_rfl) (gi rfl) (fun K hK => ?_)
  try simp only [Act.put, List.setIfInBounds_toArray, List.set_cons_zero, List.set_cons_succ]
  go_simp
  refine (HOL.out _).mono ?_
  rintro e w4 ⟨⟨v4, rfl, hv4⟩, hb4⟩
  have HB4 := Lib.hid hb4
  have HV4 := Lib.hid hv4
  clear hb4 hv4
  refine hK.out _ _ (fun _ => ⟨(keepA HB4.out (keepA HB3.out (keepA HB2.out (keepA HB1.out HC.out.1)))), (keepA HB4.out (keepA HB3.out (keepA HB2.out (keepA HB1.out HC.out.2))))⟩) (fun hH => ?_)
  replace hH := hH (by decide)
  clear hK K
  try simp only [Act.put, List.setIfInBounds_toArray, List.set_cons_zero, List.set_cons_succ]
  refine oneZ 8 (by kernel_rfl) (gi rfl) (fun K hK => ?_)
  try simp only [Act.put, List.setIfInBounds_toArray, List.set_cons_zero, List.set_cons_succ]
  go_simp
  refine (Plus_any _ _ _ _ _ _ _ (HV3.out.up HB4.out) (HV4.out.more (Nat.zero_le _) (Nat.le_refl _) (Nat.le_refl _)) (by omega) (by omega)).mono ?_
  rintro e w5 ⟨⟨v5, rfl, hv5⟩, hb5⟩
  have HB5 := Lib.hid hb5
  have HV5 := Lib.hid hv5
  clear hb5 hv5
  refine hK.out _ _ (fun _ => ⟨(keepA HB5.out (keepA HB4.out (keepA HB3.out (keepA HB2.out (keepA HB1.out HC.out.1))))), (keepA HB5.out (keepA HB4.out (keepA HB3.out (keepA HB2.out (keepA HB1.out HC.out.2)))))⟩) (fun hH => ?_)
  replace hH := hH (by decide)
  clear hK K
  try simp only [Act.put, List.setIfInBounds_toArray, List.set_cons_zero, List.set_cons_succ]
  refine yieldZ 9 (v := ?_) (by kernel_rfl) (gi rfl) hH (.inl ⟨rfl, fun w hW => ?_⟩) ?_
  rotate_left
  · (go_simp; try with_reducible rfl)
  try simp only [Act.put, List.setIfInBounds_toArray, List.set_cons_zero, List.set_cons_succ]
  refine doneZ (by kernel_rfl) ?_ _
  clear hH
  go_wp2
  go_ret
  rw [HV.out] at HV5
  have hz : w.heap.size ≤ w4.heap.size := Nat.le_trans HB.out.size (Nat.le_trans HB1.out.size (Nat.le_trans HB2.out.size (Nat.le_trans HB3.out.size HB4.out.size)))
  exact ⟨⟨_, rfl, HV5.out.more hz (Nat.le_refl _) (by omega)⟩, bt HB5.out (bt HB4.out (bt HB3.out (bt HB2.out (bt HB1.out HB.out.drew))))⟩
/-- the reference's loop: the root so far, the next bit -/
def RdRel (a : Nat) (W w : World) (r k : Value) (wr : World) : Prop := ∃ (n x : Nat), n ≤ 64 ∧ k = .int .i64 ((n : Int) - 1) ∧ r = .int .u64 (x : Int) ∧ Rt n x ∧ rootK a n x = rootF a ∧ Below W.heap.size W wr ∧ Below w.heap.size w wr
set_option maxHeartbeats 4000000 in
theorem RDev_any (c : Col) (n : Int) (hs : Spr c.sp) (hn : -9223372036854775808 ≤ n ∧ n ≤ 9223372036854775807) (w : World) :
    Calls Tryz.prog 30 #[CV c, .int .i64 n] w fun e w' => e = .returned (.tuple #[.int .i64 (devV c.sp n), .int .i64 (devE c.sp n)]) ∧ Below w.heap.size w w' := by
  obtain ⟨l, m, d, s, a⟩ := c
  have HS := Lib.hid hs
  obtain ⟨hi, eh⟩ : ∃ hi, hiW a = hi := ⟨_, rfl⟩
  obtain ⟨lo, el⟩ : ∃ lo, loW a = lo := ⟨_, rfl⟩
  have HW := Lib.hid (show WV a = .agg #[.int .u64 hi, .int .u64 lo] by unfold WV; rw [eh, el])
  have HC : CV ⟨l, m, d, s, a⟩ = .agg #[.int .i64 l, .int .i64 m, .int .i64 d, .int .i64 s, .int .u64 hi, .int .u64 lo] := by
    unfold CV colC; rw [eh, el]
  rw [HC]
  clear HC eh el hs
  by_cases h1 : n < 1
  · have F := Lib.hid (dev_arg (a := a) (n := n) (.inl h1))
    go_enter Tryz.func30, Tryz.ntmps30
    go_wp2
    go_ret2
    exact ⟨ret_int2 F.out.1.symm F.out.2.symm, below_alloc1 _ _⟩
  by_cases h2 : 256 < n
  · have F := Lib.hid (dev_arg (a := a) (n := n) (.inr h2))
    go_enter Tryz.func30, Tryz.ntmps30
    go_wp2
    go_ret2
    exact ⟨ret_int2 F.out.1.symm F.out.2.symm, below_alloc1 _ _⟩
  have hr : rootF a.toNat < 18446744073709551616 := rootF_lt (by have h8 : 0 ≤ a ∧ a < 340282366920938463463374607431768211456 := HS.out; omega)
  have HNB := Lib.hid (And.intro h1 h2)
  have hn0 : (n == 0) = false := by simpa using (by omega : n ≠ 0)
  have hu : IntKind.u64.wrap n = n := IntWalk.u64_in _ (by omega)
  have HU := Lib.hid hu
  go_enter Tryz.func30, Tryz.ntmps30
  go_wp2_with fail
  rw [← HW.out]
  refine (RBig_any a HS.out _).mono ?_
  rintro e W ⟨⟨vb, rfl, hvb⟩, hb1⟩
  have HV := Lib.hid (hvb.more (Nat.zero_le _) (Nat.le_refl _) (Nat.le_refl _))
  have HB := Lib.hid (bt hb1 (below_alloc1 w _))
  clear hb1 hvb
  have H0 := Lib.hid (show RdRel a.toNat W w (.int .u64 0) (.int .i64 63) W from ⟨64, 0, Nat.le_refl _, rfl, rfl, rt_start, rfl, Below.refl _ _, HB.out⟩)
  go_wp2
  go_loopw [7, 8] (fun r k wr => RdRel a.toNat W w r k wr) (fun _ k _ => (intOf k + 1).toNat)
  case atStart => exact H0.out
  case round =>
    obtain ⟨b, x, hn, rfl, rfl, hr', hk, hb, hb0⟩ := hrel
    cases b with
    | zero =>
      have HX := Lib.hid (show x = rootF a.toNat from hk)
      have hx1 : x < 18446744073709551616 := by rw [HX.out]; exact hr
      clear hk
      have hq0 : 0 ≤ (x : Int) / n := Int.ediv_nonneg (by omega) (by omega)
      have hq1 : (x : Int) / n ≤ 18446744073709551615 := Int.le_trans (Int.ediv_le_self _ (by omega)) (by omega)
      have ht : (x : Int).tdiv n = (x : Int) / n := Int.tdiv_eq_ediv_of_nonneg (by omega)
      have HB0 := Lib.hid hb0
      by_cases h3 : 9223372036854775807 < (x : Int) / n
      · have F := Lib.hid (dev_over (a := a) (n := n) (by omega) (by rw [← HX.out]; exact h3))
        obtain ⟨q, eq⟩ : ∃ q, (x : Int) / n = q := ⟨_, rfl⟩
        rw [eq] at h3 hq0 hq1
        go_wp2
        go_ret2
        exact ⟨ret_int2 F.out.1.symm F.out.2.symm, HB0.out⟩
      · have F := Lib.hid (dev_ok (a := a) (n := n) (by omega) (by rw [← HX.out]; exact h3))
        rw [← HX.out] at F
        obtain ⟨q, eq⟩ : ∃ q, (x : Int) / n = q := ⟨_, rfl⟩
        rw [eq] at h3 hq0 hq1 F
        have hi64 := IntWalk.i64_in q (by omega)
        go_wp2
        go_ret2
        exact ⟨ret_int2 F.out.1.symm F.out.2.symm, HB0.out⟩
    | succ b =>
      have HR := Lib.hid hr'
      have HK := Lib.hid hk
      have HB0 := Lib.hid hb0
      have HBW := Lib.hid hb
      obtain ⟨y, ey⟩ : ∃ y, x + 2 ^ b = y := ⟨_, rfl⟩
      have hy : y < 18446744073709551616 := by rw [← ey]; exact rt_room (by omega) hr'
      have hp : IntKind.u64.wrap (2 ^ b) = ((2 ^ b : Nat) : Int) := by rw [pow_cast]; generalize (2 : Nat) ^ b = p at ey; exact IntWalk.u64_in _ (by omega)
      have hyw : (x : Int) + IntKind.u64.wrap (2 ^ b) = (y : Int) := by rw [hp, ← ey]; simp
      have HY := Lib.hid ey
      have hyW : IntKind.u64.wrap (y : Int) = (y : Int) := IntWalk.u64_in _ (by omega)
      have HYW := Lib.hid (And.intro hyw hyW)
      have HOF := Lib.hid (fun W' => Of_any (y : Int) W' (by omega) (by omega))
      have HD := Lib.hid (show (y * y ≤ a.toNat ↔ (y : Int) * y ≤ a) by
        have : ((y * y : Nat) : Int) = (y : Int) * y := by rw [Int.natCast_mul]
        have := HS.out.1
        omega)
      clear H0 hr' hk hb0 hb hp ey hyw hyW
      go_wp2_with fail
      rw [HYW.out.1, HYW.out.2]
      refine (HOF.out _).mono ?_
      rintro e w1 ⟨⟨v1, rfl, hv1⟩, hb1⟩
      have HV1 := Lib.hid (hv1.more (Nat.zero_le _) (Nat.le_refl _) (Nat.le_refl _))
      have HB1 := Lib.hid hb1
      clear hv1 hb1
      go_wp2_with fail
      refine (Times_any _ _ _ _ _ _ _ HV1.out HV1.out (by omega) (by omega)).mono ?_
      rintro e w2 ⟨⟨v2, rfl, hv2⟩, hb2⟩
      have HV2 := Lib.hid (hv2.more (Nat.zero_le _) (Nat.le_refl _) (Nat.le_refl _))
      have HB2 := Lib.hid hb2
      clear hv2 hb2
      have HVB := Lib.hid ((HV.out.up (HBW.out)).up (HB1.out) |>.up HB2.out)
      go_wp2_with fail
      refine (Order_any _ _ _ _ _ _ _ HV2.out HVB.out (by omega) (by omega)).mono ?_
      rintro e w3 ⟨rfl, q, rfl⟩
      have HBX := Lib.hid (And.intro (below_drewN (bt HB2.out (bt HB1.out HBW.out)) q) (below_drewN (bt HB2.out (bt HB1.out HB0.out)) q))
      have HYX := Lib.hid (show IntKind.u64.wrap ((x : Int) + IntKind.u64.wrap (2 ^ b)) = (y : Int) by rw [HYW.out.1, HYW.out.2])
      by_cases hle : (y : Int) * y ≤ a
      · have ho : ord ((y : Int) * y) a ≤ 0 := by unfold ord; split <;> (try split) <;> omega
        have hS : rootS a.toNat x b = y := by unfold rootS; rw [HY.out, if_pos (HD.out.2 hle)]
        have HN := Lib.hid (show Rt b y ∧ rootK a.toNat b y = rootF a.toNat from ⟨by rw [← HY.out]; exact rt_up (by omega) HR.out, by have := HK.out; rw [rootK, hS] at this; exact this⟩)
        generalize ord ((y : Int) * y) a = o at *
        clear hle hS
        go_wp2
        exact ⟨⟨b, y, by omega, by go_num, by rw [HYX.out], HN.out.1, HN.out.2, HBX.out.1, HBX.out.2⟩, by simp [intOf]⟩
      · have ho : 0 < ord ((y : Int) * y) a := by unfold ord; split <;> (try split) <;> omega
        have hS : rootS a.toNat x b = x := by unfold rootS; rw [HY.out, if_neg (fun h => hle (HD.out.1 h))]
        have HN := Lib.hid (show Rt b x ∧ rootK a.toNat b x = rootF a.toNat from ⟨rt_down HR.out, by have := HK.out; rw [rootK, hS] at this; exact this⟩)
        generalize ord ((y : Int) * y) a = o at *
        clear hle hS
        go_wp2
        exact ⟨⟨b, x, by omega, by go_num, rfl, HN.out.1, HN.out.2, HBX.out.1, HBX.out.2⟩, by simp [intOf]⟩
end Go.Proofs.YtcaeihfgdlffkaaGreatRRRRDoor.RdvW
