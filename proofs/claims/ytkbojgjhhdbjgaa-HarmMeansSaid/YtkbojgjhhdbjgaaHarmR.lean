/- The walks of the laws HarmMeans and HarmFracs. -/
import Derived.Test.YtkbojgjhhdbjgaaHarmS
namespace Go.Proofs.Ytkbojgjhhdbjgaa.HarmS
set_option linter.unusedVariables false
open Go.RowKit Base BigM BigW BigZ GcdW GcdM RatM RatW RefRat HarmM HarmW HarmL

theorem mlo_bd (n : Int) (k : Nat) (h : held n = k) : 0 ≤ mlo k ∧ mlo k ≤ 549755813888 ∧ 0 ≤ mhi k ∧ mhi k ≤ 549755814400 ∧ mlo k ≤ normK k ∧ normK k ≤ mhi k := by
  obtain ⟨e1, e2, e3⟩ := norm_of n k h
  rw [← e1, ← e2, ← e3]
  exact ⟨(eLo_bd n).1, (eLo_bd n).2, (eHi_bd n).1, (eHi_bd n).2, (norm_between n).1, (norm_between n).2⟩
set_option maxRecDepth 100000 in
set_option maxHeartbeats 8000000 in
theorem walkMeans (n : Int) (w : World) (_ : -9223372036854775808 ≤ n ∧ n ≤ 9223372036854775807) :
    Calls Try.prog 5 #[.int .i64 n] w fun e w' => e = .returned (.bool true) ∧ Below w.heap.size w w' := by
  have hh := held_bd n
  obtain ⟨k, hk⟩ : ∃ k : Nat, held n = k := ⟨(held n).toNat, by omega⟩
  have hkk : k ≤ 256 := by omega
  obtain ⟨e1, e2, e3⟩ := norm_of n k hk
  obtain ⟨m1, m2, m3, m4, m5, m6⟩ := mlo_bd n k hk
  have hgrow : 1 ≤ k → k < 256 → normK k < norm ((k : Int) + 1) := by
    intro h1 h2
    have := norm_grows n (by omega) (by omega)
    rwa [e3, hk] at this
  have hsmall : k < 2 → normK k = 0 := by intro h; rw [← e3]; exact norm_small0 n (by omega)
  obtain ⟨lo, elo⟩ : ∃ x, mlo k = x := ⟨_, rfl⟩
  obtain ⟨hi, ehi⟩ : ∃ x, mhi k = x := ⟨_, rfl⟩
  obtain ⟨m, em⟩ : ∃ x, normK k = x := ⟨_, rfl⟩
  rw [elo] at m1 m2 m5
  rw [ehi] at m3 m4 m6
  rw [em] at m5 m6
  have E1 := Lib.hid (show eLo n = lo by rw [e1, elo])
  have E2 := Lib.hid (show eHi n = hi by rw [e2, ehi])
  have E3 := Lib.hid (show norm n = m by rw [e3, em])
  have HG := Lib.hid hgrow
  have HS := Lib.hid hsmall
  have ELO := Lib.hid elo
  have EHI := Lib.hid ehi
  have EM := Lib.hid em
  have HK := Lib.hid hk
  clear hk e1 e2 e3 hgrow hsmall elo ehi em
  by_cases k2 : k < 2
  · have hm0 : m = 0 := by rw [← EM.out]; exact HS.out k2
    subst hm0
    by_cases k1 : 1 ≤ k
    · have hg := HG.out k1 (by omega)
      rw [EM.out] at hg
      go_enter Try.func5, Try.ntmps5
      go_wp2_with fail
      refine (Held_any n _).mono ?_
      rintro e w' ⟨rfl, rfl⟩
      rw [HK.out]
      go_wp2_with fail
      refine (Ends_any n _).mono ?_
      rintro e w' ⟨rfl, q1, rfl⟩
      rw [E1.out, E2.out]
      go_wp2_with fail
      refine (Norm_any n _).mono ?_
      rintro e w' ⟨rfl, q2, rfl⟩
      rw [E3.out]
      go_wp2_with fail
      refine (Norm_any _ _).mono ?_
      rintro e w' ⟨rfl, q3, rfl⟩
      go_wp2_with fail
      refine (lives_any _).mono ?_
      rintro e w10 ⟨rfl, hb10⟩
      go_wp2
      go_ret
      exact ⟨rfl, (below_drewN (Below.refl w.heap.size w) _).trans hb10⟩
    · go_enter Try.func5, Try.ntmps5
      go_wp2_with fail
      refine (Held_any n _).mono ?_
      rintro e w' ⟨rfl, rfl⟩
      rw [HK.out]
      go_wp2_with fail
      refine (Ends_any n _).mono ?_
      rintro e w' ⟨rfl, q1, rfl⟩
      rw [E1.out, E2.out]
      go_wp2_with fail
      refine (Norm_any n _).mono ?_
      rintro e w' ⟨rfl, q2, rfl⟩
      rw [E3.out]
      go_wp2_with fail
      refine (lives_any _).mono ?_
      rintro e w10 ⟨rfl, hb10⟩
      go_wp2
      go_ret
      exact ⟨rfl, (below_drewN (Below.refl w.heap.size w) _).trans hb10⟩
  · have HM := Lib.hid (mean_of k (by omega) hkk)
    obtain ⟨j, rfl⟩ : ∃ j, k = j + 1 := ⟨k - 1, by omega⟩
    have HJ := Lib.hid (show j + 1 - 1 = j by omega)
    have HC := Lib.hid (show ((j + 1 : Nat) : Int) - 1 = (j : Int) by omega)
    have HC1 := Lib.hid (show ((j + 1 : Nat) : Int) = (j : Int) + 1 by omega)
    by_cases k3 : j + 1 < 256
    all_goals
      have hg : j + 1 < 256 → m < norm ((j : Int) + 1 + 1) := by
        intro h
        have := HG.out (by omega) h
        rw [EM.out, HC1.out] at this
        exact this
      first
      | (have hg := hg k3
         go_enter Try.func5, Try.ntmps5
         go_wp2_with fail
         refine (Held_any n _).mono ?_
         rintro e w' ⟨rfl, rfl⟩
         rw [HK.out, HC1.out]
         go_wp2_with fail
         refine (Ends_any n _).mono ?_
         rintro e w' ⟨rfl, q1, rfl⟩
         rw [E1.out, E2.out]
         go_wp2_with fail
         refine (Norm_any n _).mono ?_
         rintro e w' ⟨rfl, q2, rfl⟩
         rw [E3.out]
         go_wp2_with fail
         refine (Norm_any _ _).mono ?_
         rintro e w' ⟨rfl, q3, rfl⟩
         clear hg)
      | (clear hg
         go_enter Try.func5, Try.ntmps5
         go_wp2_with fail
         refine (Held_any n _).mono ?_
         rintro e w' ⟨rfl, rfl⟩
         rw [HK.out, HC1.out]
         go_wp2_with fail
         refine (Ends_any n _).mono ?_
         rintro e w' ⟨rfl, q1, rfl⟩
         rw [E1.out, E2.out]
         go_wp2_with fail
         refine (Norm_any n _).mono ?_
         rintro e w' ⟨rfl, q2, rfl⟩
         rw [E3.out])
      go_wp2_with fail
      generalize hW0 : w.drewN _ = W0
      have hb0 : Below w.heap.size w W0 := by rw [← hW0]; exact below_drewN (Below.refl w.heap.size w) _
      have HW0 := Lib.hid hW0
      clear hW0
      refine (sum_any j _ (by omega)).mono ?_
      rintro e w1 ⟨⟨vt, vb, rfl, ht, hb⟩, hb1⟩
      have HT := Lib.hid ht
      have HB := Lib.hid hb
      have hbz := hb0.trans (hb1.mono hb0.size)
      clear ht hb hb0 hb1
      go_wp2_with fail
      refine (BigW.Of_any _ _ (by omega) (by omega)).mono ?_
      rintro e w2 ⟨⟨v2, rfl, hv2⟩, hb2⟩
      have H2 := Lib.hid (hv2.more (Nat.zero_le _) (Nat.le_refl _) (Nat.le_refl _))
      clear hv2
      go_wp2_with fail
      refine (Times_any _ _ (topN j) ((j : Int) + 1) 4096 4 _ (HT.out.up hb2) H2.out (by omega) (by omega)).mono ?_
      rintro e w3 ⟨⟨v3, rfl, hv3⟩, hb3⟩
      have H3 := Lib.hid (hv3.more (Nat.zero_le _) (Nat.le_refl _) (Nat.le_refl _))
      have hb23 := hb2.trans (hb3.mono hb2.size)
      have HB3 := Lib.hid (HB.out.up hb23)
      have HY3 := Lib.hid (H2.out.up hb3)
      have hbz3 := hbz.trans (hb23.mono hbz.size)
      clear hv3 hb2 hb3 hb23 hbz
      go_wp2_with fail
      refine (BigW.Of_any _ _ (by omega) (by omega)).mono ?_
      rintro e w4 ⟨⟨v4, rfl, hv4⟩, hb4⟩
      have H4 := Lib.hid (hv4.more (Nat.zero_le _) (Nat.le_refl _) (Nat.le_refl _))
      clear hv4
      go_wp2_with fail
      refine (Times_any _ _ (botN j) (j : Int) 4096 4 _ (HB3.out.up hb4) H4.out (by omega) (by omega)).mono ?_
      rintro e w5 ⟨⟨v5, rfl, hv5⟩, hb5⟩
      have H5 := Lib.hid (hv5.more (Nat.zero_le _) (Nat.le_refl _) (Nat.le_refl _))
      have hb45 := hb4.trans (hb5.mono hb4.size)
      clear hv5 hb4 hb5
      go_wp2_with fail
      refine (Minus_any _ _ (topN j * ((j : Int) + 1)) (botN j * j) 4100 4100 _ (H3.out.up hb45) H5.out (by omega) (by have := HM.out.1; rw [HJ.out, HC.out, HC1.out] at this; exact this)).mono ?_
      rintro e w6 ⟨⟨v6, rfl, hv6⟩, hb6⟩
      have hb46 := hb45.trans (hb6.mono hb45.size)
      have H6 := Lib.hid (hv6.more (Nat.zero_le _) (Nat.le_refl _) (Nat.le_refl _))
      have HB6 := Lib.hid (HB3.out.up hb46)
      have HY6 := Lib.hid (HY3.out.up hb46)
      have hbz6 := hbz3.trans (hb46.mono hbz3.size)
      clear hv6 hb45 hb6 hb46 hbz3
      go_wp2_with fail
      have hb7 := below_alloc1 w6 (.cells #[.int .i64 2] 3)
      refine (Times_any _ _ (topN j * ((j : Int) + 1) - botN j * j) 2 4100 1 _ (H6.out.up hb7) (big_one w6 2 (by omega) (by omega)) (by omega) (by omega)).mono ?_
      rintro e w8 ⟨⟨v8, rfl, hv8⟩, hb8⟩
      have H8 := Lib.hid (hv8.more (Nat.zero_le _) (Nat.le_refl _) (Nat.le_refl _))
      have hb78 := hb7.trans (hb8.mono hb7.size)
      clear hv8 hb7 hb8
      go_wp2_with fail
      refine (BigW.Of_any _ _ (by omega) (by omega)).mono ?_
      rintro e w9 ⟨⟨v9, rfl, hv9⟩, hb9⟩
      have H9 := Lib.hid (hv9.more (Nat.zero_le _) (Nat.le_refl _) (Nat.le_refl _))
      clear hv9
      go_wp2_with fail
      refine (Times_any _ _ ((topN j * ((j : Int) + 1) - botN j * j) * 2) 1073741824 4101 4 _ (H8.out.up hb9) H9.out (by omega) (by omega)).mono ?_
      rintro e w10 ⟨⟨v10, rfl, hv10⟩, hb10⟩
      have H10 := Lib.hid (hv10.more (Nat.zero_le _) (Nat.le_refl _) (Nat.le_refl _))
      have hb710 := hb78.trans ((hb9.trans (hb10.mono hb9.size)).mono hb78.size)
      have HB10 := Lib.hid (HB6.out.up hb710)
      have HY10 := Lib.hid (HY6.out.up hb710)
      have hbz10 := hbz6.trans (hb710.mono hbz6.size)
      clear hv10 hb78 hb9 hb10 hb710 hbz6
      go_wp2_with fail
      refine (Times_any _ _ (botN j) ((j : Int) + 1) 4096 4 _ HB10.out HY10.out (by omega) (by omega)).mono ?_
      rintro e w11 ⟨⟨v11, rfl, hv11⟩, hb11⟩
      have HU := Lib.hid (hv11.more (Nat.zero_le _) (Nat.le_refl _) (Nat.le_refl _))
      have HM11 := Lib.hid (H10.out.up hb11)
      have hbz11 := hbz10.trans (hb11.mono hbz10.size)
      clear hv11 hb11 hbz10
      go_wp2_with fail
      refine (BigW.Of_any _ _ (by omega) (by omega)).mono ?_
      rintro e w12 ⟨⟨v12, rfl, hv12⟩, hb12⟩
      have H12 := Lib.hid (hv12.more (Nat.zero_le _) (Nat.le_refl _) (Nat.le_refl _))
      clear hv12
      go_wp2_with fail
      refine (Times_any _ _ lo (botN j * ((j : Int) + 1)) 4 4100 _ H12.out (HU.out.up hb12) (by omega) (by omega)).mono ?_
      rintro e w13 ⟨⟨v13, rfl, hv13⟩, hb13⟩
      have H13 := Lib.hid (hv13.more (Nat.zero_le _) (Nat.le_refl _) (Nat.le_refl _))
      have hb1213 := hb12.trans (hb13.mono hb12.size)
      have HU13 := Lib.hid (HU.out.up hb1213)
      have HM13 := Lib.hid (HM11.out.up hb1213)
      have hbz13 := hbz11.trans (hb1213.mono hbz11.size)
      clear hv13 hb12 hb13 hb1213 hbz11
      go_wp2_with fail
      refine (Order_any _ _ (lo * (botN j * ((j : Int) + 1))) ((topN j * ((j : Int) + 1) - botN j * j) * 2 * 1073741824) 4104 4105 _ H13.out HM13.out (by omega) (by omega)).mono ?_
      rintro e w14 ⟨rfl, p1, rfl⟩
      obtain ⟨o, ho⟩ : ∃ o, ord (lo * (botN j * ((j : Int) + 1))) ((topN j * ((j : Int) + 1) - botN j * j) * 2 * 1073741824) = o := ⟨_, rfl⟩
      have ho1 : o ≤ 0 := by
        rw [← ho]
        have := HM.out.2.1
        unfold mmid at this
        rw [ELO.out, HJ.out, HC.out, HC1.out] at this
        exact ord_le this
      rw [ho]
      clear ho
      go_wp2_with fail
      refine (BigW.Of_any _ _ (by omega) (by omega)).mono ?_
      rintro e w15 ⟨⟨v15, rfl, hv15⟩, hb15⟩
      have hb15 : Below w13.heap.size w13 w15 := (below_drewN (Below.refl w13.heap.size w13) p1).trans hb15
      have H15 := Lib.hid (hv15.more (Nat.zero_le _) (Nat.le_refl _) (Nat.le_refl _))
      clear hv15
      go_wp2_with fail
      refine (Times_any _ _ hi (botN j * ((j : Int) + 1)) 4 4100 _ H15.out (HU13.out.up hb15) (by omega) (by omega)).mono ?_
      rintro e w16 ⟨⟨v16, rfl, hv16⟩, hb16⟩
      have H16 := Lib.hid (hv16.more (Nat.zero_le _) (Nat.le_refl _) (Nat.le_refl _))
      have hb1516 := hb15.trans (hb16.mono hb15.size)
      have hbz16 := hbz13.trans (hb1516.mono hbz13.size)
      clear hv16 hb15 hb16
      go_wp2_with fail
      refine (Order_any _ _ ((topN j * ((j : Int) + 1) - botN j * j) * 2 * 1073741824) (hi * (botN j * ((j : Int) + 1))) 4105 4104 _ (HM13.out.up hb1516) H16.out (by omega) (by omega)).mono ?_
      rintro e w17 ⟨rfl, p2, rfl⟩
      obtain ⟨o2, ho⟩ : ∃ o, ord ((topN j * ((j : Int) + 1) - botN j * j) * 2 * 1073741824) (hi * (botN j * ((j : Int) + 1))) = o := ⟨_, rfl⟩
      have ho3 : o2 ≤ 0 := by
        rw [← ho]
        have := HM.out.2.2
        unfold mmid at this
        rw [EHI.out, HJ.out, HC.out, HC1.out] at this
        exact ord_le this
      rw [ho]
      clear ho
      go_wp2_with fail
      refine (lives_any _).mono ?_
      rintro e w18 ⟨rfl, hb18⟩
      go_wp2
      go_ret
      exact ⟨rfl, (below_drewN hbz16 p2).trans (hb18.mono hbz16.size)⟩
end Go.Proofs.Ytkbojgjhhdbjgaa.HarmS
