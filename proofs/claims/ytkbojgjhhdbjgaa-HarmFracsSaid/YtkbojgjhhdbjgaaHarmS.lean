/- The walk of the law's sum, and of the laws HarmEncloses, HarmMeans and HarmFracs. -/
import Derived.Test.YtkbojgjhhdbjgaaHarmL
import Derived.Test.YtkbojgjhhdbjgaaHarmP
namespace Go.Proofs.Ytkbojgjhhdbjgaa.HarmS
set_option linter.unusedVariables false
open Go.RowKit Base BigM BigW BigZ GcdW GcdM RatM RatW RefRat HarmM HarmW HarmL

theorem big_one (w : World) (d : Int) (h0 : 0 < d) (h1 : d < 65536) : Big (w.alloc (.cells #[.int .i64 d] 3)) 0 (w.alloc (.cells #[.int .i64 d] 3)).heap.size (.slice (some ⟨w.heap.size, 0, none⟩) 1 1) d 1 := by
  refine ⟨_, 1, 1, [d], rfl, ⟨by simp, fun _ => ⟨_, rfl, Nat.zero_le _, by simp, ?_⟩⟩, rfl, by omega, by unfold maxLen; omega, ⟨?_, ?_⟩, by simp [val], by omega⟩
  · exact fun j u hu => World.news_of_block (heap_alloc_new w _) j u (by simpa using hu)
  · intro x hx; simp at hx; omega
  · intro x hx; simp at hx; omega
theorem Big.up' {w w' : World} {lo : Nat} {v : Value} {N : Int} {s s' : Nat} (h : Big w lo w.heap.size v N s) (hb : Below w.heap.size w w') (hs : s ≤ s') : Big w' 0 w'.heap.size v N s' := (h.up hb).more (Nat.le_refl _) (Nat.le_refl _) hs
def SumRel (w : World) (n : Nat) (t b i : Value) (wr : World) : Prop :=
  ∃ k : Nat, k ≤ n ∧ i = .int .i64 ((k : Int) + 1) ∧ Big wr 0 wr.heap.size t (topN k) (8 * k + 8) ∧ Big wr 0 wr.heap.size b (botN k) (8 * k + 8) ∧ Below w.heap.size w wr
set_option maxHeartbeats 1000000 in
theorem sum_any (n : Nat) (w : World) (hn : n ≤ 256) :
    Calls Try.prog 20 #[.int .i64 (n : Int)] w fun e w' => (∃ t b, e = .returned (.tuple #[t, b]) ∧ Big w' 0 w'.heap.size t (topN n) 4096 ∧ Big w' 0 w'.heap.size b (botN n) 4096) ∧ Below w.heap.size w w' := by
  have H0 := Lib.hid (show SumRel w n (.slice none 0 0) (.slice (some ⟨w.heap.size, 0, none⟩) 1 1) (.int .i64 1) (w.alloc (.cells #[.int .i64 1] 3)) from
    ⟨0, by omega, rfl, big_nil _ _ _ _, (big_one w 1 (by omega) (by omega)).more (Nat.le_refl _) (Nat.le_refl _) (by omega), below_alloc1 _ _⟩)
  go_enter Try.func20, Try.ntmps20
  go_wp2
  go_loopw [4, 5, 6] (fun t b i wr => SumRel w n t b i wr) (fun _ _ i _ => n + 1 - (intOf i).toNat)
  case atStart => exact H0.out
  case round =>
    obtain ⟨k, hk, rfl, ht, hb, hbel⟩ := hrel
    have HT := Lib.hid ht
    have HB := Lib.hid hb
    clear ht hb
    by_cases hlt : k < n
    · go_wp2_with fail
      refine (BigW.Of_any _ _ (by omega) (by omega)).mono ?_
      rintro e w1 ⟨⟨v1, rfl, hv1⟩, hb1⟩
      have H1 := Lib.hid hv1
      clear hv1
      go_wp2_with fail
      refine (Times_any _ _ (topN k) ((k : Int) + 1) (8 * k + 8) 4 _ (HT.out.up hb1) (H1.out.more (Nat.zero_le _) (Nat.le_refl _) (Nat.le_refl _)) (by omega) (by omega)).mono ?_
      rintro e w2 ⟨⟨v2, rfl, hv2⟩, hb2⟩
      have H2 := Lib.hid hv2
      have hb12 := hb1.trans (hb2.mono hb1.size)
      clear hv2
      go_wp2_with fail
      refine (Plus_any _ _ _ (botN k) (8 * k + 12) (8 * k + 8) _ (H2.out.more (Nat.zero_le _) (Nat.le_refl _) (by omega)) (HB.out.up hb12) (by omega) (by omega)).mono ?_
      rintro e w3 ⟨⟨v3, rfl, hv3⟩, hb3⟩
      have H3 := Lib.hid hv3
      have hb13 := hb12.trans (hb3.mono hb12.size)
      clear hv3
      go_wp2_with fail
      refine (Times_any _ _ (botN k) ((k : Int) + 1) (8 * k + 8) 4 _ (HB.out.up hb13) ((H1.out.more (Nat.zero_le _) (Nat.le_refl _) (Nat.le_refl _)).up (hb2.trans (hb3.mono hb2.size))) (by omega) (by omega)).mono ?_
      rintro e w4 ⟨⟨v4, rfl, hv4⟩, hb4⟩
      have H4 := Lib.hid hv4
      clear hv4
      go_wp2
      go_round
      case rel => exact ⟨k + 1, by omega, by go_num, (H3.out.up hb4).more (Nat.le_refl _) (Nat.le_refl _) (by omega), H4.out.more (Nat.zero_le _) (Nat.le_refl _) (by omega), hbel.trans ((hb13.trans (hb4.mono hb13.size)).mono hbel.size)⟩
      case measure => simp [intOf]; omega
    · go_wp2
      go_ret2
      have : k = n := by omega
      subst this
      exact ⟨⟨_, _, rfl, HT.out.more (Nat.le_refl _) (Nat.le_refl _) (by omega), HB.out.more (Nat.le_refl _) (Nat.le_refl _) (by omega)⟩, hbel⟩

theorem ord_le {a b : Int} (h : a ≤ b) : ord a b ≤ 0 := by unfold ord; split <;> (try split) <;> omega
set_option maxHeartbeats 2000000 in
theorem walkEncloses (n : Int) (w : World) (_ : -9223372036854775808 ≤ n ∧ n ≤ 9223372036854775807) :
    Calls Try.prog 4 #[.int .i64 n] w fun e w' => e = .returned (.bool true) ∧ Below w.heap.size w w' := by
  have hh := held_bd n
  obtain ⟨k, hk⟩ : ∃ k : Nat, held n = k := ⟨(held n).toNat, by omega⟩
  have hkk : k ≤ 256 := by omega
  obtain ⟨L, hL⟩ : ∃ L, low n = L := ⟨_, rfl⟩
  obtain ⟨b, hb⟩ : ∃ b, brok n = b := ⟨_, rfl⟩
  have eL : L = lowN k := by rw [← hL]; unfold low; rw [hk]; rfl
  have eb : b = brokenN k := by rw [← hb]; unfold brok; rw [hk]; rfl
  have l1 := lowN_bd k
  have l2 := brokenN_bd k
  rw [← eL] at l1
  rw [← eb] at l2
  have HE := Lib.hid (enc_of k hkk)
  have HL := Lib.hid hL
  have HH := Lib.hid (show low n + brok n = L + b by rw [hL, hb])
  have HK := Lib.hid hk
  have EL := Lib.hid eL
  have EB := Lib.hid eb
  clear hL hb hk eL eb
  go_enter Try.func4, Try.ntmps4
  go_wp2_with fail
  refine (Low_any n _).mono ?_
  rintro e w' ⟨rfl, rfl⟩
  rw [HL.out]
  go_wp2_with fail
  refine (High_any n _).mono ?_
  rintro e w' ⟨rfl, rfl⟩
  rw [HH.out]
  go_wp2_with fail
  refine (Held_any n _).mono ?_
  rintro e w' ⟨rfl, rfl⟩
  rw [HK.out]
  go_wp2_with fail
  refine (Held_any n _).mono ?_
  rintro e w' ⟨rfl, rfl⟩
  rw [HK.out]
  go_wp2_with fail
  refine (sum_any k _ hkk).mono ?_
  rintro e w1 ⟨⟨vt, vb, rfl, ht, hb⟩, hb1⟩
  have HT := Lib.hid ht
  have HB := Lib.hid hb
  clear ht hb
  go_wp2_with fail
  refine (BigW.Of_any _ _ (by omega) (by omega)).mono ?_
  rintro e w2 ⟨⟨v2, rfl, hv2⟩, hb2⟩
  have H2 := Lib.hid hv2
  clear hv2
  go_wp2_with fail
  refine (Times_any _ _ (topN k) 1073741824 4096 4 _ (HT.out.up hb2) (H2.out.more (Nat.zero_le _) (Nat.le_refl _) (Nat.le_refl _)) (by omega) (by omega)).mono ?_
  rintro e w3 ⟨⟨v3, rfl, hv3⟩, hb3⟩
  have HM := Lib.hid (hv3.more (Nat.zero_le _) (Nat.le_refl _) (Nat.le_refl _))
  have hb13 := hb1.trans ((hb2.trans (hb3.mono hb2.size)).mono hb1.size)
  have HB3 := Lib.hid (HB.out.up (hb2.trans (hb3.mono hb2.size)))
  clear hv3 hb1 hb2 hb3
  go_wp2_with fail
  refine (BigW.Of_any _ _ (by omega) (by omega)).mono ?_
  rintro e w4 ⟨⟨v4, rfl, hv4⟩, hb4⟩
  have H4 := Lib.hid hv4
  clear hv4
  go_wp2_with fail
  refine (Times_any _ _ L (botN k) 4 4096 _ (H4.out.more (Nat.zero_le _) (Nat.le_refl _) (Nat.le_refl _)) (HB3.out.up hb4) (by omega) (by omega)).mono ?_
  rintro e w5 ⟨⟨v5, rfl, hv5⟩, hb5⟩
  have H5 := Lib.hid (hv5.more (Nat.zero_le _) (Nat.le_refl _) (Nat.le_refl _))
  have hb45 := hb4.trans (hb5.mono hb4.size)
  clear hv5
  go_wp2_with fail
  refine (Order_any _ _ (L * botN k) (topN k * 1073741824) 4100 4100 _ H5.out (HM.out.up hb45) (by omega) (by omega)).mono ?_
  rintro e w6 ⟨rfl, q, rfl⟩
  obtain ⟨o, ho⟩ : ∃ o, ord (L * botN k) (topN k * 1073741824) = o := ⟨_, rfl⟩
  have ho1 : o ≤ 0 := by rw [← ho]; exact ord_le (by rw [EL.out]; exact HE.out.1)
  rw [ho]
  clear ho
  have hb15 := hb13.trans (hb45.mono hb13.size)
  go_wp2_with fail
  refine (BigW.Of_any _ _ (by omega) (by omega)).mono ?_
  rintro e w7 ⟨⟨v7, rfl, hv7⟩, hb7⟩
  have hb7 : Below w5.heap.size w5 w7 := (below_drewN (Below.refl w5.heap.size w5) q).trans hb7
  have H7 := Lib.hid hv7
  clear hv7
  go_wp2_with fail
  refine (Times_any _ _ (L + b) (botN k) 4 4096 _ (H7.out.more (Nat.zero_le _) (Nat.le_refl _) (Nat.le_refl _)) ((HB3.out.up hb45).up hb7) (by omega) (by omega)).mono ?_
  rintro e w8 ⟨⟨v8, rfl, hv8⟩, hb8⟩
  have H8 := Lib.hid (hv8.more (Nat.zero_le _) (Nat.le_refl _) (Nat.le_refl _))
  have hb78 := hb7.trans (hb8.mono hb7.size)
  clear hv8
  go_wp2_with fail
  refine (Order_any _ _ (topN k * 1073741824) ((L + b) * botN k) 4100 4100 _ ((HM.out.up hb45).up hb78) H8.out (by omega) (by omega)).mono ?_
  rintro e w9 ⟨rfl, q2, rfl⟩
  obtain ⟨o2, ho2⟩ : ∃ o, ord (topN k * 1073741824) ((L + b) * botN k) = o := ⟨_, rfl⟩
  have ho3 : o2 ≤ 0 := by rw [← ho2]; exact ord_le (by rw [EL.out, EB.out]; exact HE.out.2)
  rw [ho2]
  clear ho2
  have hb18 := hb15.trans (hb78.mono hb15.size)
  go_wp2_with fail
  refine (lives_any _).mono ?_
  rintro e w10 ⟨rfl, hb10⟩
  go_wp2
  go_ret
  exact ⟨rfl, (below_drewN hb18 q2).trans (hb10.mono hb18.size)⟩
end Go.Proofs.Ytkbojgjhhdbjgaa.HarmS
