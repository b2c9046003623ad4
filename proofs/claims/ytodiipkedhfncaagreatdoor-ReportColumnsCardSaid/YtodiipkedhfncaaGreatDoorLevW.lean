/- report.Levels and the document's, walked (printed by mklev.py). -/
import Derived.Test.YtodiipkedhfncaaGreatDoorLevM
namespace Go.Proofs.YtodiipkedhfncaaGreatDoor.LevW
set_option linter.unusedVariables false
set_option linter.unusedSimpArgs false
open Go.RowKit Base BigM BigW BigZ RptM RptO ScoX SeqM HarmM LevM

def LvPost (w : World) (l : List (Int × Int)) (n : Int) (e : Ending) (w' : World) : Prop := (∃ u, e = .returned (.tuple #[u, .int .i64 (levE l n)]) ∧ Seq 1 inC w' w.heap.size w'.heap.size u (levL l n)) ∧ Below w.heap.size w w'
theorem lv_none {w w' : World} {l : List (Int × Int)} {n E : Int} (h : levL l n = [] ∧ levE l n = E) (hb : Below w.heap.size w w') : LvPost w l n (.returned (.tuple #[.slice none 0 0, .int .i64 E])) w' :=
  ⟨⟨_, by rw [h.2], by rw [h.1]; exact Seq.nil_⟩, hb⟩
theorem lv_some {w w' : World} {l : List (Int × Int)} {n : Int} {o : List Int} {b : Nat} (h : levL l n = o ∧ levE l n = 0) (hc : Cnt w' b o) (hlo : w.heap.size ≤ b) (hb : Below w.heap.size w w') : LvPost w l n (.returned (.tuple #[.slice (some ⟨b, 0, none⟩) 11 11, .int .i64 0])) w' :=
  ⟨⟨_, by rw [h.2], by rw [h.1]; exact hc.seq _ hlo⟩, hb⟩
def LvRel (l : List (Int × Int)) (n : Int) (w : World) (i : Value) (wr : World) : Prop := ∃ (k : Nat) (o : List Int), k ≤ l.length ∧ i = .int .i64 (k : Int) ∧ lev isS (hund n) zeros (l.take k) = some o ∧ Cnt wr w.heap.size o ∧ Below w.heap.size w wr
theorem lv_level {p q n : Int} (h : 2 ≤ n ∧ n ≤ 64) (hs : isS p q = true) : ∃ m : Int, levelV p q n = m ∧ levelE p q n = 0 ∧ (0 ≤ m ∧ m ≤ 1000) ∧ ∃ c : Nat, c < 11 ∧ m / 100 = (c : Int) ∧ hund n p q = c := by
  have h1 := level_yes h hs
  have h2 := lvl_bd hs h.1 h.2
  refine ⟨_, h1.1, h1.2, h2, hund n p q, hund_lt hs h.1 h.2, ?_, rfl⟩
  unfold hund
  omega
theorem eltL : Elt Tryz.prog 30 3 (.int .i64 0) 1 8 := elt_mk (z := .int .i64 0) Tryz.underlying30 (by kernel_rfl) rfl (by omega) (by omega)
theorem cnt_zeros {w w' : World} (hown : w'.ownsRow w.heap.size 3 1 (.slice (some ⟨w.heap.size, 0, none⟩) 11 11) 11 (List.replicate 11 (.int .i64 0))) : Cnt w' w.heap.size zeros := by
  rcases hown.2 with ⟨h0, _⟩ | ⟨g, cap, cur, he, hb, hg, h1, h2, h3, h4⟩
  · cases h0
  · cases he
    have hs : cur.size = 11 := by omega
    have hc : cur.toList = List.replicate 11 (.int .i64 0) := by rw [← h4]; exact (List.take_of_length_le (by simp; omega)).symm
    refine ⟨rfl, (Array.getElem?_eq_some_iff.1 hg).1, fun j x hx => ?_, fun j hj => ?_⟩
    · have hj : j < 11 := (List.getElem?_eq_some_iff.1 hx).1
      have hx' : x = 0 := by
        unfold zeros at hx
        rw [List.getElem?_replicate, if_pos hj] at hx
        exact (Option.some.inj hx).symm
      subst hx'
      have : cur[j]? = some (.int .i64 0) := by
        rw [← Array.getElem?_toList, hc, List.getElem?_replicate, if_pos hj]
      simp [World.cell?, hg, this]
    · simp [World.frozen?, hg]
set_option maxHeartbeats 4000000 in
theorem Levels_any (v : Value) (l : List (Int × Int)) (n : Int) (w : World) (h : Seq 2 scC w 0 w.heap.size v l) (hf : Fits2 l) :
    Calls Tryz.prog 21 #[v, .int .i64 n] w (LvPost w l n) := by
  obtain ⟨A, cap, rfl, hc1, hc2, hr, _⟩ := h
  unfold maxLen at hc2
  have HR := Lib.hid hr
  have HF := Lib.hid hf
  obtain ⟨m, hm⟩ : ∃ m, l.length = m := ⟨_, rfl⟩
  rw [hm] at hc1 ⊢
  have HM := Lib.hid hm
  clear hr hf hm
  by_cases h1 : n < 2
  · have F := Lib.hid (lev_arg (l := l) (n := n) (by omega))
    go_enter Tryz.func21, Tryz.ntmps21
    go_wp2
    go_ret2
    exact lv_none F.out (Below.refl _ _)
  by_cases h2 : 64 < n
  · have F := Lib.hid (lev_arg (l := l) (n := n) (by omega))
    go_enter Tryz.func21, Tryz.ntmps21
    go_wp2
    go_ret2
    exact lv_none F.out (Below.refl _ _)
  have hn : 2 ≤ n ∧ n ≤ 64 := by omega
  have HN := Lib.hid hn
  go_enter Tryz.func21, Tryz.ntmps21
  go_wp2_with (at_make; refine mk1 _ rfl (.const (.int .i64 11)) (.const (.int .i64 11)) _ rfl eltL rfl 11 rfl rfl (by omega) ?_; intro w1 hown1 hb1)
  have H0 := Lib.hid (show LvRel l n w (.int .i64 0) w1 from ⟨0, zeros, Nat.zero_le _, rfl, rfl, cnt_zeros hown1, hb1⟩)
  clear hown1
  go_loopw [20] (fun i wr => LvRel l n w i wr) (fun i _ => m - (intOf i).toNat)
  case atStart => exact H0.out
  case round =>
    obtain ⟨k, o, hk, rfl, ho, hcnt, hb⟩ := hrel
    rw [HM.out] at hk
    have HO := Lib.hid ho
    have HC := Lib.hid hcnt
    have HB := Lib.hid hb
    clear ho hcnt H0
    by_cases hlt : k < m
    · obtain ⟨ad, x, rfl, _, hbk, hx, hc⟩ := rdk scC_len HR.out (i := k) (by rw [HM.out]; exact hlt)
      have HX := Lib.hid hx
      have hfx : Fit x.1 x.2 := HF.out x (List.mem_of_getElem? hx)
      obtain ⟨p, q⟩ := x
      have c0 : wr.cell? (ad.add (k * 2)) = some (.int .i64 p) := (hb.cell (by rw [Base.add_block]; exact hbk)).trans (hc 0 _ rfl)
      have c1 : wr.cell? ⟨(ad.add (k * 2)).block, (ad.add (k * 2)).off + 1, none⟩ = some (.int .i64 q) := by
        rw [add_off _ _ _ (by omega)]; exact (hb.cell (by rw [Base.add_block]; exact hbk)).trans (hc 1 _ rfl)
      have HT := Lib.hid (show l.take (k + 1) = l.take k ++ [(p, q)] from SeqM.take_next hx)
      have HLV := Lib.hid (fun W => Level_any p q n W hfx)
      clear hc hx hfx hb
      go_wp2_with fail
      refine (HLV.out _).mono ?_
      rintro e w2 ⟨rfl, hb2⟩
      have HB2 := Lib.hid (hb2)
      clear hb2 c0 c1
      cases hs : isS p q
      · have hl := level_no HN.out hs
        have F := Lib.hid (lev_no (l := l) HN.out (lev_cut (k := k + 1) (by rw [HT.out, lev_snoc HO.out, if_neg (by rw [hs]; decide)])))
        rw [hl.1, hl.2]
        clear hl
        go_wp2
        go_ret2
        exact lv_none F.out (bt HB2.out (HB.out.alloc HB.out.size _))
      · obtain ⟨lv, e1, e2, hlv, c, hc11, hcd, hcu⟩ := lv_level HN.out hs
        have HCU := Lib.hid hcu
        have HS := Lib.hid hs
        rw [e1, e2]
        have hol : o.length = 11 := HC.out.len
        obtain ⟨x, hx⟩ : ∃ x, o[c]? = some x := ⟨o[c], List.getElem?_eq_getElem (by omega)⟩
        have hC2 : Cnt w2 w.heap.size o := (HC.out.below (below_a1 _ _)).below HB2.out
        have HC2 := Lib.hid hC2
        have HX2 := Lib.hid hx
        have hxb : 0 ≤ x ∧ x ≤ (k : Int) := by
          have h9 := lev_le (B := 0) (Int.le_refl 0) (fun y hy => by have := (List.mem_replicate.1 hy).2; omega) HO.out x (List.mem_of_getElem? hx)
          rw [List.length_take] at h9
          omega
        have d0 := hC2.cell c x hx
        have d1 := hC2.free c hc11
        have htd : lv.tdiv 100 = (c : Int) := by rw [Int.tdiv_eq_ediv_of_nonneg hlv.1, hcd]
        have hlt2 := HC2.out.lt
        clear hcu hs hC2 hx e1 e2 hcd
        go_wp2
        exact ⟨⟨k + 1, RptO.bump o c, by rw [HM.out]; omega, by go_num, by rw [HT.out, lev_snoc HO.out, if_pos HS.out, HCU.out], HC2.out.bump HX2.out, (bt HB2.out (HB.out.alloc HB.out.size _)).setCell (p := ⟨w.heap.size, c, none⟩) (Nat.le_refl _) _⟩, by simp [intOf]; omega⟩
    · obtain rfl : k = m := by omega
      have F := Lib.hid (lev_yes (l := l) (n := n) HN.out (by rw [← HO.out, List.take_of_length_le (by rw [HM.out]; omega)]))
      go_wp2
      go_ret2
      exact lv_some F.out HC.out (Nat.le_refl _) HB.out
set_option maxHeartbeats 4000000 in
theorem RLevels_any (v : Value) (l : List (Int × Int)) (n : Int) (w : World) (h : Seq 2 scC w 0 w.heap.size v l) (hf : Fits2 l) :
    Calls Tryz.prog 22 #[v, .int .i64 n] w (LvPost w l n) := by
  obtain ⟨A, cap, rfl, hc1, hc2, hr, _⟩ := h
  unfold maxLen at hc2
  have HR := Lib.hid hr
  have HF := Lib.hid hf
  obtain ⟨m, hm⟩ : ∃ m, l.length = m := ⟨_, rfl⟩
  rw [hm] at hc1 ⊢
  have HM := Lib.hid hm
  clear hr hf hm
  by_cases h1 : n < 2
  · have F := Lib.hid (lev_arg (l := l) (n := n) (by omega))
    go_enter Tryz.func22, Tryz.ntmps22
    go_wp2
    go_ret2
    exact lv_none F.out (Below.refl _ _)
  by_cases h2 : 64 < n
  · have F := Lib.hid (lev_arg (l := l) (n := n) (by omega))
    go_enter Tryz.func22, Tryz.ntmps22
    go_wp2
    go_ret2
    exact lv_none F.out (Below.refl _ _)
  have hn : 2 ≤ n ∧ n ≤ 64 := by omega
  have HN := Lib.hid hn
  go_enter Tryz.func22, Tryz.ntmps22
  go_wp2_with (at_make; refine mk1 _ rfl (.const (.int .i64 11)) (.const (.int .i64 11)) _ rfl eltL rfl 11 rfl rfl (by omega) ?_; intro w1 hown1 hb1)
  have H0 := Lib.hid (show LvRel l n w (.int .i64 0) w1 from ⟨0, zeros, Nat.zero_le _, rfl, rfl, cnt_zeros hown1, hb1⟩)
  clear hown1
  go_loopw [7] (fun i wr => LvRel l n w i wr) (fun i _ => m - (intOf i).toNat)
  case atStart => exact H0.out
  case round =>
    obtain ⟨k, o, hk, rfl, ho, hcnt, hb⟩ := hrel
    rw [HM.out] at hk
    have HO := Lib.hid ho
    have HC := Lib.hid hcnt
    have HB := Lib.hid hb
    clear ho hcnt H0
    by_cases hlt : k < m
    · obtain ⟨ad, x, rfl, _, hbk, hx, hc⟩ := rdk scC_len HR.out (i := k) (by rw [HM.out]; exact hlt)
      have HX := Lib.hid hx
      have hfx : Fit x.1 x.2 := HF.out x (List.mem_of_getElem? hx)
      obtain ⟨p, q⟩ := x
      have c0 : wr.cell? (ad.add (k * 2)) = some (.int .i64 p) := (hb.cell (by rw [Base.add_block]; exact hbk)).trans (hc 0 _ rfl)
      have c1 : wr.cell? ⟨(ad.add (k * 2)).block, (ad.add (k * 2)).off + 1, none⟩ = some (.int .i64 q) := by
        rw [add_off _ _ _ (by omega)]; exact (hb.cell (by rw [Base.add_block]; exact hbk)).trans (hc 1 _ rfl)
      have HT := Lib.hid (show l.take (k + 1) = l.take k ++ [(p, q)] from SeqM.take_next hx)
      have HLV := Lib.hid (fun W => RLevel_any p q n W hfx)
      clear hc hx hfx hb
      go_wp2_with fail
      refine (HLV.out _).mono ?_
      rintro e w2 ⟨rfl, hb2⟩
      have HB2 := Lib.hid (hb2)
      clear hb2 c0 c1
      cases hs : isS p q
      · have hl := level_no HN.out hs
        have F := Lib.hid (lev_no (l := l) HN.out (lev_cut (k := k + 1) (by rw [HT.out, lev_snoc HO.out, if_neg (by rw [hs]; decide)])))
        rw [hl.1, hl.2]
        clear hl
        go_wp2
        go_ret2
        exact lv_none F.out (bt HB2.out HB.out)
      · obtain ⟨lv, e1, e2, hlv, c, hc11, hcd, hcu⟩ := lv_level HN.out hs
        have HCU := Lib.hid hcu
        have HS := Lib.hid hs
        rw [e1, e2]
        have hol : o.length = 11 := HC.out.len
        obtain ⟨x, hx⟩ : ∃ x, o[c]? = some x := ⟨o[c], List.getElem?_eq_getElem (by omega)⟩
        have hC2 : Cnt w2 w.heap.size o := HC.out.below HB2.out
        have HC2 := Lib.hid hC2
        have HX2 := Lib.hid hx
        have hxb : 0 ≤ x ∧ x ≤ (k : Int) := by
          have h9 := lev_le (B := 0) (Int.le_refl 0) (fun y hy => by have := (List.mem_replicate.1 hy).2; omega) HO.out x (List.mem_of_getElem? hx)
          rw [List.length_take] at h9
          omega
        have d0 := hC2.cell c x hx
        have d1 := hC2.free c hc11
        have htd : lv.tdiv 100 = (c : Int) := by rw [Int.tdiv_eq_ediv_of_nonneg hlv.1, hcd]
        have hlt2 := HC2.out.lt
        clear hcu hs hC2 hx e1 e2 hcd
        go_wp2
        exact ⟨⟨k + 1, RptO.bump o c, by rw [HM.out]; omega, by go_num, by rw [HT.out, lev_snoc HO.out, if_pos HS.out, HCU.out], HC2.out.bump HX2.out, (bt HB2.out HB.out).setCell (p := ⟨w.heap.size, c, none⟩) (Nat.le_refl _) _⟩, by simp [intOf]; omega⟩
    · obtain rfl : k = m := by omega
      have F := Lib.hid (lev_yes (l := l) (n := n) HN.out (by rw [← HO.out, List.take_of_length_le (by rw [HM.out]; omega)]))
      go_wp2
      go_ret2
      exact lv_some F.out HC.out (Nat.le_refl _) HB.out
end Go.Proofs.YtodiipkedhfncaaGreatDoor.LevW
