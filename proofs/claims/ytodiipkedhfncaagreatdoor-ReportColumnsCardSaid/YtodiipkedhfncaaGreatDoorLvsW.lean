/- lives, walked: what comes of every program (copselaw37). -/
import Derived.Test.YtodiipkedhfncaaGreatDoorUsuW
namespace Go.Proofs.YtodiipkedhfncaaGreatDoor.LvsW
set_option linter.unusedVariables false
set_option linter.unusedSimpArgs false
open Go.RowKit Base SeqM CfM VecW SchY RptM RptO RptC ScoX DevW ColW ClsW LevM LevW StaE OfeW TxtE UsuW

theorem lit_cols : colsL [[1], [5], [3]] 1 = [⟨1, 5, 3, 9, 24⟩] ∧ colsE [[1], [5], [3]] 1 = 0 := ⟨by kernel_rfl, by kernel_rfl⟩
theorem lit_dev : devV 24 3 = 1 ∧ devE 24 3 = 0 := ⟨by kernel_rfl, by kernel_rfl⟩
theorem lit_lev : levL [(0, 1)] 8 = [0, 0, 0, 0, 0, 0, 0, 0, 0, 0, 1] ∧ levE [(0, 1)] 8 = 0 := ⟨by kernel_rfl, by kernel_rfl⟩
theorem lit_words : hiW 24 = 0 ∧ loW 24 = 24 := by decide
theorem row_cells {w : World} {base k n : Nat} {e : TypeId} {v : Value} {xs : List Value} (h : w.ownsRow base e k v n xs) (hn : 0 < n) : ∃ g cap, v = .slice (some ⟨g, 0, none⟩) n cap ∧ ∀ j u, xs[j]? = some u → w.cell? ⟨g, j, none⟩ = some u := by
  rcases h.2 with ⟨hv, h0⟩ | ⟨g, cap, cur, hv, hb, hg, hc, hm, hcur, hx⟩
  · omega
  · refine ⟨g, cap, hv, fun j u hu => ?_⟩
    have h1 : cur.toList[j]? = some u := by
      rw [← hx, List.getElem?_take] at hu
      split at hu
      · exact hu
      · cases hu
    have h2 : cur[j]? = some u := by rw [← Array.getElem?_toList]; exact h1
    simp [World.cell?, hg, h2]
set_option maxHeartbeats 8000000 in
set_option maxRecDepth 100000 in
theorem lives_any (w : World) : Calls Tryz.prog 9 #[] w fun e w' => e = .returned (.bool true) ∧ Below w.heap.size w w' := by
  have HV3 := Lib.hid (vecs_lit3 w 1 5 3)
  have HC1 := Lib.hid (Columns_any (.slice (some ⟨w.heap.size + 1 + 1 + 1, 0, none⟩) 3 3) [[1], [5], [3]] 1 0 _ HV3.out.1)
  have HLW := Lib.hid (show litW w 1 5 3 = litW w 1 5 3 from rfl)
  unfold ClPost at HC1
  rw [lit_cols.1, lit_cols.2] at HC1
  have HDV := Lib.hid (fun W => Dev_any ⟨1, 5, 3, 9, 24⟩ 3 (by unfold Spr; decide) (by omega) W)
  unfold CV colC at HDV
  dsimp only at HDV
  rw [lit_dev.1, lit_dev.2, lit_words.1, lit_words.2] at HDV
  have HLV := Lib.hid (fun v W h => Levels_any v [(0, 1)] 8 W h (by intro x hx; obtain rfl := List.mem_singleton.1 hx; unfold Fit; decide))
  unfold LvPost at HLV
  rw [lit_lev.1, lit_lev.2] at HLV
  have HOF := Lib.hid (fun W => Of0 usual usual_ok W)
  unfold OfPost st0C CfM.cfC usual at HOF
  dsimp only [List.cons_append, List.nil_append] at HOF
  have HUS := Lib.hid (fun W => Usual_any W)
  unfold CfM.cfC usual at HUS
  dsimp only at HUS
  have HC2 := Lib.hid (fun W => Columns_any (.slice none 0 0) [] 1 0 W (vecs_nil _ _ _))
  unfold ClPost at HC2
  rw [(cols0 1).1, (cols0 1).2] at HC2
  unfold litW at HV3 HC1
  go_enter Tryz.func9, Tryz.ntmps9
  go_wp2_with fail
  refine HC1.out.mono ?_
  rintro e w1 ⟨⟨u1, rfl, hu1⟩, hb1⟩
  have HB1 := Lib.hid (bt hb1 HV3.out.2)
  obtain ⟨g, cap, rfl, hcell⟩ := row_cells hu1 (by decide)
  have HG := Lib.hid (show ∀ W, Below w1.heap.size w1 W → (W.cell? ⟨g, 0, none⟩ = some (.int .i64 1) ∧ W.cell? ⟨g, 1, none⟩ = some (.int .i64 5) ∧ W.cell? ⟨g, 2, none⟩ = some (.int .i64 3) ∧ W.cell? ⟨g, 3, none⟩ = some (.int .i64 9) ∧ W.cell? ⟨g, 4, none⟩ = some (.int .u64 0) ∧ W.cell? ⟨g, 5, none⟩ = some (.int .u64 24)) from
    fun W hb => ⟨keepA hb (hcell 0 _ rfl), keepA hb (hcell 1 _ rfl), keepA hb (hcell 2 _ rfl), keepA hb (hcell 3 _ rfl), keepA hb (hcell 4 _ rfl), keepA hb (hcell 5 _ rfl)⟩)
  clear hu1 hb1 hcell HV3 HC1 HLW
  obtain ⟨c0, c1, c2, c3, c4, c5⟩ := HG.out w1 (Below.refl _ _)
  rw [show ([⟨1, 5, 3, 9, 24⟩] : List Col).length = 1 from rfl]
  go_wp2_with fail
  refine (HDV.out _).mono ?_
  rintro e w2 ⟨rfl, hb2⟩
  have HB2 := Lib.hid hb2
  clear hb2 c0 c1 c2 c3 c4 c5
  go_wp2_with fail
  refine (HLV.out _ _ (Seq.of_own (base := w2.heap.size) (f := scC) (l := [(0, 1)]) (own_one w2 #[.int .i64 0, .int .i64 1] _ 2 rfl) |>.more (Nat.zero_le _) (Nat.le_refl _))).mono ?_
  rintro e w3 ⟨⟨u2, rfl, hu2⟩, hb3⟩
  have HB3 := Lib.hid (bt hb3 (bt (below_a1 w2 (.cells #[.int .i64 0, .int .i64 1] 67)) HB2.out))
  obtain ⟨A2, k2, rfl, hk1, hk2, hr2, _⟩ := hu2
  obtain ⟨ad, x, rfl, -, hbx, hx, hx0⟩ := rdI hr2 (i := 10) (by decide)
  obtain rfl : (1 : Int) = x := by simpa using hx
  have HL := Lib.hid hx0
  have hk3 : 11 ≤ k2 := hk1
  have hk4 : k2 ≤ 9223372036854775807 := by unfold maxLen at hk2; omega
  clear hb3 hk1 hk2 hr2 hx hx0
  rw [show ([0, 0, 0, 0, 0, 0, 0, 0, 0, 0, 1] : List Int).length = 11 from rfl]
  go_wp2_with fail
  refine (HUS.out _).mono ?_
  rintro e w4 ⟨rfl, hb4⟩
  have HB4 := Lib.hid (bt hb4 HB3.out)
  replace HL := Lib.hid (keepA hb4 HL.out)
  clear hb4
  go_wp2_with fail
  refine (HOF.out _).mono ?_
  rintro e w5 ⟨⟨a, k, u3, rfl, hu3⟩, hb5⟩
  have HB5 := Lib.hid (bt hb5 HB4.out)
  replace HL := Lib.hid (keepA hb5 HL.out)
  have HU3 := Lib.hid hu3
  obtain ⟨A3, k3, rfl, hk5, hk6, hr3, _⟩ := hu3
  have hk7 : k3 ≤ 9223372036854775807 := by unfold maxLen at hk6; omega
  clear hb5 hr3 hk6
  rw [show (zeros : List Int).length = 11 from rfl] at HU3 hk5 ⊢
  have HX0 := Lib.hid (And.intro (show (w5.alloc (.cells #[.int .i64 0, .slice a 0 k, .slice A3 11 k3] 61)).cell? ⟨w5.heap.size, 0, none⟩ = some (.int .i64 0) by go_simp) (And.intro (show (w5.alloc (.cells #[.int .i64 0, .slice a 0 k, .slice A3 11 k3] 61)).cell? ⟨w5.heap.size, 1, none⟩ = some (.slice a 0 k) by go_simp) (show (w5.alloc (.cells #[.int .i64 0, .slice a 0 k, .slice A3 11 k3] 61)).cell? ⟨w5.heap.size, 2, none⟩ = some (.slice A3 11 k3) by go_simp)))
  go_wp2_with fail
  refine (HC2.out _).mono ?_
  rintro e w6 ⟨⟨u4, rfl, hu4⟩, hb6⟩
  obtain ⟨a4, k4, rfl⟩ := row_form hu4
  have hb56 := bt hb6 (below_a1 w5 (.cells #[.int .i64 0, .slice a 0 k, .slice A3 11 k3] 61))
  have HB6 := Lib.hid (show Below w1.heap.size w1 w6 from bt hb56 HB5.out)
  have hl10 := keepA hb56 HL.out
  have hl10b : w6.cell? ⟨ad.block, ad.off + 10, none⟩ = some (.int .i64 1) := hl10
  have HT := Lib.hid (Text0 a k (.slice A3 11 k3) w6 (HU3.out.up hb56))
  have x0 := keepA hb6 HX0.out.1
  have x1 := keepA hb6 HX0.out.2.1
  have x2 := keepA hb6 HX0.out.2.2
  obtain ⟨c0, c1, c2, c3, c4, c5⟩ := HG.out w6 HB6.out
  clear hb6 hb56 hu4 HX0
  rw [show ([] : List Col).length = 0 from rfl]
  go_wp2_with fail
  refine HT.out.mono ?_
  rintro e w7 ⟨rfl, hb7⟩
  have HB7 := Lib.hid (bt hb7 (bt HB6.out HB1.out))
  clear hb7
  go_wp2_with fail
  go_ret
  exact ⟨rfl, HB7.out⟩
end Go.Proofs.YtodiipkedhfncaaGreatDoor.LvsW
