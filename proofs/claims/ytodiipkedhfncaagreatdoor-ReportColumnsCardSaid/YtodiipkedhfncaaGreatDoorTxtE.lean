/- report.Text of a report of nothing. -/
import Derived.Test.YtodiipkedhfncaaGreatDoorOfeW
import Derived.Test.YtodiipkedhfncaaGreatDoorBldW
namespace Go.Proofs.YtodiipkedhfncaaGreatDoor.TxtE
set_option linter.unusedVariables false
set_option linter.unusedSimpArgs false
open Go.RowKit Base SeqM RptO LevM OfeW BldW

def evs : List UInt8 := [101, 118, 101, 110, 116, 115, 32, 48, 10]
theorem dec0 : Lib.decDigits 0 = [48] := by
  first | decide +kernel | (rw [Lib.decDigits]; rfl) | simp [Lib.decDigits]
theorem itoa0 (w : World) : Calls Tryz.prog 84 #[.int .i64 0] w fun e w' => e = .returned (.string ⟨#[48]⟩) ∧ w' = w := by
  have h := Tryz.strconv_Itoa_small 0 (by decide) w
  rw [dec0] at h
  exact h
set_option maxHeartbeats 4000000 in
set_option maxRecDepth 100000 in
theorem line0 (B b : Nat) (w : World) (h : Lib.IsBuilder 88 5 B b [] w) (hB : B ≤ w.heap.size) :
    Calls Tryz.prog 50 #[.pointer (some ⟨b, 0, none⟩), .string ⟨#[101, 118, 101, 110, 116, 115]⟩, .int .i64 0, .slice none 0 0] w fun e w' =>
      e = .returned (.tuple #[]) ∧ Lib.IsBuilder 88 5 B b (Lib.byteCells evs) w' ∧ Below B w w' := by
  have H := Lib.hid h
  have HB := Lib.hid hB
  clear h hB
  go_enter Tryz.func50, Tryz.ntmps50
  go_wp2_with fail
  refine (WriteString_any B b [] _ _ H.out (by decide) HB.out).mono ?_
  rintro e w1 ⟨rfl, h1, b1, -⟩
  have H1 := Lib.hid h1
  have B1 := Lib.hid b1
  clear h1 b1
  go_wp2_with fail
  refine (WriteByte_any B b _ _ _ (.inr H1.out) (by decide) (Nat.le_trans HB.out B1.out.size)).mono ?_
  rintro e w2 ⟨rfl, h2, b2, -⟩
  have H2 := Lib.hid h2
  have B2 := Lib.hid (B1.out.trans b2)
  clear h2 b2
  go_wp2_with fail
  refine (itoa0 _).mono ?_
  rintro e w3 ⟨rfl, rfl⟩
  go_wp2_with fail
  refine (WriteString_any B b _ _ _ (.inr H2.out) (by decide) (Nat.le_trans HB.out B2.out.size)).mono ?_
  rintro e w3 ⟨rfl, h3, b3, -⟩
  have H3 := Lib.hid h3
  have B3 := Lib.hid (B2.out.trans b3)
  clear h3 b3
  go_wp2_with fail
  go_loopw [26] (fun i wr => i = .int .i64 0 ∧ w3 = wr) (fun _ _ => 0)
  case atStart => exact ⟨rfl, rfl⟩
  case round =>
    obtain ⟨rfl, rfl⟩ := hrel
    go_wp2_with fail
    refine (WriteByte_any B b _ _ _ (.inr H3.out) (by decide) (Nat.le_trans HB.out B3.out.size)).mono ?_
    rintro e w4 ⟨rfl, h4, b4, -⟩
    have H4 := Lib.hid h4
    have B4 := Lib.hid (B3.out.trans b4)
    clear h4 b4
    go_wp2_with fail
    go_end0
    exact ⟨rfl, .inr H4.out, B4.out⟩
set_option maxHeartbeats 4000000 in
set_option maxRecDepth 100000 in
theorem Text0 (a : Option Addr) (k : Nat) (u2 : Value) (w : World) (h : Seq 1 inC w 0 w.heap.size u2 zeros) :
    Calls Tryz.prog 29 #[.agg #[.int .i64 0, .slice a 0 k, u2]] w fun e w' => e = .returned (.string ⟨evs.toArray⟩) ∧ Below w.heap.size w w' := by
  obtain ⟨A2, k2, rfl, hk1, hk2, hr, _⟩ := h
  unfold maxLen at hk2
  have HR := Lib.hid hr
  have HZL : zeros.length = 11 := rfl
  rw [HZL] at hk1 ⊢
  clear hr
  obtain ⟨W, eW⟩ : ∃ W, w.alloc (.cells #[.int .i64 0, .slice a 0 k, .slice A2 11 k2] 61) = W := ⟨_, rfl⟩
  have HB := Lib.hid (show Below w.heap.size w W by rw [← eW]; exact below_a1 _ _)
  have HCS := Lib.hid (show ∀ W', Below W.heap.size W W' → (W'.cell? ⟨w.heap.size, 0, none⟩ = some (.int .i64 0) ∧ W'.cell? ⟨w.heap.size, 1, none⟩ = some (.slice a 0 k) ∧ W'.cell? ⟨w.heap.size, 2, none⟩ = some (.slice A2 11 k2)) by
    intro W' hb
    subst eW
    refine ⟨keepA hb ?_, keepA hb ?_, keepA hb ?_⟩ <;> go_simp)
  obtain ⟨d0, d1, d2⟩ := HCS.out W (Below.refl _ _)
  have hz : w.heap.size < W.heap.size := by rw [← eW]; simp
  have HBU := Lib.hid (below_a1 W (.cells #[.pointer none, .slice none 0 0] 88))
  go_enter Tryz.func29, Tryz.ntmps29
  go_wp2_with fail
  refine (line0 W.heap.size W.heap.size _ (Lib.fresh_isBuilder 88 5 W) (by simp)).mono ?_
  rintro e w1 ⟨rfl, h1, b1⟩
  have H1 := Lib.hid h1
  have B1 := Lib.hid (show Below W.heap.size W w1 from HBU.out.trans b1)
  clear h1 b1 d0 d1 d2
  obtain ⟨d0, d1, d2⟩ := HCS.out w1 B1.out
  go_wp2_with fail
  go_loopw [19] (fun i wr => i = .int .i64 0 ∧ w1 = wr) (fun _ _ => 0)
  case atStart => exact ⟨rfl, rfl⟩
  case round =>
    obtain ⟨rfl, rfl⟩ := hrel
    go_wp2_with fail
    go_loopw [55] (fun i wr => ∃ j : Nat, j ≤ 11 ∧ i = .int .i64 j ∧ w1 = wr) (fun i _ => 11 - (intOf i).toNat)
    case atStart => exact ⟨0, by omega, rfl, rfl⟩
    case round =>
      obtain ⟨j, hj, rfl, rfl⟩ := hrel
      by_cases hlt : j < 11
      · obtain ⟨ad, x, rfl, _, hbx, hx, c0⟩ := rdI HR.out (i := j) hlt
        replace c0 := ((HB.out.trans (B1.out.mono HB.out.size)).cell (by rw [Base.add_block]; exact hbx)).trans c0
        obtain rfl : x = 0 := by
          unfold zeros at hx
          rw [List.getElem?_replicate, if_pos hlt] at hx
          exact (Option.some.inj hx).symm
        clear hx
        go_wp2
        exact ⟨⟨j + 1, by omega, by go_num, trivial⟩, by simp [intOf]; omega⟩
      · obtain rfl : j = 11 := by omega
        go_wp2_with fail
        refine (Tryz.Builder_String_any W.heap.size W.heap.size evs _ H1.out B1.out.size).mono ?_
        rintro e w2 ⟨rfl, b2⟩
        go_wp2
        go_ret
        exact ⟨rfl, HB.out.trans ((B1.out.trans b2).mono HB.out.size)⟩
end Go.Proofs.YtodiipkedhfncaaGreatDoor.TxtE
