/- vec.Is, walked (lines of RigW). -/
import Derived.Test.YtodiipkedhfncaaGreatDoorRows
import Derived.Test.YtodiipkedhfncaaGreatDoorSeqM
import Derived.Test.YtodiipkedhfncaaGreatDoorRptC
import Derived.Deep.QuietTactic
namespace Go.Proofs.YtodiipkedhfncaaGreatDoor.VisW
set_option linter.unusedVariables false
open Go.RowKit Base SeqM RptC

theorem ret_bool {b c : Bool} (h : b = c) : Ending.returned (.bool b) = Ending.returned (.bool c) := by rw [h]
theorem all_next {α : Type} {l : List α} {k : Nat} {x : α} (h : l[k]? = some x) (f : α → Bool) : (l.take (k + 1)).all f = ((l.take k).all f && f x) := by
  rw [SeqM.take_next h, List.all_append]; simp
theorem all_no {α : Type} {l : List α} {k : Nat} {f : α → Bool} (h : (l.take k).all f = false) : l.all f = false := by
  rw [List.all_eq_false] at h ⊢
  obtain ⟨x, hx, hf⟩ := h
  exact ⟨x, List.mem_of_mem_take hx, hf⟩
def VRel (l : List Int) (f : Int → Bool) (w : World) (ok i : Value) (wr : World) : Prop := ∃ k : Nat, k ≤ l.length ∧ ok = .bool ((l.take k).all f) ∧ i = .int .i64 k ∧ w = wr
set_option maxHeartbeats 2000000 in
theorem VIs_any (v : Value) (l : List Int) (dim : Int) (lo B : Nat) (w : World) (h : Seq 1 inC w lo B v l) :
    Calls Tryz.prog 32 #[v, .int .i64 dim] w fun e w' => e = .returned (.bool (vecB l dim)) ∧ w = w' := by
  obtain ⟨A, cap, rfl, hc1, hc2, hr, _⟩ := h
  unfold maxLen at hc2
  have HR := Lib.hid hr
  obtain ⟨n, hn⟩ : ∃ n, l.length = n := ⟨_, rfl⟩
  rw [hn] at hc1 ⊢
  have HN := Lib.hid hn
  clear hr hn
  by_cases hd : 1 ≤ dim ∧ dim ≤ 8 ∧ (n : Int) = dim
  · have HV := Lib.hid (show vecB l dim = l.all rngB by unfold vecB; rw [decide_eq_true (by rw [HN.out]; exact hd)]; rfl)
    obtain ⟨h1, h2, h3⟩ := hd
    have h3b : ((n : Int) == dim) = true := by simpa using h3
    have H0 := Lib.hid (show VRel l rngB w (.bool true) (.int .i64 0) w from ⟨0, Nat.zero_le _, by simp, rfl, rfl⟩)
    clear h3
    go_enter Tryz.func32, Tryz.ntmps32
    go_wp2
    go_loopw [5, 6] (fun ok i wr => VRel l rngB w ok i wr) (fun _ i _ => n - (intOf i).toNat)
    case atStart => exact H0.out
    case round =>
      obtain ⟨k, hk, rfl, rfl, rfl⟩ := hrel
      rw [HN.out] at hk
      clear H0
      cases hb : (l.take k).all rngB
      · have F := Lib.hid (show vecB l dim = false by rw [HV.out, all_no hb])
        clear hb
        go_wp2
        go_ret
        exact ⟨ret_bool F.out.symm, rfl⟩
      · have HT := Lib.hid hb
        clear hb
        by_cases hlt : k < n
        · obtain ⟨ad, x, rfl, _, _, hx, c0⟩ := rdI HR.out (i := k) (by rw [HN.out]; exact hlt)
          have HX := Lib.hid (all_next hx rngB)
          clear hx
          by_cases hx1 : -2147483648 ≤ x
          · by_cases hx2 : x ≤ 2147483647
            · have HB := Lib.hid (show rngB x = true from decide_eq_true ⟨hx1, hx2⟩)
              go_wp2
              exact ⟨⟨k + 1, by rw [HN.out]; omega, by rw [HX.out, HT.out, HB.out]; rfl, by go_num, rfl⟩, by simp [intOf]; omega⟩
            · have HB := Lib.hid (show rngB x = false from decide_eq_false (fun h => hx2 h.2))
              go_wp2
              exact ⟨⟨k + 1, by rw [HN.out]; omega, by rw [HX.out, HT.out, HB.out]; rfl, by go_num, rfl⟩, by simp [intOf]; omega⟩
          · have HB := Lib.hid (show rngB x = false from decide_eq_false (fun h => hx1 h.1))
            go_wp2
            exact ⟨⟨k + 1, by rw [HN.out]; omega, by rw [HX.out, HT.out, HB.out]; rfl, by go_num, rfl⟩, by simp [intOf]; omega⟩
        · have F := Lib.hid (show vecB l dim = true by
            have := HT.out
            rw [List.take_of_length_le (by rw [HN.out]; omega)] at this
            rw [HV.out, this])
          go_wp2
          go_ret
          exact ⟨ret_bool F.out.symm, rfl⟩
  · have F := Lib.hid (show vecB l dim = false by unfold vecB; rw [decide_eq_false (by rw [HN.out]; exact hd)]; rfl)
    by_cases h1 : 1 ≤ dim
    · by_cases h2 : dim ≤ 8
      · have h3 : ((n : Int) == dim) = false := by rw [beq_eq_false_iff_ne]; exact fun h => hd ⟨h1, h2, h⟩
        clear hd
        go_enter Tryz.func32, Tryz.ntmps32
        go_wp2
        go_loopw [5] (fun ok wr => ok = .bool false ∧ w = wr) (fun _ _ => 0)
        case atStart => exact ⟨rfl, rfl⟩
        case round =>
          obtain ⟨rfl, rfl⟩ := hrel
          go_wp2
          go_ret
          exact ⟨ret_bool F.out.symm, rfl⟩
      · clear hd
        go_enter Tryz.func32, Tryz.ntmps32
        go_wp2
        go_loopw [5] (fun ok wr => ok = .bool false ∧ w = wr) (fun _ _ => 0)
        case atStart => exact ⟨rfl, rfl⟩
        case round =>
          obtain ⟨rfl, rfl⟩ := hrel
          go_wp2
          go_ret
          exact ⟨ret_bool F.out.symm, rfl⟩
    · clear hd
      go_enter Tryz.func32, Tryz.ntmps32
      go_wp2
      go_loopw [5] (fun ok wr => ok = .bool false ∧ w = wr) (fun _ _ => 0)
      case atStart => exact ⟨rfl, rfl⟩
      case round =>
        obtain ⟨rfl, rfl⟩ := hrel
        go_wp2
        go_ret
        exact ⟨ret_bool F.out.symm, rfl⟩
end Go.Proofs.YtodiipkedhfncaaGreatDoor.VisW
