/- tree.Is, whole. -/
import Derived.Test.YtmmgfelifmdnbaaDoorShpI
namespace Go.Proofs.YtmmgfelifmdnbaaDoor.ShpJ
set_option linter.unusedVariables false
open Go.RowKit Base SeqM ShpM ShpV ShpW ShpD ShpT ShpI

theorem isT_root {dim : Int} {l : List Nd} {x0 : Nd} (h : IsT dim l) (h0 : l[0]? = some x0) : 1 ≤ x0.size ∧ x0.size ≤ 64 := by
  obtain ⟨_, _, b, hat, _, hok, h64, _⟩ := h
  obtain ⟨x, hx, hs⟩ := at_size hat
  rw [h0] at hx
  obtain rfl := Option.some.inj hx
  have := size_pos hok
  omega
theorem isT_len {dim : Int} {l : List Nd} (h : IsT dim l) : 0 < l.length ∧ l.length ≤ 127 := by
  obtain ⟨_, _, b, hat, hc, hok, h64, _⟩ := h
  have := count_le hok
  have := count_pos b
  omega
set_option maxHeartbeats 2000000 in
set_option maxRecDepth 100000 in
theorem TIs_any (v : Value) (l : List Nd) (dim : Int) (lo : Nat) (w : World) (h : Nds w lo w.heap.size v l) :
    Calls Tryd.prog 32 #[.agg #[.int .i64 dim, v]] w fun e w' => e = .returned (.bool (isTB dim l)) ∧ Below w.heap.size w w' := by
  have HS := Lib.hid h
  obtain ⟨A, cap, rfl, hc1, hc2, _⟩ := h.form
  obtain ⟨n, hn⟩ : ∃ n, l.length = n := ⟨_, rfl⟩
  have HN := Lib.hid hn
  rw [hn] at HS hc1 ⊢
  clear h hn
  by_cases hd1 : dim < 1
  · have F := Lib.hid (show isTB dim l = false from isTB_false.2 (fun h => by have := h.1; omega))
    go_enter Tryd.func32, Tryd.ntmps32
    go_wp2_with fail
    go_ret
    exact ⟨ret_bool F.out.symm, below_a1 _ _⟩
  · by_cases hd2 : 8 < dim
    · have F := Lib.hid (show isTB dim l = false from isTB_false.2 (fun h => by have := h.2.1; omega))
      go_enter Tryd.func32, Tryd.ntmps32
      go_wp2_with fail
      go_ret
      exact ⟨ret_bool F.out.symm, below_a1 _ _⟩
    · by_cases hn0 : n = 0
      · have F := Lib.hid (show isTB dim l = false from isTB_false.2 (fun h => by have := (isT_len h).1; rw [HN.out] at this; omega))
        subst hn0
        go_enter Tryd.func32, Tryd.ntmps32
        go_wp2_with fail
        go_ret
        exact ⟨ret_bool F.out.symm, below_a1 _ _⟩
      · by_cases hn1 : 127 < n
        · have F := Lib.hid (show isTB dim l = false from isTB_false.2 (fun h => by have := (isT_len h).2; rw [HN.out] at this; omega))
          have hn0b : ((n : Int) == 0) = false := by rw [beq_eq_false_iff_ne]; omega
          have hn1b : (127 : Int) < (n : Int) := by omega
          go_enter Tryd.func32, Tryd.ntmps32
          go_wp2_with fail
          go_ret
          exact ⟨ret_bool F.out.symm, below_a1 _ _⟩
        · obtain ⟨x0, hx0⟩ : ∃ x, l[0]? = some x := ⟨_, List.getElem?_eq_getElem (by rw [HN.out]; omega)⟩
          obtain ⟨ad, cv0, rfl, hbk, _, _, _, _, c4, _⟩ := HS.out.get hx0
          have c4 : w.cell? ⟨ad.block, ad.off + 4, none⟩ = some (.int .i64 x0.size) := c4
          have hn0b : ((n : Int) == 0) = false := by rw [beq_eq_false_iff_ne]; omega
          have hn1b : ¬ (127 : Int) < (n : Int) := by omega
          by_cases hs1 : x0.size < 1
          · have F := Lib.hid (show isTB dim l = false from isTB_false.2 (fun h => by have := (isT_root h hx0).1; omega))
            go_enter Tryd.func32, Tryd.ntmps32
            go_wp2_with fail
            go_ret
            exact ⟨ret_bool F.out.symm, below_a1 _ _⟩
          · by_cases hs2 : 64 < x0.size
            · have F := Lib.hid (show isTB dim l = false from isTB_false.2 (fun h => by have := (isT_root h hx0).2; omega))
              go_enter Tryd.func32, Tryd.ntmps32
              go_wp2_with fail
              go_ret
              exact ⟨ret_bool F.out.symm, below_a1 _ _⟩
            · exact TIs_in ad l dim lo n cap w HS.out HN.out hc1 hc2 hd1 hd2 hn0 hn1 x0 hx0 hs1 hs2
end Go.Proofs.YtmmgfelifmdnbaaDoor.ShpJ
