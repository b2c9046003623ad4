/- The reference's Code, Class, Codes over nodes. -/
import Derived.Test.YthinjoldbjcifaaDoorPlayM
import Derived.Deep.RegionHeldLaw
import Derived.Deep.DeepMust
import Derived.BigRegion
namespace Go.Proofs.YthinjoldbjcifaaDoor.NodC
set_option linter.unusedVariables false
open Go.RowKit Go.WideElems Base FltM FltW FltX FltI FltH FltC FltT FltS NodM PlayM

theorem get6 {w : World} {lo B : Nat} {A : Option Addr} {l : List Nd} (h : Rd w lo B 6 A l.length (l.flatMap ndC)) {i : Nat} {x : Nd} (hx : l[i]? = some x) :
    ∃ ad : Addr, A = some ad ∧ lo ≤ ad.block ∧ ad.block < B ∧ i < l.length ∧ w.cell? (ad.add (i * 6)) = some (.int .i64 x.do_) ∧ w.cell? ⟨(ad.add (i * 6)).block, (ad.add (i * 6)).off + 1, none⟩ = some (.string ⟨x.op.toArray⟩) ∧
      w.cell? ⟨(ad.add (i * 6)).block, (ad.add (i * 6)).off + 2, none⟩ = some (.int .i64 x.at_) ∧ w.cell? ⟨(ad.add (i * 6)).block, (ad.add (i * 6)).off + 3, none⟩ = some (.int .i64 x.code) ∧
      w.cell? ⟨(ad.add (i * 6)).block, (ad.add (i * 6)).off + 4, none⟩ = some (.int .i64 x.a) ∧ w.cell? ⟨(ad.add (i * 6)).block, (ad.add (i * 6)).off + 5, none⟩ = some (.int .i64 x.b) := by
  have hi := (List.getElem?_eq_some_iff.1 hx).1
  obtain ⟨ad, y, e, h1, h2, hy, hc⟩ := rd6 h hi
  rw [hx] at hy
  obtain rfl := Option.some.inj hy
  exact ⟨ad, e, h1, h2, hi, hc⟩
theorem RCode_neg (v : Value) (i : Int) (w : World) (hi : i < 0) :
    Calls Tryd.prog 21 #[v, .int .i64 i] w fun e w' => e = .returned (.int .i64 0) ∧ w = w' := by
  go_enter Tryd.func21, Tryd.ntmps21
  go_wp2
  go_ret
  exact ⟨rfl, rfl⟩
set_option maxHeartbeats 1000000 in
theorem RCode_at (v : Value) (l : List Nd) (lo B : Nat) (w : World) (h : Seq 6 ndC w lo B v l) : ∀ (t : T) (i : Nat), Rep l i t →
    Calls Tryd.prog 21 #[v, .int .i64 i] w fun e w' => e = .returned (.int .i64 t.code) ∧ w = w'
  | .leaf op at_ c, i, ⟨a, b, hx⟩ => by
    obtain ⟨A, cap, rfl, hc1, hc2, hr, _⟩ := h
    unfold maxLen at hc2
    obtain ⟨ad, rfl, hlo, hb, hi, c0, c1, c2, c3, c4, c5⟩ := get6 hr hx
    generalize l.length = n at *
    have n0 : ¬ ((i : Int) < 0) := by omega
    dsimp only at c0 c1 c2 c3 c4 c5
    clear hr hx
    go_enter Tryd.func21, Tryd.ntmps21
    go_wp2
    go_ret
    exact ⟨rfl, rfl⟩
  | .wrap op at_ u, i, ⟨c, j, b, hx, hu⟩ => by
    have IH := Lib.hid (RCode_at v l lo B w h u j hu)
    obtain ⟨A, cap, rfl, hc1, hc2, hr, _⟩ := h
    unfold maxLen at hc2
    obtain ⟨ad, rfl, hlo, hb, hi, c0, c1, c2, c3, c4, c5⟩ := get6 hr hx
    generalize l.length = n at *
    have n0 : ¬ ((i : Int) < 0) := by omega
    dsimp only at c0 c1 c2 c3 c4 c5
    clear hr hx hu
    go_enter Tryd.func21, Tryd.ntmps21
    go_wp2_with fail
    refine IH.out.mono ?_
    rintro e w1 ⟨rfl, rfl⟩
    go_wp2
    go_ret
    exact ⟨rfl, rfl⟩
  | .both x y, i, ⟨d, op, at_, c, j, k, h0, h1, hx, hX, hY⟩ => by
    have IH := Lib.hid (RCode_at v l lo B w h x j hX)
    obtain ⟨A, cap, rfl, hc1, hc2, hr, _⟩ := h
    unfold maxLen at hc2
    obtain ⟨ad, rfl, hlo, hb, hi, c0, c1, c2, c3, c4, c5⟩ := get6 hr hx
    generalize l.length = n at *
    have n0 : ¬ ((i : Int) < 0) := by omega
    have d0 : (d == 0) = false := by simpa using h0
    have d1 : (d == 1) = false := by simpa using h1
    dsimp only at c0 c1 c2 c3 c4 c5
    clear hr hx hX hY h0 h1
    go_enter Tryd.func21, Tryd.ntmps21
    go_wp2_with fail
    refine IH.out.mono ?_
    rintro e w1 ⟨rfl, rfl⟩
    go_wp2
    go_ret
    exact ⟨rfl, rfl⟩

/-! ### Class -/
def tab : List (Int × Int) := [(0, 0), (60, 2), (61, 2), (2, 3), (8, 3), (6, 4), (7, 4), (20, 5), (210, 5), (211, 5), (240, 5), (270, 5), (350, 5)]
def prC (x : Int × Int) : List Value := [.int .i64 x.1, .int .i64 x.2]
theorem prC_len (x : Int × Int) : (prC x).length = 2 := rfl
theorem tab_yes : ∀ x ∈ tab, classV x.1 = x.2 := by decide
theorem tab_no (c : Int) (h : ∀ x ∈ tab, x.1 ≠ c) : classV c = 1 := by
  have h1 := h (0, 0) (by decide); have h2 := h (60, 2) (by decide); have h3 := h (61, 2) (by decide); have h4 := h (2, 3) (by decide); have h5 := h (8, 3) (by decide)
  have h6 := h (6, 4) (by decide); have h7 := h (7, 4) (by decide); have h8 := h (20, 5) (by decide); have h9 := h (210, 5) (by decide); have h10 := h (211, 5) (by decide)
  have h11 := h (240, 5) (by decide); have h12 := h (270, 5) (by decide); have h13 := h (350, 5) (by decide)
  unfold classV
  dsimp only at *
  rw [if_neg (by omega), if_neg (by omega), if_neg (by omega), if_neg (by omega), if_neg (by omega)]
def ClRel (c : Int) (w : World) (i : Value) (wr : World) : Prop := ∃ k : Nat, k ≤ 13 ∧ i = .int .i64 k ∧ (∀ x ∈ tab.take k, x.1 ≠ c) ∧ w = wr
set_option maxHeartbeats 4000000 in
set_option maxRecDepth 100000 in
theorem RClass_any (c : Int) (w : World) :
    Calls Tryd.prog 11 #[.int .i64 c] w fun e w' => e = .returned (.int .i64 (classV c)) ∧ Below w.heap.size w w' := by
  go_enter Tryd.func11, Tryd.ntmps11
  go_wp2_with fail
  generalize hwq : w.alloc _ = wq
  have hw2 : wq = w.alloc (.cells (tab.flatMap prC).toArray 62) := by rw [← hwq]; rfl
  have HR := Lib.hid (show Rd wq w.heap.size (w.heap.size + 1) 2 (some ⟨w.heap.size, 0, none⟩) 13 (tab.flatMap prC) from by
    rw [hw2]; exact ⟨rfl, fun _ => ⟨_, rfl, Nat.le_refl _, Nat.lt_succ_self _, World.news_of_block (heap_alloc_new w _)⟩⟩)
  have HB := Lib.hid (show Below w.heap.size w wq from by rw [hw2]; exact below_a1 _ _)
  clear hwq hw2
  have H0 := Lib.hid (show ClRel c wq (.int .i64 0) wq from ⟨0, Nat.zero_le _, rfl, by simp, rfl⟩)
  go_loopw [4] (fun i wr => ClRel c wq i wr) (fun i _ => 13 - (NodM.intOf i).toNat)
  case atStart => exact H0.out
  case round =>
    obtain ⟨k, hk, rfl, ht, rfl⟩ := hrel
    have HT := Lib.hid ht
    clear ht H0
    by_cases hlt : k < 13
    · obtain ⟨ad, x, e, hlo, hb, hx, hc⟩ := rdk (l := tab) (f := prC) prC_len HR.out (i := k) hlt
      obtain rfl := Option.some.inj e
      have c0 : wq.cell? ((⟨w.heap.size, 0, none⟩ : Addr).add (k * 2)) = some (.int .i64 x.1) := hc 0 _ rfl
      have c1 : wq.cell? ⟨((⟨w.heap.size, 0, none⟩ : Addr).add (k * 2)).block, ((⟨w.heap.size, 0, none⟩ : Addr).add (k * 2)).off + 1, none⟩ = some (.int .i64 x.2) := by rw [add_off _ _ _ (by decide)]; exact hc 1 _ rfl
      have HX := Lib.hid hx
      clear hc hx e hlo hb
      generalize hg : (⟨w.heap.size, 0, none⟩ : Addr) = ad at *
      by_cases hxc : x.1 = c
      · have hb : (x.1 == c) = true := by simpa using hxc
        have F := Lib.hid (show classV c = x.2 by rw [← hxc]; exact tab_yes x (List.mem_of_getElem? HX.out))
        clear hxc
        go_wp2
        go_ret
        exact ⟨ret_int F.out.symm, HB.out⟩
      · have hb : (x.1 == c) = false := by simpa using hxc
        have HXC := Lib.hid hxc
        clear hxc
        go_wp2
        exact ⟨⟨k + 1, hlt, by go_num, fun y hy => by
          rw [take_next HX.out] at hy
          rcases List.mem_append.1 hy with hy | hy
          · exact HT.out y hy
          · obtain rfl := List.mem_singleton.1 hy; exact HXC.out, rfl⟩, by simp [NodM.intOf]; omega⟩
    · have F := Lib.hid (show classV c = 1 from tab_no c (by have := HT.out; rw [List.take_of_length_le (by show 13 ≤ k; omega)] at this; exact this))
      go_wp2
      go_ret
      exact ⟨ret_int F.out.symm, HB.out⟩
end Go.Proofs.YthinjoldbjcifaaDoor.NodC
