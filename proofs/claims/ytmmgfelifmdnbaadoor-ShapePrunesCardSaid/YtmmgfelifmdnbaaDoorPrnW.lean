/- The walk of the law ShapePrunes. -/
import Derived.Test.YtmmgfelifmdnbaaDoorLivW
import Derived.Test.YtmmgfelifmdnbaaDoorPwyM
import Derived.Test.YtmmgfelifmdnbaaDoorAbvW
namespace Go.Proofs.YtmmgfelifmdnbaaDoor.PrnW
set_option linter.unusedVariables false
open Go.RowKit Go.Shelf Base SeqM ShpM ShpV ShpW ShpD ShpT ShpI ShpJ ShpR ShpU ShpX ItrD ItrK ItrF ItrG GlbS LivW LefM PruM PwyM KeeW AbvW PrsD

theorem much_len {ls : List Nd} (h : muchB ls = false) : ls.length ≤ 1000000 := by
  unfold muchB at h
  rw [Bool.or_eq_false_iff] at h
  have := of_decide_eq_false h.1
  omega
theorem wp_cut {P Q : Prop} (h : (True → P) → Q) (p : P) : Q := h fun _ => p
theorem prune_cases (dim : Int) (ls : List Nd) (D : Int) : ∃ pd pl pe, ItrP.pruneR dim ls D = (pd, pl, pe) ∧ pl.length ≤ 1000000 ∧
    (pe ≠ 0 ∨ (pe = 0 ∧ dim = pd ∧ 0 ≤ D ∧ IsT dim ls ∧ IsT dim pl ∧ ∃ b, At ls 0 b ∧ At pl 0 (pru b D.toNat))) := by
  by_cases hT : IsT dim ls
  · by_cases hD : D < 0
    · exact ⟨0, [], 1, by unfold ItrP.pruneR; rw [if_pos (isTB_true.2 hT), if_pos hD], by simp, .inl (by decide)⟩
    · obtain ⟨h1, h2, b, hat, hct, hok, hsz, hhi⟩ := id hT
      have hT2 : IsT dim ((pru b D.toNat).nodes 0) := isT_nodes h1 h2 (pru_ok _ _ hok) (by rw [pru_size]; exact hsz) (by rw [pru_size]; exact Nat.le_trans (pru_high _ _) hhi)
      exact ⟨dim, (pru b D.toNat).nodes 0, 0, prune_nodes hT hat (by omega), Nat.le_trans (isT_len hT2).2 (by omega), .inr ⟨rfl, rfl, by omega, hT, hT2, b, hat, at_nodes _⟩⟩
  · exact ⟨0, [], 100, by unfold ItrP.pruneR; rw [if_neg (by rw [isTB_false.2 hT]; decide)], by simp, .inl (by decide)⟩
theorem wayI_len (b : B) (x : List Int) : (wayI b x).length = (wayOf b 0 x).length := by unfold wayI; simp
theorem lens {dim : Int} {ls : List Nd} {b : B} (D : Int) (x : List Int) (hT : IsT dim ls) (hat : At ls 0 b) {an bn : Nat} (han : (wayI b x).length = an) (hbn : (wayI (pru b D.toNat) x).length = bn) :
    bn ≤ an ∧ 1 ≤ bn ∧ (bn ≤ D.toNat + 1 ∧ (bn < an → bn = D.toNat + 1)) ∧ an ≤ 9223372036854775807 := by
  obtain ⟨_, _, b', hat', _, hok, hsz, hhi⟩ := hT
  obtain rfl := at_unique hat' hat
  have h6 : b'.high ≤ 6 := Nat.le_trans hhi (ShpT.lg_cases (size_pos hok) hsz).2.2
  have h1 := way_len b' 0 x
  have h2 := way_lens b' D.toNat 0 0 x
  have h3 := subs_len b' 0 x
  have h4 := subs_pos b' x
  rw [wayI_len] at han hbn
  omega
theorem ways {ls pl : List Nd} {b : B} {k : Nat} (x : List Int) (hat : At ls 0 b) (hat2 : At pl 0 (pru b k)) {bn : Nat} (hbn : (wayI (pru b k) x).length = bn) :
    ∃ (bj q p : Nat) (nq np : Nd), bn = bj + 1 ∧ (wayI (pru b k) x)[bj]? = some (q : Int) ∧ (wayI b x)[bj]? = some (p : Int) ∧ pl[q]? = some nq ∧ ls[p]? = some np ∧ nq.size = np.size := by
  have h2 := way_lens b k 0 0 x
  have h3 := subs_len b 0 x
  have h4 := subs_pos b x
  rw [wayI_len] at hbn
  obtain ⟨bj, rfl⟩ : ∃ j, bn = j + 1 := ⟨bn - 1, by omega⟩
  have hq : (wayOf (pru b k) 0 x)[bj]? = some ((wayOf (pru b k) 0 x)[bj]'(by omega)) := List.getElem?_eq_getElem _
  have hp : (wayOf b 0 x)[bj]? = some ((wayOf b 0 x)[bj]'(by omega)) := List.getElem?_eq_getElem _
  obtain ⟨nq, np, h5, h6, h7⟩ := way_size hat hat2 hq hp
  exact ⟨bj, _, _, nq, np, rfl, by unfold wayI; rw [List.getElem?_map, hq]; rfl, by unfold wayI; rw [List.getElem?_map, hp]; rfl, h5, h6, h7⟩
/-- a list's elements stand in any later world -/
def Gets (W : World) (AA : Option Addr) (l : List Int) : Prop := ∀ W', Below W.heap.size W W' → ∀ (i : Nat) (z : Int), l[i]? = some z → ∃ ad, AA = some ad ∧ ad.block < W'.heap.size ∧ W'.cell? (ad.add i) = some (.int .i64 z) ∧ i < l.length
theorem Gets.up {W W' : World} {AA : Option Addr} {l : List Int} (h : Gets W AA l) (hb : Below W.heap.size W W') : Gets W' AA l := fun W2 h2 => h W2 (bt h2 hb)
theorem gets_of {W : World} {v : Value} {l : List Int} (h : Seq 1 inC W 0 W.heap.size v l) : ∃ AA ac, v = .slice AA l.length ac ∧ Gets W AA l := by
  obtain ⟨AA, ac, rfl, h1, h2, hr, h3⟩ := id h
  refine ⟨AA, ac, rfl, fun W' hb i z hz => ?_⟩
  obtain ⟨AA', ac', e', _, _, hr', _⟩ := h.up hb
  injection e' with e1 _ _
  subst e1
  have hi : i < l.length := (List.getElem?_eq_some_iff.1 hz).1
  obtain ⟨ad, x, e, _, l1, hx, hc⟩ := rdI hr' hi
  rw [hz] at hx
  obtain rfl := Option.some.inj hx
  exact ⟨ad, e, l1, hc, hi⟩
theorem above_c {nv xv : Value} {ls : List Nd} {x : List Int} {dim : Int} {b : B} {an : Nat} (hT : IsT dim ls) (hat : At ls 0 b) (han : (wayI b x).length = an) (W : World) (hN : Nds W 0 W.heap.size nv ls) (hS : Seq 1 inC W 0 W.heap.size xv x) :
    Calls Tryd.prog 25 #[.agg #[.int .i64 dim, nv], xv] W fun e w' => (∃ AA ac, e = .returned (.slice AA an ac) ∧ Gets w' AA (wayI b x)) ∧ Below W.heap.size W w' := by
  refine (Above_in nv xv ls x dim 0 0 W hN hS hT b hat).mono ?_
  rintro e w' ⟨⟨v, rfl, hs⟩, hb⟩
  obtain ⟨AA, ac, rfl, hg⟩ := gets_of (hs.more (Nat.zero_le _) (Nat.le_refl _))
  rw [han]
  exact ⟨⟨AA, ac, rfl, hg⟩, hb⟩
theorem cells4 {w w' : World} {b b' : Nat} {dim dim' : Int} {A A' : Option Addr} {n c n' c' : Nat} {T T' : List Nd} {W : World} (h : LV w b dim A n c T W) (h' : LV w' b' dim' A' n' c' T' W) :
    W.cell? ⟨b, 0, none⟩ = some (.int .i64 dim) ∧ W.cell? ⟨b, 1, none⟩ = some (.slice A n c) ∧ W.cell? ⟨b', 0, none⟩ = some (.int .i64 dim') ∧ W.cell? ⟨b', 1, none⟩ = some (.slice A' n' c') := ⟨h.cells.1, h.cells.2, h'.cells.1, h'.cells.2⟩
theorem cells_up {W W' : World} (hb : Below W.heap.size W W') {a1 a2 a3 a4 : Addr} {k1 k2 k3 k4 : Nat} {v1 v2 v3 v4 : Value}
    (h : W.cell? (a1.add k1) = some v1 ∧ W.cell? (a2.add k2) = some v2 ∧ W.cell? ⟨(a3.add k3).block, (a3.add k3).off + 4, none⟩ = some v3 ∧ W.cell? ⟨(a4.add k4).block, (a4.add k4).off + 4, none⟩ = some v4)
    (h1 : a1.block < W.heap.size) (h2 : a2.block < W.heap.size) (h3 : a3.block < W.heap.size) (h4 : a4.block < W.heap.size) :
    W'.cell? (a1.add k1) = some v1 ∧ W'.cell? (a2.add k2) = some v2 ∧ W'.cell? ⟨(a3.add k3).block, (a3.add k3).off + 4, none⟩ = some v3 ∧ W'.cell? ⟨(a4.add k4).block, (a4.add k4).off + 4, none⟩ = some v4 :=
  ⟨(hb.cell (by rw [add_block]; exact h1)).trans h.1, (hb.cell (by rw [add_block]; exact h2)).trans h.2.1, (hb.cell (by show (a3.add k3).block < _; rw [add_block]; exact h3)).trans h.2.2.1, (hb.cell (by show (a4.add k4).block < _; rw [add_block]; exact h4)).trans h.2.2.2⟩
set_option maxHeartbeats 8000000 in
set_option maxRecDepth 100000 in
theorem ShapePrunes_any (dim D : Int) (nv xv : Value) (ls : List Nd) (x : List Int) (w : World) (h : Nds w 0 w.heap.size nv ls) (h' : Seq 1 inC w 0 w.heap.size xv x) (hD : -9223372036854775808 ≤ D ∧ D ≤ 9223372036854775807) (hG : G w) :
    Calls Tryd.prog 5 #[.agg #[.int .i64 dim, nv], .int .i64 D, xv] w fun e w' => e = .returned (.bool true) ∧ Below w.heap.size w w' := by
  obtain ⟨A, c, rfl, _, _, _⟩ := h.form
  obtain ⟨XA, xc, rfl, xc1, xc2, _⟩ := id h'
  obtain ⟨n, hn⟩ : ∃ n, ls.length = n := ⟨_, rfl⟩
  obtain ⟨xn, hxn⟩ : ∃ n, x.length = n := ⟨_, rfl⟩
  obtain ⟨pd, pl, pe, hP, hpl, hcase⟩ := prune_cases dim ls D
  obtain ⟨m, hm'⟩ : ∃ m, pl.length = m := ⟨_, rfl⟩
  have X0 := Lib.hid (show LV w w.heap.size dim A ls.length c ls (w.alloc (.cells #[.int .i64 dim, .slice A ls.length c] 24)) from ⟨heap_alloc_new w _, h.up (below_a1 _ _), below_a1 _ _⟩)
  have HG := Lib.hid hG
  have HL7 := Lib.hid (fun h => much_len (ls := ls) h)
  have HS := Lib.hid (fun (W : World) (hb : Below w.heap.size w W) => h'.up hb)
  have HP1 := Lib.hid (fun (W : World) (hW : Nds W 0 W.heap.size (.slice A ls.length c) ls) => by have := ItrP.Prune_any D dim _ ls 0 W hW; rw [hP] at this; exact this)
  have HP2 := Lib.hid (fun h7 (W : World) (hW : Nds W 0 W.heap.size (.slice A ls.length c) ls) => by have := RPrune_any D dim _ ls 0 W hW h7 hD.2; rw [hP] at this; exact this)
  have HC := Lib.hid hcase
  have HM := Lib.hid hm'
  have HNL := Lib.hid hn
  have HPL := Lib.hid hpl
  rw [hxn] at HS xc1 ⊢
  rw [hn] at X0 HP1 HP2 HL7 ⊢
  clear h h' hG hP hcase hm' hpl
  go_enter Tryd.func5, Tryd.ntmps5
  go_wp2_with fail
  refine (Much_any _ _ _ 0 _ X0.out.nds).mono ?_
  rintro e w1 ⟨rfl, hb⟩
  have X1 := Lib.hid (X0.out.below hb)
  clear hb
  obtain ⟨t0, t1⟩ := X1.out.cells
  have lz := X1.out.lt
  cases hm : muchB ls with
  | true =>
    go_wp2_with fail
    refine (lives_any _ (HG.out.below X1.out.low)).mono ?_
    rintro e w2 ⟨rfl, hb⟩
    have X2 := Lib.hid (X1.out.below hb)
    clear hb
    go_wp2_with fail
    go_ret
    exact ⟨rfl, X2.out.low⟩
  | false =>
    have HP2 := Lib.hid (HP2.out (HL7.out hm))
    by_cases hx20 : (xn : Int) > 20
    · have hd : decide ((xn : Int) > 20) = true := decide_eq_true hx20
      go_wp2_with fail
      refine (lives_any _ (HG.out.below X1.out.low)).mono ?_
      rintro e w2 ⟨rfl, hb⟩
      have X2 := Lib.hid (X1.out.below hb)
      clear hb
      go_wp2_with fail
      go_ret
      exact ⟨rfl, X2.out.low⟩
    · have hd : decide ((xn : Int) > 20) = false := decide_eq_false hx20
      go_wp2_with fail
      refine (HP1.out _ X1.out.nds).mono ?_
      rintro e w2 ⟨⟨v2, rfl, hN2⟩, hb2⟩
      dsimp only at hN2 ⊢
      obtain ⟨A7, c7, rfl, _, _, _⟩ := hN2.form
      rw [HM.out] at hN2 ⊢
      have X2 := Lib.hid (X1.out.below hb2)
      clear t0 t1 lz hb2
      obtain ⟨t0, t1⟩ := X2.out.cells
      have lz := X2.out.lt
      have Y3 := Lib.hid (show LV w w2.heap.size pd A7 m c7 pl (w2.alloc (.cells #[.int .i64 pd, .slice A7 m c7] 24)) from ⟨heap_alloc_new w2 _, (hN2.more (Nat.zero_le _) (Nat.le_refl _)).up (below_a1 _ _), bt (below_a1 _ _) X2.out.low⟩)
      have X3 := Lib.hid (X2.out.below (below_a1 w2 (.cells #[.int .i64 pd, .slice A7 m c7] 24)))
      clear hN2
      go_wp2_with fail
      refine (HP2.out _ X3.out.nds).mono ?_
      rintro e w4 ⟨⟨v4, rfl, hN4⟩, hb4⟩
      dsimp only at hN4 ⊢
      obtain ⟨A9, c9, rfl, _, _, _⟩ := hN4.form
      rw [HM.out] at hN4 ⊢
      have X4 := Lib.hid (X3.out.below hb4)
      have Y4 := Lib.hid (Y3.out.below hb4)
      obtain ⟨b7, hb7⟩ : ∃ b, w2.heap.size = b := ⟨_, rfl⟩
      rw [hb7] at Y4 ⊢
      clear t0 t1 lz hb4 X3 Y3 hb7
      have Z5 := Lib.hid (show LV w w4.heap.size pd A9 m c9 pl (w4.alloc (.cells #[.int .i64 pd, .slice A9 m c9] 24)) from ⟨heap_alloc_new w4 _, (hN4.more (Nat.zero_le _) (Nat.le_refl _)).up (below_a1 _ _), bt (below_a1 _ _) X4.out.low⟩)
      have X5 := Lib.hid (X4.out.below (below_a1 w4 (.cells #[.int .i64 pd, .slice A9 m c9] 24)))
      have Y5 := Lib.hid (Y4.out.below (below_a1 w4 (.cells #[.int .i64 pd, .slice A9 m c9] 24)))
      obtain ⟨y0, y1⟩ := Y4.out.cells
      have ly := Y4.out.lt
      clear hN4
      go_wp2_with fail
      refine (RTSame_any _ _ pl pl _ _ 0 0 _ Y5.out.nds Z5.out.nds).mono ?_
      rintro e w6 ⟨rfl, hb⟩
      rw [sameT_yes ⟨rfl, rfl⟩]
      have X1 := Lib.hid (X5.out.below hb)
      have Y1 := Lib.hid (Y5.out.below hb)
      have Z1 := Lib.hid (Z5.out.below hb)
      obtain ⟨b9, hb9⟩ : ∃ b, w4.heap.size = b := ⟨_, rfl⟩
      rw [hb9] at Z1 ⊢
      clear hb X2 X4 Y4 X5 Y5 Z5 y0 y1 ly hb9
      have hpp : (pe != pe) = false := by simp
      obtain ⟨t0, t1⟩ := X1.out.cells
      have lz := X1.out.lt
      rcases HC.out with hpe | ⟨rfl, rfl, hD0, hT, hT2, b, hat, hat2⟩
      · have hpe1 : (pe != 0) = true := by simpa using hpe
        clear hpe
        go_wp2_with fail
        refine (lives_any _ (HG.out.below X1.out.low)).mono ?_
        rintro e w2 ⟨rfl, hb⟩
        have X2 := Lib.hid (X1.out.below hb)
        clear hb
        go_wp2_with fail
        go_ret
        exact ⟨rfl, X2.out.low⟩
      · go_wp2_with fail
        refine (RIs_any _ _ _ _ _ _ (HS.out _ X1.out.low)).mono ?_
        rintro e w7 ⟨rfl, rfl⟩
        cases hv : vecB x dim with
        | false =>
          go_wp2_with fail
          refine (lives_any _ (HG.out.below X1.out.low)).mono ?_
          rintro e w2 ⟨rfl, hb⟩
          have X2 := Lib.hid (X1.out.below hb)
          clear hb
          go_wp2_with fail
          go_ret
          exact ⟨rfl, X2.out.low⟩
        | true =>
          obtain ⟨an, han⟩ : ∃ an, (wayI b x).length = an := ⟨_, rfl⟩
          obtain ⟨bn, hbn⟩ : ∃ bn, (wayI (pru b D.toNat) x).length = bn := ⟨_, rfl⟩
          have HAa := Lib.hid (fun (W : World) (hN : Nds W 0 W.heap.size (.slice A n c) ls) (hS : Seq 1 inC W 0 W.heap.size (.slice XA xn xc) x) => above_c hT hat han W hN hS)
          have HAb := Lib.hid (fun (W : World) (hN : Nds W 0 W.heap.size (.slice A9 m c9) pl) (hS : Seq 1 inC W 0 W.heap.size (.slice XA xn xc) x) => above_c hT2 hat2 hbn W hN hS)
          have HN := Lib.hid (lens D x hT hat han hbn)
          have HW := Lib.hid (ways x hat hat2 hbn)
          have HAN := Lib.hid han
          have HBN := Lib.hid hbn
          have HT2 := Lib.hid hT2
          clear han hbn hat hat2 hT hT2
          go_wp2_with fail
          obtain ⟨t0', t1'⟩ := Z1.out.cells
          refine wp_region_held_drew (S := fun w' => w'.cell? ⟨w.heap.size, 0, none⟩ = some (.int .i64 dim) ∧ w'.cell? ⟨w.heap.size, 1, none⟩ = some (.slice A n c) ∧ w'.cell? ⟨b9, 0, none⟩ = some (.int .i64 dim) ∧ w'.cell? ⟨b9, 1, none⟩ = some (.slice A9 m c9)) (by kernel_rfl) ⟨t0, t1, t0', t1'⟩ (fun hHeld => ?_)
          have hx := X1.out.below (Below.refl _ _).drew
          have hy := Y1.out.below (Below.refl _ _).drew
          have hz := Z1.out.below (Below.refl _ _).drew
          obtain ⟨w4, hw4⟩ : ∃ W, w6.drew = W := ⟨_, rfl⟩
          rw [hw4] at hx hy hz hHeld ⊢
          have X4 := Lib.hid hx
          have Y4 := Lib.hid hy
          have Z4 := Lib.hid hz
          clear hx hy hz hw4 t0 t1 lz t0' t1' X1 Y1 Z1
          refine wpAnyH_take (i := 0) (oi := ?oi0_1) (v := ?v0_1) ?hi0_1 (by kernel_rfl) ?hf0_1 (by kernel_rfl) ?hq0_1 ?hy0_1 hHeld ?rest0_1
          case hi0_1 => (simp only [List.getElem?_toArray, List.getElem?_cons_zero]; try exact rfl)
          case hf0_1 => kernel_rfl
          case hq0_1 => exact fun _ _ _ h => h
          case hy0_1 => (refine Or.inl ⟨rfl, ?_⟩; intro w hSw; (try dsimp only at hSw); go_simp; try with_reducible rfl)
          try simp only [Act.put, List.setIfInBounds_toArray, List.set_cons_zero, List.set_cons_succ]
          refine wpAnyH_take (i := 1) (oi := ?oi1_2) (v := ?v1_2) ?hi1_2 (by kernel_rfl) ?hf1_2 (by kernel_rfl) ?hq1_2 ?hy1_2 hHeld ?rest1_2
          case hi1_2 => (simp only [List.getElem?_toArray, List.getElem?_cons_succ, List.getElem?_cons_zero]; try exact rfl)
          case hf1_2 => kernel_rfl
          case hq1_2 => exact fun _ _ _ h => h
          case hy1_2 => (refine Or.inl ⟨rfl, ?_⟩; intro w hSw; (try dsimp only at hSw); go_simp; try with_reducible rfl)
          try simp only [Act.put, List.setIfInBounds_toArray, List.set_cons_zero, List.set_cons_succ]
          refine wpAnyH_take (i := 3) (oi := ?oi3_3) (v := ?v3_3) ?hi3_3 (by kernel_rfl) ?hf3_3 (by kernel_rfl) ?hq3_3 ?hy3_3 hHeld ?rest3_3
          case hi3_3 => (simp only [List.getElem?_toArray, List.getElem?_cons_succ, List.getElem?_cons_zero]; try exact rfl)
          case hf3_3 => kernel_rfl
          case hq3_3 => exact fun _ _ _ h => h
          case hy3_3 => (refine Or.inl ⟨rfl, ?_⟩; intro w hSw; (try dsimp only at hSw); go_simp; try with_reducible rfl)
          try simp only [Act.put, List.setIfInBounds_toArray, List.set_cons_zero, List.set_cons_succ]
          refine wpAnyH_take (i := 4) (oi := ?oi4_4) (v := ?v4_4) ?hi4_4 (by kernel_rfl) ?hf4_4 (by kernel_rfl) ?hq4_4 ?hy4_4 hHeld ?rest4_4
          case hi4_4 => (simp only [List.getElem?_toArray, List.getElem?_cons_succ, List.getElem?_cons_zero]; try exact rfl)
          case hf4_4 => kernel_rfl
          case hq4_4 => exact fun _ _ _ h => h
          case hy4_4 => (refine Or.inl ⟨rfl, ?_⟩; intro w hSw; (try dsimp only at hSw); go_simp; try with_reducible rfl)
          try simp only [Act.put, List.setIfInBounds_toArray, List.set_cons_zero, List.set_cons_succ]
          refine wpAnyH_ready (rs := [2]) (by kernel_rfl) (by simp) ?_
          refine AllReadyH.cons (by simp only [List.getElem?_toArray, List.getElem?_cons_succ, List.getElem?_cons_zero]; try exact rfl) (fun K hK => ?_) AllReadyH.nil
          go_simp
          refine (HAa.out _ X4.out.nds (HS.out _ X4.out.low)).mono ?_
          rintro e w5 ⟨⟨AA, ac, rfl, hSa⟩, hb⟩
          have X5 := Lib.hid (X4.out.below hb)
          have Y5 := Lib.hid (Y4.out.below hb)
          have Z5 := Lib.hid (Z4.out.below hb)
          have SA5 := Lib.hid hSa
          clear hb hSa
          refine hK.out _ _ (cells4 X5.out Z5.out) (fun hHeld => ?_)
          clear hK K
          try simp only [Act.put, List.setIfInBounds_toArray, List.set_cons_zero, List.set_cons_succ]
          refine wpAnyH_ready (rs := [5]) (by kernel_rfl) (by simp) ?_
          refine AllReadyH.cons (by simp only [List.getElem?_toArray, List.getElem?_cons_succ, List.getElem?_cons_zero]; try exact rfl) (fun K hK => ?_) AllReadyH.nil
          go_simp
          refine (HAb.out _ Z5.out.nds (HS.out _ Z5.out.low)).mono ?_
          rintro e w6 ⟨⟨BA, bc, rfl, hSb⟩, hb⟩
          have X6 := Lib.hid (X5.out.below hb)
          have Y6 := Lib.hid (Y5.out.below hb)
          have Z6 := Lib.hid (Z5.out.below hb)
          have SA6 := Lib.hid (SA5.out.up hb)
          have SB6 := Lib.hid hSb
          clear hb hSb
          refine hK.out _ _ (cells4 X6.out Z6.out) (fun hHeld => ?_)
          clear hK K
          try simp only [Act.put, List.setIfInBounds_toArray, List.set_cons_zero, List.set_cons_succ]
          refine wpAnyH_take (i := 6) (oi := ?oi6_5) (v := ?v6_5) ?hi6_5 (by kernel_rfl) ?hf6_5 (by kernel_rfl) ?hq6_5 ?hy6_5 hHeld ?rest6_5
          case hi6_5 => (simp only [List.getElem?_toArray, List.getElem?_cons_succ, List.getElem?_cons_zero]; try exact rfl)
          case hf6_5 => kernel_rfl
          case hq6_5 => exact fun _ _ _ h => h
          case hy6_5 => (refine Or.inl ⟨rfl, ?_⟩; intro w hSw; (try dsimp only at hSw); go_simp; try with_reducible rfl)
          try simp only [Act.put, List.setIfInBounds_toArray, List.set_cons_zero, List.set_cons_succ]
          refine wpAnyH_take (i := 7) (oi := ?oi7_6) (v := ?v7_6) ?hi7_6 (by kernel_rfl) ?hf7_6 (by kernel_rfl) ?hq7_6 ?hy7_6 hHeld ?rest7_6
          case hi7_6 => (simp only [List.getElem?_toArray, List.getElem?_cons_succ, List.getElem?_cons_zero]; try exact rfl)
          case hf7_6 => kernel_rfl
          case hq7_6 => exact fun _ _ _ h => h
          case hy7_6 => (refine Or.inl ⟨rfl, ?_⟩; intro w hSw; (try dsimp only at hSw); go_simp; try with_reducible rfl)
          try simp only [Act.put, List.setIfInBounds_toArray, List.set_cons_zero, List.set_cons_succ]
          refine wpAnyH_done (by kernel_rfl) ?_ _
          have hab := HN.out.1
          have hb1 := HN.out.2.1
          have ha9 : an ≤ 9223372036854775807 := HN.out.2.2.2
          have hgt : decide ((bn : Int) > (an : Int)) = false := decide_eq_false (by omega)
          have hw1 : IntKind.i64.wrap ((bn : Int) - 1) = (bn : Int) - 1 := IntWalk.i64_in _ (by omega)
          have HNb := HN.out.2.2.1
          by_cases c1 : 1 < bn
          · have g1 : decide ((bn : Int) > 1) = true := decide_eq_true (by omega)
            have g2 : decide ((bn : Int) - 1 > D) = false := decide_eq_false (by omega)
            by_cases c2 : bn < an
            · have g3 : decide ((bn : Int) < (an : Int)) = true := decide_eq_true (by omega)
              have g4 : ((bn : Int) - 1 != D) = false := by have : (bn : Int) - 1 = D := by omega
                                                            simp [this]
              clear HNb hab hb1 ha9
              go_wp2_with fail
              clear hgt hw1 g1 g3
              obtain ⟨bj, q, p, nq, np, e1, e2, e3, e4, e5, e6⟩ := HW.out
              obtain ⟨adB, eB, lB, cB, iB⟩ := SB6.out _ (Below.refl _ _) bj _ e2
              obtain ⟨adA, eA, lA, cA, iA⟩ := SA6.out _ (Below.refl _ _) bj _ e3
              subst eB eA
              rw [HBN.out] at iB
              rw [HAN.out] at iA
              have iq := (List.getElem?_eq_some_iff.1 e4).1
              have ip := (List.getElem?_eq_some_iff.1 e5).1
              rw [HM.out] at iq
              rw [HNL.out] at ip
              obtain ⟨ad7, cv7, f7, l7, _, _, _, _, d7, _⟩ := Y6.out.nds.get e4
              obtain ⟨ad0, cv0, f0, l0, _, _, _, _, d0, _⟩ := X6.out.nds.get e5
              subst f7 f0
              rw [e6] at d7
              obtain ⟨sz, hsz⟩ : ∃ sz, np.size = sz := ⟨_, rfl⟩
              rw [hsz] at d7 d0
              have hb1 := HN.out.2.1
              have ha9 := HN.out.2.2.2
              have hab := HN.out.1
              have hwj : IntKind.i64.wrap ((bn : Int) - 1) = (bj : Int) := by rw [IntWalk.i64_in _ (by omega)]; omega
              obtain ⟨t0, t1⟩ := X6.out.cells
              obtain ⟨y0, y1⟩ := Y6.out.cells
              have hsee : (sz == sz) = true := by simp
              clear e1 e2 e3 e4 e5 e6 hsz hb1 ha9 hab
              refine wp_region_held_drew (S := fun w' => w'.cell? ⟨w.heap.size, 0, none⟩ = some (.int .i64 dim) ∧ w'.cell? ⟨w.heap.size, 1, none⟩ = some (.slice (some ad0) n c) ∧ w'.cell? ⟨b7, 0, none⟩ = some (.int .i64 dim) ∧ w'.cell? ⟨b7, 1, none⟩ = some (.slice (some ad7) m c7) ∧ w'.cell? (adB.add bj) = some (.int .i64 q) ∧ w'.cell? (adA.add bj) = some (.int .i64 p) ∧ w'.cell? ⟨(ad7.add (q * 5)).block, (ad7.add (q * 5)).off + 4, none⟩ = some (.int .i64 sz) ∧ w'.cell? ⟨(ad0.add (p * 5)).block, (ad0.add (p * 5)).off + 4, none⟩ = some (.int .i64 sz)) (by kernel_rfl) ⟨t0, t1, y0, y1, cB, cA, d7, d0⟩ (fun hHeld => ?_)
              have hx := X6.out.below (Below.refl _ _).drew
              have hy := Y6.out.below (Below.refl _ _).drew
              have HCC := Lib.hid (fun (W : World) (hb : Below w6.drew.heap.size w6.drew W) => cells_up (hb := hb) (And.intro cB (And.intro cA (And.intro d7 d0))) lB lA l7 l0)
              obtain ⟨w8, hw8⟩ : ∃ W, w6.drew = W := ⟨_, rfl⟩
              rw [hw8] at hx hy hHeld HCC ⊢
              have X8 := Lib.hid hx
              have Y8 := Lib.hid hy
              clear hx hy hw8 t0 t1 y0 y1 cB cA d7 d0 lB lA l7 l0
              refine wpAnyH_take (i := 0) (oi := ?oi0_7) (v := ?v0_7) ?hi0_7 (by kernel_rfl) ?hf0_7 (by kernel_rfl) ?hq0_7 ?hy0_7 hHeld ?rest0_7
              case hi0_7 => (simp only [List.getElem?_toArray, List.getElem?_cons_zero]; try exact rfl)
              case hf0_7 => kernel_rfl
              case hq0_7 => exact fun _ _ _ h => h
              case hy0_7 => (refine Or.inl ⟨rfl, ?_⟩; intro w hSw; (try dsimp only at hSw); go_simp; try with_reducible rfl)
              try simp only [Act.put, List.setIfInBounds_toArray, List.set_cons_zero, List.set_cons_succ]
              refine wpAnyH_ready (rs := [1]) (by kernel_rfl) (by simp) ?_
              refine AllReadyH.cons (by simp only [List.getElem?_toArray, List.getElem?_cons_succ, List.getElem?_cons_zero]; try exact rfl) (fun K hK => ?_) AllReadyH.nil
              go_simp
              refine (RTIs_any _ pl _ 0 _ Y8.out.nds HPL.out).mono ?_
              rintro e w9 ⟨rfl, hb9⟩
              rw [isTB_true.2 HT2.out]
              have X9 := Lib.hid (X8.out.below hb9)
              have Y9 := Lib.hid (Y8.out.below hb9)
              have HB9 := Lib.hid hb9
              refine hK.out _ _ ⟨X9.out.cells.1, X9.out.cells.2, Y9.out.cells.1, Y9.out.cells.2, (HCC.out _ hb9).1, (HCC.out _ hb9).2.1, (HCC.out _ hb9).2.2.1, (HCC.out _ hb9).2.2.2⟩ (fun hHeld => ?_)
              clear hK K
              try simp only [Act.put, List.setIfInBounds_toArray, List.set_cons_zero, List.set_cons_succ]
              clear hb9
              refine wpAnyH_take (i := 2) (oi := ?oi2_8) (v := ?v2_8) ?hi2_8 (by kernel_rfl) ?hf2_8 (by kernel_rfl) ?hq2_8 ?hy2_8 hHeld ?rest2_8
              case hi2_8 => (simp only [List.getElem?_toArray, List.getElem?_cons_succ, List.getElem?_cons_zero]; try exact rfl)
              case hf2_8 => kernel_rfl
              case hq2_8 => exact fun _ _ _ h => h
              case hy2_8 => (refine Or.inl ⟨rfl, ?_⟩; intro w hSw; (try dsimp only at hSw); go_simp; try with_reducible rfl)
              try simp only [Act.put, List.setIfInBounds_toArray, List.set_cons_zero, List.set_cons_succ]
              refine wpAnyH_take (i := 3) (oi := ?oi3_9) (v := ?v3_9) ?hi3_9 (by kernel_rfl) ?hf3_9 (by kernel_rfl) ?hq3_9 ?hy3_9 hHeld ?rest3_9
              case hi3_9 => (simp only [List.getElem?_toArray, List.getElem?_cons_succ, List.getElem?_cons_zero]; try exact rfl)
              case hf3_9 => kernel_rfl
              case hq3_9 => exact fun _ _ _ h => h
              case hy3_9 => (refine Or.inl ⟨rfl, ?_⟩; intro w hSw; (try dsimp only at hSw); go_simp; try with_reducible rfl)
              try simp only [Act.put, List.setIfInBounds_toArray, List.set_cons_zero, List.set_cons_succ]
              refine wpAnyH_take (i := 4) (oi := ?oi4_10) (v := ?v4_10) ?hi4_10 (by kernel_rfl) ?hf4_10 (by kernel_rfl) ?hq4_10 ?hy4_10 hHeld ?rest4_10
              case hi4_10 => (simp only [List.getElem?_toArray, List.getElem?_cons_succ, List.getElem?_cons_zero]; try exact rfl)
              case hf4_10 => kernel_rfl
              case hq4_10 => exact fun _ _ _ h => h
              case hy4_10 => (refine Or.inl ⟨rfl, ?_⟩; intro w hSw; (try dsimp only at hSw); go_simp; try with_reducible rfl)
              try simp only [Act.put, List.setIfInBounds_toArray, List.set_cons_zero, List.set_cons_succ]
              refine wpAnyH_take (i := 5) (oi := ?oi5_11) (v := ?v5_11) ?hi5_11 (by kernel_rfl) ?hf5_11 (by kernel_rfl) ?hq5_11 ?hy5_11 hHeld ?rest5_11
              case hi5_11 => (simp only [List.getElem?_toArray, List.getElem?_cons_succ, List.getElem?_cons_zero]; try exact rfl)
              case hf5_11 => kernel_rfl
              case hq5_11 => exact fun _ _ _ h => h
              case hy5_11 => (refine Or.inl ⟨rfl, ?_⟩; intro w hSw; (try dsimp only at hSw); go_simp; try with_reducible rfl)
              try simp only [Act.put, List.setIfInBounds_toArray, List.set_cons_zero, List.set_cons_succ]
              refine wpAnyH_take (i := 6) (oi := ?oi6_12) (v := ?v6_12) ?hi6_12 (by kernel_rfl) ?hf6_12 (by kernel_rfl) ?hq6_12 ?hy6_12 hHeld ?rest6_12
              case hi6_12 => (simp only [List.getElem?_toArray, List.getElem?_cons_succ, List.getElem?_cons_zero]; try exact rfl)
              case hf6_12 => kernel_rfl
              case hq6_12 => exact fun _ _ _ h => h
              case hy6_12 => (refine Or.inl ⟨rfl, ?_⟩; intro w hSw; (try dsimp only at hSw); go_simp; try with_reducible rfl)
              try simp only [Act.put, List.setIfInBounds_toArray, List.set_cons_zero, List.set_cons_succ]
              refine wpAnyH_take (i := 7) (oi := ?oi7_13) (v := ?v7_13) ?hi7_13 (by kernel_rfl) ?hf7_13 (by kernel_rfl) ?hq7_13 ?hy7_13 hHeld ?rest7_13
              case hi7_13 => (simp only [List.getElem?_toArray, List.getElem?_cons_succ, List.getElem?_cons_zero]; try exact rfl)
              case hf7_13 => kernel_rfl
              case hq7_13 => exact fun _ _ _ h => h
              case hy7_13 => (refine Or.inl ⟨rfl, ?_⟩; intro w hSw; (try dsimp only at hSw); go_simp; try with_reducible rfl)
              try simp only [Act.put, List.setIfInBounds_toArray, List.set_cons_zero, List.set_cons_succ]
              refine wpAnyH_take (i := 8) (oi := ?oi8_14) (v := ?v8_14) ?hi8_14 (by kernel_rfl) ?hf8_14 (by kernel_rfl) ?hq8_14 ?hy8_14 hHeld ?rest8_14
              case hi8_14 => (simp only [List.getElem?_toArray, List.getElem?_cons_succ, List.getElem?_cons_zero]; try exact rfl)
              case hf8_14 => kernel_rfl
              case hq8_14 => exact fun _ _ _ h => h
              case hy8_14 => (refine Or.inl ⟨rfl, ?_⟩; intro w hSw; (try dsimp only at hSw); go_simp; try with_reducible rfl)
              try simp only [Act.put, List.setIfInBounds_toArray, List.set_cons_zero, List.set_cons_succ]
              refine wpAnyH_take (i := 9) (oi := ?oi9_15) (v := ?v9_15) ?hi9_15 (by kernel_rfl) ?hf9_15 (by kernel_rfl) ?hq9_15 ?hy9_15 hHeld ?rest9_15
              case hi9_15 => (simp only [List.getElem?_toArray, List.getElem?_cons_succ, List.getElem?_cons_zero]; try exact rfl)
              case hf9_15 => kernel_rfl
              case hq9_15 => exact fun _ _ _ h => h
              case hy9_15 => (refine Or.inl ⟨rfl, ?_⟩; intro w hSw; (try dsimp only at hSw); go_simp; try with_reducible rfl)
              try simp only [Act.put, List.setIfInBounds_toArray, List.set_cons_zero, List.set_cons_succ]
              refine wpAnyH_take (i := 10) (oi := ?oi10_16) (v := ?v10_16) ?hi10_16 (by kernel_rfl) ?hf10_16 (by kernel_rfl) ?hq10_16 ?hy10_16 hHeld ?rest10_16
              case hi10_16 => (simp only [List.getElem?_toArray, List.getElem?_cons_succ, List.getElem?_cons_zero]; try exact rfl)
              case hf10_16 => kernel_rfl
              case hq10_16 => exact fun _ _ _ h => h
              case hy10_16 => (refine Or.inl ⟨rfl, ?_⟩; intro w hSw; (try dsimp only at hSw); go_simp; try with_reducible rfl)
              try simp only [Act.put, List.setIfInBounds_toArray, List.set_cons_zero, List.set_cons_succ]
              refine wpAnyH_take (i := 11) (oi := ?oi11_17) (v := ?v11_17) ?hi11_17 (by kernel_rfl) ?hf11_17 (by kernel_rfl) ?hq11_17 ?hy11_17 hHeld ?rest11_17
              case hi11_17 => (simp only [List.getElem?_toArray, List.getElem?_cons_succ, List.getElem?_cons_zero]; try exact rfl)
              case hf11_17 => kernel_rfl
              case hq11_17 => exact fun _ _ _ h => h
              case hy11_17 => (refine Or.inl ⟨rfl, ?_⟩; intro w hSw; (try dsimp only at hSw); go_simp; try with_reducible rfl)
              try simp only [Act.put, List.setIfInBounds_toArray, List.set_cons_zero, List.set_cons_succ]
              refine wpAnyH_take (i := 12) (oi := ?oi12_18) (v := ?v12_18) ?hi12_18 (by kernel_rfl) ?hf12_18 (by kernel_rfl) ?hq12_18 ?hy12_18 hHeld ?rest12_18
              case hi12_18 => (simp only [List.getElem?_toArray, List.getElem?_cons_succ, List.getElem?_cons_zero]; try exact rfl)
              case hf12_18 => kernel_rfl
              case hq12_18 => exact fun _ _ _ h => h
              case hy12_18 => (refine Or.inl ⟨rfl, ?_⟩; intro w hSw; (try dsimp only at hSw); go_simp; try with_reducible rfl)
              try simp only [Act.put, List.setIfInBounds_toArray, List.set_cons_zero, List.set_cons_succ]
              refine wpAnyH_take (i := 13) (oi := ?oi13_19) (v := ?v13_19) ?hi13_19 (by kernel_rfl) ?hf13_19 (by kernel_rfl) ?hq13_19 ?hy13_19 hHeld ?rest13_19
              case hi13_19 => (simp only [List.getElem?_toArray, List.getElem?_cons_succ, List.getElem?_cons_zero]; try exact rfl)
              case hf13_19 => kernel_rfl
              case hq13_19 => exact fun _ _ _ h => h
              case hy13_19 => (refine Or.inl ⟨rfl, ?_⟩; intro w hSw; (try dsimp only at hSw); go_simp; try with_reducible rfl)
              try simp only [Act.put, List.setIfInBounds_toArray, List.set_cons_zero, List.set_cons_succ]
              refine wpAnyH_take (i := 14) (oi := ?oi14_20) (v := ?v14_20) ?hi14_20 (by kernel_rfl) ?hf14_20 (by kernel_rfl) ?hq14_20 ?hy14_20 hHeld ?rest14_20
              case hi14_20 => (simp only [List.getElem?_toArray, List.getElem?_cons_succ, List.getElem?_cons_zero]; try exact rfl)
              case hf14_20 => kernel_rfl
              case hq14_20 => exact fun _ _ _ h => h
              case hy14_20 => (refine Or.inl ⟨rfl, ?_⟩; intro w hSw; (try dsimp only at hSw); go_simp; try with_reducible rfl)
              try simp only [Act.put, List.setIfInBounds_toArray, List.set_cons_zero, List.set_cons_succ]
              refine wpAnyH_take (i := 15) (oi := ?oi15_21) (v := ?v15_21) ?hi15_21 (by kernel_rfl) ?hf15_21 (by kernel_rfl) ?hq15_21 ?hy15_21 hHeld ?rest15_21
              case hi15_21 => (simp only [List.getElem?_toArray, List.getElem?_cons_succ, List.getElem?_cons_zero]; try exact rfl)
              case hf15_21 => kernel_rfl
              case hq15_21 => exact fun _ _ _ h => h
              case hy15_21 => (refine Or.inl ⟨rfl, ?_⟩; intro w hSw; (try dsimp only at hSw); go_simp; try with_reducible rfl)
              try simp only [Act.put, List.setIfInBounds_toArray, List.set_cons_zero, List.set_cons_succ]
              refine wpAnyH_take (i := 16) (oi := ?oi16_22) (v := ?v16_22) ?hi16_22 (by kernel_rfl) ?hf16_22 (by kernel_rfl) ?hq16_22 ?hy16_22 hHeld ?rest16_22
              case hi16_22 => (simp only [List.getElem?_toArray, List.getElem?_cons_succ, List.getElem?_cons_zero]; try exact rfl)
              case hf16_22 => kernel_rfl
              case hq16_22 => exact fun _ _ _ h => h
              case hy16_22 => (refine Or.inl ⟨rfl, ?_⟩; intro w hSw; (try dsimp only at hSw); go_simp; try with_reducible rfl)
              try simp only [Act.put, List.setIfInBounds_toArray, List.set_cons_zero, List.set_cons_succ]
              refine wpAnyH_take (i := 17) (oi := ?oi17_23) (v := ?v17_23) ?hi17_23 (by kernel_rfl) ?hf17_23 (by kernel_rfl) ?hq17_23 ?hy17_23 hHeld ?rest17_23
              case hi17_23 => (simp only [List.getElem?_toArray, List.getElem?_cons_succ, List.getElem?_cons_zero]; try exact rfl)
              case hf17_23 => kernel_rfl
              case hq17_23 => exact fun _ _ _ h => h
              case hy17_23 => (refine Or.inl ⟨rfl, ?_⟩; intro w hSw; (try dsimp only at hSw); go_simp; try with_reducible rfl)
              try simp only [Act.put, List.setIfInBounds_toArray, List.set_cons_zero, List.set_cons_succ]
              refine wpAnyH_take (i := 18) (oi := ?oi18_24) (v := ?v18_24) ?hi18_24 (by kernel_rfl) ?hf18_24 (by kernel_rfl) ?hq18_24 ?hy18_24 hHeld ?rest18_24
              case hi18_24 => (simp only [List.getElem?_toArray, List.getElem?_cons_succ, List.getElem?_cons_zero]; try exact rfl)
              case hf18_24 => kernel_rfl
              case hq18_24 => exact fun _ _ _ h => h
              case hy18_24 => (refine Or.inl ⟨rfl, ?_⟩; intro w hSw; (try dsimp only at hSw); go_simp; try with_reducible rfl)
              try simp only [Act.put, List.setIfInBounds_toArray, List.set_cons_zero, List.set_cons_succ]
              refine wpAnyH_take (i := 19) (oi := ?oi19_25) (v := ?v19_25) ?hi19_25 (by kernel_rfl) ?hf19_25 (by kernel_rfl) ?hq19_25 ?hy19_25 hHeld ?rest19_25
              case hi19_25 => (simp only [List.getElem?_toArray, List.getElem?_cons_succ, List.getElem?_cons_zero]; try exact rfl)
              case hf19_25 => kernel_rfl
              case hq19_25 => exact fun _ _ _ h => h
              case hy19_25 => (refine Or.inl ⟨rfl, ?_⟩; intro w hSw; (try dsimp only at hSw); go_simp; try with_reducible rfl)
              try simp only [Act.put, List.setIfInBounds_toArray, List.set_cons_zero, List.set_cons_succ]
              refine wpAnyH_take (i := 20) (oi := ?oi20_26) (v := ?v20_26) ?hi20_26 (by kernel_rfl) ?hf20_26 (by kernel_rfl) ?hq20_26 ?hy20_26 hHeld ?rest20_26
              case hi20_26 => (simp only [List.getElem?_toArray, List.getElem?_cons_succ, List.getElem?_cons_zero]; try exact rfl)
              case hf20_26 => kernel_rfl
              case hq20_26 => exact fun _ _ _ h => h
              case hy20_26 => (refine Or.inl ⟨rfl, ?_⟩; intro w hSw; (try dsimp only at hSw); go_simp; try with_reducible rfl)
              try simp only [Act.put, List.setIfInBounds_toArray, List.set_cons_zero, List.set_cons_succ]
              refine wpAnyH_take (i := 21) (oi := ?oi21_27) (v := ?v21_27) ?hi21_27 (by kernel_rfl) ?hf21_27 (by kernel_rfl) ?hq21_27 ?hy21_27 hHeld ?rest21_27
              case hi21_27 => (simp only [List.getElem?_toArray, List.getElem?_cons_succ, List.getElem?_cons_zero]; try exact rfl)
              case hf21_27 => kernel_rfl
              case hq21_27 => exact fun _ _ _ h => h
              case hy21_27 => (refine Or.inl ⟨rfl, ?_⟩; intro w hSw; (try dsimp only at hSw); go_simp; try with_reducible rfl)
              try simp only [Act.put, List.setIfInBounds_toArray, List.set_cons_zero, List.set_cons_succ]
              refine wpAnyH_take (i := 22) (oi := ?oi22_28) (v := ?v22_28) ?hi22_28 (by kernel_rfl) ?hf22_28 (by kernel_rfl) ?hq22_28 ?hy22_28 hHeld ?rest22_28
              case hi22_28 => (simp only [List.getElem?_toArray, List.getElem?_cons_succ, List.getElem?_cons_zero]; try exact rfl)
              case hf22_28 => kernel_rfl
              case hq22_28 => exact fun _ _ _ h => h
              case hy22_28 => (refine Or.inl ⟨rfl, ?_⟩; intro w hSw; (try dsimp only at hSw); go_simp; try with_reducible rfl)
              try simp only [Act.put, List.setIfInBounds_toArray, List.set_cons_zero, List.set_cons_succ]
              refine wpAnyH_take (i := 23) (oi := ?oi23_29) (v := ?v23_29) ?hi23_29 (by kernel_rfl) ?hf23_29 (by kernel_rfl) ?hq23_29 ?hy23_29 hHeld ?rest23_29
              case hi23_29 => (simp only [List.getElem?_toArray, List.getElem?_cons_succ, List.getElem?_cons_zero]; try exact rfl)
              case hf23_29 => kernel_rfl
              case hq23_29 => exact fun _ _ _ h => h
              case hy23_29 => (refine Or.inl ⟨rfl, ?_⟩; intro w hSw; (try dsimp only at hSw); go_simp; try with_reducible rfl)
              try simp only [Act.put, List.setIfInBounds_toArray, List.set_cons_zero, List.set_cons_succ]
              refine wpAnyH_take (i := 24) (oi := ?oi24_30) (v := ?v24_30) ?hi24_30 (by kernel_rfl) ?hf24_30 (by kernel_rfl) ?hq24_30 ?hy24_30 hHeld ?rest24_30
              case hi24_30 => (simp only [List.getElem?_toArray, List.getElem?_cons_succ, List.getElem?_cons_zero]; try exact rfl)
              case hf24_30 => kernel_rfl
              case hq24_30 => exact fun _ _ _ h => h
              case hy24_30 => (refine Or.inl ⟨rfl, ?_⟩; intro w hSw; (try dsimp only at hSw); go_simp; try with_reducible rfl)
              try simp only [Act.put, List.setIfInBounds_toArray, List.set_cons_zero, List.set_cons_succ]
              refine wpAnyH_take (i := 25) (oi := ?oi25_31) (v := ?v25_31) ?hi25_31 (by kernel_rfl) ?hf25_31 (by kernel_rfl) ?hq25_31 ?hy25_31 hHeld ?rest25_31
              case hi25_31 => (simp only [List.getElem?_toArray, List.getElem?_cons_succ, List.getElem?_cons_zero]; try exact rfl)
              case hf25_31 => kernel_rfl
              case hq25_31 => exact fun _ _ _ h => h
              case hy25_31 => (refine Or.inl ⟨rfl, ?_⟩; intro w hSw; (try dsimp only at hSw); go_simp; try with_reducible rfl)
              try simp only [Act.put, List.setIfInBounds_toArray, List.set_cons_zero, List.set_cons_succ]
              refine wpAnyH_take (i := 26) (oi := ?oi26_32) (v := ?v26_32) ?hi26_32 (by kernel_rfl) ?hf26_32 (by kernel_rfl) ?hq26_32 ?hy26_32 hHeld ?rest26_32
              case hi26_32 => (simp only [List.getElem?_toArray, List.getElem?_cons_succ, List.getElem?_cons_zero]; try exact rfl)
              case hf26_32 => kernel_rfl
              case hq26_32 => exact fun _ _ _ h => h
              case hy26_32 => (refine Or.inl ⟨rfl, ?_⟩; intro w hSw; (try dsimp only at hSw); go_simp; try with_reducible rfl)
              try simp only [Act.put, List.setIfInBounds_toArray, List.set_cons_zero, List.set_cons_succ]
              refine wpAnyH_take (i := 27) (oi := ?oi27_33) (v := ?v27_33) ?hi27_33 (by kernel_rfl) ?hf27_33 (by kernel_rfl) ?hq27_33 ?hy27_33 hHeld ?rest27_33
              case hi27_33 => (simp only [List.getElem?_toArray, List.getElem?_cons_succ, List.getElem?_cons_zero]; try exact rfl)
              case hf27_33 => kernel_rfl
              case hq27_33 => exact fun _ _ _ h => h
              case hy27_33 => (refine Or.inl ⟨rfl, ?_⟩; intro w hSw; (try dsimp only at hSw); go_simp; try with_reducible rfl)
              try simp only [Act.put, List.setIfInBounds_toArray, List.set_cons_zero, List.set_cons_succ]
              refine wpAnyH_ready (rs := [28]) (by kernel_rfl) (by simp) ?_
              refine AllReadyH.cons (by simp only [List.getElem?_toArray, List.getElem?_cons_succ, List.getElem?_cons_zero]; try exact rfl) (fun K hK => ?_) AllReadyH.nil
              go_simp
              refine (lives_any _ (HG.out.below X9.out.low)).mono ?_
              rintro e w10 ⟨rfl, hb⟩
              have X10 := Lib.hid (X9.out.below hb)
              have Y10 := Lib.hid (Y9.out.below hb)
              refine hK.out _ _ ⟨X10.out.cells.1, X10.out.cells.2, Y10.out.cells.1, Y10.out.cells.2, (HCC.out _ (bt hb HB9.out)).1, (HCC.out _ (bt hb HB9.out)).2.1, (HCC.out _ (bt hb HB9.out)).2.2.1, (HCC.out _ (bt hb HB9.out)).2.2.2⟩ (fun hHeld => ?_)
              clear hK K
              try simp only [Act.put, List.setIfInBounds_toArray, List.set_cons_zero, List.set_cons_succ]
              refine wpAnyH_take (i := 29) (oi := ?oi29_34) (v := ?v29_34) ?hi29_34 (by kernel_rfl) ?hf29_34 (by kernel_rfl) ?hq29_34 ?hy29_34 hHeld ?rest29_34
              case hi29_34 => (simp only [List.getElem?_toArray, List.getElem?_cons_succ, List.getElem?_cons_zero]; try exact rfl)
              case hf29_34 => kernel_rfl
              case hq29_34 => exact fun _ _ _ h => h
              case hy29_34 => (refine Or.inl ⟨rfl, ?_⟩; intro w hSw; (try dsimp only at hSw); go_simp; try with_reducible rfl)
              try simp only [Act.put, List.setIfInBounds_toArray, List.set_cons_zero, List.set_cons_succ]
              refine wpAnyH_take (i := 30) (oi := ?oi30_35) (v := ?v30_35) ?hi30_35 (by kernel_rfl) ?hf30_35 (by kernel_rfl) ?hq30_35 ?hy30_35 hHeld ?rest30_35
              case hi30_35 => (simp only [List.getElem?_toArray, List.getElem?_cons_succ, List.getElem?_cons_zero]; try exact rfl)
              case hf30_35 => kernel_rfl
              case hq30_35 => exact fun _ _ _ h => h
              case hy30_35 => (refine Or.inl ⟨rfl, ?_⟩; intro w hSw; (try dsimp only at hSw); go_simp; try with_reducible rfl)
              try simp only [Act.put, List.setIfInBounds_toArray, List.set_cons_zero, List.set_cons_succ]
              refine wpAnyH_done (by kernel_rfl) ?_ _
              go_wp2_with fail
              go_ret
              exact ⟨rfl, X10.out.low⟩
            · have g3 : decide ((bn : Int) < (an : Int)) = false := decide_eq_false (by omega)
              clear HNb hb1 ha9
              go_wp2_with fail
              clear hgt hw1 g1 g3 hab
              obtain ⟨bj, q, p, nq, np, e1, e2, e3, e4, e5, e6⟩ := HW.out
              obtain ⟨adB, eB, lB, cB, iB⟩ := SB6.out _ (Below.refl _ _) bj _ e2
              obtain ⟨adA, eA, lA, cA, iA⟩ := SA6.out _ (Below.refl _ _) bj _ e3
              subst eB eA
              rw [HBN.out] at iB
              rw [HAN.out] at iA
              have iq := (List.getElem?_eq_some_iff.1 e4).1
              have ip := (List.getElem?_eq_some_iff.1 e5).1
              rw [HM.out] at iq
              rw [HNL.out] at ip
              obtain ⟨ad7, cv7, f7, l7, _, _, _, _, d7, _⟩ := Y6.out.nds.get e4
              obtain ⟨ad0, cv0, f0, l0, _, _, _, _, d0, _⟩ := X6.out.nds.get e5
              subst f7 f0
              rw [e6] at d7
              obtain ⟨sz, hsz⟩ : ∃ sz, np.size = sz := ⟨_, rfl⟩
              rw [hsz] at d7 d0
              have hb1 := HN.out.2.1
              have ha9 := HN.out.2.2.2
              have hab := HN.out.1
              have hwj : IntKind.i64.wrap ((bn : Int) - 1) = (bj : Int) := by rw [IntWalk.i64_in _ (by omega)]; omega
              obtain ⟨t0, t1⟩ := X6.out.cells
              obtain ⟨y0, y1⟩ := Y6.out.cells
              have hsee : (sz == sz) = true := by simp
              clear e1 e2 e3 e4 e5 e6 hsz hb1 ha9 hab
              refine wp_region_held_drew (S := fun w' => w'.cell? ⟨w.heap.size, 0, none⟩ = some (.int .i64 dim) ∧ w'.cell? ⟨w.heap.size, 1, none⟩ = some (.slice (some ad0) n c) ∧ w'.cell? ⟨b7, 0, none⟩ = some (.int .i64 dim) ∧ w'.cell? ⟨b7, 1, none⟩ = some (.slice (some ad7) m c7) ∧ w'.cell? (adB.add bj) = some (.int .i64 q) ∧ w'.cell? (adA.add bj) = some (.int .i64 p) ∧ w'.cell? ⟨(ad7.add (q * 5)).block, (ad7.add (q * 5)).off + 4, none⟩ = some (.int .i64 sz) ∧ w'.cell? ⟨(ad0.add (p * 5)).block, (ad0.add (p * 5)).off + 4, none⟩ = some (.int .i64 sz)) (by kernel_rfl) ⟨t0, t1, y0, y1, cB, cA, d7, d0⟩ (fun hHeld => ?_)
              have hx := X6.out.below (Below.refl _ _).drew
              have hy := Y6.out.below (Below.refl _ _).drew
              have HCC := Lib.hid (fun (W : World) (hb : Below w6.drew.heap.size w6.drew W) => cells_up (hb := hb) (And.intro cB (And.intro cA (And.intro d7 d0))) lB lA l7 l0)
              obtain ⟨w8, hw8⟩ : ∃ W, w6.drew = W := ⟨_, rfl⟩
              rw [hw8] at hx hy hHeld HCC ⊢
              have X8 := Lib.hid hx
              have Y8 := Lib.hid hy
              clear hx hy hw8 t0 t1 y0 y1 cB cA d7 d0 lB lA l7 l0
              refine wpAnyH_take (i := 0) (oi := ?oi0_36) (v := ?v0_36) ?hi0_36 (by kernel_rfl) ?hf0_36 (by kernel_rfl) ?hq0_36 ?hy0_36 hHeld ?rest0_36
              case hi0_36 => (simp only [List.getElem?_toArray, List.getElem?_cons_zero]; try exact rfl)
              case hf0_36 => kernel_rfl
              case hq0_36 => exact fun _ _ _ h => h
              case hy0_36 => (refine Or.inl ⟨rfl, ?_⟩; intro w hSw; (try dsimp only at hSw); go_simp; try with_reducible rfl)
              try simp only [Act.put, List.setIfInBounds_toArray, List.set_cons_zero, List.set_cons_succ]
              refine wpAnyH_ready (rs := [1]) (by kernel_rfl) (by simp) ?_
              refine AllReadyH.cons (by simp only [List.getElem?_toArray, List.getElem?_cons_succ, List.getElem?_cons_zero]; try exact rfl) (fun K hK => ?_) AllReadyH.nil
              go_simp
              refine (RTIs_any _ pl _ 0 _ Y8.out.nds HPL.out).mono ?_
              rintro e w9 ⟨rfl, hb9⟩
              rw [isTB_true.2 HT2.out]
              have X9 := Lib.hid (X8.out.below hb9)
              have Y9 := Lib.hid (Y8.out.below hb9)
              have HB9 := Lib.hid hb9
              refine hK.out _ _ ⟨X9.out.cells.1, X9.out.cells.2, Y9.out.cells.1, Y9.out.cells.2, (HCC.out _ hb9).1, (HCC.out _ hb9).2.1, (HCC.out _ hb9).2.2.1, (HCC.out _ hb9).2.2.2⟩ (fun hHeld => ?_)
              clear hK K
              try simp only [Act.put, List.setIfInBounds_toArray, List.set_cons_zero, List.set_cons_succ]
              clear hb9
              refine wpAnyH_take (i := 2) (oi := ?oi2_37) (v := ?v2_37) ?hi2_37 (by kernel_rfl) ?hf2_37 (by kernel_rfl) ?hq2_37 ?hy2_37 hHeld ?rest2_37
              case hi2_37 => (simp only [List.getElem?_toArray, List.getElem?_cons_succ, List.getElem?_cons_zero]; try exact rfl)
              case hf2_37 => kernel_rfl
              case hq2_37 => exact fun _ _ _ h => h
              case hy2_37 => (refine Or.inl ⟨rfl, ?_⟩; intro w hSw; (try dsimp only at hSw); go_simp; try with_reducible rfl)
              try simp only [Act.put, List.setIfInBounds_toArray, List.set_cons_zero, List.set_cons_succ]
              refine wpAnyH_take (i := 3) (oi := ?oi3_38) (v := ?v3_38) ?hi3_38 (by kernel_rfl) ?hf3_38 (by kernel_rfl) ?hq3_38 ?hy3_38 hHeld ?rest3_38
              case hi3_38 => (simp only [List.getElem?_toArray, List.getElem?_cons_succ, List.getElem?_cons_zero]; try exact rfl)
              case hf3_38 => kernel_rfl
              case hq3_38 => exact fun _ _ _ h => h
              case hy3_38 => (refine Or.inl ⟨rfl, ?_⟩; intro w hSw; (try dsimp only at hSw); go_simp; try with_reducible rfl)
              try simp only [Act.put, List.setIfInBounds_toArray, List.set_cons_zero, List.set_cons_succ]
              refine wpAnyH_take (i := 4) (oi := ?oi4_39) (v := ?v4_39) ?hi4_39 (by kernel_rfl) ?hf4_39 (by kernel_rfl) ?hq4_39 ?hy4_39 hHeld ?rest4_39
              case hi4_39 => (simp only [List.getElem?_toArray, List.getElem?_cons_succ, List.getElem?_cons_zero]; try exact rfl)
              case hf4_39 => kernel_rfl
              case hq4_39 => exact fun _ _ _ h => h
              case hy4_39 => (refine Or.inl ⟨rfl, ?_⟩; intro w hSw; (try dsimp only at hSw); go_simp; try with_reducible rfl)
              try simp only [Act.put, List.setIfInBounds_toArray, List.set_cons_zero, List.set_cons_succ]
              refine wpAnyH_take (i := 5) (oi := ?oi5_40) (v := ?v5_40) ?hi5_40 (by kernel_rfl) ?hf5_40 (by kernel_rfl) ?hq5_40 ?hy5_40 hHeld ?rest5_40
              case hi5_40 => (simp only [List.getElem?_toArray, List.getElem?_cons_succ, List.getElem?_cons_zero]; try exact rfl)
              case hf5_40 => kernel_rfl
              case hq5_40 => exact fun _ _ _ h => h
              case hy5_40 => (refine Or.inl ⟨rfl, ?_⟩; intro w hSw; (try dsimp only at hSw); go_simp; try with_reducible rfl)
              try simp only [Act.put, List.setIfInBounds_toArray, List.set_cons_zero, List.set_cons_succ]
              refine wpAnyH_take (i := 6) (oi := ?oi6_41) (v := ?v6_41) ?hi6_41 (by kernel_rfl) ?hf6_41 (by kernel_rfl) ?hq6_41 ?hy6_41 hHeld ?rest6_41
              case hi6_41 => (simp only [List.getElem?_toArray, List.getElem?_cons_succ, List.getElem?_cons_zero]; try exact rfl)
              case hf6_41 => kernel_rfl
              case hq6_41 => exact fun _ _ _ h => h
              case hy6_41 => (refine Or.inl ⟨rfl, ?_⟩; intro w hSw; (try dsimp only at hSw); go_simp; try with_reducible rfl)
              try simp only [Act.put, List.setIfInBounds_toArray, List.set_cons_zero, List.set_cons_succ]
              refine wpAnyH_take (i := 7) (oi := ?oi7_42) (v := ?v7_42) ?hi7_42 (by kernel_rfl) ?hf7_42 (by kernel_rfl) ?hq7_42 ?hy7_42 hHeld ?rest7_42
              case hi7_42 => (simp only [List.getElem?_toArray, List.getElem?_cons_succ, List.getElem?_cons_zero]; try exact rfl)
              case hf7_42 => kernel_rfl
              case hq7_42 => exact fun _ _ _ h => h
              case hy7_42 => (refine Or.inl ⟨rfl, ?_⟩; intro w hSw; (try dsimp only at hSw); go_simp; try with_reducible rfl)
              try simp only [Act.put, List.setIfInBounds_toArray, List.set_cons_zero, List.set_cons_succ]
              refine wpAnyH_take (i := 8) (oi := ?oi8_43) (v := ?v8_43) ?hi8_43 (by kernel_rfl) ?hf8_43 (by kernel_rfl) ?hq8_43 ?hy8_43 hHeld ?rest8_43
              case hi8_43 => (simp only [List.getElem?_toArray, List.getElem?_cons_succ, List.getElem?_cons_zero]; try exact rfl)
              case hf8_43 => kernel_rfl
              case hq8_43 => exact fun _ _ _ h => h
              case hy8_43 => (refine Or.inl ⟨rfl, ?_⟩; intro w hSw; (try dsimp only at hSw); go_simp; try with_reducible rfl)
              try simp only [Act.put, List.setIfInBounds_toArray, List.set_cons_zero, List.set_cons_succ]
              refine wpAnyH_take (i := 9) (oi := ?oi9_44) (v := ?v9_44) ?hi9_44 (by kernel_rfl) ?hf9_44 (by kernel_rfl) ?hq9_44 ?hy9_44 hHeld ?rest9_44
              case hi9_44 => (simp only [List.getElem?_toArray, List.getElem?_cons_succ, List.getElem?_cons_zero]; try exact rfl)
              case hf9_44 => kernel_rfl
              case hq9_44 => exact fun _ _ _ h => h
              case hy9_44 => (refine Or.inl ⟨rfl, ?_⟩; intro w hSw; (try dsimp only at hSw); go_simp; try with_reducible rfl)
              try simp only [Act.put, List.setIfInBounds_toArray, List.set_cons_zero, List.set_cons_succ]
              refine wpAnyH_take (i := 10) (oi := ?oi10_45) (v := ?v10_45) ?hi10_45 (by kernel_rfl) ?hf10_45 (by kernel_rfl) ?hq10_45 ?hy10_45 hHeld ?rest10_45
              case hi10_45 => (simp only [List.getElem?_toArray, List.getElem?_cons_succ, List.getElem?_cons_zero]; try exact rfl)
              case hf10_45 => kernel_rfl
              case hq10_45 => exact fun _ _ _ h => h
              case hy10_45 => (refine Or.inl ⟨rfl, ?_⟩; intro w hSw; (try dsimp only at hSw); go_simp; try with_reducible rfl)
              try simp only [Act.put, List.setIfInBounds_toArray, List.set_cons_zero, List.set_cons_succ]
              refine wpAnyH_take (i := 11) (oi := ?oi11_46) (v := ?v11_46) ?hi11_46 (by kernel_rfl) ?hf11_46 (by kernel_rfl) ?hq11_46 ?hy11_46 hHeld ?rest11_46
              case hi11_46 => (simp only [List.getElem?_toArray, List.getElem?_cons_succ, List.getElem?_cons_zero]; try exact rfl)
              case hf11_46 => kernel_rfl
              case hq11_46 => exact fun _ _ _ h => h
              case hy11_46 => (refine Or.inl ⟨rfl, ?_⟩; intro w hSw; (try dsimp only at hSw); go_simp; try with_reducible rfl)
              try simp only [Act.put, List.setIfInBounds_toArray, List.set_cons_zero, List.set_cons_succ]
              refine wpAnyH_take (i := 12) (oi := ?oi12_47) (v := ?v12_47) ?hi12_47 (by kernel_rfl) ?hf12_47 (by kernel_rfl) ?hq12_47 ?hy12_47 hHeld ?rest12_47
              case hi12_47 => (simp only [List.getElem?_toArray, List.getElem?_cons_succ, List.getElem?_cons_zero]; try exact rfl)
              case hf12_47 => kernel_rfl
              case hq12_47 => exact fun _ _ _ h => h
              case hy12_47 => (refine Or.inl ⟨rfl, ?_⟩; intro w hSw; (try dsimp only at hSw); go_simp; try with_reducible rfl)
              try simp only [Act.put, List.setIfInBounds_toArray, List.set_cons_zero, List.set_cons_succ]
              refine wpAnyH_take (i := 13) (oi := ?oi13_48) (v := ?v13_48) ?hi13_48 (by kernel_rfl) ?hf13_48 (by kernel_rfl) ?hq13_48 ?hy13_48 hHeld ?rest13_48
              case hi13_48 => (simp only [List.getElem?_toArray, List.getElem?_cons_succ, List.getElem?_cons_zero]; try exact rfl)
              case hf13_48 => kernel_rfl
              case hq13_48 => exact fun _ _ _ h => h
              case hy13_48 => (refine Or.inl ⟨rfl, ?_⟩; intro w hSw; (try dsimp only at hSw); go_simp; try with_reducible rfl)
              try simp only [Act.put, List.setIfInBounds_toArray, List.set_cons_zero, List.set_cons_succ]
              refine wpAnyH_take (i := 14) (oi := ?oi14_49) (v := ?v14_49) ?hi14_49 (by kernel_rfl) ?hf14_49 (by kernel_rfl) ?hq14_49 ?hy14_49 hHeld ?rest14_49
              case hi14_49 => (simp only [List.getElem?_toArray, List.getElem?_cons_succ, List.getElem?_cons_zero]; try exact rfl)
              case hf14_49 => kernel_rfl
              case hq14_49 => exact fun _ _ _ h => h
              case hy14_49 => (refine Or.inl ⟨rfl, ?_⟩; intro w hSw; (try dsimp only at hSw); go_simp; try with_reducible rfl)
              try simp only [Act.put, List.setIfInBounds_toArray, List.set_cons_zero, List.set_cons_succ]
              refine wpAnyH_take (i := 15) (oi := ?oi15_50) (v := ?v15_50) ?hi15_50 (by kernel_rfl) ?hf15_50 (by kernel_rfl) ?hq15_50 ?hy15_50 hHeld ?rest15_50
              case hi15_50 => (simp only [List.getElem?_toArray, List.getElem?_cons_succ, List.getElem?_cons_zero]; try exact rfl)
              case hf15_50 => kernel_rfl
              case hq15_50 => exact fun _ _ _ h => h
              case hy15_50 => (refine Or.inl ⟨rfl, ?_⟩; intro w hSw; (try dsimp only at hSw); go_simp; try with_reducible rfl)
              try simp only [Act.put, List.setIfInBounds_toArray, List.set_cons_zero, List.set_cons_succ]
              refine wpAnyH_take (i := 16) (oi := ?oi16_51) (v := ?v16_51) ?hi16_51 (by kernel_rfl) ?hf16_51 (by kernel_rfl) ?hq16_51 ?hy16_51 hHeld ?rest16_51
              case hi16_51 => (simp only [List.getElem?_toArray, List.getElem?_cons_succ, List.getElem?_cons_zero]; try exact rfl)
              case hf16_51 => kernel_rfl
              case hq16_51 => exact fun _ _ _ h => h
              case hy16_51 => (refine Or.inl ⟨rfl, ?_⟩; intro w hSw; (try dsimp only at hSw); go_simp; try with_reducible rfl)
              try simp only [Act.put, List.setIfInBounds_toArray, List.set_cons_zero, List.set_cons_succ]
              refine wpAnyH_take (i := 17) (oi := ?oi17_52) (v := ?v17_52) ?hi17_52 (by kernel_rfl) ?hf17_52 (by kernel_rfl) ?hq17_52 ?hy17_52 hHeld ?rest17_52
              case hi17_52 => (simp only [List.getElem?_toArray, List.getElem?_cons_succ, List.getElem?_cons_zero]; try exact rfl)
              case hf17_52 => kernel_rfl
              case hq17_52 => exact fun _ _ _ h => h
              case hy17_52 => (refine Or.inl ⟨rfl, ?_⟩; intro w hSw; (try dsimp only at hSw); go_simp; try with_reducible rfl)
              try simp only [Act.put, List.setIfInBounds_toArray, List.set_cons_zero, List.set_cons_succ]
              refine wpAnyH_take (i := 18) (oi := ?oi18_53) (v := ?v18_53) ?hi18_53 (by kernel_rfl) ?hf18_53 (by kernel_rfl) ?hq18_53 ?hy18_53 hHeld ?rest18_53
              case hi18_53 => (simp only [List.getElem?_toArray, List.getElem?_cons_succ, List.getElem?_cons_zero]; try exact rfl)
              case hf18_53 => kernel_rfl
              case hq18_53 => exact fun _ _ _ h => h
              case hy18_53 => (refine Or.inl ⟨rfl, ?_⟩; intro w hSw; (try dsimp only at hSw); go_simp; try with_reducible rfl)
              try simp only [Act.put, List.setIfInBounds_toArray, List.set_cons_zero, List.set_cons_succ]
              refine wpAnyH_take (i := 19) (oi := ?oi19_54) (v := ?v19_54) ?hi19_54 (by kernel_rfl) ?hf19_54 (by kernel_rfl) ?hq19_54 ?hy19_54 hHeld ?rest19_54
              case hi19_54 => (simp only [List.getElem?_toArray, List.getElem?_cons_succ, List.getElem?_cons_zero]; try exact rfl)
              case hf19_54 => kernel_rfl
              case hq19_54 => exact fun _ _ _ h => h
              case hy19_54 => (refine Or.inl ⟨rfl, ?_⟩; intro w hSw; (try dsimp only at hSw); go_simp; try with_reducible rfl)
              try simp only [Act.put, List.setIfInBounds_toArray, List.set_cons_zero, List.set_cons_succ]
              refine wpAnyH_take (i := 20) (oi := ?oi20_55) (v := ?v20_55) ?hi20_55 (by kernel_rfl) ?hf20_55 (by kernel_rfl) ?hq20_55 ?hy20_55 hHeld ?rest20_55
              case hi20_55 => (simp only [List.getElem?_toArray, List.getElem?_cons_succ, List.getElem?_cons_zero]; try exact rfl)
              case hf20_55 => kernel_rfl
              case hq20_55 => exact fun _ _ _ h => h
              case hy20_55 => (refine Or.inl ⟨rfl, ?_⟩; intro w hSw; (try dsimp only at hSw); go_simp; try with_reducible rfl)
              try simp only [Act.put, List.setIfInBounds_toArray, List.set_cons_zero, List.set_cons_succ]
              refine wpAnyH_take (i := 21) (oi := ?oi21_56) (v := ?v21_56) ?hi21_56 (by kernel_rfl) ?hf21_56 (by kernel_rfl) ?hq21_56 ?hy21_56 hHeld ?rest21_56
              case hi21_56 => (simp only [List.getElem?_toArray, List.getElem?_cons_succ, List.getElem?_cons_zero]; try exact rfl)
              case hf21_56 => kernel_rfl
              case hq21_56 => exact fun _ _ _ h => h
              case hy21_56 => (refine Or.inl ⟨rfl, ?_⟩; intro w hSw; (try dsimp only at hSw); go_simp; try with_reducible rfl)
              try simp only [Act.put, List.setIfInBounds_toArray, List.set_cons_zero, List.set_cons_succ]
              refine wpAnyH_take (i := 22) (oi := ?oi22_57) (v := ?v22_57) ?hi22_57 (by kernel_rfl) ?hf22_57 (by kernel_rfl) ?hq22_57 ?hy22_57 hHeld ?rest22_57
              case hi22_57 => (simp only [List.getElem?_toArray, List.getElem?_cons_succ, List.getElem?_cons_zero]; try exact rfl)
              case hf22_57 => kernel_rfl
              case hq22_57 => exact fun _ _ _ h => h
              case hy22_57 => (refine Or.inl ⟨rfl, ?_⟩; intro w hSw; (try dsimp only at hSw); go_simp; try with_reducible rfl)
              try simp only [Act.put, List.setIfInBounds_toArray, List.set_cons_zero, List.set_cons_succ]
              refine wpAnyH_take (i := 23) (oi := ?oi23_58) (v := ?v23_58) ?hi23_58 (by kernel_rfl) ?hf23_58 (by kernel_rfl) ?hq23_58 ?hy23_58 hHeld ?rest23_58
              case hi23_58 => (simp only [List.getElem?_toArray, List.getElem?_cons_succ, List.getElem?_cons_zero]; try exact rfl)
              case hf23_58 => kernel_rfl
              case hq23_58 => exact fun _ _ _ h => h
              case hy23_58 => (refine Or.inl ⟨rfl, ?_⟩; intro w hSw; (try dsimp only at hSw); go_simp; try with_reducible rfl)
              try simp only [Act.put, List.setIfInBounds_toArray, List.set_cons_zero, List.set_cons_succ]
              refine wpAnyH_take (i := 24) (oi := ?oi24_59) (v := ?v24_59) ?hi24_59 (by kernel_rfl) ?hf24_59 (by kernel_rfl) ?hq24_59 ?hy24_59 hHeld ?rest24_59
              case hi24_59 => (simp only [List.getElem?_toArray, List.getElem?_cons_succ, List.getElem?_cons_zero]; try exact rfl)
              case hf24_59 => kernel_rfl
              case hq24_59 => exact fun _ _ _ h => h
              case hy24_59 => (refine Or.inl ⟨rfl, ?_⟩; intro w hSw; (try dsimp only at hSw); go_simp; try with_reducible rfl)
              try simp only [Act.put, List.setIfInBounds_toArray, List.set_cons_zero, List.set_cons_succ]
              refine wpAnyH_take (i := 25) (oi := ?oi25_60) (v := ?v25_60) ?hi25_60 (by kernel_rfl) ?hf25_60 (by kernel_rfl) ?hq25_60 ?hy25_60 hHeld ?rest25_60
              case hi25_60 => (simp only [List.getElem?_toArray, List.getElem?_cons_succ, List.getElem?_cons_zero]; try exact rfl)
              case hf25_60 => kernel_rfl
              case hq25_60 => exact fun _ _ _ h => h
              case hy25_60 => (refine Or.inl ⟨rfl, ?_⟩; intro w hSw; (try dsimp only at hSw); go_simp; try with_reducible rfl)
              try simp only [Act.put, List.setIfInBounds_toArray, List.set_cons_zero, List.set_cons_succ]
              refine wpAnyH_take (i := 26) (oi := ?oi26_61) (v := ?v26_61) ?hi26_61 (by kernel_rfl) ?hf26_61 (by kernel_rfl) ?hq26_61 ?hy26_61 hHeld ?rest26_61
              case hi26_61 => (simp only [List.getElem?_toArray, List.getElem?_cons_succ, List.getElem?_cons_zero]; try exact rfl)
              case hf26_61 => kernel_rfl
              case hq26_61 => exact fun _ _ _ h => h
              case hy26_61 => (refine Or.inl ⟨rfl, ?_⟩; intro w hSw; (try dsimp only at hSw); go_simp; try with_reducible rfl)
              try simp only [Act.put, List.setIfInBounds_toArray, List.set_cons_zero, List.set_cons_succ]
              refine wpAnyH_take (i := 27) (oi := ?oi27_62) (v := ?v27_62) ?hi27_62 (by kernel_rfl) ?hf27_62 (by kernel_rfl) ?hq27_62 ?hy27_62 hHeld ?rest27_62
              case hi27_62 => (simp only [List.getElem?_toArray, List.getElem?_cons_succ, List.getElem?_cons_zero]; try exact rfl)
              case hf27_62 => kernel_rfl
              case hq27_62 => exact fun _ _ _ h => h
              case hy27_62 => (refine Or.inl ⟨rfl, ?_⟩; intro w hSw; (try dsimp only at hSw); go_simp; try with_reducible rfl)
              try simp only [Act.put, List.setIfInBounds_toArray, List.set_cons_zero, List.set_cons_succ]
              refine wpAnyH_ready (rs := [28]) (by kernel_rfl) (by simp) ?_
              refine AllReadyH.cons (by simp only [List.getElem?_toArray, List.getElem?_cons_succ, List.getElem?_cons_zero]; try exact rfl) (fun K hK => ?_) AllReadyH.nil
              go_simp
              refine (lives_any _ (HG.out.below X9.out.low)).mono ?_
              rintro e w10 ⟨rfl, hb⟩
              have X10 := Lib.hid (X9.out.below hb)
              have Y10 := Lib.hid (Y9.out.below hb)
              refine hK.out _ _ ⟨X10.out.cells.1, X10.out.cells.2, Y10.out.cells.1, Y10.out.cells.2, (HCC.out _ (bt hb HB9.out)).1, (HCC.out _ (bt hb HB9.out)).2.1, (HCC.out _ (bt hb HB9.out)).2.2.1, (HCC.out _ (bt hb HB9.out)).2.2.2⟩ (fun hHeld => ?_)
              clear hK K
              try simp only [Act.put, List.setIfInBounds_toArray, List.set_cons_zero, List.set_cons_succ]
              refine wpAnyH_take (i := 29) (oi := ?oi29_63) (v := ?v29_63) ?hi29_63 (by kernel_rfl) ?hf29_63 (by kernel_rfl) ?hq29_63 ?hy29_63 hHeld ?rest29_63
              case hi29_63 => (simp only [List.getElem?_toArray, List.getElem?_cons_succ, List.getElem?_cons_zero]; try exact rfl)
              case hf29_63 => kernel_rfl
              case hq29_63 => exact fun _ _ _ h => h
              case hy29_63 => (refine Or.inl ⟨rfl, ?_⟩; intro w hSw; (try dsimp only at hSw); go_simp; try with_reducible rfl)
              try simp only [Act.put, List.setIfInBounds_toArray, List.set_cons_zero, List.set_cons_succ]
              refine wpAnyH_take (i := 30) (oi := ?oi30_64) (v := ?v30_64) ?hi30_64 (by kernel_rfl) ?hf30_64 (by kernel_rfl) ?hq30_64 ?hy30_64 hHeld ?rest30_64
              case hi30_64 => (simp only [List.getElem?_toArray, List.getElem?_cons_succ, List.getElem?_cons_zero]; try exact rfl)
              case hf30_64 => kernel_rfl
              case hq30_64 => exact fun _ _ _ h => h
              case hy30_64 => (refine Or.inl ⟨rfl, ?_⟩; intro w hSw; (try dsimp only at hSw); go_simp; try with_reducible rfl)
              try simp only [Act.put, List.setIfInBounds_toArray, List.set_cons_zero, List.set_cons_succ]
              refine wpAnyH_done (by kernel_rfl) ?_ _
              go_wp2_with fail
              go_ret
              exact ⟨rfl, X10.out.low⟩
          · have g1 : decide ((bn : Int) > 1) = false := decide_eq_false (by omega)
            by_cases c2 : bn < an
            · have g3 : decide ((bn : Int) < (an : Int)) = true := decide_eq_true (by omega)
              have g4 : ((bn : Int) - 1 != D) = false := by have : (bn : Int) - 1 = D := by omega
                                                            simp [this]
              clear HNb hab hb1 ha9
              go_wp2_with fail
              clear hgt hw1 g1 g3
              obtain ⟨bj, q, p, nq, np, e1, e2, e3, e4, e5, e6⟩ := HW.out
              obtain ⟨adB, eB, lB, cB, iB⟩ := SB6.out _ (Below.refl _ _) bj _ e2
              obtain ⟨adA, eA, lA, cA, iA⟩ := SA6.out _ (Below.refl _ _) bj _ e3
              subst eB eA
              rw [HBN.out] at iB
              rw [HAN.out] at iA
              have iq := (List.getElem?_eq_some_iff.1 e4).1
              have ip := (List.getElem?_eq_some_iff.1 e5).1
              rw [HM.out] at iq
              rw [HNL.out] at ip
              obtain ⟨ad7, cv7, f7, l7, _, _, _, _, d7, _⟩ := Y6.out.nds.get e4
              obtain ⟨ad0, cv0, f0, l0, _, _, _, _, d0, _⟩ := X6.out.nds.get e5
              subst f7 f0
              rw [e6] at d7
              obtain ⟨sz, hsz⟩ : ∃ sz, np.size = sz := ⟨_, rfl⟩
              rw [hsz] at d7 d0
              have hb1 := HN.out.2.1
              have ha9 := HN.out.2.2.2
              have hab := HN.out.1
              have hwj : IntKind.i64.wrap ((bn : Int) - 1) = (bj : Int) := by rw [IntWalk.i64_in _ (by omega)]; omega
              obtain ⟨t0, t1⟩ := X6.out.cells
              obtain ⟨y0, y1⟩ := Y6.out.cells
              have hsee : (sz == sz) = true := by simp
              clear e1 e2 e3 e4 e5 e6 hsz hb1 ha9 hab
              refine wp_region_held_drew (S := fun w' => w'.cell? ⟨w.heap.size, 0, none⟩ = some (.int .i64 dim) ∧ w'.cell? ⟨w.heap.size, 1, none⟩ = some (.slice (some ad0) n c) ∧ w'.cell? ⟨b7, 0, none⟩ = some (.int .i64 dim) ∧ w'.cell? ⟨b7, 1, none⟩ = some (.slice (some ad7) m c7) ∧ w'.cell? (adB.add bj) = some (.int .i64 q) ∧ w'.cell? (adA.add bj) = some (.int .i64 p) ∧ w'.cell? ⟨(ad7.add (q * 5)).block, (ad7.add (q * 5)).off + 4, none⟩ = some (.int .i64 sz) ∧ w'.cell? ⟨(ad0.add (p * 5)).block, (ad0.add (p * 5)).off + 4, none⟩ = some (.int .i64 sz)) (by kernel_rfl) ⟨t0, t1, y0, y1, cB, cA, d7, d0⟩ (fun hHeld => ?_)
              have hx := X6.out.below (Below.refl _ _).drew
              have hy := Y6.out.below (Below.refl _ _).drew
              have HCC := Lib.hid (fun (W : World) (hb : Below w6.drew.heap.size w6.drew W) => cells_up (hb := hb) (And.intro cB (And.intro cA (And.intro d7 d0))) lB lA l7 l0)
              obtain ⟨w8, hw8⟩ : ∃ W, w6.drew = W := ⟨_, rfl⟩
              rw [hw8] at hx hy hHeld HCC ⊢
              have X8 := Lib.hid hx
              have Y8 := Lib.hid hy
              clear hx hy hw8 t0 t1 y0 y1 cB cA d7 d0 lB lA l7 l0
              refine wpAnyH_take (i := 0) (oi := ?oi0_65) (v := ?v0_65) ?hi0_65 (by kernel_rfl) ?hf0_65 (by kernel_rfl) ?hq0_65 ?hy0_65 hHeld ?rest0_65
              case hi0_65 => (simp only [List.getElem?_toArray, List.getElem?_cons_zero]; try exact rfl)
              case hf0_65 => kernel_rfl
              case hq0_65 => exact fun _ _ _ h => h
              case hy0_65 => (refine Or.inl ⟨rfl, ?_⟩; intro w hSw; (try dsimp only at hSw); go_simp; try with_reducible rfl)
              try simp only [Act.put, List.setIfInBounds_toArray, List.set_cons_zero, List.set_cons_succ]
              refine wpAnyH_ready (rs := [1]) (by kernel_rfl) (by simp) ?_
              refine AllReadyH.cons (by simp only [List.getElem?_toArray, List.getElem?_cons_succ, List.getElem?_cons_zero]; try exact rfl) (fun K hK => ?_) AllReadyH.nil
              go_simp
              refine (RTIs_any _ pl _ 0 _ Y8.out.nds HPL.out).mono ?_
              rintro e w9 ⟨rfl, hb9⟩
              rw [isTB_true.2 HT2.out]
              have X9 := Lib.hid (X8.out.below hb9)
              have Y9 := Lib.hid (Y8.out.below hb9)
              have HB9 := Lib.hid hb9
              refine hK.out _ _ ⟨X9.out.cells.1, X9.out.cells.2, Y9.out.cells.1, Y9.out.cells.2, (HCC.out _ hb9).1, (HCC.out _ hb9).2.1, (HCC.out _ hb9).2.2.1, (HCC.out _ hb9).2.2.2⟩ (fun hHeld => ?_)
              clear hK K
              try simp only [Act.put, List.setIfInBounds_toArray, List.set_cons_zero, List.set_cons_succ]
              clear hb9
              refine wpAnyH_take (i := 2) (oi := ?oi2_66) (v := ?v2_66) ?hi2_66 (by kernel_rfl) ?hf2_66 (by kernel_rfl) ?hq2_66 ?hy2_66 hHeld ?rest2_66
              case hi2_66 => (simp only [List.getElem?_toArray, List.getElem?_cons_succ, List.getElem?_cons_zero]; try exact rfl)
              case hf2_66 => kernel_rfl
              case hq2_66 => exact fun _ _ _ h => h
              case hy2_66 => (refine Or.inl ⟨rfl, ?_⟩; intro w hSw; (try dsimp only at hSw); go_simp; try with_reducible rfl)
              try simp only [Act.put, List.setIfInBounds_toArray, List.set_cons_zero, List.set_cons_succ]
              refine wpAnyH_take (i := 3) (oi := ?oi3_67) (v := ?v3_67) ?hi3_67 (by kernel_rfl) ?hf3_67 (by kernel_rfl) ?hq3_67 ?hy3_67 hHeld ?rest3_67
              case hi3_67 => (simp only [List.getElem?_toArray, List.getElem?_cons_succ, List.getElem?_cons_zero]; try exact rfl)
              case hf3_67 => kernel_rfl
              case hq3_67 => exact fun _ _ _ h => h
              case hy3_67 => (refine Or.inl ⟨rfl, ?_⟩; intro w hSw; (try dsimp only at hSw); go_simp; try with_reducible rfl)
              try simp only [Act.put, List.setIfInBounds_toArray, List.set_cons_zero, List.set_cons_succ]
              refine wpAnyH_take (i := 4) (oi := ?oi4_68) (v := ?v4_68) ?hi4_68 (by kernel_rfl) ?hf4_68 (by kernel_rfl) ?hq4_68 ?hy4_68 hHeld ?rest4_68
              case hi4_68 => (simp only [List.getElem?_toArray, List.getElem?_cons_succ, List.getElem?_cons_zero]; try exact rfl)
              case hf4_68 => kernel_rfl
              case hq4_68 => exact fun _ _ _ h => h
              case hy4_68 => (refine Or.inl ⟨rfl, ?_⟩; intro w hSw; (try dsimp only at hSw); go_simp; try with_reducible rfl)
              try simp only [Act.put, List.setIfInBounds_toArray, List.set_cons_zero, List.set_cons_succ]
              refine wpAnyH_take (i := 5) (oi := ?oi5_69) (v := ?v5_69) ?hi5_69 (by kernel_rfl) ?hf5_69 (by kernel_rfl) ?hq5_69 ?hy5_69 hHeld ?rest5_69
              case hi5_69 => (simp only [List.getElem?_toArray, List.getElem?_cons_succ, List.getElem?_cons_zero]; try exact rfl)
              case hf5_69 => kernel_rfl
              case hq5_69 => exact fun _ _ _ h => h
              case hy5_69 => (refine Or.inl ⟨rfl, ?_⟩; intro w hSw; (try dsimp only at hSw); go_simp; try with_reducible rfl)
              try simp only [Act.put, List.setIfInBounds_toArray, List.set_cons_zero, List.set_cons_succ]
              refine wpAnyH_take (i := 6) (oi := ?oi6_70) (v := ?v6_70) ?hi6_70 (by kernel_rfl) ?hf6_70 (by kernel_rfl) ?hq6_70 ?hy6_70 hHeld ?rest6_70
              case hi6_70 => (simp only [List.getElem?_toArray, List.getElem?_cons_succ, List.getElem?_cons_zero]; try exact rfl)
              case hf6_70 => kernel_rfl
              case hq6_70 => exact fun _ _ _ h => h
              case hy6_70 => (refine Or.inl ⟨rfl, ?_⟩; intro w hSw; (try dsimp only at hSw); go_simp; try with_reducible rfl)
              try simp only [Act.put, List.setIfInBounds_toArray, List.set_cons_zero, List.set_cons_succ]
              refine wpAnyH_take (i := 7) (oi := ?oi7_71) (v := ?v7_71) ?hi7_71 (by kernel_rfl) ?hf7_71 (by kernel_rfl) ?hq7_71 ?hy7_71 hHeld ?rest7_71
              case hi7_71 => (simp only [List.getElem?_toArray, List.getElem?_cons_succ, List.getElem?_cons_zero]; try exact rfl)
              case hf7_71 => kernel_rfl
              case hq7_71 => exact fun _ _ _ h => h
              case hy7_71 => (refine Or.inl ⟨rfl, ?_⟩; intro w hSw; (try dsimp only at hSw); go_simp; try with_reducible rfl)
              try simp only [Act.put, List.setIfInBounds_toArray, List.set_cons_zero, List.set_cons_succ]
              refine wpAnyH_take (i := 8) (oi := ?oi8_72) (v := ?v8_72) ?hi8_72 (by kernel_rfl) ?hf8_72 (by kernel_rfl) ?hq8_72 ?hy8_72 hHeld ?rest8_72
              case hi8_72 => (simp only [List.getElem?_toArray, List.getElem?_cons_succ, List.getElem?_cons_zero]; try exact rfl)
              case hf8_72 => kernel_rfl
              case hq8_72 => exact fun _ _ _ h => h
              case hy8_72 => (refine Or.inl ⟨rfl, ?_⟩; intro w hSw; (try dsimp only at hSw); go_simp; try with_reducible rfl)
              try simp only [Act.put, List.setIfInBounds_toArray, List.set_cons_zero, List.set_cons_succ]
              refine wpAnyH_take (i := 9) (oi := ?oi9_73) (v := ?v9_73) ?hi9_73 (by kernel_rfl) ?hf9_73 (by kernel_rfl) ?hq9_73 ?hy9_73 hHeld ?rest9_73
              case hi9_73 => (simp only [List.getElem?_toArray, List.getElem?_cons_succ, List.getElem?_cons_zero]; try exact rfl)
              case hf9_73 => kernel_rfl
              case hq9_73 => exact fun _ _ _ h => h
              case hy9_73 => (refine Or.inl ⟨rfl, ?_⟩; intro w hSw; (try dsimp only at hSw); go_simp; try with_reducible rfl)
              try simp only [Act.put, List.setIfInBounds_toArray, List.set_cons_zero, List.set_cons_succ]
              refine wpAnyH_take (i := 10) (oi := ?oi10_74) (v := ?v10_74) ?hi10_74 (by kernel_rfl) ?hf10_74 (by kernel_rfl) ?hq10_74 ?hy10_74 hHeld ?rest10_74
              case hi10_74 => (simp only [List.getElem?_toArray, List.getElem?_cons_succ, List.getElem?_cons_zero]; try exact rfl)
              case hf10_74 => kernel_rfl
              case hq10_74 => exact fun _ _ _ h => h
              case hy10_74 => (refine Or.inl ⟨rfl, ?_⟩; intro w hSw; (try dsimp only at hSw); go_simp; try with_reducible rfl)
              try simp only [Act.put, List.setIfInBounds_toArray, List.set_cons_zero, List.set_cons_succ]
              refine wpAnyH_take (i := 11) (oi := ?oi11_75) (v := ?v11_75) ?hi11_75 (by kernel_rfl) ?hf11_75 (by kernel_rfl) ?hq11_75 ?hy11_75 hHeld ?rest11_75
              case hi11_75 => (simp only [List.getElem?_toArray, List.getElem?_cons_succ, List.getElem?_cons_zero]; try exact rfl)
              case hf11_75 => kernel_rfl
              case hq11_75 => exact fun _ _ _ h => h
              case hy11_75 => (refine Or.inl ⟨rfl, ?_⟩; intro w hSw; (try dsimp only at hSw); go_simp; try with_reducible rfl)
              try simp only [Act.put, List.setIfInBounds_toArray, List.set_cons_zero, List.set_cons_succ]
              refine wpAnyH_take (i := 12) (oi := ?oi12_76) (v := ?v12_76) ?hi12_76 (by kernel_rfl) ?hf12_76 (by kernel_rfl) ?hq12_76 ?hy12_76 hHeld ?rest12_76
              case hi12_76 => (simp only [List.getElem?_toArray, List.getElem?_cons_succ, List.getElem?_cons_zero]; try exact rfl)
              case hf12_76 => kernel_rfl
              case hq12_76 => exact fun _ _ _ h => h
              case hy12_76 => (refine Or.inl ⟨rfl, ?_⟩; intro w hSw; (try dsimp only at hSw); go_simp; try with_reducible rfl)
              try simp only [Act.put, List.setIfInBounds_toArray, List.set_cons_zero, List.set_cons_succ]
              refine wpAnyH_take (i := 13) (oi := ?oi13_77) (v := ?v13_77) ?hi13_77 (by kernel_rfl) ?hf13_77 (by kernel_rfl) ?hq13_77 ?hy13_77 hHeld ?rest13_77
              case hi13_77 => (simp only [List.getElem?_toArray, List.getElem?_cons_succ, List.getElem?_cons_zero]; try exact rfl)
              case hf13_77 => kernel_rfl
              case hq13_77 => exact fun _ _ _ h => h
              case hy13_77 => (refine Or.inl ⟨rfl, ?_⟩; intro w hSw; (try dsimp only at hSw); go_simp; try with_reducible rfl)
              try simp only [Act.put, List.setIfInBounds_toArray, List.set_cons_zero, List.set_cons_succ]
              refine wpAnyH_take (i := 14) (oi := ?oi14_78) (v := ?v14_78) ?hi14_78 (by kernel_rfl) ?hf14_78 (by kernel_rfl) ?hq14_78 ?hy14_78 hHeld ?rest14_78
              case hi14_78 => (simp only [List.getElem?_toArray, List.getElem?_cons_succ, List.getElem?_cons_zero]; try exact rfl)
              case hf14_78 => kernel_rfl
              case hq14_78 => exact fun _ _ _ h => h
              case hy14_78 => (refine Or.inl ⟨rfl, ?_⟩; intro w hSw; (try dsimp only at hSw); go_simp; try with_reducible rfl)
              try simp only [Act.put, List.setIfInBounds_toArray, List.set_cons_zero, List.set_cons_succ]
              refine wpAnyH_take (i := 15) (oi := ?oi15_79) (v := ?v15_79) ?hi15_79 (by kernel_rfl) ?hf15_79 (by kernel_rfl) ?hq15_79 ?hy15_79 hHeld ?rest15_79
              case hi15_79 => (simp only [List.getElem?_toArray, List.getElem?_cons_succ, List.getElem?_cons_zero]; try exact rfl)
              case hf15_79 => kernel_rfl
              case hq15_79 => exact fun _ _ _ h => h
              case hy15_79 => (refine Or.inl ⟨rfl, ?_⟩; intro w hSw; (try dsimp only at hSw); go_simp; try with_reducible rfl)
              try simp only [Act.put, List.setIfInBounds_toArray, List.set_cons_zero, List.set_cons_succ]
              refine wpAnyH_take (i := 16) (oi := ?oi16_80) (v := ?v16_80) ?hi16_80 (by kernel_rfl) ?hf16_80 (by kernel_rfl) ?hq16_80 ?hy16_80 hHeld ?rest16_80
              case hi16_80 => (simp only [List.getElem?_toArray, List.getElem?_cons_succ, List.getElem?_cons_zero]; try exact rfl)
              case hf16_80 => kernel_rfl
              case hq16_80 => exact fun _ _ _ h => h
              case hy16_80 => (refine Or.inl ⟨rfl, ?_⟩; intro w hSw; (try dsimp only at hSw); go_simp; try with_reducible rfl)
              try simp only [Act.put, List.setIfInBounds_toArray, List.set_cons_zero, List.set_cons_succ]
              refine wpAnyH_take (i := 17) (oi := ?oi17_81) (v := ?v17_81) ?hi17_81 (by kernel_rfl) ?hf17_81 (by kernel_rfl) ?hq17_81 ?hy17_81 hHeld ?rest17_81
              case hi17_81 => (simp only [List.getElem?_toArray, List.getElem?_cons_succ, List.getElem?_cons_zero]; try exact rfl)
              case hf17_81 => kernel_rfl
              case hq17_81 => exact fun _ _ _ h => h
              case hy17_81 => (refine Or.inl ⟨rfl, ?_⟩; intro w hSw; (try dsimp only at hSw); go_simp; try with_reducible rfl)
              try simp only [Act.put, List.setIfInBounds_toArray, List.set_cons_zero, List.set_cons_succ]
              refine wpAnyH_take (i := 18) (oi := ?oi18_82) (v := ?v18_82) ?hi18_82 (by kernel_rfl) ?hf18_82 (by kernel_rfl) ?hq18_82 ?hy18_82 hHeld ?rest18_82
              case hi18_82 => (simp only [List.getElem?_toArray, List.getElem?_cons_succ, List.getElem?_cons_zero]; try exact rfl)
              case hf18_82 => kernel_rfl
              case hq18_82 => exact fun _ _ _ h => h
              case hy18_82 => (refine Or.inl ⟨rfl, ?_⟩; intro w hSw; (try dsimp only at hSw); go_simp; try with_reducible rfl)
              try simp only [Act.put, List.setIfInBounds_toArray, List.set_cons_zero, List.set_cons_succ]
              refine wpAnyH_take (i := 19) (oi := ?oi19_83) (v := ?v19_83) ?hi19_83 (by kernel_rfl) ?hf19_83 (by kernel_rfl) ?hq19_83 ?hy19_83 hHeld ?rest19_83
              case hi19_83 => (simp only [List.getElem?_toArray, List.getElem?_cons_succ, List.getElem?_cons_zero]; try exact rfl)
              case hf19_83 => kernel_rfl
              case hq19_83 => exact fun _ _ _ h => h
              case hy19_83 => (refine Or.inl ⟨rfl, ?_⟩; intro w hSw; (try dsimp only at hSw); go_simp; try with_reducible rfl)
              try simp only [Act.put, List.setIfInBounds_toArray, List.set_cons_zero, List.set_cons_succ]
              refine wpAnyH_take (i := 20) (oi := ?oi20_84) (v := ?v20_84) ?hi20_84 (by kernel_rfl) ?hf20_84 (by kernel_rfl) ?hq20_84 ?hy20_84 hHeld ?rest20_84
              case hi20_84 => (simp only [List.getElem?_toArray, List.getElem?_cons_succ, List.getElem?_cons_zero]; try exact rfl)
              case hf20_84 => kernel_rfl
              case hq20_84 => exact fun _ _ _ h => h
              case hy20_84 => (refine Or.inl ⟨rfl, ?_⟩; intro w hSw; (try dsimp only at hSw); go_simp; try with_reducible rfl)
              try simp only [Act.put, List.setIfInBounds_toArray, List.set_cons_zero, List.set_cons_succ]
              refine wpAnyH_take (i := 21) (oi := ?oi21_85) (v := ?v21_85) ?hi21_85 (by kernel_rfl) ?hf21_85 (by kernel_rfl) ?hq21_85 ?hy21_85 hHeld ?rest21_85
              case hi21_85 => (simp only [List.getElem?_toArray, List.getElem?_cons_succ, List.getElem?_cons_zero]; try exact rfl)
              case hf21_85 => kernel_rfl
              case hq21_85 => exact fun _ _ _ h => h
              case hy21_85 => (refine Or.inl ⟨rfl, ?_⟩; intro w hSw; (try dsimp only at hSw); go_simp; try with_reducible rfl)
              try simp only [Act.put, List.setIfInBounds_toArray, List.set_cons_zero, List.set_cons_succ]
              refine wpAnyH_take (i := 22) (oi := ?oi22_86) (v := ?v22_86) ?hi22_86 (by kernel_rfl) ?hf22_86 (by kernel_rfl) ?hq22_86 ?hy22_86 hHeld ?rest22_86
              case hi22_86 => (simp only [List.getElem?_toArray, List.getElem?_cons_succ, List.getElem?_cons_zero]; try exact rfl)
              case hf22_86 => kernel_rfl
              case hq22_86 => exact fun _ _ _ h => h
              case hy22_86 => (refine Or.inl ⟨rfl, ?_⟩; intro w hSw; (try dsimp only at hSw); go_simp; try with_reducible rfl)
              try simp only [Act.put, List.setIfInBounds_toArray, List.set_cons_zero, List.set_cons_succ]
              refine wpAnyH_take (i := 23) (oi := ?oi23_87) (v := ?v23_87) ?hi23_87 (by kernel_rfl) ?hf23_87 (by kernel_rfl) ?hq23_87 ?hy23_87 hHeld ?rest23_87
              case hi23_87 => (simp only [List.getElem?_toArray, List.getElem?_cons_succ, List.getElem?_cons_zero]; try exact rfl)
              case hf23_87 => kernel_rfl
              case hq23_87 => exact fun _ _ _ h => h
              case hy23_87 => (refine Or.inl ⟨rfl, ?_⟩; intro w hSw; (try dsimp only at hSw); go_simp; try with_reducible rfl)
              try simp only [Act.put, List.setIfInBounds_toArray, List.set_cons_zero, List.set_cons_succ]
              refine wpAnyH_take (i := 24) (oi := ?oi24_88) (v := ?v24_88) ?hi24_88 (by kernel_rfl) ?hf24_88 (by kernel_rfl) ?hq24_88 ?hy24_88 hHeld ?rest24_88
              case hi24_88 => (simp only [List.getElem?_toArray, List.getElem?_cons_succ, List.getElem?_cons_zero]; try exact rfl)
              case hf24_88 => kernel_rfl
              case hq24_88 => exact fun _ _ _ h => h
              case hy24_88 => (refine Or.inl ⟨rfl, ?_⟩; intro w hSw; (try dsimp only at hSw); go_simp; try with_reducible rfl)
              try simp only [Act.put, List.setIfInBounds_toArray, List.set_cons_zero, List.set_cons_succ]
              refine wpAnyH_take (i := 25) (oi := ?oi25_89) (v := ?v25_89) ?hi25_89 (by kernel_rfl) ?hf25_89 (by kernel_rfl) ?hq25_89 ?hy25_89 hHeld ?rest25_89
              case hi25_89 => (simp only [List.getElem?_toArray, List.getElem?_cons_succ, List.getElem?_cons_zero]; try exact rfl)
              case hf25_89 => kernel_rfl
              case hq25_89 => exact fun _ _ _ h => h
              case hy25_89 => (refine Or.inl ⟨rfl, ?_⟩; intro w hSw; (try dsimp only at hSw); go_simp; try with_reducible rfl)
              try simp only [Act.put, List.setIfInBounds_toArray, List.set_cons_zero, List.set_cons_succ]
              refine wpAnyH_take (i := 26) (oi := ?oi26_90) (v := ?v26_90) ?hi26_90 (by kernel_rfl) ?hf26_90 (by kernel_rfl) ?hq26_90 ?hy26_90 hHeld ?rest26_90
              case hi26_90 => (simp only [List.getElem?_toArray, List.getElem?_cons_succ, List.getElem?_cons_zero]; try exact rfl)
              case hf26_90 => kernel_rfl
              case hq26_90 => exact fun _ _ _ h => h
              case hy26_90 => (refine Or.inl ⟨rfl, ?_⟩; intro w hSw; (try dsimp only at hSw); go_simp; try with_reducible rfl)
              try simp only [Act.put, List.setIfInBounds_toArray, List.set_cons_zero, List.set_cons_succ]
              refine wpAnyH_take (i := 27) (oi := ?oi27_91) (v := ?v27_91) ?hi27_91 (by kernel_rfl) ?hf27_91 (by kernel_rfl) ?hq27_91 ?hy27_91 hHeld ?rest27_91
              case hi27_91 => (simp only [List.getElem?_toArray, List.getElem?_cons_succ, List.getElem?_cons_zero]; try exact rfl)
              case hf27_91 => kernel_rfl
              case hq27_91 => exact fun _ _ _ h => h
              case hy27_91 => (refine Or.inl ⟨rfl, ?_⟩; intro w hSw; (try dsimp only at hSw); go_simp; try with_reducible rfl)
              try simp only [Act.put, List.setIfInBounds_toArray, List.set_cons_zero, List.set_cons_succ]
              refine wpAnyH_ready (rs := [28]) (by kernel_rfl) (by simp) ?_
              refine AllReadyH.cons (by simp only [List.getElem?_toArray, List.getElem?_cons_succ, List.getElem?_cons_zero]; try exact rfl) (fun K hK => ?_) AllReadyH.nil
              go_simp
              refine (lives_any _ (HG.out.below X9.out.low)).mono ?_
              rintro e w10 ⟨rfl, hb⟩
              have X10 := Lib.hid (X9.out.below hb)
              have Y10 := Lib.hid (Y9.out.below hb)
              refine hK.out _ _ ⟨X10.out.cells.1, X10.out.cells.2, Y10.out.cells.1, Y10.out.cells.2, (HCC.out _ (bt hb HB9.out)).1, (HCC.out _ (bt hb HB9.out)).2.1, (HCC.out _ (bt hb HB9.out)).2.2.1, (HCC.out _ (bt hb HB9.out)).2.2.2⟩ (fun hHeld => ?_)
              clear hK K
              try simp only [Act.put, List.setIfInBounds_toArray, List.set_cons_zero, List.set_cons_succ]
              refine wpAnyH_take (i := 29) (oi := ?oi29_92) (v := ?v29_92) ?hi29_92 (by kernel_rfl) ?hf29_92 (by kernel_rfl) ?hq29_92 ?hy29_92 hHeld ?rest29_92
              case hi29_92 => (simp only [List.getElem?_toArray, List.getElem?_cons_succ, List.getElem?_cons_zero]; try exact rfl)
              case hf29_92 => kernel_rfl
              case hq29_92 => exact fun _ _ _ h => h
              case hy29_92 => (refine Or.inl ⟨rfl, ?_⟩; intro w hSw; (try dsimp only at hSw); go_simp; try with_reducible rfl)
              try simp only [Act.put, List.setIfInBounds_toArray, List.set_cons_zero, List.set_cons_succ]
              refine wpAnyH_take (i := 30) (oi := ?oi30_93) (v := ?v30_93) ?hi30_93 (by kernel_rfl) ?hf30_93 (by kernel_rfl) ?hq30_93 ?hy30_93 hHeld ?rest30_93
              case hi30_93 => (simp only [List.getElem?_toArray, List.getElem?_cons_succ, List.getElem?_cons_zero]; try exact rfl)
              case hf30_93 => kernel_rfl
              case hq30_93 => exact fun _ _ _ h => h
              case hy30_93 => (refine Or.inl ⟨rfl, ?_⟩; intro w hSw; (try dsimp only at hSw); go_simp; try with_reducible rfl)
              try simp only [Act.put, List.setIfInBounds_toArray, List.set_cons_zero, List.set_cons_succ]
              refine wpAnyH_done (by kernel_rfl) ?_ _
              go_wp2_with fail
              go_ret
              exact ⟨rfl, X10.out.low⟩
            · have g3 : decide ((bn : Int) < (an : Int)) = false := decide_eq_false (by omega)
              clear HNb hb1 ha9
              go_wp2_with fail
              clear hgt hw1 g1 g3 hab
              obtain ⟨bj, q, p, nq, np, e1, e2, e3, e4, e5, e6⟩ := HW.out
              obtain ⟨adB, eB, lB, cB, iB⟩ := SB6.out _ (Below.refl _ _) bj _ e2
              obtain ⟨adA, eA, lA, cA, iA⟩ := SA6.out _ (Below.refl _ _) bj _ e3
              subst eB eA
              rw [HBN.out] at iB
              rw [HAN.out] at iA
              have iq := (List.getElem?_eq_some_iff.1 e4).1
              have ip := (List.getElem?_eq_some_iff.1 e5).1
              rw [HM.out] at iq
              rw [HNL.out] at ip
              obtain ⟨ad7, cv7, f7, l7, _, _, _, _, d7, _⟩ := Y6.out.nds.get e4
              obtain ⟨ad0, cv0, f0, l0, _, _, _, _, d0, _⟩ := X6.out.nds.get e5
              subst f7 f0
              rw [e6] at d7
              obtain ⟨sz, hsz⟩ : ∃ sz, np.size = sz := ⟨_, rfl⟩
              rw [hsz] at d7 d0
              have hb1 := HN.out.2.1
              have ha9 := HN.out.2.2.2
              have hab := HN.out.1
              have hwj : IntKind.i64.wrap ((bn : Int) - 1) = (bj : Int) := by rw [IntWalk.i64_in _ (by omega)]; omega
              obtain ⟨t0, t1⟩ := X6.out.cells
              obtain ⟨y0, y1⟩ := Y6.out.cells
              have hsee : (sz == sz) = true := by simp
              clear e1 e2 e3 e4 e5 e6 hsz hb1 ha9 hab
              refine wp_region_held_drew (S := fun w' => w'.cell? ⟨w.heap.size, 0, none⟩ = some (.int .i64 dim) ∧ w'.cell? ⟨w.heap.size, 1, none⟩ = some (.slice (some ad0) n c) ∧ w'.cell? ⟨b7, 0, none⟩ = some (.int .i64 dim) ∧ w'.cell? ⟨b7, 1, none⟩ = some (.slice (some ad7) m c7) ∧ w'.cell? (adB.add bj) = some (.int .i64 q) ∧ w'.cell? (adA.add bj) = some (.int .i64 p) ∧ w'.cell? ⟨(ad7.add (q * 5)).block, (ad7.add (q * 5)).off + 4, none⟩ = some (.int .i64 sz) ∧ w'.cell? ⟨(ad0.add (p * 5)).block, (ad0.add (p * 5)).off + 4, none⟩ = some (.int .i64 sz)) (by kernel_rfl) ⟨t0, t1, y0, y1, cB, cA, d7, d0⟩ (fun hHeld => ?_)
              have hx := X6.out.below (Below.refl _ _).drew
              have hy := Y6.out.below (Below.refl _ _).drew
              have HCC := Lib.hid (fun (W : World) (hb : Below w6.drew.heap.size w6.drew W) => cells_up (hb := hb) (And.intro cB (And.intro cA (And.intro d7 d0))) lB lA l7 l0)
              obtain ⟨w8, hw8⟩ : ∃ W, w6.drew = W := ⟨_, rfl⟩
              rw [hw8] at hx hy hHeld HCC ⊢
              have X8 := Lib.hid hx
              have Y8 := Lib.hid hy
              clear hx hy hw8 t0 t1 y0 y1 cB cA d7 d0 lB lA l7 l0
              refine wpAnyH_take (i := 0) (oi := ?oi0_94) (v := ?v0_94) ?hi0_94 (by kernel_rfl) ?hf0_94 (by kernel_rfl) ?hq0_94 ?hy0_94 hHeld ?rest0_94
              case hi0_94 => (simp only [List.getElem?_toArray, List.getElem?_cons_zero]; try exact rfl)
              case hf0_94 => kernel_rfl
              case hq0_94 => exact fun _ _ _ h => h
              case hy0_94 => (refine Or.inl ⟨rfl, ?_⟩; intro w hSw; (try dsimp only at hSw); go_simp; try with_reducible rfl)
              try simp only [Act.put, List.setIfInBounds_toArray, List.set_cons_zero, List.set_cons_succ]
              refine wpAnyH_ready (rs := [1]) (by kernel_rfl) (by simp) ?_
              refine AllReadyH.cons (by simp only [List.getElem?_toArray, List.getElem?_cons_succ, List.getElem?_cons_zero]; try exact rfl) (fun K hK => ?_) AllReadyH.nil
              go_simp
              refine (RTIs_any _ pl _ 0 _ Y8.out.nds HPL.out).mono ?_
              rintro e w9 ⟨rfl, hb9⟩
              rw [isTB_true.2 HT2.out]
              have X9 := Lib.hid (X8.out.below hb9)
              have Y9 := Lib.hid (Y8.out.below hb9)
              have HB9 := Lib.hid hb9
              refine hK.out _ _ ⟨X9.out.cells.1, X9.out.cells.2, Y9.out.cells.1, Y9.out.cells.2, (HCC.out _ hb9).1, (HCC.out _ hb9).2.1, (HCC.out _ hb9).2.2.1, (HCC.out _ hb9).2.2.2⟩ (fun hHeld => ?_)
              clear hK K
              try simp only [Act.put, List.setIfInBounds_toArray, List.set_cons_zero, List.set_cons_succ]
              clear hb9
              refine wpAnyH_take (i := 2) (oi := ?oi2_95) (v := ?v2_95) ?hi2_95 (by kernel_rfl) ?hf2_95 (by kernel_rfl) ?hq2_95 ?hy2_95 hHeld ?rest2_95
              case hi2_95 => (simp only [List.getElem?_toArray, List.getElem?_cons_succ, List.getElem?_cons_zero]; try exact rfl)
              case hf2_95 => kernel_rfl
              case hq2_95 => exact fun _ _ _ h => h
              case hy2_95 => (refine Or.inl ⟨rfl, ?_⟩; intro w hSw; (try dsimp only at hSw); go_simp; try with_reducible rfl)
              try simp only [Act.put, List.setIfInBounds_toArray, List.set_cons_zero, List.set_cons_succ]
              refine wpAnyH_take (i := 3) (oi := ?oi3_96) (v := ?v3_96) ?hi3_96 (by kernel_rfl) ?hf3_96 (by kernel_rfl) ?hq3_96 ?hy3_96 hHeld ?rest3_96
              case hi3_96 => (simp only [List.getElem?_toArray, List.getElem?_cons_succ, List.getElem?_cons_zero]; try exact rfl)
              case hf3_96 => kernel_rfl
              case hq3_96 => exact fun _ _ _ h => h
              case hy3_96 => (refine Or.inl ⟨rfl, ?_⟩; intro w hSw; (try dsimp only at hSw); go_simp; try with_reducible rfl)
              try simp only [Act.put, List.setIfInBounds_toArray, List.set_cons_zero, List.set_cons_succ]
              refine wpAnyH_take (i := 4) (oi := ?oi4_97) (v := ?v4_97) ?hi4_97 (by kernel_rfl) ?hf4_97 (by kernel_rfl) ?hq4_97 ?hy4_97 hHeld ?rest4_97
              case hi4_97 => (simp only [List.getElem?_toArray, List.getElem?_cons_succ, List.getElem?_cons_zero]; try exact rfl)
              case hf4_97 => kernel_rfl
              case hq4_97 => exact fun _ _ _ h => h
              case hy4_97 => (refine Or.inl ⟨rfl, ?_⟩; intro w hSw; (try dsimp only at hSw); go_simp; try with_reducible rfl)
              try simp only [Act.put, List.setIfInBounds_toArray, List.set_cons_zero, List.set_cons_succ]
              refine wpAnyH_take (i := 5) (oi := ?oi5_98) (v := ?v5_98) ?hi5_98 (by kernel_rfl) ?hf5_98 (by kernel_rfl) ?hq5_98 ?hy5_98 hHeld ?rest5_98
              case hi5_98 => (simp only [List.getElem?_toArray, List.getElem?_cons_succ, List.getElem?_cons_zero]; try exact rfl)
              case hf5_98 => kernel_rfl
              case hq5_98 => exact fun _ _ _ h => h
              case hy5_98 => (refine Or.inl ⟨rfl, ?_⟩; intro w hSw; (try dsimp only at hSw); go_simp; try with_reducible rfl)
              try simp only [Act.put, List.setIfInBounds_toArray, List.set_cons_zero, List.set_cons_succ]
              refine wpAnyH_take (i := 6) (oi := ?oi6_99) (v := ?v6_99) ?hi6_99 (by kernel_rfl) ?hf6_99 (by kernel_rfl) ?hq6_99 ?hy6_99 hHeld ?rest6_99
              case hi6_99 => (simp only [List.getElem?_toArray, List.getElem?_cons_succ, List.getElem?_cons_zero]; try exact rfl)
              case hf6_99 => kernel_rfl
              case hq6_99 => exact fun _ _ _ h => h
              case hy6_99 => (refine Or.inl ⟨rfl, ?_⟩; intro w hSw; (try dsimp only at hSw); go_simp; try with_reducible rfl)
              try simp only [Act.put, List.setIfInBounds_toArray, List.set_cons_zero, List.set_cons_succ]
              refine wpAnyH_take (i := 7) (oi := ?oi7_100) (v := ?v7_100) ?hi7_100 (by kernel_rfl) ?hf7_100 (by kernel_rfl) ?hq7_100 ?hy7_100 hHeld ?rest7_100
              case hi7_100 => (simp only [List.getElem?_toArray, List.getElem?_cons_succ, List.getElem?_cons_zero]; try exact rfl)
              case hf7_100 => kernel_rfl
              case hq7_100 => exact fun _ _ _ h => h
              case hy7_100 => (refine Or.inl ⟨rfl, ?_⟩; intro w hSw; (try dsimp only at hSw); go_simp; try with_reducible rfl)
              try simp only [Act.put, List.setIfInBounds_toArray, List.set_cons_zero, List.set_cons_succ]
              refine wpAnyH_take (i := 8) (oi := ?oi8_101) (v := ?v8_101) ?hi8_101 (by kernel_rfl) ?hf8_101 (by kernel_rfl) ?hq8_101 ?hy8_101 hHeld ?rest8_101
              case hi8_101 => (simp only [List.getElem?_toArray, List.getElem?_cons_succ, List.getElem?_cons_zero]; try exact rfl)
              case hf8_101 => kernel_rfl
              case hq8_101 => exact fun _ _ _ h => h
              case hy8_101 => (refine Or.inl ⟨rfl, ?_⟩; intro w hSw; (try dsimp only at hSw); go_simp; try with_reducible rfl)
              try simp only [Act.put, List.setIfInBounds_toArray, List.set_cons_zero, List.set_cons_succ]
              refine wpAnyH_take (i := 9) (oi := ?oi9_102) (v := ?v9_102) ?hi9_102 (by kernel_rfl) ?hf9_102 (by kernel_rfl) ?hq9_102 ?hy9_102 hHeld ?rest9_102
              case hi9_102 => (simp only [List.getElem?_toArray, List.getElem?_cons_succ, List.getElem?_cons_zero]; try exact rfl)
              case hf9_102 => kernel_rfl
              case hq9_102 => exact fun _ _ _ h => h
              case hy9_102 => (refine Or.inl ⟨rfl, ?_⟩; intro w hSw; (try dsimp only at hSw); go_simp; try with_reducible rfl)
              try simp only [Act.put, List.setIfInBounds_toArray, List.set_cons_zero, List.set_cons_succ]
              refine wpAnyH_take (i := 10) (oi := ?oi10_103) (v := ?v10_103) ?hi10_103 (by kernel_rfl) ?hf10_103 (by kernel_rfl) ?hq10_103 ?hy10_103 hHeld ?rest10_103
              case hi10_103 => (simp only [List.getElem?_toArray, List.getElem?_cons_succ, List.getElem?_cons_zero]; try exact rfl)
              case hf10_103 => kernel_rfl
              case hq10_103 => exact fun _ _ _ h => h
              case hy10_103 => (refine Or.inl ⟨rfl, ?_⟩; intro w hSw; (try dsimp only at hSw); go_simp; try with_reducible rfl)
              try simp only [Act.put, List.setIfInBounds_toArray, List.set_cons_zero, List.set_cons_succ]
              refine wpAnyH_take (i := 11) (oi := ?oi11_104) (v := ?v11_104) ?hi11_104 (by kernel_rfl) ?hf11_104 (by kernel_rfl) ?hq11_104 ?hy11_104 hHeld ?rest11_104
              case hi11_104 => (simp only [List.getElem?_toArray, List.getElem?_cons_succ, List.getElem?_cons_zero]; try exact rfl)
              case hf11_104 => kernel_rfl
              case hq11_104 => exact fun _ _ _ h => h
              case hy11_104 => (refine Or.inl ⟨rfl, ?_⟩; intro w hSw; (try dsimp only at hSw); go_simp; try with_reducible rfl)
              try simp only [Act.put, List.setIfInBounds_toArray, List.set_cons_zero, List.set_cons_succ]
              refine wpAnyH_take (i := 12) (oi := ?oi12_105) (v := ?v12_105) ?hi12_105 (by kernel_rfl) ?hf12_105 (by kernel_rfl) ?hq12_105 ?hy12_105 hHeld ?rest12_105
              case hi12_105 => (simp only [List.getElem?_toArray, List.getElem?_cons_succ, List.getElem?_cons_zero]; try exact rfl)
              case hf12_105 => kernel_rfl
              case hq12_105 => exact fun _ _ _ h => h
              case hy12_105 => (refine Or.inl ⟨rfl, ?_⟩; intro w hSw; (try dsimp only at hSw); go_simp; try with_reducible rfl)
              try simp only [Act.put, List.setIfInBounds_toArray, List.set_cons_zero, List.set_cons_succ]
              refine wpAnyH_take (i := 13) (oi := ?oi13_106) (v := ?v13_106) ?hi13_106 (by kernel_rfl) ?hf13_106 (by kernel_rfl) ?hq13_106 ?hy13_106 hHeld ?rest13_106
              case hi13_106 => (simp only [List.getElem?_toArray, List.getElem?_cons_succ, List.getElem?_cons_zero]; try exact rfl)
              case hf13_106 => kernel_rfl
              case hq13_106 => exact fun _ _ _ h => h
              case hy13_106 => (refine Or.inl ⟨rfl, ?_⟩; intro w hSw; (try dsimp only at hSw); go_simp; try with_reducible rfl)
              try simp only [Act.put, List.setIfInBounds_toArray, List.set_cons_zero, List.set_cons_succ]
              refine wpAnyH_take (i := 14) (oi := ?oi14_107) (v := ?v14_107) ?hi14_107 (by kernel_rfl) ?hf14_107 (by kernel_rfl) ?hq14_107 ?hy14_107 hHeld ?rest14_107
              case hi14_107 => (simp only [List.getElem?_toArray, List.getElem?_cons_succ, List.getElem?_cons_zero]; try exact rfl)
              case hf14_107 => kernel_rfl
              case hq14_107 => exact fun _ _ _ h => h
              case hy14_107 => (refine Or.inl ⟨rfl, ?_⟩; intro w hSw; (try dsimp only at hSw); go_simp; try with_reducible rfl)
              try simp only [Act.put, List.setIfInBounds_toArray, List.set_cons_zero, List.set_cons_succ]
              refine wpAnyH_take (i := 15) (oi := ?oi15_108) (v := ?v15_108) ?hi15_108 (by kernel_rfl) ?hf15_108 (by kernel_rfl) ?hq15_108 ?hy15_108 hHeld ?rest15_108
              case hi15_108 => (simp only [List.getElem?_toArray, List.getElem?_cons_succ, List.getElem?_cons_zero]; try exact rfl)
              case hf15_108 => kernel_rfl
              case hq15_108 => exact fun _ _ _ h => h
              case hy15_108 => (refine Or.inl ⟨rfl, ?_⟩; intro w hSw; (try dsimp only at hSw); go_simp; try with_reducible rfl)
              try simp only [Act.put, List.setIfInBounds_toArray, List.set_cons_zero, List.set_cons_succ]
              refine wpAnyH_take (i := 16) (oi := ?oi16_109) (v := ?v16_109) ?hi16_109 (by kernel_rfl) ?hf16_109 (by kernel_rfl) ?hq16_109 ?hy16_109 hHeld ?rest16_109
              case hi16_109 => (simp only [List.getElem?_toArray, List.getElem?_cons_succ, List.getElem?_cons_zero]; try exact rfl)
              case hf16_109 => kernel_rfl
              case hq16_109 => exact fun _ _ _ h => h
              case hy16_109 => (refine Or.inl ⟨rfl, ?_⟩; intro w hSw; (try dsimp only at hSw); go_simp; try with_reducible rfl)
              try simp only [Act.put, List.setIfInBounds_toArray, List.set_cons_zero, List.set_cons_succ]
              refine wpAnyH_take (i := 17) (oi := ?oi17_110) (v := ?v17_110) ?hi17_110 (by kernel_rfl) ?hf17_110 (by kernel_rfl) ?hq17_110 ?hy17_110 hHeld ?rest17_110
              case hi17_110 => (simp only [List.getElem?_toArray, List.getElem?_cons_succ, List.getElem?_cons_zero]; try exact rfl)
              case hf17_110 => kernel_rfl
              case hq17_110 => exact fun _ _ _ h => h
              case hy17_110 => (refine Or.inl ⟨rfl, ?_⟩; intro w hSw; (try dsimp only at hSw); go_simp; try with_reducible rfl)
              try simp only [Act.put, List.setIfInBounds_toArray, List.set_cons_zero, List.set_cons_succ]
              refine wpAnyH_take (i := 18) (oi := ?oi18_111) (v := ?v18_111) ?hi18_111 (by kernel_rfl) ?hf18_111 (by kernel_rfl) ?hq18_111 ?hy18_111 hHeld ?rest18_111
              case hi18_111 => (simp only [List.getElem?_toArray, List.getElem?_cons_succ, List.getElem?_cons_zero]; try exact rfl)
              case hf18_111 => kernel_rfl
              case hq18_111 => exact fun _ _ _ h => h
              case hy18_111 => (refine Or.inl ⟨rfl, ?_⟩; intro w hSw; (try dsimp only at hSw); go_simp; try with_reducible rfl)
              try simp only [Act.put, List.setIfInBounds_toArray, List.set_cons_zero, List.set_cons_succ]
              refine wpAnyH_take (i := 19) (oi := ?oi19_112) (v := ?v19_112) ?hi19_112 (by kernel_rfl) ?hf19_112 (by kernel_rfl) ?hq19_112 ?hy19_112 hHeld ?rest19_112
              case hi19_112 => (simp only [List.getElem?_toArray, List.getElem?_cons_succ, List.getElem?_cons_zero]; try exact rfl)
              case hf19_112 => kernel_rfl
              case hq19_112 => exact fun _ _ _ h => h
              case hy19_112 => (refine Or.inl ⟨rfl, ?_⟩; intro w hSw; (try dsimp only at hSw); go_simp; try with_reducible rfl)
              try simp only [Act.put, List.setIfInBounds_toArray, List.set_cons_zero, List.set_cons_succ]
              refine wpAnyH_take (i := 20) (oi := ?oi20_113) (v := ?v20_113) ?hi20_113 (by kernel_rfl) ?hf20_113 (by kernel_rfl) ?hq20_113 ?hy20_113 hHeld ?rest20_113
              case hi20_113 => (simp only [List.getElem?_toArray, List.getElem?_cons_succ, List.getElem?_cons_zero]; try exact rfl)
              case hf20_113 => kernel_rfl
              case hq20_113 => exact fun _ _ _ h => h
              case hy20_113 => (refine Or.inl ⟨rfl, ?_⟩; intro w hSw; (try dsimp only at hSw); go_simp; try with_reducible rfl)
              try simp only [Act.put, List.setIfInBounds_toArray, List.set_cons_zero, List.set_cons_succ]
              refine wpAnyH_take (i := 21) (oi := ?oi21_114) (v := ?v21_114) ?hi21_114 (by kernel_rfl) ?hf21_114 (by kernel_rfl) ?hq21_114 ?hy21_114 hHeld ?rest21_114
              case hi21_114 => (simp only [List.getElem?_toArray, List.getElem?_cons_succ, List.getElem?_cons_zero]; try exact rfl)
              case hf21_114 => kernel_rfl
              case hq21_114 => exact fun _ _ _ h => h
              case hy21_114 => (refine Or.inl ⟨rfl, ?_⟩; intro w hSw; (try dsimp only at hSw); go_simp; try with_reducible rfl)
              try simp only [Act.put, List.setIfInBounds_toArray, List.set_cons_zero, List.set_cons_succ]
              refine wpAnyH_take (i := 22) (oi := ?oi22_115) (v := ?v22_115) ?hi22_115 (by kernel_rfl) ?hf22_115 (by kernel_rfl) ?hq22_115 ?hy22_115 hHeld ?rest22_115
              case hi22_115 => (simp only [List.getElem?_toArray, List.getElem?_cons_succ, List.getElem?_cons_zero]; try exact rfl)
              case hf22_115 => kernel_rfl
              case hq22_115 => exact fun _ _ _ h => h
              case hy22_115 => (refine Or.inl ⟨rfl, ?_⟩; intro w hSw; (try dsimp only at hSw); go_simp; try with_reducible rfl)
              try simp only [Act.put, List.setIfInBounds_toArray, List.set_cons_zero, List.set_cons_succ]
              refine wpAnyH_take (i := 23) (oi := ?oi23_116) (v := ?v23_116) ?hi23_116 (by kernel_rfl) ?hf23_116 (by kernel_rfl) ?hq23_116 ?hy23_116 hHeld ?rest23_116
              case hi23_116 => (simp only [List.getElem?_toArray, List.getElem?_cons_succ, List.getElem?_cons_zero]; try exact rfl)
              case hf23_116 => kernel_rfl
              case hq23_116 => exact fun _ _ _ h => h
              case hy23_116 => (refine Or.inl ⟨rfl, ?_⟩; intro w hSw; (try dsimp only at hSw); go_simp; try with_reducible rfl)
              try simp only [Act.put, List.setIfInBounds_toArray, List.set_cons_zero, List.set_cons_succ]
              refine wpAnyH_take (i := 24) (oi := ?oi24_117) (v := ?v24_117) ?hi24_117 (by kernel_rfl) ?hf24_117 (by kernel_rfl) ?hq24_117 ?hy24_117 hHeld ?rest24_117
              case hi24_117 => (simp only [List.getElem?_toArray, List.getElem?_cons_succ, List.getElem?_cons_zero]; try exact rfl)
              case hf24_117 => kernel_rfl
              case hq24_117 => exact fun _ _ _ h => h
              case hy24_117 => (refine Or.inl ⟨rfl, ?_⟩; intro w hSw; (try dsimp only at hSw); go_simp; try with_reducible rfl)
              try simp only [Act.put, List.setIfInBounds_toArray, List.set_cons_zero, List.set_cons_succ]
              refine wpAnyH_take (i := 25) (oi := ?oi25_118) (v := ?v25_118) ?hi25_118 (by kernel_rfl) ?hf25_118 (by kernel_rfl) ?hq25_118 ?hy25_118 hHeld ?rest25_118
              case hi25_118 => (simp only [List.getElem?_toArray, List.getElem?_cons_succ, List.getElem?_cons_zero]; try exact rfl)
              case hf25_118 => kernel_rfl
              case hq25_118 => exact fun _ _ _ h => h
              case hy25_118 => (refine Or.inl ⟨rfl, ?_⟩; intro w hSw; (try dsimp only at hSw); go_simp; try with_reducible rfl)
              try simp only [Act.put, List.setIfInBounds_toArray, List.set_cons_zero, List.set_cons_succ]
              refine wpAnyH_take (i := 26) (oi := ?oi26_119) (v := ?v26_119) ?hi26_119 (by kernel_rfl) ?hf26_119 (by kernel_rfl) ?hq26_119 ?hy26_119 hHeld ?rest26_119
              case hi26_119 => (simp only [List.getElem?_toArray, List.getElem?_cons_succ, List.getElem?_cons_zero]; try exact rfl)
              case hf26_119 => kernel_rfl
              case hq26_119 => exact fun _ _ _ h => h
              case hy26_119 => (refine Or.inl ⟨rfl, ?_⟩; intro w hSw; (try dsimp only at hSw); go_simp; try with_reducible rfl)
              try simp only [Act.put, List.setIfInBounds_toArray, List.set_cons_zero, List.set_cons_succ]
              refine wpAnyH_take (i := 27) (oi := ?oi27_120) (v := ?v27_120) ?hi27_120 (by kernel_rfl) ?hf27_120 (by kernel_rfl) ?hq27_120 ?hy27_120 hHeld ?rest27_120
              case hi27_120 => (simp only [List.getElem?_toArray, List.getElem?_cons_succ, List.getElem?_cons_zero]; try exact rfl)
              case hf27_120 => kernel_rfl
              case hq27_120 => exact fun _ _ _ h => h
              case hy27_120 => (refine Or.inl ⟨rfl, ?_⟩; intro w hSw; (try dsimp only at hSw); go_simp; try with_reducible rfl)
              try simp only [Act.put, List.setIfInBounds_toArray, List.set_cons_zero, List.set_cons_succ]
              refine wpAnyH_ready (rs := [28]) (by kernel_rfl) (by simp) ?_
              refine AllReadyH.cons (by simp only [List.getElem?_toArray, List.getElem?_cons_succ, List.getElem?_cons_zero]; try exact rfl) (fun K hK => ?_) AllReadyH.nil
              go_simp
              refine (lives_any _ (HG.out.below X9.out.low)).mono ?_
              rintro e w10 ⟨rfl, hb⟩
              have X10 := Lib.hid (X9.out.below hb)
              have Y10 := Lib.hid (Y9.out.below hb)
              refine hK.out _ _ ⟨X10.out.cells.1, X10.out.cells.2, Y10.out.cells.1, Y10.out.cells.2, (HCC.out _ (bt hb HB9.out)).1, (HCC.out _ (bt hb HB9.out)).2.1, (HCC.out _ (bt hb HB9.out)).2.2.1, (HCC.out _ (bt hb HB9.out)).2.2.2⟩ (fun hHeld => ?_)
              clear hK K
              try simp only [Act.put, List.setIfInBounds_toArray, List.set_cons_zero, List.set_cons_succ]
              refine wpAnyH_take (i := 29) (oi := ?oi29_121) (v := ?v29_121) ?hi29_121 (by kernel_rfl) ?hf29_121 (by kernel_rfl) ?hq29_121 ?hy29_121 hHeld ?rest29_121
              case hi29_121 => (simp only [List.getElem?_toArray, List.getElem?_cons_succ, List.getElem?_cons_zero]; try exact rfl)
              case hf29_121 => kernel_rfl
              case hq29_121 => exact fun _ _ _ h => h
              case hy29_121 => (refine Or.inl ⟨rfl, ?_⟩; intro w hSw; (try dsimp only at hSw); go_simp; try with_reducible rfl)
              try simp only [Act.put, List.setIfInBounds_toArray, List.set_cons_zero, List.set_cons_succ]
              refine wpAnyH_take (i := 30) (oi := ?oi30_122) (v := ?v30_122) ?hi30_122 (by kernel_rfl) ?hf30_122 (by kernel_rfl) ?hq30_122 ?hy30_122 hHeld ?rest30_122
              case hi30_122 => (simp only [List.getElem?_toArray, List.getElem?_cons_succ, List.getElem?_cons_zero]; try exact rfl)
              case hf30_122 => kernel_rfl
              case hq30_122 => exact fun _ _ _ h => h
              case hy30_122 => (refine Or.inl ⟨rfl, ?_⟩; intro w hSw; (try dsimp only at hSw); go_simp; try with_reducible rfl)
              try simp only [Act.put, List.setIfInBounds_toArray, List.set_cons_zero, List.set_cons_succ]
              refine wpAnyH_done (by kernel_rfl) ?_ _
              go_wp2_with fail
              go_ret
              exact ⟨rfl, X10.out.low⟩
end Go.Proofs.YtmmgfelifmdnbaaDoor.PrnW
