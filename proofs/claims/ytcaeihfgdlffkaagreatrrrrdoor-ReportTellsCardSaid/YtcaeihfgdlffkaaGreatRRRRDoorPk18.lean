/- tree.Is, whole. -/
import Derived.Test.YtcaeihfgdlffkaaGreatRRRRDoorPk17
import Derived.Test.YtcaeihfgdlffkaaGreatRRRRDoorPk15
import Derived.Test.YtcaeihfgdlffkaaGreatRRRRDoorPk01
import Derived.Test.YtcaeihfgdlffkaaGreatRRRRDoorPk07
import Derived.Deep.QuietTactic
namespace Go.Proofs.YtcaeihfgdlffkaaGreatRRRRDoor.ShpJ
set_option linter.unusedVariables false
open Go.RowKit Base SeqM ShpM ShpV ShpW ShpD ShpT ShpI

theorem isT_root {dim : Int} {l : List Nd} {x0 : Nd} (h : IsT dim l) (h0 : l[0]? = some x0) : 1 ≤ x0.size ∧ x0.size ≤ 64 := by
  obtain ⟨_, _, b, hat, _, hok, h64, _⟩ := h
  obtain ⟨x, hx, hs⟩ := at_size hat
  rw [h0] at hx
  obtain rfl := Option.some.inj hx
  have := size_pos hok
  omega
theorem isT_len {dim : Int} {l : List Nd} (h : IsT dim l) : 0 < l.length ∧ l.length ≤ 127 := by
  obtain ⟨_, _, b, hat, hc, hok, h64, _⟩ := h
  have := count_le hok
  have := count_pos b
  omega
set_option maxHeartbeats 2000000 in
set_option maxRecDepth 100000 in
theorem TIs_any (v : Value) (l : List Nd) (dim : Int) (lo : Nat) (w : World) (h : Nds w lo w.heap.size v l) :
    Calls Tryz.prog 136 #[.agg #[.int .i64 dim, v]] w fun e w' => e = .returned (.bool (isTB dim l)) ∧ Below w.heap.size w w' := by
  have HS := Lib.hid h
  obtain ⟨A, cap, rfl, hc1, hc2, _⟩ := h.form
  obtain ⟨n, hn⟩ : ∃ n, l.length = n := ⟨_, rfl⟩
  have HN := Lib.hid hn
  rw [hn] at HS hc1 ⊢
  clear h hn
  by_cases hd1 : dim < 1
  · have F := Lib.hid (show isTB dim l = false from isTB_false.2 (fun h => by have := h.1; omega))
    go_enter Tryz.func136, Tryz.ntmps136
    go_wp2_with fail
    go_ret
    exact ⟨ret_bool F.out.symm, below_a1 _ _⟩
  · by_cases hd2 : 8 < dim
    · have F := Lib.hid (show isTB dim l = false from isTB_false.2 (fun h => by have := h.2.1; omega))
      go_enter Tryz.func136, Tryz.ntmps136
      go_wp2_with fail
      go_ret
      exact ⟨ret_bool F.out.symm, below_a1 _ _⟩
    · by_cases hn0 : n = 0
      · have F := Lib.hid (show isTB dim l = false from isTB_false.2 (fun h => by have := (isT_len h).1; rw [HN.out] at this; omega))
        subst hn0
        go_enter Tryz.func136, Tryz.ntmps136
        go_wp2_with fail
        go_ret
        exact ⟨ret_bool F.out.symm, below_a1 _ _⟩
      · by_cases hn1 : 127 < n
        · have F := Lib.hid (show isTB dim l = false from isTB_false.2 (fun h => by have := (isT_len h).2; rw [HN.out] at this; omega))
          have hn0b : ((n : Int) == 0) = false := by rw [beq_eq_false_iff_ne]; omega
          have hn1b : (127 : Int) < (n : Int) := by omega
          go_enter Tryz.func136, Tryz.ntmps136
          go_wp2_with fail
          go_ret
          exact ⟨ret_bool F.out.symm, below_a1 _ _⟩
        · obtain ⟨x0, hx0⟩ : ∃ x, l[0]? = some x := ⟨_, List.getElem?_eq_getElem (by rw [HN.out]; omega)⟩
          obtain ⟨ad, cv0, rfl, hbk, _, _, _, _, c4, _⟩ := HS.out.get hx0
          have c4 : w.cell? ⟨ad.block, ad.off + 4, none⟩ = some (.int .i64 x0.size) := c4
          have hn0b : ((n : Int) == 0) = false := by rw [beq_eq_false_iff_ne]; omega
          have hn1b : ¬ (127 : Int) < (n : Int) := by omega
          by_cases hs1 : x0.size < 1
          · have F := Lib.hid (show isTB dim l = false from isTB_false.2 (fun h => by have := (isT_root h hx0).1; omega))
            go_enter Tryz.func136, Tryz.ntmps136
            go_wp2_with fail
            go_ret
            exact ⟨ret_bool F.out.symm, below_a1 _ _⟩
          · by_cases hs2 : 64 < x0.size
            · have F := Lib.hid (show isTB dim l = false from isTB_false.2 (fun h => by have := (isT_root h hx0).2; omega))
              go_enter Tryz.func136, Tryz.ntmps136
              go_wp2_with fail
              go_ret
              exact ⟨ret_bool F.out.symm, below_a1 _ _⟩
            · exact TIs_in ad l dim lo n cap w HS.out HN.out hc1 hc2 hd1 hd2 hn0 hn1 x0 hx0 hs1 hs2
end Go.Proofs.YtcaeihfgdlffkaaGreatRRRRDoor.ShpJ

/- A forest: right? walked (forest.Is; printed by mkfis.py). -/
namespace Go.Proofs.YtcaeihfgdlffkaaGreatRRRRDoor.FisW
set_option linter.unusedVariables false
set_option linter.unusedSimpArgs false
open Go.RowKit Base SeqM CfM RptC ScoX ShpM ShpT ShpJ StM StV HyW RotW

set_option maxHeartbeats 4000000 in
set_option maxRecDepth 100000 in
theorem stands_any (fv : Value) (l : List Gr) (g0 g : Gr) (i : Nat) (w : World) (h : Grs w 0 w.heap.size fv l) (h0 : l[0]? = some g0) (hi : l[i]? = some g) (hb : i < 1000000) :
    Calls Tryz.prog 111 #[fv, .int .i64 i] w fun e w' => e = .returned (.bool (grownB g0.dim g)) ∧ Below w.heap.size w w' := by
  obtain ⟨A, cap, rfl, hc1, hc2, _⟩ := h.form
  have hil := (List.getElem?_eq_some_iff.1 hi).1
  have h0l := (List.getElem?_eq_some_iff.1 h0).1
  obtain ⟨ad, xv, rfl, hbk, hcs, hnd⟩ := h.get hi
  obtain ⟨ad', yv, e', hbk', hcs', _⟩ := h.get h0
  obtain rfl := Option.some.inj e'
  have HN := Lib.hid (fun W (hw : Below w.heap.size w W) => TIs_any xv g.nodes g.dim 0 W (hnd.up hw))
  obtain ⟨NA, nc, hxf, hn1, hn2, _⟩ := hnd.form
  have HG := Lib.hid (show grownB g0.dim g = (decide (0 ≤ g.born ∧ g.born ≤ 1099511627776) && decide (g.dim = g0.dim) && isTB g.dim g.nodes) from rfl)
  obtain ⟨dim, nodes, born⟩ := g
  obtain ⟨dim0, nodes0, born0⟩ := g0
  have c0 : w.cell? (ad.add (i * 3)) = some (.int .i64 dim) := hcs 0 _ rfl
  have c1 : w.cell? ⟨(ad.add (i * 3)).block, (ad.add (i * 3)).off + 1, none⟩ = some xv := by rw [add_off _ _ _ (by decide)]; exact hcs 1 _ rfl
  have c2 : w.cell? ⟨(ad.add (i * 3)).block, (ad.add (i * 3)).off + 2, none⟩ = some (.int .i64 born) := by rw [add_off _ _ _ (by decide)]; exact hcs 2 _ rfl
  have had : ad.add 0 = ad := by unfold Addr.add; simp
  have e0 : w.cell? ad = some (.int .i64 dim0) := by have := hcs' 0 _ rfl; simpa [had] using this
  dsimp only at HN HG hxf hn1 ⊢
  generalize grownB dim0 ⟨dim, nodes, born⟩ = R at *
  obtain ⟨n, hn⟩ : ∃ n, l.length = n := ⟨_, rfl⟩
  obtain ⟨m, hm⟩ : ∃ m, nodes.length = m := ⟨_, rfl⟩
  rw [hn] at hc1 hil h0l ⊢
  rw [hm] at hxf hn1
  generalize isTB dim nodes = T at *
  subst hxf
  have hz : ad.block < w.heap.size := hbk
  clear hcs hcs' h hi h0 hnd hn hm had
  have HE0 := Lib.hid (show ∀ W, Below w.heap.size w W → W.cell? ad = some (.int .i64 dim0) from fun W hw => keepA hw e0)
  obtain ⟨W, eW⟩ : ∃ W, w.alloc (.cells #[.int .i64 dim, .slice NA m nc, .int .i64 born] 107) = W := ⟨_, rfl⟩
  have HB := Lib.hid (show Below w.heap.size w W by rw [← eW]; exact below_a1 _ _)
  have HCS := Lib.hid (show ∀ W' : World, Below W.heap.size W W' → (W'.cell? ⟨w.heap.size, 0, none⟩ = some (.int .i64 dim) ∧ W'.cell? ⟨w.heap.size, 1, none⟩ = some (.slice NA m nc) ∧ W'.cell? ⟨w.heap.size, 2, none⟩ = some (.int .i64 born)) ∧ W'.cell? ad = some (.int .i64 dim0) by
    intro W' hb
    refine ⟨?_, HE0.out W' (bt hb HB.out)⟩
    subst eW
    refine ⟨keepA hb ?_, keepA hb ?_, keepA hb ?_⟩ <;> go_simp)
  obtain ⟨⟨k0, k1, k2⟩, k3⟩ := HCS.out W (Below.refl _ _)
  by_cases b1 : 0 ≤ born
  · by_cases b2 : born ≤ 1099511627776
    · by_cases b3 : dim = dim0
      · have HR := Lib.hid (show R = T by rw [HG.out, decide_eq_true ⟨b1, b2⟩, decide_eq_true b3]; simp)
        subst b3
        go_enter Tryz.func111, Tryz.ntmps111
        go_wp2_with fail
        clear c0 c1 c2 e0
        refine regionZ 24 (fun w' => (w'.cell? ⟨w.heap.size, 0, none⟩ = some (.int .i64 dim) ∧ w'.cell? ⟨w.heap.size, 1, none⟩ = some (.slice NA m nc) ∧ w'.cell? ⟨w.heap.size, 2, none⟩ = some (.int .i64 born)) ∧ w'.cell? ad = some (.int .i64 dim)) (by kernel_rfl) (HCS.out _ (Below.refl _ W).drew) (fun hH => ?_)
        refine takeZ 0 (v := ?_) (gi rfl) (by kernel_rfl) (fun _ _ _ h => h) hH (.inl ⟨rfl, fun w hW => ?_⟩) ?_
        rotate_left
        · (go_simp; try with_reducible rfl)
        try simp only [Act.put, List.setIfInBounds_toArray, List.set_cons_zero, List.set_cons_succ]
        refine takeZ 1 (v := ?_) (gi rfl) (by kernel_rfl) (fun _ _ _ h => h) hH (.inl ⟨rfl, fun w hW => ?_⟩) ?_
        rotate_left
        · (obtain ⟨⟨hW1, hW2, hW3⟩, hW4⟩ := hW; go_simp; try with_reducible rfl)
        try simp only [Act.put, List.setIfInBounds_toArray, List.set_cons_zero, List.set_cons_succ]
        refine takeZ 2 (v := ?_) (gi rfl) (by kernel_rfl) (fun _ _ _ h => h) hH (.inl ⟨rfl, fun w hW => ?_⟩) ?_
        rotate_left
        · (go_simp; try with_reducible rfl)
        try simp only [Act.put, List.setIfInBounds_toArray, List.set_cons_zero, List.set_cons_succ]
        refine takeZ 3 (v := ?_) (gi rfl) (by kernel_rfl) (fun _ _ _ h => h) hH (.inl ⟨rfl, fun w hW => ?_⟩) ?_
        rotate_left
        · (go_simp; try with_reducible rfl)
        try simp only [Act.put, List.setIfInBounds_toArray, List.set_cons_zero, List.set_cons_succ]
        refine takeZ 4 (v := ?_) (gi rfl) (by kernel_rfl) (fun _ _ _ h => h) hH (.inl ⟨rfl, fun w hW => ?_⟩) ?_
        rotate_left
        · (go_simp; try with_reducible rfl)
        try simp only [Act.put, List.setIfInBounds_toArray, List.set_cons_zero, List.set_cons_succ]
        refine takeZ 5 (v := ?_) (gi rfl) (by kernel_rfl) (fun _ _ _ h => h) hH (.inl ⟨rfl, fun w hW => ?_⟩) ?_
        rotate_left
        · (obtain ⟨⟨hW1, hW2, hW3⟩, hW4⟩ := hW; go_simp; try with_reducible rfl)
        try simp only [Act.put, List.setIfInBounds_toArray, List.set_cons_zero, List.set_cons_succ]
        refine takeZ 6 (v := ?_) (gi rfl) (by kernel_rfl) (fun _ _ _ h => h) hH (.inl ⟨rfl, fun w hW => ?_⟩) ?_
        rotate_left
        · (go_simp; try with_reducible rfl)
        try simp only [Act.put, List.setIfInBounds_toArray, List.set_cons_zero, List.set_cons_succ]
        refine takeZ 7 (v := ?_) (gi rfl) (by kernel_rfl) (fun _ _ _ h => h) hH (.inl ⟨rfl, fun w hW => ?_⟩) ?_
        rotate_left
        · (go_simp; try with_reducible rfl)
        try simp only [Act.put, List.setIfInBounds_toArray, List.set_cons_zero, List.set_cons_succ]
        refine takeZ 8 (v := ?_) (gi rfl) (by kernel_rfl) (fun _ _ _ h => h) hH (.inl ⟨rfl, fun w hW => ?_⟩) ?_
        rotate_left
        · (go_simp; try with_reducible rfl)
        try simp only [Act.put, List.setIfInBounds_toArray, List.set_cons_zero, List.set_cons_succ]
        refine takeZ 9 (v := ?_) (gi rfl) (by kernel_rfl) (fun _ _ _ h => h) hH (.inl ⟨rfl, fun w hW => ?_⟩) ?_
        rotate_left
        · (go_simp; try with_reducible rfl)
        try simp only [Act.put, List.setIfInBounds_toArray, List.set_cons_zero, List.set_cons_succ]
        refine takeZ 10 (v := ?_) (gi rfl) (by kernel_rfl) (fun _ _ _ h => h) hH (.inl ⟨rfl, fun w hW => ?_⟩) ?_
        rotate_left
        · (go_simp; try with_reducible rfl)
        try simp only [Act.put, List.setIfInBounds_toArray, List.set_cons_zero, List.set_cons_succ]
        refine takeZ 11 (v := ?_) (gi rfl) (by kernel_rfl) (fun _ _ _ h => h) hH (.inl ⟨rfl, fun w hW => ?_⟩) ?_
        rotate_left
        · (obtain ⟨⟨hW1, hW2, hW3⟩, hW4⟩ := hW; go_simp; try with_reducible rfl)
        try simp only [Act.put, List.setIfInBounds_toArray, List.set_cons_zero, List.set_cons_succ]
        refine takeZ 12 (v := ?_) (gi rfl) (by kernel_rfl) (fun _ _ _ h => h) hH (.inl ⟨rfl, fun w hW => ?_⟩) ?_
        rotate_left
        · (go_simp; try with_reducible rfl)
        try simp only [Act.put, List.setIfInBounds_toArray, List.set_cons_zero, List.set_cons_succ]
        refine takeZ 13 (v := ?_) (gi rfl) (by kernel_rfl) (fun _ _ _ h => h) hH (.inl ⟨rfl, fun w hW => ?_⟩) ?_
        rotate_left
        · (go_simp; try with_reducible rfl)
        try simp only [Act.put, List.setIfInBounds_toArray, List.set_cons_zero, List.set_cons_succ]
        refine takeZ 14 (v := ?_) (gi rfl) (by kernel_rfl) (fun _ _ _ h => h) hH (.inl ⟨rfl, fun w hW => ?_⟩) ?_
        rotate_left
        · (go_simp; try with_reducible rfl)
        try simp only [Act.put, List.setIfInBounds_toArray, List.set_cons_zero, List.set_cons_succ]
        refine takeZ 15 (v := ?_) (gi rfl) (by kernel_rfl) (fun _ _ _ h => h) hH (.inl ⟨rfl, fun w hW => ?_⟩) ?_
        rotate_left
        · (go_simp; try with_reducible rfl)
        try simp only [Act.put, List.setIfInBounds_toArray, List.set_cons_zero, List.set_cons_succ]
        refine takeZ 16 (v := ?_) (gi rfl) (by kernel_rfl) (fun _ _ _ h => h) hH (.inl ⟨rfl, fun w hW => ?_⟩) ?_
        rotate_left
        · (obtain ⟨⟨hW1, hW2, hW3⟩, hW4⟩ := hW; go_simp; try with_reducible rfl)
        try simp only [Act.put, List.setIfInBounds_toArray, List.set_cons_zero, List.set_cons_succ]
        refine takeZ 17 (v := ?_) (gi rfl) (by kernel_rfl) (fun _ _ _ h => h) hH (.inl ⟨rfl, fun w hW => ?_⟩) ?_
        rotate_left
        · (go_simp; try with_reducible rfl)
        try simp only [Act.put, List.setIfInBounds_toArray, List.set_cons_zero, List.set_cons_succ]
        refine takeZ 18 (v := ?_) (gi rfl) (by kernel_rfl) (fun _ _ _ h => h) hH (.inl ⟨rfl, fun w hW => ?_⟩) ?_
        rotate_left
        · (go_simp; try with_reducible rfl)
        try simp only [Act.put, List.setIfInBounds_toArray, List.set_cons_zero, List.set_cons_succ]
        refine takeZ 19 (v := ?_) (gi rfl) (by kernel_rfl) (fun _ _ _ h => h) hH (.inl ⟨rfl, fun w hW => ?_⟩) ?_
        rotate_left
        · (go_simp; try with_reducible rfl)
        try simp only [Act.put, List.setIfInBounds_toArray, List.set_cons_zero, List.set_cons_succ]
        refine takeZ 20 (v := ?_) (gi rfl) (by kernel_rfl) (fun _ _ _ h => h) hH (.inl ⟨rfl, fun w hW => ?_⟩) ?_
        rotate_left
        · (go_simp; try with_reducible rfl)
        try simp only [Act.put, List.setIfInBounds_toArray, List.set_cons_zero, List.set_cons_succ]
        refine takeZ 21 (v := ?_) (gi rfl) (by kernel_rfl) (fun _ _ _ h => h) hH (.inl ⟨rfl, fun w hW => ?_⟩) ?_
        rotate_left
        · (obtain ⟨⟨hW1, hW2, hW3⟩, hW4⟩ := hW; go_simp; try with_reducible rfl)
        try simp only [Act.put, List.setIfInBounds_toArray, List.set_cons_zero, List.set_cons_succ]
        refine oneZ 22 (by kernel_rfl) (gi rfl) (fun K hK => ?_)
        try simp only [Act.put, List.setIfInBounds_toArray, List.set_cons_zero, List.set_cons_succ]
        go_simp
        refine (HN.out _ (HB.out.drew)).mono ?_
        rintro e x1 ⟨rfl, hb1⟩
        have HK := Lib.hid (show Below w.heap.size w x1 from bt hb1 HB.out.drew)
        have HK2 := Lib.hid (show Below W.heap.size W x1 from bt hb1 (Below.refl _ W).drew)
        clear hb1
        refine hK.out _ _ (fun _ => HCS.out _ HK2.out) (fun hH => ?_)
        replace hH := hH (by decide)
        clear hK K
        try simp only [Act.put, List.setIfInBounds_toArray, List.set_cons_zero, List.set_cons_succ]
        refine takeZ 23 (v := ?_) (gi rfl) (by kernel_rfl) (fun _ _ _ h => h) hH (.inl ⟨rfl, fun w hW => ?_⟩) ?_
        rotate_left
        · (go_simp; try with_reducible rfl)
        try simp only [Act.put, List.setIfInBounds_toArray, List.set_cons_zero, List.set_cons_succ]
        refine yieldZ 24 (v := ?_) (by kernel_rfl) (gi rfl) hH (.inl ⟨rfl, fun w hW => ?_⟩) ?_
        rotate_left
        · (go_simp; try with_reducible rfl)
        try simp only [Act.put, List.setIfInBounds_toArray, List.set_cons_zero, List.set_cons_succ]
        refine doneZ (by kernel_rfl) ?_ _
        clear hH
        go_wp2_with fail
        go_ret
        exact ⟨by rw [HR.out]; rfl, HK.out⟩
      · have F := Lib.hid (show R = false by rw [HG.out, decide_eq_false b3]; simp)
        have b3b : (dim == dim0) = false := by simpa using b3
        clear b3
        go_enter Tryz.func111, Tryz.ntmps111
        go_wp2_with fail
        go_quiet (fail)
        go_wp2_with fail
        go_ret
        exact ⟨by rw [F.out]; rfl, below_drewN HB.out nq⟩
    · have F := Lib.hid (show R = false by rw [HG.out, decide_eq_false (fun h => b2 h.2)]; rfl)
      have hd2 : decide (born ≤ 1099511627776) = false := decide_eq_false b2
      clear b2
      go_enter Tryz.func111, Tryz.ntmps111
      go_wp2_with fail
      go_quiet (fail)
      go_wp2_with fail
      go_ret
      exact ⟨by rw [F.out]; rfl, below_drewN HB.out nq⟩
  · have F := Lib.hid (show R = false by rw [HG.out, decide_eq_false (fun h => b1 h.1)]; rfl)
    have hd1 : decide (0 ≤ born) = false := decide_eq_false b1
    clear b1
    go_enter Tryz.func111, Tryz.ntmps111
    go_wp2_with fail
    go_quiet (fail)
    go_wp2_with fail
    go_ret
    exact ⟨by rw [F.out]; rfl, below_drewN HB.out nq⟩
/-- a loop over the places of a forest -/
def ERel (l : List Gr) (d : Int) (w : World) (i : Value) (wr : World) : Prop := ∃ k : Nat, k ≤ l.length ∧ i = .int .i64 k ∧ (l.take k).all (grownB d) = true ∧ Below w.heap.size w wr
set_option maxHeartbeats 4000000 in
set_option maxRecDepth 100000 in
theorem every_any (fv : Value) (l : List Gr) (w : World) (h : Grs w 0 w.heap.size fv l) (hl : l.length ≤ 1000000) :
    Calls Tryz.prog 112 #[fv, .func (.func 111) #[fv] #[]] w fun e w' => e = .returned (.bool (l.all (grownB ((l[0]?.map (·.dim)).getD 0)))) ∧ Below w.heap.size w w' := by
  have HS := Lib.hid h
  obtain ⟨A, cap, rfl, hc1, hc2, _⟩ := h.form
  obtain ⟨n, hn⟩ : ∃ n, l.length = n := ⟨_, rfl⟩
  have HN := Lib.hid hn
  rw [hn] at HS hc1 hl ⊢
  obtain ⟨d, hd⟩ : ∃ d, (l[0]?.map (·.dim)).getD 0 = d := ⟨_, rfl⟩
  rw [hd]
  have HD := Lib.hid hd
  clear h hn hd
  go_enter Tryz.func112, Tryz.ntmps112
  go_wp2_with fail
  go_loopw [8] (fun i wr => ERel l d w i wr) (fun i _ => n - (intOf i).toNat)
  case atStart => exact ⟨0, Nat.zero_le _, rfl, rfl, Below.refl _ _⟩
  case round =>
    obtain ⟨k, hk, rfl, ht, hb⟩ := hrel
    rw [HN.out] at hk
    have HT := Lib.hid ht
    have HB := Lib.hid hb
    clear ht
    by_cases hlt : k < n
    · obtain ⟨g0, hg0⟩ : ∃ x, l[0]? = some x := ⟨_, List.getElem?_eq_getElem (by rw [HN.out]; omega)⟩
      obtain ⟨g, hg⟩ : ∃ x, l[k]? = some x := ⟨_, List.getElem?_eq_getElem (by rw [HN.out]; exact hlt)⟩
      have hdd : g0.dim = d := by rw [← HD.out, hg0]; rfl
      have HC := Lib.hid (stands_any _ l g0 g k wr (HS.out.up hb) hg0 hg (by omega))
      rw [hdd] at HC
      have HX := Lib.hid (show (l.take (k + 1)).all (grownB d) = ((l.take k).all (grownB d) && grownB d g) by rw [SeqM.take_next hg, List.all_append]; simp)
      have HA := Lib.hid (show (l.take (k + 1)).all (grownB d) = false → l.all (grownB d) = false from fun h => by
        rw [List.all_eq_false] at h ⊢
        obtain ⟨x, hx, hf⟩ := h
        exact ⟨x, List.mem_of_mem_take hx, hf⟩)
      clear hg hg0 hdd hb
      go_wp2_with fail
      refine HC.out.mono ?_
      rintro e w2 ⟨rfl, hb2⟩
      have HB2 := Lib.hid (bt hb2 HB.out)
      clear hb2 HC
      cases hgb : grownB d g
      · have F := Lib.hid (HA.out (by rw [HX.out, hgb]; simp))
        clear hgb
        go_wp2_with fail
        go_ret
        exact ⟨by rw [F.out]; rfl, HB2.out⟩
      · have F := Lib.hid (show (l.take (k + 1)).all (grownB d) = true by rw [HX.out, HT.out, hgb]; rfl)
        clear hgb
        go_wp2_with fail
        exact ⟨⟨k + 1, by rw [HN.out]; omega, by go_num, F.out, HB2.out⟩, by simp [intOf]; omega⟩
    · have F := Lib.hid (show l.all (grownB d) = true by
        have := HT.out
        rw [List.take_of_length_le (by rw [HN.out]; omega)] at this
        exact this)
      go_wp2_with fail
      go_ret
      exact ⟨by rw [F.out]; rfl, HB.out⟩
set_option maxHeartbeats 2000000 in
set_option maxRecDepth 100000 in
theorem FIs_any (fv : Value) (l : List Gr) (w : World) (h : Grs w 0 w.heap.size fv l) :
    Calls Tryz.prog 72 #[fv] w fun e w' => e = .returned (.bool (forestB l)) ∧ Below w.heap.size w w' := by
  have HS := Lib.hid h
  obtain ⟨A, cap, rfl, hc1, hc2, _⟩ := h.form
  have HF := Lib.hid (show forestB l = (decide (l.length ≤ 16) && l.all (grownB ((l[0]?.map (·.dim)).getD 0))) from rfl)
  have HE := Lib.hid (fun (hl : l.length ≤ 16) => every_any _ l w HS.out (by omega))
  obtain ⟨n, hn⟩ : ∃ n, l.length = n := ⟨_, rfl⟩
  rw [hn] at HS hc1 HF HE ⊢
  generalize forestB l = R at *
  generalize l.all (grownB ((l[0]?.map (·.dim)).getD 0)) = T at *
  clear h hn
  by_cases h1 : n ≤ 16
  · have F := Lib.hid (show R = T by rw [HF.out, decide_eq_true h1]; rfl)
    have h1I : (n : Int) ≤ 16 := by omega
    go_enter Tryz.func72, Tryz.ntmps72
    go_wp2_with fail
    refine (HE.out h1).mono ?_
    rintro e w2 ⟨rfl, hb2⟩
    go_wp2_with fail
    go_ret
    exact ⟨by rw [F.out]; rfl, hb2⟩
  · have F := Lib.hid (show R = false by rw [HF.out, decide_eq_false h1]; rfl)
    have h1I : ¬ (n : Int) ≤ 16 := by omega
    go_enter Tryz.func72, Tryz.ntmps72
    go_wp2_with fail
    go_ret
    exact ⟨by rw [F.out]; rfl, Below.refl _ _⟩
end Go.Proofs.YtcaeihfgdlffkaaGreatRRRRDoor.FisW

/- The births of the trees at a count, walked (state.Births; printed by mkbir.py). -/
namespace Go.Proofs.YtcaeihfgdlffkaaGreatRRRRDoor.BirW
set_option linter.unusedVariables false
set_option linter.unusedSimpArgs false
open Go.RowKit Base SeqM CfM SchX SchY SchZ StM HyW RotW

theorem eltI : Elt Tryz.prog 32 3 (.int .i64 0) 1 8 := elt_mk (z := .int .i64 0) Tryz.underlying32 (by kernel_rfl) rfl (by omega) (by omega)
/-- the last turn at a place -/
theorem last_turn {T t i : Nat} (ht : 0 < t) (hi : i < min T t) : (i + (T - 1 - i) / t * t) % t = i ∧ i + (T - 1 - i) / t * t < T ∧ T - t ≤ i + (T - 1 - i) / t * t := by
  have h1 : i < T ∧ i < t := by omega
  have h2 := Nat.div_add_mod (T - 1 - i) t
  have h3 := Nat.mod_lt (T - 1 - i) ht
  rw [Nat.mul_comm] at h2
  generalize hq : (T - 1 - i) / t * t = q at *
  refine ⟨?_, by omega, by omega⟩
  rw [← hq, Nat.add_mul_mod_self_right]
  exact Nat.mod_eq_of_lt h1.2
/-- the row of births so far: of turn j the birth lies at its place -/
def BRel (F E : Int) (t m K0 T B : Nat) (w : World) (i : Value) (wr : World) : Prop := ∃ k : Nat, K0 ≤ k ∧ k ≤ T ∧ i = .int .i64 (k : Int) ∧
  (∃ f : Nat → Int, (∀ j, j < m → wr.cell? ⟨B, j, none⟩ = some (.int .i64 (f j)) ∧ wr.frozen? ⟨B, j, none⟩ = false) ∧ ∀ j, K0 ≤ j → j < k → f (j % t) = F + (j : Int) * E) ∧ Below w.heap.size w wr
theorem bir_set {F E : Int} {t m K0 k B : Nat} {w : World} {f : Nat → Int} (h : ∀ j, j < m → w.cell? ⟨B, j, none⟩ = some (.int .i64 (f j)) ∧ w.frozen? ⟨B, j, none⟩ = false) (hf : ∀ j, K0 ≤ j → j < k → f (j % t) = F + (j : Int) * E)
    (ht : 0 < t) (hK : k < K0 + t) (hm : k % t < m) (x : Int) (hx : x = F + (k : Int) * E) :
    ∃ g : Nat → Int, (∀ j, j < m → (w.setCell ⟨B, k % t, none⟩ (.int .i64 x)).cell? ⟨B, j, none⟩ = some (.int .i64 (g j)) ∧ (w.setCell ⟨B, k % t, none⟩ (.int .i64 x)).frozen? ⟨B, j, none⟩ = false) ∧ ∀ j, K0 ≤ j → j < k + 1 → g (j % t) = F + (j : Int) * E := by
  refine ⟨fun j => if j = k % t then x else f j, fun j hj => ⟨?_, by rw [World.frozen?_setCell]; exact (h j hj).2⟩, fun j h1 h2 => ?_⟩
  · by_cases hjk : j = k % t
    · subst hjk
      dsimp only
      rw [if_pos rfl]
      exact World.cell?_setCell_same' _ _ _ (by rw [(h _ hj).1]; rfl)
    · dsimp only
      rw [if_neg hjk, World.cell?_setCell_other w ⟨B, k % t, none⟩ ⟨B, j, none⟩ _ (fun e => hjk (by have := congrArg Addr.off e; first | exact this | exact this.symm))]
      exact (h j hj).1
  · by_cases hjk : j = k
    · subst hjk
      dsimp only
      rw [if_pos rfl, hx]
    · have hne : j % t ≠ k % t := by
        intro e
        have h3 : j < k := by omega
        have h4 : (k - j) % t = 0 := Nat.sub_mod_eq_zero_of_mod_eq e.symm
        have h5 : k - j < t := by omega
        rw [Nat.mod_eq_of_lt h5] at h4
        omega
      dsimp only
      rw [if_neg hne]
      exact hf j h1 (by omega)
set_option maxHeartbeats 4000000 in
set_option maxRecDepth 100000 in
theorem Births_any (c : Cf) (n : Int) (hc : confOk c) (hn : cnt n) (w : World) :
    Calls Tryz.prog 71 #[.agg (cfC c).toArray, .int .i64 n] w fun e w' => (∃ v, e = .returned (.tuple #[v, .int .i64 0]) ∧ Seq 1 inC w' 0 w'.heap.size v (birthsL c n)) ∧ Below w.heap.size w w' := by
  have h1 := cf_in hc
  have hub := up_bd hc hn
  have hu0 := up_bd hc (n := 0) (by decide)
  have hfb := next_bd hc (n := 0) (by decide)
  have HTU := Lib.hid (fun W => Turns_ok c 0 n hc (by decide) hn W)
  have HNX := Lib.hid (fun W => Next_ok c 0 hc (by decide) W)
  have hT0 : turnsC c n = max 0 (upC c n - upC c 0) := rfl
  rw [← hT0] at HTU
  have hTb : 0 ≤ turnsC c n ∧ turnsC c n ≤ n := by rw [hT0]; omega
  have HBL := Lib.hid (show birthsL c n = (List.range (min (turnsC c n) c.c2).toNat).map fun (i : Nat) => birthAt c (turnsC c n) (i : Int) from rfl)
  unfold birthAt at HBL
  unfold cnt at hn
  obtain ⟨F, hq⟩ : ∃ q, nextC c 0 = q := ⟨_, rfl⟩
  rw [hq] at HNX HBL hfb
  obtain ⟨T, hT⟩ : ∃ T : Nat, turnsC c n = (T : Int) := ⟨(turnsC c n).toNat, by omega⟩
  rw [hT] at HTU HBL hTb
  obtain ⟨c0, c1, c2, c3, c4, c5, c6, c7, c8, c9, c10⟩ := c
  obtain ⟨t, ht⟩ : ∃ t : Nat, c2 = (t : Int) := ⟨c2.toNat, by have := h1.1; dsimp only at this; omega⟩
  generalize birthsL ⟨c0, c1, c2, c3, c4, c5, c6, c7, c8, c9, c10⟩ n = BL at *
  unfold CfM.cfC at HTU HNX ⊢
  dsimp only at HTU HNX h1 HBL hfb ⊢
  clear hc hq hT0 hT hub hu0
  have htb : 1 ≤ t ∧ t ≤ 16 := by omega
  obtain ⟨m, hm⟩ : ∃ m : Nat, min T t = m := ⟨_, rfl⟩
  have hmI : min (T : Int) c2 = (m : Int) := by omega
  obtain ⟨K0, hK0⟩ : ∃ K : Nat, T - t = K := ⟨_, rfl⟩
  have hKI : max (0 : Int) ((T : Int) - c2) = (K0 : Int) := by omega
  have hw : IntKind.i64.wrap ((T : Int) - c2) = (T : Int) - c2 := IntWalk.i64_in _ (by omega)
  have HTT := Lib.hid ht
  have hmT : m ≤ T := by omega
  have hmt : m ≤ t := by omega
  have hK1 : T ≤ K0 + t := by omega
  clear ht
  obtain ⟨W, eW⟩ : ∃ W, w.alloc (.cells #[.int .i64 c0, .int .i64 c1, .int .i64 c2, .int .i64 c3, .int .i64 c4, .int .i64 c5, .int .i64 c6, .int .i64 c7, .int .i64 c8, .int .i64 c9, .int .i64 c10] 23) = W := ⟨_, rfl⟩
  have HB := Lib.hid (show Below w.heap.size w W by rw [← eW]; exact below_a1 _ _)
  have HCS := Lib.hid (show ∀ W' : World, Below W.heap.size W W' → (W'.cell? ⟨w.heap.size, 0, none⟩ = some (.int .i64 c0) ∧ W'.cell? ⟨w.heap.size, 1, none⟩ = some (.int .i64 c1) ∧ W'.cell? ⟨w.heap.size, 2, none⟩ = some (.int .i64 c2) ∧ W'.cell? ⟨w.heap.size, 3, none⟩ = some (.int .i64 c3) ∧ W'.cell? ⟨w.heap.size, 4, none⟩ = some (.int .i64 c4) ∧ W'.cell? ⟨w.heap.size, 5, none⟩ = some (.int .i64 c5) ∧ W'.cell? ⟨w.heap.size, 6, none⟩ = some (.int .i64 c6) ∧ W'.cell? ⟨w.heap.size, 7, none⟩ = some (.int .i64 c7) ∧ W'.cell? ⟨w.heap.size, 8, none⟩ = some (.int .i64 c8) ∧ W'.cell? ⟨w.heap.size, 9, none⟩ = some (.int .i64 c9) ∧ W'.cell? ⟨w.heap.size, 10, none⟩ = some (.int .i64 c10)) by
    intro W' hb
    subst eW
    refine ⟨keepA hb ?_, keepA hb ?_, keepA hb ?_, keepA hb ?_, keepA hb ?_, keepA hb ?_, keepA hb ?_, keepA hb ?_, keepA hb ?_, keepA hb ?_, keepA hb ?_⟩ <;> go_simp)
  obtain ⟨d0, d1, d2, d3, d4, d5, d6, d7, d8, d9, d10⟩ := HCS.out W (Below.refl _ _)
  go_enter Tryz.func71, Tryz.ntmps71
  go_wp2_with fail
  refine (HTU.out _).mono ?_
  rintro e w1 ⟨rfl, hb1⟩
  have HB1 := Lib.hid hb1
  clear d0 d1 d2 d3 d4 d5 d6 d7 d8 d9 d10 hb1
  obtain ⟨d0, d1, d2, d3, d4, d5, d6, d7, d8, d9, d10⟩ := HCS.out w1 HB1.out
  go_wp2_with fail
  refine (HNX.out _).mono ?_
  rintro e w2 ⟨rfl, hb2⟩
  have HB2 := Lib.hid (bt hb2 HB1.out)
  clear d0 d1 d2 d3 d4 d5 d6 d7 d8 d9 d10 hb2
  obtain ⟨d0, d1, d2, d3, d4, d5, d6, d7, d8, d9, d10⟩ := HCS.out w2 HB2.out
  go_wp2_with (at_make; refine mk1 _ rfl (.tmp 29) (.tmp 29) _ rfl eltI rfl m rfl rfl (by omega) ?_; intro w3 hown3 hb3; have e2 := (HCS.out w3 (bt hb3 HB2.out)).2.2.1)
  have HB3 := Lib.hid (bt hb3 HB2.out)
  have HC3 := Lib.hid (show ∀ j, j < m → w3.cell? ⟨w2.heap.size, j, none⟩ = some (.int .i64 0) ∧ w3.frozen? ⟨w2.heap.size, j, none⟩ = false by
    intro j hj
    rcases hown3.2 with ⟨h0, _⟩ | ⟨g, cap, cur, he, hb, hg, q1, q2, q3, q4⟩
    · cases h0
    · cases he
      have hcl : cur.toList.take (m * 1) = List.replicate m (.int .i64 0) := q4
      have hj2 : cur[j]? = some (.int .i64 0) := by
        rw [← Array.getElem?_toList]
        have : (cur.toList.take (m * 1))[j]? = some (.int .i64 0) := by rw [hcl, List.getElem?_replicate, if_pos hj]
        rw [List.getElem?_take, if_pos (by omega)] at this
        exact this
      exact ⟨by simp [World.cell?, hg, hj2], by simp [World.frozen?, hg]⟩)
  have hz3 : w.heap.size < w2.heap.size := World.block_lt_of_cell? _ _ d0
  clear hown3 hb3 e2 d0 d1 d2 d3 d4 d5 d6 d7 d8 d9 d10
  go_loopw [11] (fun k wr => BRel F c4 t m K0 T w2.heap.size W k wr) (fun k _ => T - (intOf k).toNat)
  case atStart => exact ⟨K0, Nat.le_refl _, by omega, rfl, ⟨fun _ => 0, HC3.out, fun j h2 h3 => by omega⟩, HB3.out⟩
  case round =>
    obtain ⟨k, hk0, hk, rfl, ⟨f, hf, hf2⟩, hbr⟩ := hrel
    have HF := Lib.hid hf
    have HF2 := Lib.hid hf2
    have HBR := Lib.hid hbr
    obtain ⟨d0, d1, d2, d3, d4, d5, d6, d7, d8, d9, d10⟩ := HCS.out wr hbr
    by_cases hlt : k < T
    · have hmod : (k : Int).tmod c2 = ((k % t : Nat) : Int) := by rw [HTT.out, Int.tmod_eq_emod_of_nonneg (by omega)]; omega
      have hmod2 : (k : Int) % c2 = ((k % t : Nat) : Int) := by rw [HTT.out]; omega
      have hml : k % t < m := by
        have := Nat.mod_lt k (show 0 < t by omega)
        have := Nat.mod_le k t
        omega
      obtain ⟨r, hr⟩ : ∃ r, k % t = r := ⟨_, rfl⟩
      have HRR := Lib.hid hr
      rw [hr] at hmod hmod2 hml
      have ht0 : (c2 == 0) = false := by simpa using (by have := HTT.out; omega : c2 ≠ 0)
      have htp : ¬ c2 = 0 := by have := HTT.out; omega
      have htm : (c2 == -1) = false := by simpa using (by have := HTT.out; omega : c2 ≠ -1)
      have hkE : 0 ≤ (k : Int) * c4 ∧ (k : Int) * c4 ≤ 281474976710656 := by
        refine ⟨Int.mul_nonneg (by omega) (by omega), ?_⟩
        have := Int.mul_le_mul (show (k : Int) ≤ 1099511627776 by omega) (show c4 ≤ 256 by omega) (by omega) (by omega)
        omega
      have HX := Lib.hid (show F + (k : Int) * c4 = F + (k : Int) * c4 from rfl)
      have hw1 : IntKind.i64.wrap ((k : Int) * c4) = (k : Int) * c4 := IntWalk.i64_in _ (by omega)
      have hw2 : IntKind.i64.wrap (F + (k : Int) * c4) = F + (k : Int) * c4 := IntWalk.i64_in _ (by omega)
      have hw3 : IntKind.i64.wrap ((r : Nat) : Int) = ((r : Nat) : Int) := IntWalk.i64_in _ (by omega)
      obtain ⟨y0, g0⟩ := hf r hml
      clear hf hf2 hbr hr
      go_wp2_with fail
      refine regionZ 12 (fun w' => w'.cell? ⟨w.heap.size, 2, none⟩ = some (.int .i64 c2) ∧ w'.cell? ⟨w.heap.size, 4, none⟩ = some (.int .i64 c4)) (by kernel_rfl) (⟨d2, d4⟩) (fun hH => ?_)
      refine takeZ 0 (v := ?_) (gi rfl) (by kernel_rfl) (fun _ _ _ h => h) hH (.inl ⟨rfl, fun w hW => ?_⟩) ?_
      rotate_left
      · (go_simp; try with_reducible rfl)
      try simp only [Act.put, List.setIfInBounds_toArray, List.set_cons_zero, List.set_cons_succ]
      refine takeZ 1 (v := ?_) (gi rfl) (by kernel_rfl) (fun _ _ _ h => h) hH (.inl ⟨rfl, fun w hW => ?_⟩) ?_
      rotate_left
      · (go_simp; try with_reducible rfl)
      try simp only [Act.put, List.setIfInBounds_toArray, List.set_cons_zero, List.set_cons_succ]
      refine takeZ 2 (v := ?_) (gi rfl) (by kernel_rfl) (fun _ _ _ h => h) hH (.inl ⟨rfl, fun w hW => ?_⟩) ?_
      rotate_left
      · (go_simp; try with_reducible rfl)
      try simp only [Act.put, List.setIfInBounds_toArray, List.set_cons_zero, List.set_cons_succ]
      refine takeZ 3 (v := ?_) (gi rfl) (by kernel_rfl) (fun _ _ _ h => h) hH (.inl ⟨rfl, fun w hW => ?_⟩) ?_
      rotate_left
      · (obtain ⟨hW1, hW2⟩ := hW; go_simp; try with_reducible rfl)
      try simp only [Act.put, List.setIfInBounds_toArray, List.set_cons_zero, List.set_cons_succ]
      refine takeZ 4 (v := ?_) (gi rfl) (by kernel_rfl) (fun _ _ _ h => h) hH (.inl ⟨rfl, fun w hW => ?_⟩) ?_
      rotate_left
      · (go_simp; try with_reducible rfl)
      try simp only [Act.put, List.setIfInBounds_toArray, List.set_cons_zero, List.set_cons_succ]
      refine takeZ 5 (v := ?_) (gi rfl) (by kernel_rfl) (fun _ _ _ h => h) hH (.inl ⟨rfl, fun w hW => ?_⟩) ?_
      rotate_left
      · (go_simp; try with_reducible rfl)
      try simp only [Act.put, List.setIfInBounds_toArray, List.set_cons_zero, List.set_cons_succ]
      refine takeZ 6 (v := ?_) (gi rfl) (by kernel_rfl) (fun _ _ _ h => h) hH (.inl ⟨rfl, fun w hW => ?_⟩) ?_
      rotate_left
      · (go_simp; try with_reducible rfl)
      try simp only [Act.put, List.setIfInBounds_toArray, List.set_cons_zero, List.set_cons_succ]
      refine takeZ 7 (v := ?_) (gi rfl) (by kernel_rfl) (fun _ _ _ h => h) hH (.inl ⟨rfl, fun w hW => ?_⟩) ?_
      rotate_left
      · (go_simp; try with_reducible rfl)
      try simp only [Act.put, List.setIfInBounds_toArray, List.set_cons_zero, List.set_cons_succ]
      refine takeZ 8 (v := ?_) (gi rfl) (by kernel_rfl) (fun _ _ _ h => h) hH (.inl ⟨rfl, fun w hW => ?_⟩) ?_
      rotate_left
      · (obtain ⟨hW1, hW2⟩ := hW; go_simp; try with_reducible rfl)
      try simp only [Act.put, List.setIfInBounds_toArray, List.set_cons_zero, List.set_cons_succ]
      refine takeZ 9 (v := ?_) (gi rfl) (by kernel_rfl) (fun _ _ _ h => h) hH (.inl ⟨rfl, fun w hW => ?_⟩) ?_
      rotate_left
      · (go_simp; try with_reducible rfl)
      try simp only [Act.put, List.setIfInBounds_toArray, List.set_cons_zero, List.set_cons_succ]
      refine takeZ 10 (v := ?_) (gi rfl) (by kernel_rfl) (fun _ _ _ h => h) hH (.inl ⟨rfl, fun w hW => ?_⟩) ?_
      rotate_left
      · (go_simp; try with_reducible rfl)
      try simp only [Act.put, List.setIfInBounds_toArray, List.set_cons_zero, List.set_cons_succ]
      refine takeZ 11 (v := ?_) (gi rfl) (by kernel_rfl) (fun _ _ _ h => h) hH (.inl ⟨rfl, fun w hW => ?_⟩) ?_
      rotate_left
      · (go_simp; try with_reducible rfl)
      try simp only [Act.put, List.setIfInBounds_toArray, List.set_cons_zero, List.set_cons_succ]
      refine oneZ 12 (by kernel_rfl) (gi rfl) (fun K hK => ?_)
      try simp only [Act.put, List.setIfInBounds_toArray, List.set_cons_zero, List.set_cons_succ]
      have y0d : wr.drew.cell? ⟨w2.heap.size, r, none⟩ = some (.int .i64 (f r)) := y0
      have g0d : wr.drew.frozen? ⟨w2.heap.size, r, none⟩ = false := g0
      go_simp
      refine hK.out _ _ (fun h => absurd h (by decide)) (fun hH => ?_)
      clear hK K
      try simp only [Act.put, List.setIfInBounds_toArray, List.set_cons_zero, List.set_cons_succ]
      refine doneZ (by kernel_rfl) ?_ _
      clear hH
      go_wp2_with fail
      have hset := bir_set (w := wr.drew) HF.out HF2.out (show 0 < t by omega) (show k < K0 + t by omega) (by rw [HRR.out]; exact hml) (F + (k : Int) * c4) rfl
      rw [HRR.out] at hset
      exact ⟨⟨k + 1, by omega, by omega, by go_num, hset, (HBR.out.drew).setCell (p := ⟨w2.heap.size, r, none⟩) HB2.out.size _⟩, by simp [intOf]; omega⟩
    · have hkT : k = T := by omega
      subst hkT
      have HBE := Lib.hid (show BL = (List.range m).map f by
        rw [HBL.out, hmI, HTT.out, show ((m : Int)).toNat = m by omega]
        refine List.map_congr_left fun i hi => ?_
        have him : i < m := List.mem_range.1 hi
        obtain ⟨l1, l2, l3⟩ := last_turn (T := k) (t := t) (i := i) (by omega) (by omega)
        have h9 := hf2 (i + (k - 1 - i) / t * t) (by omega) l2
        rw [l1] at h9
        rw [h9]
        have e1 : ((k : Int) - 1 - (i : Int)) = ((k - 1 - i : Nat) : Int) := by omega
        rw [e1]
        push_cast
        rfl)
      clear hf hf2 hbr
      go_wp2_with fail
      go_ret2
      refine ⟨⟨_, rfl, ?_⟩, bt HBR.out HB.out⟩
      rw [HBE.out]
      have hlm : ((List.range m).map f).length = m := by simp
      refine ⟨some ⟨w2.heap.size, 0, none⟩, m, by rw [hlm]; rfl, by rw [hlm]; exact Nat.le_refl _, by unfold maxLen; omega, ⟨by rw [flat_len inC_len], fun h0 => ⟨⟨w2.heap.size, 0, none⟩, rfl, Nat.zero_le _, ?_, fun j u hu => ?_⟩⟩, fun h => by cases h⟩
      · rw [hlm] at h0
        exact World.block_lt_of_cell? _ _ (HF.out 0 h0).1
      · rw [flat_inC, List.getElem?_map, List.getElem?_map] at hu
        have hj : j < m := by
          rcases Nat.lt_or_ge j m with h | h
          · exact h
          · rw [List.getElem?_eq_none (by simpa using h)] at hu; cases hu
        rw [List.getElem?_range hj] at hu
        simp only [Option.map_some, Option.some.injEq] at hu
        subst hu
        have ha : (⟨w2.heap.size, 0, none⟩ : Addr).add j = ⟨w2.heap.size, j, none⟩ := by unfold Addr.add; split <;> simp_all
        rw [ha]
        exact (HF.out j hj).1
end Go.Proofs.YtcaeihfgdlffkaaGreatRRRRDoor.BirW
