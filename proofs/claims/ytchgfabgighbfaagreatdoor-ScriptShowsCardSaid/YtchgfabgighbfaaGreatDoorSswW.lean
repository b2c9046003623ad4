/- The walk of ScriptShows (printed by mkssw.py). -/
import Derived.Test.YtchgfabgighbfaaGreatDoorRpaW
import Derived.Test.YtchgfabgighbfaaGreatDoorSamW
import Derived.Test.YtchgfabgighbfaaGreatDoorLvdW
import Derived.Great.BuildSlice
import Derived.BigFrame
namespace Go.Proofs.YtchgfabgighbfaaGreatDoor.SswW
set_option linter.unusedVariables false
set_option linter.unusedSimpArgs false
open Go.RowKit Go.Shelf Base SeqM ScrM ScrP EqlW LinV TxtM GlbD SchW AskW RgtW RedW ShwW ShoW SamW ParD LvdM LvdW HzW StpW RrgW RshW GueW RpaW

theorem lns_in {w : World} {base : Nat} {v : Value} {L : List LnR} (h : Lns w base v L) : ∀ r ∈ L, LnIn w 0 w.heap.size r := fun r hr => (h.each r hr).toIn.more (Nat.zero_le _) (Nat.le_refl _)
theorem lns_seq {w : World} {base : Nat} {v : Value} {L : List LnR} (h : Lns w base v L) : Seq 20 lnC w 0 w.heap.size v L := (Seq.of_own h.own).more (Nat.zero_le _) (Nat.le_refl _)
/-- a line is loaded from its box, under a guard that says yes -/
theorem loadG {ops : Array Oper} {rest : List Oper} {o : Oper} {a : Act} {w : World} {Q : Exit → Act → World → Prop} (hw : Region.wanted o (yielded ops a.tmps) = true) (x : Operand) (ho : o.op = .load 31 x) (g : Nat) (r : LnR) (hx : a.eval x = .pointer (some ⟨g, 0, none⟩))
    (hg : w.heap[g]? = some (.cells (lnC r).toArray 31 (0, 0))) (h : wpList Tryz.prog ops Q rest (a.put o.dst (.agg (lnC r).toArray)) w) : wpList Tryz.prog ops Q (o :: rest) a w :=
  BigFrame.wpList_want hw fun K hK => wp_load_row 31 x ho g hx 31 _ _ _ hg Tryz.underlying31 rfl (by kernel_rfl) (hK _ _ h)
theorem buildG {ops : Array Oper} {rest : List Oper} {o : Oper} {a : Act} {w : World} {Q : Exit → Act → World → Prop} (hw : Region.wanted o (yielded ops a.tmps) = true) (x : Operand) (ho : o.op = .buildSlice 22 1 #[(0, x)]) (rr : LnR) (hx : a.eval x = .agg (lnC rr).toArray)
    (h : wpList Tryz.prog ops Q rest (a.put o.dst (.slice (some ⟨w.heap.size, 0, none⟩) 1 1)) (w.alloc (.cells (lnC rr).toArray 31))) : wpList Tryz.prog ops Q (o :: rest) a w := by
  obtain ⟨il, hil, hz0, hz1, hz4⟩ := info_parts infoL
  refine BigFrame.wpList_want hw fun K hK => wp_buildSlice 22 31 1 _ ho (lnC rr).toArray il zLine Tryz.underlying22 hil hz0 (by rw [hz1]; decide) (by rw [hz1]; decide) ?_ (hK _ _ h)
  rw [hz1]
  simp only [List.map_toArray, List.map_cons, List.map_nil, hx]
  exact fill_line rr
/-- the box of the argument -/
def Ab (w : World) (ra : LnR) (W : World) : Prop := W.heap[w.heap.size]? = some (.cells (lnC ra).toArray 31 (0, 0)) ∧ Below w.heap.size w W
theorem Ab.free {w W W' : World} {ra : LnR} (h : Ab w ra W) (hb : Below W.heap.size W W') : Ab w ra W' := ⟨(hb.block _ (Array.getElem?_eq_some_iff.1 h.1).1).trans h.1, bt hb h.2⟩
theorem Ab.range {w W : World} {ra : LnR} (h : Ab w ra W) : W.rangeAt w.heap.size 0 (lnC ra) := fun j v hj => by rw [Nat.zero_add]; exact cell_of h.1 (by simpa using hj)
def SsRel (L : List LnR) (w : World) (ra : LnR) (i : Value) (wr : World) : Prop := ∃ k : Nat, k ≤ L.length ∧ i = .int .i64 k ∧ Ab w ra wr
set_option maxHeartbeats 16000000 in
set_option maxRecDepth 100000 in
theorem ScriptShows_any (v : Value) (L : List LnR) (ra : LnR) (lo lo' : Nat) (w : World) (hG : G w) (hv : Seq 20 lnC w lo w.heap.size v L) (he : ∀ r ∈ L, LnIn w 0 w.heap.size r) (hsm : ∀ r ∈ L, small r) (hia : LnIn w 0 w.heap.size ra) (hsa : small ra) :
    Calls Tryz.prog 3 #[v, .agg (lnC ra).toArray] w fun e w' => e = .returned (.bool true) ∧ Below w.heap.size w w' := by
  have HG := Lib.hid hG
  obtain ⟨A, cap, rfl, hc1, hc2, _⟩ := id hv
  obtain ⟨n, hn⟩ : ∃ n, L.length = n := ⟨_, rfl⟩
  have HN := Lib.hid hn
  have HSQ := Lib.hid (fun (W : World) (hb : Below w.heap.size w W) => (hv.up hb).more (Nat.zero_le _) (Nat.le_refl _))
  have HV := Lib.hid (fun (W : World) (hb : Below w.heap.size w W) (k : Nat) (hlt : k < n) => by
    obtain ⟨A', cap', e', _, _, hr, _⟩ := hv.up hb
    cases e'
    exact rdL hr (i := k) (by rw [hn]; exact hlt))
  have HE := Lib.hid (fun (W : World) (hb : Below w.heap.size w W) => fun r hr => LnIn.any (he r hr) hb)
  have HIA := Lib.hid (fun (W : World) (hb : Below w.heap.size w W) => LnIn.any hia hb)
  have HSM := Lib.hid hsm
  have HSA := Lib.hid hsa
  have H1C := Lib.hid (lnC_one hia)
  rw [hn] at hc1 HSQ ⊢
  unfold maxLen at hc2
  clear hG hv he hsm hia hsa hn
  go_enter Tryz.func3, Tryz.ntmps3
  go_wp2_with fail
  have HA0 := Lib.hid (show Ab w ra (w.alloc (.cells (lnC ra).toArray 31)) from ⟨heap_alloc_new w _, below_a1 _ _⟩)
  refine (Much_any _ L 60 0 _ _ (HSQ.out _ (below_a1 _ _)) (HE.out _ (below_a1 _ _))).mono ?_
  rintro e W1 ⟨⟨b1, rfl⟩, rfl⟩
  obtain ⟨W0, hW0⟩ : ∃ W0, w.alloc (.cells (lnC ra).toArray 31) = W0 := ⟨_, rfl⟩
  rw [hW0] at HA0 ⊢
  clear hW0
  cases b1
  rotate_left
  · go_wp2_with fail
    refine (lives_any _ (HG.out.below (HA0.out.2))).mono ?_
    rintro e W9 ⟨rfl, hb9⟩
    have HB9 := Lib.hid (bt hb9 (HA0.out.2))
    clear hb9
    go_wp2_with fail
    go_ret
    exact ⟨rfl, HB9.out⟩
  · go_wp2_with (first | (refine (id ?_ : wpList _ _ _ (⟨some 16, .load _ _, _, _, _, _⟩ :: _) _ _); refine loadG (by rfl) (.tmp 3) rfl w.heap.size ra (by rfl) HA0.out.1 ?_) | (refine (id ?_ : wpList _ _ _ (⟨some 17, .buildSlice _ _ _, _, _, _, _⟩ :: _) _ _); refine buildG (by rfl) (.tmp 16) rfl ra (by rfl) ?_))
    have HA1 := Lib.hid (HA0.out.free (below_a1 W0 (.cells (lnC ra).toArray 31)))
    have HS1 := Lib.hid (seq_blk (k := 20) (f := lnC) lnC_len [ra] (n := 1) rfl (heap_alloc_new W0 (.cells (lnC ra).toArray 31)) (by simp) (by omega))
    refine (Much_any _ [ra] 1 0 _ _ HS1.out (fun r hr => by rw [List.mem_singleton.1 hr]; exact HIA.out _ HA1.out.2)).mono ?_
    rintro e W1 ⟨⟨b2, rfl⟩, rfl⟩
    obtain ⟨W2, hW2⟩ : ∃ W2, W0.alloc (.cells (lnC ra).toArray 31) = W2 := ⟨_, rfl⟩
    rw [hW2] at HA1 ⊢
    clear hW2 HS1 HA0
    cases b2
    rotate_left
    · go_wp2_with fail
      refine (lives_any _ (HG.out.below (HA1.out.2))).mono ?_
      rintro e W9 ⟨rfl, hb9⟩
      have HB9 := Lib.hid (bt hb9 (HA1.out.2))
      clear hb9
      go_wp2_with fail
      go_ret
      exact ⟨rfl, HB9.out⟩
    · go_wp2_with fail
      refine (Show_any _ L 0 W2 (HG.out.below HA1.out.2) (HSQ.out _ HA1.out.2) (HE.out _ HA1.out.2) HSM.out).mono ?_
      rintro e W3 ⟨t, f, rfl, hs3, hb3⟩
      have HS3 := Lib.hid hs3
      have HA3 := Lib.hid (HA1.out.free hb3)
      clear hs3 hb3
      go_wp2_with fail
      refine (RShow_any _ L 0 W3 (HSQ.out _ HA3.out.2) (HE.out _ HA3.out.2) HSM.out).mono ?_
      rintro e W4 ⟨t2, f2, rfl, hs4, hb4⟩
      rw [HS3.out] at hs4
      obtain ⟨rfl, rfl⟩ : t = t2 ∧ f = f2 := by simpa using hs4
      have HA4 := Lib.hid (HA3.out.free hb4)
      clear hs4 hb4
      have qt : (t == t) = true := by simp
      have qf : (f == f) = true := by simp
      have qf2 : (f != f) = false := by simp
      go_wp2_with fail
      refine regionZ 14 (fun w' => w'.rangeAt w.heap.size 0 (lnC ra)) (by kernel_rfl) ((HA4.out.free (show Below W4.heap.size W4 W4.drew from (Below.refl _ _).drew)).range) (fun hH => ?_)
      refine takeZ 0 (v := ?_) (gi rfl) (by kernel_rfl) (fun _ _ _ h => h) hH (.inl ⟨rfl, fun w hW => ?_⟩) ?_
      rotate_left
      · (go_simp; try with_reducible rfl)
      refine takeZ 1 (v := ?_) (gi rfl) (by kernel_rfl) (fun _ _ _ h => h) hH (.inl ⟨rfl, fun w hW => ?_⟩) ?_
      rotate_left
      · (go_simp; try with_reducible rfl)
      refine takeZ 2 (v := ?_) (gi rfl) (by kernel_rfl) (fun _ _ _ h => h) hH (.inl ⟨rfl, fun w hW => ?_⟩) ?_
      rotate_left
      · (go_simp; try with_reducible rfl)
      try simp only [Act.put, List.setIfInBounds_toArray, List.set_cons_zero, List.set_cons_succ]
      refine takeZ 3 (v := ?_) (gi rfl) (by kernel_rfl) (fun _ _ _ h => h) hH (.inl ⟨rfl, fun w hW => ?_⟩) ?_
      rotate_left
      · (go_simp; try with_reducible rfl)
      refine takeZ 4 (v := ?_) (gi rfl) (by kernel_rfl) (fun _ _ _ h => h) hH (.inl ⟨rfl, fun w hW => ?_⟩) ?_
      rotate_left
      · (go_simp; try with_reducible rfl)
      refine takeZ 5 (v := ?_) (gi rfl) (by kernel_rfl) (fun _ _ _ h => h) hH (.inl ⟨rfl, fun w hW => ?_⟩) ?_
      rotate_left
      · (go_simp; try with_reducible rfl)
      try simp only [Act.put, List.setIfInBounds_toArray, List.set_cons_zero, List.set_cons_succ]
      refine takeZ 6 (v := ?_) (gi rfl) (by kernel_rfl) (fun _ _ _ h => h) hH (.inl ⟨rfl, fun w hW => ?_⟩) ?_
      rotate_left
      · (go_simp; try with_reducible rfl)
      refine takeZ 7 (v := ?_) (gi rfl) (by kernel_rfl) (fun _ _ _ h => h) hH (.inl ⟨rfl, fun w hW => ?_⟩) ?_
      rotate_left
      · (go_simp; try with_reducible rfl)
      refine takeZ 8 (v := ?_) (gi rfl) (by kernel_rfl) (fun _ _ _ h => h) hH (.inl ⟨rfl, fun w hW => ?_⟩) ?_
      rotate_left
      · (go_simp; try with_reducible rfl)
      try simp only [Act.put, List.setIfInBounds_toArray, List.set_cons_zero, List.set_cons_succ]
      refine takeZ 9 (v := .agg (lnC ra).toArray) (gi rfl) (by kernel_rfl) (fun _ _ _ h => h) hH (by exact yieldsIf_load_mid (by rfl) 31 (.tmp 3) rfl w.heap.size 0 (by rfl) (lnC ra) _ (fun w h => h) Tryz.underlying31 rfl (by kernel_rfl)) ?_
      refine takeZ 11 (v := .agg (lnC ra).toArray) (gi rfl) (by kernel_rfl) (fun _ _ _ h => h) hH (by exact yieldsIf_load_mid (by rfl) 31 (.tmp 3) rfl w.heap.size 0 (by rfl) (lnC ra) _ (fun w h => h) Tryz.underlying31 rfl (by kernel_rfl)) ?_
      try simp only [Act.put, List.setIfInBounds_toArray, List.set_cons_zero, List.set_cons_succ]
      refine oneZ 10 (by kernel_rfl) (gi rfl) (fun K hK => ?_)
      try simp only [Act.put, List.setIfInBounds_toArray, List.set_cons_zero, List.set_cons_succ]
      go_simp
      refine (Right_any ra 0 _ (HIA.out _ (HA4.out.free (show Below W4.heap.size W4 W4.drew from (Below.refl _ _).drew)).2) HSA.out.1 HSA.out.2).mono ?_
      rintro e W5 ⟨rfl, hb5⟩
      have HA5 := Lib.hid ((HA4.out.free (show Below W4.heap.size W4 W4.drew from (Below.refl _ _).drew)).free hb5)
      clear hb5
      refine hK.out _ _ (fun _ => HA5.out.range) (fun hH => ?_)
      replace hH := hH (by decide)
      clear hK K
      try simp only [Act.put, List.setIfInBounds_toArray, List.set_cons_zero, List.set_cons_succ]
      refine oneZ 12 (by kernel_rfl) (gi rfl) (fun K hK => ?_)
      try simp only [Act.put, List.setIfInBounds_toArray, List.set_cons_zero, List.set_cons_succ]
      go_simp
      refine (RRight_any ra 0 _ (HIA.out _ HA5.out.2) HSA.out.2).mono ?_
      rintro e W6 ⟨rfl, hb6⟩
      have HA6 := Lib.hid (HA5.out.free hb6)
      clear hb6
      refine hK.out _ _ (fun _ => HA6.out.range) (fun hH => ?_)
      replace hH := hH (by decide)
      clear hK K
      try simp only [Act.put, List.setIfInBounds_toArray, List.set_cons_zero, List.set_cons_succ]
      obtain ⟨rb, hrb⟩ : ∃ rb, rightB ra.ln = rb := ⟨_, rfl⟩
      rw [hrb]
      clear hrb
      have qb : (rb != rb) = false := by simp
      have qb2 : (rb == rb) = true := by simp
      refine takeZ 13 (v := ?_) (gi rfl) (by kernel_rfl) (fun _ _ _ h => h) hH (.inl ⟨rfl, fun w hW => ?_⟩) ?_
      rotate_left
      · (go_simp; try with_reducible rfl)
      try simp only [Act.put, List.setIfInBounds_toArray, List.set_cons_zero, List.set_cons_succ]
      refine yieldZ 14 (v := ?_) (by kernel_rfl) (gi rfl) hH (.inl ⟨rfl, fun w hW => ?_⟩) ?_
      rotate_left
      · (go_simp; try with_reducible rfl)
      try simp only [Act.put, List.setIfInBounds_toArray, List.set_cons_zero, List.set_cons_succ]
      refine doneZ (by kernel_rfl) ?_ _
      clear hH qt qf qf2 qb qb2
      have HR0 := Lib.hid (show SsRel L w ra (.int .i64 0) W6 from ⟨0, Nat.zero_le _, rfl, HA6.out⟩)
      go_wp2_with fail
      go_loopw [9] (fun i wr => SsRel L w ra i wr) (fun i _ => n - (RowKit.intOf i).toNat)
      case atStart => exact HR0.out
      case round =>
        obtain ⟨k, hk, rfl, ha⟩ := hrel
        rw [HN.out] at hk
        have HA := Lib.hid ha
        have hlow := ha.2
        clear ha HR0
        by_cases hlt : k < n
        · obtain ⟨ad, rx, e2, _, hbk, hx, hcell⟩ := HV.out _ hlow k hlt
          cases e2
          have hmem := List.mem_of_getElem? hx
          have HC := Lib.hid hcell
          have HIX := Lib.hid (fun (W : World) (hb : Below w.heap.size w W) => HE.out W hb rx hmem)
          have hb2 : (ad.add (k * 20)).block < wr.heap.size := by rw [Base.add_block]; exact hbk
          clear hx hcell hmem hlow
          go_wp2_with fail
          have HD := Lib.hid (HA.out.free (show Below wr.heap.size wr wr.drew from (Below.refl _ _).drew))
          refine regionZ 12 (fun w' => w'.rangeAt w.heap.size 0 (lnC ra) ∧ ∀ j v, (lnC rx)[j]? = some v → w'.cell? ((ad.add (k * 20)).add j) = some v) (by kernel_rfl) (⟨HD.out.range, fun j v hj => keepA (show Below wr.heap.size wr wr.drew from (Below.refl _ _).drew) (HC.out j v hj)⟩) (fun hH => ?_)
          refine takeZ 0 (v := ?_) (gi rfl) (by kernel_rfl) (fun _ _ _ h => h) hH (.inl ⟨rfl, fun w hW => ?_⟩) ?_
          rotate_left
          · (go_simp; try with_reducible rfl)
          refine takeZ 1 (v := ?_) (gi rfl) (by kernel_rfl) (fun _ _ _ h => h) hH (.inl ⟨rfl, fun w hW => ?_⟩) ?_
          rotate_left
          · (go_simp; try with_reducible rfl)
          refine takeZ 2 (v := ?_) (gi rfl) (by kernel_rfl) (fun _ _ _ h => h) hH (.inl ⟨rfl, fun w hW => ?_⟩) ?_
          rotate_left
          · (go_simp; try with_reducible rfl)
          try simp only [Act.put, List.setIfInBounds_toArray, List.set_cons_zero, List.set_cons_succ]
          refine takeZ 3 (v := .agg (lnC rx).toArray) (gi rfl) (by kernel_rfl) (fun _ _ _ h => h) hH (by exact yieldsIf_load_at (by rfl) 31 (.tmp 54) rfl (ad.add (k * 20)) (by rfl) (lnC rx) _ (fun w h => h.2) Tryz.underlying31 rfl (by kernel_rfl)) ?_
          refine takeZ 4 (v := .agg (lnC ra).toArray) (gi rfl) (by kernel_rfl) (fun _ _ _ h => h) hH (by exact yieldsIf_load_mid (by rfl) 31 (.tmp 3) rfl w.heap.size 0 (by rfl) (lnC ra) _ (fun w h => h.1) Tryz.underlying31 rfl (by kernel_rfl)) ?_
          try simp only [Act.put, List.setIfInBounds_toArray, List.set_cons_zero, List.set_cons_succ]
          refine takeZ 6 (v := ?_) (gi rfl) (by kernel_rfl) (fun _ _ _ h => h) hH (.inl ⟨rfl, fun w hW => ?_⟩) ?_
          rotate_left
          · (go_simp; try with_reducible rfl)
          refine takeZ 7 (v := ?_) (gi rfl) (by kernel_rfl) (fun _ _ _ h => h) hH (.inl ⟨rfl, fun w hW => ?_⟩) ?_
          rotate_left
          · (go_simp; try with_reducible rfl)
          refine takeZ 8 (v := ?_) (gi rfl) (by kernel_rfl) (fun _ _ _ h => h) hH (.inl ⟨rfl, fun w hW => ?_⟩) ?_
          rotate_left
          · (go_simp; try with_reducible rfl)
          try simp only [Act.put, List.setIfInBounds_toArray, List.set_cons_zero, List.set_cons_succ]
          refine takeZ 9 (v := .agg (lnC rx).toArray) (gi rfl) (by kernel_rfl) (fun _ _ _ h => h) hH (by exact yieldsIf_load_at (by rfl) 31 (.tmp 60) rfl (ad.add (k * 20)) (by rfl) (lnC rx) _ (fun w h => h.2) Tryz.underlying31 rfl (by kernel_rfl)) ?_
          try simp only [Act.put, List.setIfInBounds_toArray, List.set_cons_zero, List.set_cons_succ]
          refine takeZ 10 (v := .agg (lnC ra).toArray) (gi rfl) (by kernel_rfl) (fun _ _ _ h => h) hH (by exact yieldsIf_load_mid (by rfl) 31 (.tmp 3) rfl w.heap.size 0 (by rfl) (lnC ra) _ (fun w h => h.1) Tryz.underlying31 rfl (by kernel_rfl)) ?_
          try simp only [Act.put, List.setIfInBounds_toArray, List.set_cons_zero, List.set_cons_succ]
          refine oneZ 5 (by kernel_rfl) (gi rfl) (fun K hK => ?_)
          try simp only [Act.put, List.setIfInBounds_toArray, List.set_cons_zero, List.set_cons_succ]
          go_simp
          refine (Same_any rx ra 0 0 _ (HIX.out _ HD.out.2) (HIA.out _ HD.out.2)).mono ?_
          rintro e W7 ⟨rfl, hb7⟩
          have HW7 := Lib.hid (show Below wr.heap.size wr W7 from (show Below wr.heap.size wr wr.drew from (Below.refl _ _).drew).trans hb7)
          have HA7 := Lib.hid (HD.out.free hb7)
          clear hb7
          refine hK.out _ _ (fun _ => ⟨HA7.out.range, fun j v hj => keepA HW7.out (HC.out j v hj)⟩) (fun hH => ?_)
          replace hH := hH (by decide)
          clear hK K
          try simp only [Act.put, List.setIfInBounds_toArray, List.set_cons_zero, List.set_cons_succ]
          refine oneZ 11 (by kernel_rfl) (gi rfl) (fun K hK => ?_)
          try simp only [Act.put, List.setIfInBounds_toArray, List.set_cons_zero, List.set_cons_succ]
          go_simp
          refine (RSame_any rx ra 0 0 _ (HIX.out _ HA7.out.2) (HIA.out _ HA7.out.2)).mono ?_
          rintro e W8 ⟨rfl, hb8⟩
          have HW8 := Lib.hid (bt hb8 HW7.out)
          have HA8 := Lib.hid (HA7.out.free hb8)
          clear hb8
          refine hK.out _ _ (fun _ => ⟨HA8.out.range, fun j v hj => keepA HW8.out (HC.out j v hj)⟩) (fun hH => ?_)
          replace hH := hH (by decide)
          clear hK K
          try simp only [Act.put, List.setIfInBounds_toArray, List.set_cons_zero, List.set_cons_succ]
          obtain ⟨sb, hsb⟩ : ∃ sb, sameLB rx.ln ra.ln = sb := ⟨_, rfl⟩
          rw [hsb]
          clear hsb
          have qb : (sb != sb) = false := by simp
          have qb2 : (sb == sb) = true := by simp
          refine yieldZ 12 (v := ?_) (by kernel_rfl) (gi rfl) hH (.inl ⟨rfl, fun w hW => ?_⟩) ?_
          rotate_left
          · (go_simp; try with_reducible rfl)
          try simp only [Act.put, List.setIfInBounds_toArray, List.set_cons_zero, List.set_cons_succ]
          refine doneZ (by kernel_rfl) ?_ _
          clear hH
          have HF := Lib.hid (show SsRel L w ra (.int .i64 ((k : Int) + 1)) W8 from ⟨k + 1, by rw [HN.out]; omega, by go_num, HA8.out⟩)
          go_wp2_with fail
          exact ⟨HF.out, by simp [RowKit.intOf]; omega⟩
        · clear hlow
          by_cases e1 : f = 0
          · subst e1
            have HPA := Lib.hid (parse_show HS3.out)
            have HTL := Lib.hid (show t.length ≤ 1000000000 by
              have h9 := HS3.out
              unfold showR at h9
              split at h9
              · simp at h9
              · split at h9
                · split at h9
                  · simp at h9
                  · rename_i h7; simp only [Prod.mk.injEq] at h9; rw [← h9.1]; omega
                · simp at h9)
            go_wp2_with fail
            refine (Parse_any t HTL.out wr (HG.out.below HA.out.2)).mono ?_
            rintro e W7 ⟨L3, v3, n3, f3, rfl, hp3, hl3, hb3⟩
            rw [HPA.out] at hp3
            obtain ⟨he3, rfl, rfl⟩ : L.map (·.ln) = L3.map (·.ln) ∧ ((L.map (·.ln)).length : Int) = n3 ∧ 0 = f3 := by simpa using hp3
            have HE3 := Lib.hid he3
            have HL3 := Lib.hid hl3
            have HA7 := Lib.hid (HA.out.free hb3)
            clear he3 hp3 hl3 hb3
            rw [List.length_map, HN.out]
            go_wp2_with fail
            refine (SameAll_any _ v3 L L3 0 0 W7 (HSQ.out _ HA7.out.2) (lns_seq HL3.out) (HE.out _ HA7.out.2) (lns_in HL3.out)).mono ?_
            rintro e W8 ⟨rfl, hb8⟩
            rw [all_yes HE3.out]
            have HA8 := Lib.hid (HA7.out.free hb8)
            clear hb8
            have qn : ((n : Int) == (n : Int)) = true := by simp
            go_wp2_with fail
            refine (lives_any _ (HG.out.below (HA8.out.2))).mono ?_
            rintro e W9 ⟨rfl, hb9⟩
            have HB9 := Lib.hid (bt hb9 (HA8.out.2))
            clear hb9
            go_wp2_with fail
            go_ret
            exact ⟨rfl, HB9.out⟩
          · have q3 : (f == 0) = false := beq_eq_false_iff_ne.2 e1
            have q4 : (f != 0) = true := by simpa using e1
            clear e1
            go_wp2_with fail
            refine (lives_any _ (HG.out.below (HA.out.2))).mono ?_
            rintro e W9 ⟨rfl, hb9⟩
            have HB9 := Lib.hid (bt hb9 (HA.out.2))
            clear hb9
            go_wp2_with fail
            go_ret
            exact ⟨rfl, HB9.out⟩
end Go.Proofs.YtchgfabgighbfaaGreatDoor.SswW
