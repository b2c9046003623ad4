/- The spread of a column's numbers, walked (printed by mksum2.py). -/
import Derived.Test.YtcaeihfgdlffkaaGreatRRRRDoorPk10
import Derived.Test.YtcaeihfgdlffkaaGreatRRRRDoorPk01
namespace Go.Proofs.YtcaeihfgdlffkaaGreatRRRRDoor.SpdW
set_option linter.unusedVariables false
set_option linter.unusedSimpArgs false
open Go.RowKit Base BigZ RptN RptM RptO RptC WidX SeqM LngW HyW RotW LnpW SumW

/-- two cells hold a wide number -/
def Wd (w : World) (B : Nat) (z : Int) : Prop := (w.cell? ⟨B, 0, none⟩ = some (.int .u64 (hiW z)) ∧ w.cell? ⟨B, 1, none⟩ = some (.int .u64 (loW z))) ∧ (w.frozen? ⟨B, 0, none⟩ = false ∧ w.frozen? ⟨B, 1, none⟩ = false)
theorem Wd.lt {w : World} {B : Nat} {z : Int} (h : Wd w B z) : B < w.heap.size := World.block_lt_of_cell? w _ h.1.1
theorem Wd.below {w w' : World} {B : Nat} {z : Int} (h : Wd w B z) (hb : Below w.heap.size w w') : Wd w' B z :=
  ⟨⟨keepA hb h.1.1, keepA hb h.1.2⟩, (hb.frozen (p := ⟨B, 0, none⟩) h.lt).trans h.2.1, (hb.frozen (p := ⟨B, 1, none⟩) h.lt).trans h.2.2⟩
theorem wd_set {w : World} {B : Nat} {z z' : Int} (h : Wd w B z) : Wd ((w.setCell ⟨B, 0, none⟩ (.int .u64 (hiW z'))).setCell ⟨B, 1, none⟩ (.int .u64 (loW z'))) B z' := by
  obtain ⟨⟨c0, c1⟩, f0, f1⟩ := h
  refine ⟨⟨?_, ?_⟩, ?_, ?_⟩ <;> go_simp
theorem wd_far {w : World} {B C : Nat} {z z' : Int} (h : Wd w B z) (hne : B ≠ C) : Wd ((w.setCell ⟨C, 0, none⟩ (.int .u64 (hiW z'))).setCell ⟨C, 1, none⟩ (.int .u64 (loW z'))) B z := by
  obtain ⟨⟨c0, c1⟩, f0, f1⟩ := h
  exact ⟨⟨cell_far1 hne (cell_far1 hne c0), cell_far1 hne (cell_far1 hne c1)⟩, by rw [World.frozen?_setCell, World.frozen?_setCell]; exact f0, by rw [World.frozen?_setCell, World.frozen?_setCell]; exact f1⟩
theorem abs_sq (x : Int) : (x.natAbs : Int) * (x.natAbs : Int) = x * x := by
  rcases Int.natAbs_eq x with h | h
  · rw [← h]
  · generalize (x.natAbs : Int) = y at *
    subst h
    rw [Int.neg_mul_neg]
theorem wz : hiW 0 = 0 ∧ loW 0 = 0 := by decide
def L1Rel (l : List Int) (w : World) (i : Value) (wr : World) : Prop := ∃ k : Nat, k ≤ l.length ∧ i = .int .i64 (k : Int) ∧ Wd wr (w.heap.size + 1) (sum2 (l.take k)) ∧ Wd wr w.heap.size 0 ∧ Below w.heap.size w wr
def L2Rel (l : List Int) (w : World) (C : Nat) (i : Value) (wr : World) : Prop := ∃ k : Nat, k ≤ l.length ∧ i = .int .i64 (k : Int) ∧ Wd wr C ((k : Int) * sum2 l) ∧ Wd wr (w.heap.size + 1) (sum2 l) ∧ Wd wr w.heap.size 0 ∧ Below w.heap.size w wr
def SI (z : Int) (w X : World) (C : Nat) : Prop := Wd X C z ∧ Wd X w.heap.size 0 ∧ Below w.heap.size w X
theorem SI.step {z : Int} {w X Y : World} {C : Nat} (h : SI z w X C) (hb : Below X.heap.size X Y) : SI z w Y C := ⟨h.1.below hb, h.2.1.below hb, bt hb h.2.2⟩
theorem wd_new (w : World) : Wd (w.alloc (.cells #[.int .u64 0, .int .u64 0] 49)) w.heap.size 0 := by
  unfold Wd
  rw [wz.1, wz.2]
  refine ⟨⟨?_, ?_⟩, ?_, ?_⟩ <;> go_simp
set_option maxRecDepth 100000 in
set_option maxHeartbeats 8000000 in
theorem spread_any (v : Value) (l : List Int) (w : World) (h : Seq 1 inC w 0 w.heap.size v l) (hf : Nm l) (hl : l.length ≤ 256) :
    Calls Tryz.prog 62 #[v, .int .i64 (sum1 l)] w fun e w' => e = .returned (WV (pairs [] l)) ∧ Below w.heap.size w w' := by
  obtain ⟨A, cap, rfl, hc1, hc2, hr, _⟩ := h
  unfold maxLen at hc2
  have HR := Lib.hid hr
  have HF := Lib.hid hf
  have HLT := Lib.hid hl
  obtain ⟨m, hm⟩ : ∃ m, l.length = m := ⟨_, rfl⟩
  have HS1 := Lib.hid (show -9223372036854775808 < sum1 l ∧ sum1 l ≤ 9223372036854775807 by have := sum1_le l hf; omega)
  rw [hm] at hc1 hl ⊢
  have HM := Lib.hid hm
  clear hr hf hm
  obtain ⟨sm, hsm⟩ : ∃ s, sum1 l = s := ⟨_, rfl⟩
  have HSM := Lib.hid hsm
  rw [hsm] at HS1 ⊢
  clear hsm
  go_enter Tryz.func62, Tryz.ntmps62
  go_wp2
  go_loopw [13] (fun i wr => L1Rel l w i wr) (fun i _ => m - (intOf i).toNat)
  case atStart =>
    refine ⟨0, Nat.zero_le _, rfl, ?_, ?_, (below_a1 _ _).alloc (by simp) _⟩
    · show Wd _ _ 0
      unfold Wd
      rw [wz.1, wz.2]
      refine ⟨⟨?_, ?_⟩, ?_, ?_⟩ <;> go_simp
    · unfold Wd
      rw [wz.1, wz.2]
      refine ⟨⟨?_, ?_⟩, ?_, ?_⟩ <;> go_simp
  case round =>
    obtain ⟨k, hk, rfl, hL, hL0, hb⟩ := hrel
    rw [HM.out] at hk
    have HL := Lib.hid hL
    have HL0 := Lib.hid hL0
    have HB := Lib.hid hb
    clear hL0
    by_cases hlt : k < m
    · obtain ⟨ad, x, rfl, _, hbk, hx, hc⟩ := rdI HR.out (i := k) (by rw [HM.out]; exact hlt)
      have hxr := HF.out x (List.mem_of_getElem? hx)
      have c0 : wr.cell? (ad.add k) = some (.int .i64 x) := (hb.cell (by rw [Base.add_block]; exact hbk)).trans hc
      have HT := Lib.hid (show sum2 (l.take (k + 1)) = sum2 (l.take k) + x * x by rw [SeqM.take_next hx, sum2_snoc])
      have hbd := sum2_take_le HF.out (by rw [HM.out]; exact hl) k
      have hbd2 := sum2_take_le HF.out (by rw [HM.out]; exact hl) (k + 1)
      rw [HT.out] at hbd2
      have HZ := Lib.hid (fun W => WidX.size_any x W (by omega) (by omega))
      have HMU := Lib.hid (fun W => Mul_any (x.natAbs : Int) (x.natAbs : Int) ⟨by omega, by omega⟩ ⟨by omega, by omega⟩ W)
      have hsq : 0 ≤ x * x := by rw [← abs_sq]; exact Int.mul_nonneg (by omega) (by omega)
      rw [abs_sq] at HMU
      generalize sum2 (l.take k) = s at *
      generalize x * x = y at *
      have HAD := Lib.hid (fun W => Add_any s y hbd.1 hsq (by omega) W)
      clear hc hx hb hL hbd hbd2 hsq
      obtain ⟨⟨s0, s1⟩, f0, f1⟩ := HL.out
      have CL := Lib.hid (And.intro s0 s1)
      have HW := Lib.hid (show WV s = .agg #[.int .u64 (hiW s), .int .u64 (loW s)] from rfl)
      go_wp2_with fail
      refine regionZ 10 (fun w' => w'.cell? ⟨w.heap.size + 1, 0, none⟩ = some (.int .u64 (hiW s)) ∧ w'.cell? ⟨w.heap.size + 1, 1, none⟩ = some (.int .u64 (loW s))) (by kernel_rfl) (CL.out) (fun hH => ?_)
      refine takeZ 0 (v := ?_) (gi rfl) (by kernel_rfl) (fun _ _ _ h => h) hH (.inl ⟨rfl, fun w hW => ?_⟩) ?_
      rotate_left
      · (obtain ⟨hW1, hW2⟩ := hW; go_simp; try with_reducible rfl)
      try simp only [Act.put, List.setIfInBounds_toArray, List.set_cons_zero, List.set_cons_succ]
      refine takeZ 1 (v := ?_) (gi rfl) (by kernel_rfl) (fun _ _ _ h => h) hH (.inl ⟨rfl, fun w hW => ?_⟩) ?_
      rotate_left
      · (go_simp; try with_reducible rfl)
      try simp only [Act.put, List.setIfInBounds_toArray, List.set_cons_zero, List.set_cons_succ]
      refine takeZ 3 (v := ?_) (gi rfl) (by kernel_rfl) (fun _ _ _ h => h) hH (.inl ⟨rfl, fun w hW => ?_⟩) ?_
      rotate_left
      · (go_simp; try with_reducible rfl)
      try simp only [Act.put, List.setIfInBounds_toArray, List.set_cons_zero, List.set_cons_succ]
      refine oneZ 2 (by kernel_rfl) (gi rfl) (fun K hK => ?_)
      try simp only [Act.put, List.setIfInBounds_toArray, List.set_cons_zero, List.set_cons_succ]
      go_simp
      refine (HZ.out _).mono ?_
      rintro e w1 ⟨rfl, rfl⟩
      refine hK.out _ _ (fun _ => CL.out) (fun hH => ?_)
      replace hH := hH (by decide)
      clear hK K
      try simp only [Act.put, List.setIfInBounds_toArray, List.set_cons_zero, List.set_cons_succ]
      refine oneZ 4 (by kernel_rfl) (gi rfl) (fun K hK => ?_)
      try simp only [Act.put, List.setIfInBounds_toArray, List.set_cons_zero, List.set_cons_succ]
      go_simp
      refine (HZ.out _).mono ?_
      rintro e w1 ⟨rfl, rfl⟩
      refine hK.out _ _ (fun _ => CL.out) (fun hH => ?_)
      replace hH := hH (by decide)
      clear hK K
      try simp only [Act.put, List.setIfInBounds_toArray, List.set_cons_zero, List.set_cons_succ]
      refine oneZ 5 (by kernel_rfl) (gi rfl) (fun K hK => ?_)
      try simp only [Act.put, List.setIfInBounds_toArray, List.set_cons_zero, List.set_cons_succ]
      go_simp
      refine (HMU.out _).mono ?_
      rintro e w1 ⟨rfl, hb1⟩
      have HK1 := Lib.hid (hb1)
      clear hb1
      refine hK.out _ _ (fun _ => ⟨keepA HK1.out CL.out.1, keepA HK1.out CL.out.2⟩) (fun hH => ?_)
      replace hH := hH (by decide)
      clear hK K
      try simp only [Act.put, List.setIfInBounds_toArray, List.set_cons_zero, List.set_cons_succ]
      refine oneZ 6 (by kernel_rfl) (gi rfl) (fun K hK => ?_)
      try simp only [Act.put, List.setIfInBounds_toArray, List.set_cons_zero, List.set_cons_succ]
      go_simp
      rw [← HW.out]
      refine (HAD.out _).mono ?_
      rintro e w2 ⟨rfl, hb2⟩
      have HK2 := Lib.hid (hb2)
      have HL1 := Lib.hid (And.intro ((Wd.below (w := wr.drew) HL.out HK1.out).below HK2.out) ((Wd.below (w := wr.drew) HL0.out HK1.out).below HK2.out))
      have HB1 := Lib.hid (show Below w.heap.size w w2 from bt (bt HK2.out HK1.out) HB.out.drew)
      clear hb2
      refine hK.out _ _ (fun _ => HL1.out.1.1) (fun hH => ?_)
      replace hH := hH (by decide)
      clear hK K
      try simp only [Act.put, List.setIfInBounds_toArray, List.set_cons_zero, List.set_cons_succ]
      refine takeZ 7 (v := ?_) (gi rfl) (by kernel_rfl) (fun _ _ _ h => h) hH (.inl ⟨rfl, fun w hW => ?_⟩) ?_
      rotate_left
      · (go_simp; try with_reducible rfl)
      try simp only [Act.put, List.setIfInBounds_toArray, List.set_cons_zero, List.set_cons_succ]
      refine takeZ 8 (v := ?_) (gi rfl) (by kernel_rfl) (fun _ _ _ h => h) hH (.inl ⟨rfl, fun w hW => ?_⟩) ?_
      rotate_left
      · (go_simp; try with_reducible rfl)
      try simp only [Act.put, List.setIfInBounds_toArray, List.set_cons_zero, List.set_cons_succ]
      refine takeP 9 (v := ?_) (gi rfl) (by kernel_rfl) (fun _ _ _ h => h) (fun _ => hH) (.inl ⟨rfl, fun w hW => ?_⟩) ?_
      rotate_left
      · (go_simp; try with_reducible rfl)
      try simp only [Act.put, List.setIfInBounds_toArray, List.set_cons_zero, List.set_cons_succ]
      refine oneZ 10 (by kernel_rfl) (gi rfl) (fun K hK => ?_)
      try simp only [Act.put, List.setIfInBounds_toArray, List.set_cons_zero, List.set_cons_succ]
      obtain ⟨⟨q0, q1⟩, g0, g1⟩ := HL1.out.1
      unfold WV
      go_simp
      refine hK.out _ _ (fun h => absurd h (by decide)) (fun hH => ?_)
      clear hK K
      try simp only [Act.put, List.setIfInBounds_toArray, List.set_cons_zero, List.set_cons_succ]
      refine doneZ (by kernel_rfl) ?_ _
      clear hH
      go_wp2_with fail
      refine ⟨⟨k + 1, by rw [HM.out]; omega, by go_num, by rw [HT.out]; exact wd_set HL1.out.1, wd_far HL1.out.2 (by omega), (HB1.out.setCell (p := ⟨w.heap.size + 1, 0, none⟩) (by show w.heap.size ≤ w.heap.size + 1; omega) _).setCell (p := ⟨w.heap.size + 1, 1, none⟩) (by show w.heap.size ≤ w.heap.size + 1; omega) _⟩, by simp [intOf]; omega⟩
    · obtain rfl : k = m := by omega
      rw [List.take_of_length_le (by rw [HM.out]; omega)] at HL hL
      clear hb hL
      rename World => w0
      obtain ⟨WA, eW⟩ : ∃ W, w0.alloc (.cells #[.int .u64 0, .int .u64 0] 49) = W := ⟨_, rfl⟩
      have HBA := Lib.hid (show Below w0.heap.size w0 WA by rw [← eW]; exact below_alloc1 _ _)
      have HWA := Lib.hid (show Wd WA w0.heap.size 0 by
        subst eW
        unfold Wd
        rw [wz.1, wz.2]
        refine ⟨⟨?_, ?_⟩, ?_, ?_⟩ <;> go_simp)
      go_wp2_with fail
      go_loopw [30] (fun i wr' => L2Rel l w w0.heap.size i wr') (fun i _ => k - (intOf i).toNat)
      case atStart =>
        refine ⟨0, Nat.zero_le _, rfl, ?_, HL.out.below HBA.out, HL0.out.below HBA.out, HB.out.trans (HBA.out.mono HB.out.size)⟩
        rw [Int.natCast_zero, Int.zero_mul]
        exact HWA.out
      case round =>
        clear hk
        obtain ⟨j, hj, rfl, hL2, hL1, hL0, hb⟩ := hrel
        have hC1 : w.heap.size + 1 < w0.heap.size := HL.out.lt
        rw [HM.out] at hj
        have HQ := Lib.hid hL2
        have HQ1 := Lib.hid hL1
        have HQ0 := Lib.hid hL0
        have HB2 := Lib.hid hb
        clear hL0 hb
        by_cases hlt2 : j < k
        · have HT := Lib.hid (show ((j + 1 : Nat) : Int) * sum2 l = (j : Int) * sum2 l + sum2 l from times_succ j _)
          have hbd := times_le HF.out (by rw [HM.out]; exact hl) j (by rw [HM.out]; omega)
          have hbd2 := times_le HF.out (by rw [HM.out]; exact hl) (j + 1) (by rw [HM.out]; omega)
          have hbd3 := HF.out.sum2.1
          rw [HT.out] at hbd2
          generalize (j : Int) * sum2 l = s at *
          generalize hy : sum2 l = y at *
          have HY := Lib.hid hy
          clear hy
          have HAD := Lib.hid (fun W => Add_any s y hbd.1 hbd3 (by omega) W)
          clear hbd hbd2 hbd3
          obtain ⟨⟨s0, s1⟩, f0, f1⟩ := hL2
          obtain ⟨⟨y0, y1⟩, -, -⟩ := hL1
          unfold WV at HAD
          go_wp2_with fail
          refine (HAD.out _).mono ?_
          rintro e w3 ⟨rfl, hb3⟩
          have HX := Lib.hid (HQ.out.below hb3)
          have HX1 := Lib.hid (HQ1.out.below hb3)
          have HX0 := Lib.hid (HQ0.out.below hb3)
          have HB3 := Lib.hid (bt hb3 HB2.out)
          clear s0 s1 f0 f1 y0 y1 hb3
          obtain ⟨⟨s0, s1⟩, f0, f1⟩ := HX.out
          go_wp2_with fail
          refine ⟨⟨j + 1, by rw [HM.out]; omega, by go_num, by rw [HY.out, HT.out]; exact wd_set HX.out, by rw [HY.out]; exact wd_far HX1.out (by omega), wd_far HX0.out (by omega), (HB3.out.setCell (p := ⟨w0.heap.size, 0, none⟩) (by show w.heap.size ≤ w0.heap.size; omega) _).setCell (p := ⟨w0.heap.size, 1, none⟩) (by show w.heap.size ≤ w0.heap.size; omega) _⟩, by simp [intOf]; omega⟩
        · obtain rfl : j = k := by omega
          have hall : (j : Int) * sum2 l = (l.length : Int) * sum2 l := by rw [HM.out]
          have HSB := spread_bd HF.out (by rw [HM.out]; exact hl)
          have hse := spread_eq l
          rw [HSM.out] at HSB hse
          have hsq := abs_sq sm
          rw [hall] at HQ hL2
          generalize (l.length : Int) * sum2 l = z at *
          have HPZ := Lib.hid hse
          have HZ := Lib.hid (fun W => WidX.size_any sm W HS1.out.1 HS1.out.2)
          have HMU := Lib.hid (fun W => Mul_any (sm.natAbs : Int) (sm.natAbs : Int) ⟨by omega, by have := HS1.out; omega⟩ ⟨by omega, by have := HS1.out; omega⟩ W)
          rw [hsq] at HMU
          generalize sm * sm = y at *
          have HSU := Lib.hid (fun W => Sub_any z y HSB.2.2 (by have := HSB.1.1; omega) (by have := HSB.2.1.2; omega) W)
          rw [← HPZ.out] at HSU
          clear HSB hse hsq hall hL1
          obtain ⟨⟨s0, s1⟩, f0, f1⟩ := hL2
          have CL := Lib.hid (And.intro s0 s1)
          have HW := Lib.hid (show WV z = .agg #[.int .u64 (hiW z), .int .u64 (loW z)] from rfl)
          go_wp2_with fail
          have HI := Lib.hid (show SI z w wr.drew w0.heap.size from ⟨HQ.out, HQ0.out, HB2.out.drew⟩)
          refine regionZ 12 (fun w' => w'.cell? ⟨w0.heap.size, 0, none⟩ = some (.int .u64 (hiW z)) ∧ w'.cell? ⟨w0.heap.size, 1, none⟩ = some (.int .u64 (loW z))) (by kernel_rfl) (CL.out) (fun hH => ?_)
          clear CL HQ HQ0 HQ1 HB2
          generalize wr.drew = XX at *
          refine takeZ 0 (v := ?_) (gi rfl) (by kernel_rfl) (fun _ _ _ h => h) hH (.inl ⟨rfl, fun w hW => ?_⟩) ?_
          rotate_left
          · (obtain ⟨hW1, hW2⟩ := hW; go_simp; try with_reducible rfl)
          try simp only [Act.put, List.setIfInBounds_toArray, List.set_cons_zero, List.set_cons_succ]
          refine takeZ 1 (v := ?_) (gi rfl) (by kernel_rfl) (fun _ _ _ h => h) hH (.inl ⟨rfl, fun w hW => ?_⟩) ?_
          rotate_left
          · (go_simp; try with_reducible rfl)
          try simp only [Act.put, List.setIfInBounds_toArray, List.set_cons_zero, List.set_cons_succ]
          refine takeZ 3 (v := ?_) (gi rfl) (by kernel_rfl) (fun _ _ _ h => h) hH (.inl ⟨rfl, fun w hW => ?_⟩) ?_
          rotate_left
          · (go_simp; try with_reducible rfl)
          try simp only [Act.put, List.setIfInBounds_toArray, List.set_cons_zero, List.set_cons_succ]
          refine readyZ (rs := [2, 10]) (by kernel_rfl) (by simp) (.cons (gi rfl) (fun K hK => ?_) (.cons (gi rfl) (fun K hK => ?_) .nil))
          · try simp only [Act.put, List.setIfInBounds_toArray, List.set_cons_zero, List.set_cons_succ]
            go_simp
            refine (HZ.out _).mono ?_
            rintro e x1 ⟨rfl, rfl⟩
            refine hK.out _ _ (fun _ => HI.out.1.1) (fun hH => ?_)
            replace hH := hH (by decide)
            clear hK K
            try simp only [Act.put, List.setIfInBounds_toArray, List.set_cons_zero, List.set_cons_succ]
            refine readyZ (rs := [4, 10]) (by kernel_rfl) (by simp) (.cons (gi rfl) (fun K hK => ?_) (.cons (gi rfl) (fun K hK => ?_) .nil))
            · try simp only [Act.put, List.setIfInBounds_toArray, List.set_cons_zero, List.set_cons_succ]
              go_simp
              refine (HZ.out _).mono ?_
              rintro e x1 ⟨rfl, rfl⟩
              refine hK.out _ _ (fun _ => HI.out.1.1) (fun hH => ?_)
              replace hH := hH (by decide)
              clear hK K
              try simp only [Act.put, List.setIfInBounds_toArray, List.set_cons_zero, List.set_cons_succ]
              refine readyZ (rs := [5, 10]) (by kernel_rfl) (by simp) (.cons (gi rfl) (fun K hK => ?_) (.cons (gi rfl) (fun K hK => ?_) .nil))
              · try simp only [Act.put, List.setIfInBounds_toArray, List.set_cons_zero, List.set_cons_succ]
                go_simp
                refine (HMU.out _).mono ?_
                rintro e XX ⟨rfl, hb1⟩
                have HI := Lib.hid (HI.out.step hb1)
                clear hb1
                refine hK.out _ _ (fun _ => HI.out.1.1) (fun hH => ?_)
                replace hH := hH (by decide)
                clear hK K
                try simp only [Act.put, List.setIfInBounds_toArray, List.set_cons_zero, List.set_cons_succ]
                refine readyZ (rs := [6, 10]) (by kernel_rfl) (by simp) (.cons (gi rfl) (fun K hK => ?_) (.cons (gi rfl) (fun K hK => ?_) .nil))
                · try simp only [Act.put, List.setIfInBounds_toArray, List.set_cons_zero, List.set_cons_succ]
                  go_simp
                  rw [← HW.out]
                  refine (HSU.out _).mono ?_
                  rintro e XX ⟨rfl, hb1⟩
                  have HI := Lib.hid (HI.out.step hb1)
                  clear hb1
                  refine hK.out _ _ (fun _ => HI.out.1.1) (fun hH => ?_)
                  replace hH := hH (by decide)
                  clear hK K
                  try simp only [Act.put, List.setIfInBounds_toArray, List.set_cons_zero, List.set_cons_succ]
                  refine takeZ 7 (v := ?_) (gi rfl) (by kernel_rfl) (fun _ _ _ h => h) hH (.inl ⟨rfl, fun w hW => ?_⟩) ?_
                  rotate_left
                  · (go_simp; try with_reducible rfl)
                  try simp only [Act.put, List.setIfInBounds_toArray, List.set_cons_zero, List.set_cons_succ]
                  refine takeZ 8 (v := ?_) (gi rfl) (by kernel_rfl) (fun _ _ _ h => h) hH (.inl ⟨rfl, fun w hW => ?_⟩) ?_
                  rotate_left
                  · (go_simp; try with_reducible rfl)
                  try simp only [Act.put, List.setIfInBounds_toArray, List.set_cons_zero, List.set_cons_succ]
                  refine takeZ 9 (v := ?_) (gi rfl) (by kernel_rfl) (fun _ _ _ h => h) hH (.inl ⟨rfl, fun w hW => ?_⟩) ?_
                  rotate_left
                  · (go_simp; try with_reducible rfl)
                  try simp only [Act.put, List.setIfInBounds_toArray, List.set_cons_zero, List.set_cons_succ]
                  refine oneZ 10 (by kernel_rfl) (gi rfl) (fun K hK => ?_)
                  try simp only [Act.put, List.setIfInBounds_toArray, List.set_cons_zero, List.set_cons_succ]
                  go_simp
                  have HA := Lib.hid (below_a1 _ (.cells #[.int .u64 0, .int .u64 0] 49) : Below XX.heap.size XX _)
                  have HD := Lib.hid (wd_new XX)
                  have HCD := Lib.hid (And.intro (Nat.ne_of_lt HI.out.1.lt) (And.intro (Nat.ne_of_lt HI.out.2.1.lt) HI.out.2.2.size))
                  have HI := Lib.hid (HI.out.step HA.out)
                  clear HA
                  generalize XX.alloc _ = XX at *
                  refine hK.out _ _ (fun _ => HI.out.1.1) (fun hH => ?_)
                  replace hH := hH (by decide)
                  clear hK K
                  try simp only [Act.put, List.setIfInBounds_toArray, List.set_cons_zero, List.set_cons_succ]
                  refine oneZ 11 (by kernel_rfl) (gi rfl) (fun K hK => ?_)
                  try simp only [Act.put, List.setIfInBounds_toArray, List.set_cons_zero, List.set_cons_succ]
                  obtain ⟨⟨d0, d1⟩, g0, g1⟩ := HD.out
                  unfold WV
                  go_simp
                  have HI := Lib.hid (show SI z w _ _ from ⟨wd_far (z' := pairs [] l) HI.out.1 HCD.out.1, wd_far HI.out.2.1 HCD.out.2.1, (HI.out.2.2.setCell (p := ⟨_, 0, none⟩) HCD.out.2.2 _).setCell (p := ⟨_, 1, none⟩) HCD.out.2.2 _⟩)
                  replace HD := Lib.hid (wd_set (z' := pairs [] l) HD.out)
                  clear d0 d1 g0 g1
                  refine hK.out _ _ (fun _ => HI.out.1.1) (fun hH => ?_)
                  replace hH := hH (by decide)
                  clear hK K
                  try simp only [Act.put, List.setIfInBounds_toArray, List.set_cons_zero, List.set_cons_succ]
                  refine yieldZ 12 (v := ?_) (by kernel_rfl) (gi rfl) hH (.inl ⟨rfl, fun w hW => ?_⟩) ?_
                  rotate_left
                  · (go_simp; try with_reducible rfl)
                  try simp only [Act.put, List.setIfInBounds_toArray, List.set_cons_zero, List.set_cons_succ]
                  refine doneZ (by kernel_rfl) ?_ _
                  clear hH s0 s1 f0 f1
                  obtain ⟨⟨d0, d1⟩, g0, g1⟩ := HD.out
                  obtain ⟨-, ⟨⟨q0, q1⟩, k0, k1⟩, hbf⟩ := HI.out
                  clear HD HI
                  go_wp2
                  refine bodyPost_ret (v := WV (pairs [] l)) (by unfold WV; simp [results, Tryz.results62, go_sem, *]) rfl ?_
                  exact ⟨rfl, (hbf.setCell (p := ⟨w.heap.size, 0, none⟩) (Nat.le_refl _) _).setCell (p := ⟨w.heap.size, 1, none⟩) (Nat.le_refl _) _⟩
                · try simp only [Act.put, List.setIfInBounds_toArray, List.set_cons_zero, List.set_cons_succ]
                  go_simp
                  have HA := Lib.hid (below_a1 _ (.cells #[.int .u64 0, .int .u64 0] 49) : Below XX.heap.size XX _)
                  have HD := Lib.hid (wd_new XX)
                  have HCD := Lib.hid (And.intro (Nat.ne_of_lt HI.out.1.lt) (And.intro (Nat.ne_of_lt HI.out.2.1.lt) HI.out.2.2.size))
                  have HI := Lib.hid (HI.out.step HA.out)
                  clear HA
                  generalize XX.alloc _ = XX at *
                  refine hK.out _ _ (fun _ => HI.out.1.1) (fun hH => ?_)
                  replace hH := hH (by decide)
                  clear hK K
                  try simp only [Act.put, List.setIfInBounds_toArray, List.set_cons_zero, List.set_cons_succ]
                  refine oneZ 6 (by kernel_rfl) (gi rfl) (fun K hK => ?_)
                  try simp only [Act.put, List.setIfInBounds_toArray, List.set_cons_zero, List.set_cons_succ]
                  go_simp
                  rw [← HW.out]
                  refine (HSU.out _).mono ?_
                  rintro e XX ⟨rfl, hb1⟩
                  have HI := Lib.hid (HI.out.step hb1)
                  have HD := Lib.hid (HD.out.below hb1)
                  clear hb1
                  refine hK.out _ _ (fun _ => HI.out.1.1) (fun hH => ?_)
                  replace hH := hH (by decide)
                  clear hK K
                  try simp only [Act.put, List.setIfInBounds_toArray, List.set_cons_zero, List.set_cons_succ]
                  refine takeZ 7 (v := ?_) (gi rfl) (by kernel_rfl) (fun _ _ _ h => h) hH (.inl ⟨rfl, fun w hW => ?_⟩) ?_
                  rotate_left
                  · (go_simp; try with_reducible rfl)
                  try simp only [Act.put, List.setIfInBounds_toArray, List.set_cons_zero, List.set_cons_succ]
                  refine takeZ 8 (v := ?_) (gi rfl) (by kernel_rfl) (fun _ _ _ h => h) hH (.inl ⟨rfl, fun w hW => ?_⟩) ?_
                  rotate_left
                  · (go_simp; try with_reducible rfl)
                  try simp only [Act.put, List.setIfInBounds_toArray, List.set_cons_zero, List.set_cons_succ]
                  refine takeZ 9 (v := ?_) (gi rfl) (by kernel_rfl) (fun _ _ _ h => h) hH (.inl ⟨rfl, fun w hW => ?_⟩) ?_
                  rotate_left
                  · (go_simp; try with_reducible rfl)
                  try simp only [Act.put, List.setIfInBounds_toArray, List.set_cons_zero, List.set_cons_succ]
                  refine oneZ 11 (by kernel_rfl) (gi rfl) (fun K hK => ?_)
                  try simp only [Act.put, List.setIfInBounds_toArray, List.set_cons_zero, List.set_cons_succ]
                  obtain ⟨⟨d0, d1⟩, g0, g1⟩ := HD.out
                  unfold WV
                  go_simp
                  have HI := Lib.hid (show SI z w _ _ from ⟨wd_far (z' := pairs [] l) HI.out.1 HCD.out.1, wd_far HI.out.2.1 HCD.out.2.1, (HI.out.2.2.setCell (p := ⟨_, 0, none⟩) HCD.out.2.2 _).setCell (p := ⟨_, 1, none⟩) HCD.out.2.2 _⟩)
                  replace HD := Lib.hid (wd_set (z' := pairs [] l) HD.out)
                  clear d0 d1 g0 g1
                  refine hK.out _ _ (fun _ => HI.out.1.1) (fun hH => ?_)
                  replace hH := hH (by decide)
                  clear hK K
                  try simp only [Act.put, List.setIfInBounds_toArray, List.set_cons_zero, List.set_cons_succ]
                  refine yieldZ 12 (v := ?_) (by kernel_rfl) (gi rfl) hH (.inl ⟨rfl, fun w hW => ?_⟩) ?_
                  rotate_left
                  · (go_simp; try with_reducible rfl)
                  try simp only [Act.put, List.setIfInBounds_toArray, List.set_cons_zero, List.set_cons_succ]
                  refine doneZ (by kernel_rfl) ?_ _
                  clear hH s0 s1 f0 f1
                  obtain ⟨⟨d0, d1⟩, g0, g1⟩ := HD.out
                  obtain ⟨-, ⟨⟨q0, q1⟩, k0, k1⟩, hbf⟩ := HI.out
                  clear HD HI
                  go_wp2
                  refine bodyPost_ret (v := WV (pairs [] l)) (by unfold WV; simp [results, Tryz.results62, go_sem, *]) rfl ?_
                  exact ⟨rfl, (hbf.setCell (p := ⟨w.heap.size, 0, none⟩) (Nat.le_refl _) _).setCell (p := ⟨w.heap.size, 1, none⟩) (Nat.le_refl _) _⟩
              · try simp only [Act.put, List.setIfInBounds_toArray, List.set_cons_zero, List.set_cons_succ]
                go_simp
                have HA := Lib.hid (below_a1 _ (.cells #[.int .u64 0, .int .u64 0] 49) : Below XX.heap.size XX _)
                have HD := Lib.hid (wd_new XX)
                have HCD := Lib.hid (And.intro (Nat.ne_of_lt HI.out.1.lt) (And.intro (Nat.ne_of_lt HI.out.2.1.lt) HI.out.2.2.size))
                have HI := Lib.hid (HI.out.step HA.out)
                clear HA
                generalize XX.alloc _ = XX at *
                refine hK.out _ _ (fun _ => HI.out.1.1) (fun hH => ?_)
                replace hH := hH (by decide)
                clear hK K
                try simp only [Act.put, List.setIfInBounds_toArray, List.set_cons_zero, List.set_cons_succ]
                refine oneZ 5 (by kernel_rfl) (gi rfl) (fun K hK => ?_)
                try simp only [Act.put, List.setIfInBounds_toArray, List.set_cons_zero, List.set_cons_succ]
                go_simp
                refine (HMU.out _).mono ?_
                rintro e XX ⟨rfl, hb1⟩
                have HI := Lib.hid (HI.out.step hb1)
                have HD := Lib.hid (HD.out.below hb1)
                clear hb1
                refine hK.out _ _ (fun _ => HI.out.1.1) (fun hH => ?_)
                replace hH := hH (by decide)
                clear hK K
                try simp only [Act.put, List.setIfInBounds_toArray, List.set_cons_zero, List.set_cons_succ]
                refine oneZ 6 (by kernel_rfl) (gi rfl) (fun K hK => ?_)
                try simp only [Act.put, List.setIfInBounds_toArray, List.set_cons_zero, List.set_cons_succ]
                go_simp
                rw [← HW.out]
                refine (HSU.out _).mono ?_
                rintro e XX ⟨rfl, hb1⟩
                have HI := Lib.hid (HI.out.step hb1)
                have HD := Lib.hid (HD.out.below hb1)
                clear hb1
                refine hK.out _ _ (fun _ => HI.out.1.1) (fun hH => ?_)
                replace hH := hH (by decide)
                clear hK K
                try simp only [Act.put, List.setIfInBounds_toArray, List.set_cons_zero, List.set_cons_succ]
                refine takeZ 7 (v := ?_) (gi rfl) (by kernel_rfl) (fun _ _ _ h => h) hH (.inl ⟨rfl, fun w hW => ?_⟩) ?_
                rotate_left
                · (go_simp; try with_reducible rfl)
                try simp only [Act.put, List.setIfInBounds_toArray, List.set_cons_zero, List.set_cons_succ]
                refine takeZ 8 (v := ?_) (gi rfl) (by kernel_rfl) (fun _ _ _ h => h) hH (.inl ⟨rfl, fun w hW => ?_⟩) ?_
                rotate_left
                · (go_simp; try with_reducible rfl)
                try simp only [Act.put, List.setIfInBounds_toArray, List.set_cons_zero, List.set_cons_succ]
                refine takeZ 9 (v := ?_) (gi rfl) (by kernel_rfl) (fun _ _ _ h => h) hH (.inl ⟨rfl, fun w hW => ?_⟩) ?_
                rotate_left
                · (go_simp; try with_reducible rfl)
                try simp only [Act.put, List.setIfInBounds_toArray, List.set_cons_zero, List.set_cons_succ]
                refine oneZ 11 (by kernel_rfl) (gi rfl) (fun K hK => ?_)
                try simp only [Act.put, List.setIfInBounds_toArray, List.set_cons_zero, List.set_cons_succ]
                obtain ⟨⟨d0, d1⟩, g0, g1⟩ := HD.out
                unfold WV
                go_simp
                have HI := Lib.hid (show SI z w _ _ from ⟨wd_far (z' := pairs [] l) HI.out.1 HCD.out.1, wd_far HI.out.2.1 HCD.out.2.1, (HI.out.2.2.setCell (p := ⟨_, 0, none⟩) HCD.out.2.2 _).setCell (p := ⟨_, 1, none⟩) HCD.out.2.2 _⟩)
                replace HD := Lib.hid (wd_set (z' := pairs [] l) HD.out)
                clear d0 d1 g0 g1
                refine hK.out _ _ (fun _ => HI.out.1.1) (fun hH => ?_)
                replace hH := hH (by decide)
                clear hK K
                try simp only [Act.put, List.setIfInBounds_toArray, List.set_cons_zero, List.set_cons_succ]
                refine yieldZ 12 (v := ?_) (by kernel_rfl) (gi rfl) hH (.inl ⟨rfl, fun w hW => ?_⟩) ?_
                rotate_left
                · (go_simp; try with_reducible rfl)
                try simp only [Act.put, List.setIfInBounds_toArray, List.set_cons_zero, List.set_cons_succ]
                refine doneZ (by kernel_rfl) ?_ _
                clear hH s0 s1 f0 f1
                obtain ⟨⟨d0, d1⟩, g0, g1⟩ := HD.out
                obtain ⟨-, ⟨⟨q0, q1⟩, k0, k1⟩, hbf⟩ := HI.out
                clear HD HI
                go_wp2
                refine bodyPost_ret (v := WV (pairs [] l)) (by unfold WV; simp [results, Tryz.results62, go_sem, *]) rfl ?_
                exact ⟨rfl, (hbf.setCell (p := ⟨w.heap.size, 0, none⟩) (Nat.le_refl _) _).setCell (p := ⟨w.heap.size, 1, none⟩) (Nat.le_refl _) _⟩
            · try simp only [Act.put, List.setIfInBounds_toArray, List.set_cons_zero, List.set_cons_succ]
              go_simp
              have HA := Lib.hid (below_a1 _ (.cells #[.int .u64 0, .int .u64 0] 49) : Below XX.heap.size XX _)
              have HD := Lib.hid (wd_new XX)
              have HCD := Lib.hid (And.intro (Nat.ne_of_lt HI.out.1.lt) (And.intro (Nat.ne_of_lt HI.out.2.1.lt) HI.out.2.2.size))
              have HI := Lib.hid (HI.out.step HA.out)
              clear HA
              generalize XX.alloc _ = XX at *
              refine hK.out _ _ (fun _ => HI.out.1.1) (fun hH => ?_)
              replace hH := hH (by decide)
              clear hK K
              try simp only [Act.put, List.setIfInBounds_toArray, List.set_cons_zero, List.set_cons_succ]
              refine oneZ 4 (by kernel_rfl) (gi rfl) (fun K hK => ?_)
              try simp only [Act.put, List.setIfInBounds_toArray, List.set_cons_zero, List.set_cons_succ]
              go_simp
              refine (HZ.out _).mono ?_
              rintro e x1 ⟨rfl, rfl⟩
              refine hK.out _ _ (fun _ => HI.out.1.1) (fun hH => ?_)
              replace hH := hH (by decide)
              clear hK K
              try simp only [Act.put, List.setIfInBounds_toArray, List.set_cons_zero, List.set_cons_succ]
              refine oneZ 5 (by kernel_rfl) (gi rfl) (fun K hK => ?_)
              try simp only [Act.put, List.setIfInBounds_toArray, List.set_cons_zero, List.set_cons_succ]
              go_simp
              refine (HMU.out _).mono ?_
              rintro e XX ⟨rfl, hb1⟩
              have HI := Lib.hid (HI.out.step hb1)
              have HD := Lib.hid (HD.out.below hb1)
              clear hb1
              refine hK.out _ _ (fun _ => HI.out.1.1) (fun hH => ?_)
              replace hH := hH (by decide)
              clear hK K
              try simp only [Act.put, List.setIfInBounds_toArray, List.set_cons_zero, List.set_cons_succ]
              refine oneZ 6 (by kernel_rfl) (gi rfl) (fun K hK => ?_)
              try simp only [Act.put, List.setIfInBounds_toArray, List.set_cons_zero, List.set_cons_succ]
              go_simp
              rw [← HW.out]
              refine (HSU.out _).mono ?_
              rintro e XX ⟨rfl, hb1⟩
              have HI := Lib.hid (HI.out.step hb1)
              have HD := Lib.hid (HD.out.below hb1)
              clear hb1
              refine hK.out _ _ (fun _ => HI.out.1.1) (fun hH => ?_)
              replace hH := hH (by decide)
              clear hK K
              try simp only [Act.put, List.setIfInBounds_toArray, List.set_cons_zero, List.set_cons_succ]
              refine takeZ 7 (v := ?_) (gi rfl) (by kernel_rfl) (fun _ _ _ h => h) hH (.inl ⟨rfl, fun w hW => ?_⟩) ?_
              rotate_left
              · (go_simp; try with_reducible rfl)
              try simp only [Act.put, List.setIfInBounds_toArray, List.set_cons_zero, List.set_cons_succ]
              refine takeZ 8 (v := ?_) (gi rfl) (by kernel_rfl) (fun _ _ _ h => h) hH (.inl ⟨rfl, fun w hW => ?_⟩) ?_
              rotate_left
              · (go_simp; try with_reducible rfl)
              try simp only [Act.put, List.setIfInBounds_toArray, List.set_cons_zero, List.set_cons_succ]
              refine takeZ 9 (v := ?_) (gi rfl) (by kernel_rfl) (fun _ _ _ h => h) hH (.inl ⟨rfl, fun w hW => ?_⟩) ?_
              rotate_left
              · (go_simp; try with_reducible rfl)
              try simp only [Act.put, List.setIfInBounds_toArray, List.set_cons_zero, List.set_cons_succ]
              refine oneZ 11 (by kernel_rfl) (gi rfl) (fun K hK => ?_)
              try simp only [Act.put, List.setIfInBounds_toArray, List.set_cons_zero, List.set_cons_succ]
              obtain ⟨⟨d0, d1⟩, g0, g1⟩ := HD.out
              unfold WV
              go_simp
              have HI := Lib.hid (show SI z w _ _ from ⟨wd_far (z' := pairs [] l) HI.out.1 HCD.out.1, wd_far HI.out.2.1 HCD.out.2.1, (HI.out.2.2.setCell (p := ⟨_, 0, none⟩) HCD.out.2.2 _).setCell (p := ⟨_, 1, none⟩) HCD.out.2.2 _⟩)
              replace HD := Lib.hid (wd_set (z' := pairs [] l) HD.out)
              clear d0 d1 g0 g1
              refine hK.out _ _ (fun _ => HI.out.1.1) (fun hH => ?_)
              replace hH := hH (by decide)
              clear hK K
              try simp only [Act.put, List.setIfInBounds_toArray, List.set_cons_zero, List.set_cons_succ]
              refine yieldZ 12 (v := ?_) (by kernel_rfl) (gi rfl) hH (.inl ⟨rfl, fun w hW => ?_⟩) ?_
              rotate_left
              · (go_simp; try with_reducible rfl)
              try simp only [Act.put, List.setIfInBounds_toArray, List.set_cons_zero, List.set_cons_succ]
              refine doneZ (by kernel_rfl) ?_ _
              clear hH s0 s1 f0 f1
              obtain ⟨⟨d0, d1⟩, g0, g1⟩ := HD.out
              obtain ⟨-, ⟨⟨q0, q1⟩, k0, k1⟩, hbf⟩ := HI.out
              clear HD HI
              go_wp2
              refine bodyPost_ret (v := WV (pairs [] l)) (by unfold WV; simp [results, Tryz.results62, go_sem, *]) rfl ?_
              exact ⟨rfl, (hbf.setCell (p := ⟨w.heap.size, 0, none⟩) (Nat.le_refl _) _).setCell (p := ⟨w.heap.size, 1, none⟩) (Nat.le_refl _) _⟩
          · try simp only [Act.put, List.setIfInBounds_toArray, List.set_cons_zero, List.set_cons_succ]
            go_simp
            have HA := Lib.hid (below_a1 _ (.cells #[.int .u64 0, .int .u64 0] 49) : Below XX.heap.size XX _)
            have HD := Lib.hid (wd_new XX)
            have HCD := Lib.hid (And.intro (Nat.ne_of_lt HI.out.1.lt) (And.intro (Nat.ne_of_lt HI.out.2.1.lt) HI.out.2.2.size))
            have HI := Lib.hid (HI.out.step HA.out)
            clear HA
            generalize XX.alloc _ = XX at *
            refine hK.out _ _ (fun _ => HI.out.1.1) (fun hH => ?_)
            replace hH := hH (by decide)
            clear hK K
            try simp only [Act.put, List.setIfInBounds_toArray, List.set_cons_zero, List.set_cons_succ]
            refine oneZ 2 (by kernel_rfl) (gi rfl) (fun K hK => ?_)
            try simp only [Act.put, List.setIfInBounds_toArray, List.set_cons_zero, List.set_cons_succ]
            go_simp
            refine (HZ.out _).mono ?_
            rintro e x1 ⟨rfl, rfl⟩
            refine hK.out _ _ (fun _ => HI.out.1.1) (fun hH => ?_)
            replace hH := hH (by decide)
            clear hK K
            try simp only [Act.put, List.setIfInBounds_toArray, List.set_cons_zero, List.set_cons_succ]
            refine oneZ 4 (by kernel_rfl) (gi rfl) (fun K hK => ?_)
            try simp only [Act.put, List.setIfInBounds_toArray, List.set_cons_zero, List.set_cons_succ]
            go_simp
            refine (HZ.out _).mono ?_
            rintro e x1 ⟨rfl, rfl⟩
            refine hK.out _ _ (fun _ => HI.out.1.1) (fun hH => ?_)
            replace hH := hH (by decide)
            clear hK K
            try simp only [Act.put, List.setIfInBounds_toArray, List.set_cons_zero, List.set_cons_succ]
            refine oneZ 5 (by kernel_rfl) (gi rfl) (fun K hK => ?_)
            try simp only [Act.put, List.setIfInBounds_toArray, List.set_cons_zero, List.set_cons_succ]
            go_simp
            refine (HMU.out _).mono ?_
            rintro e XX ⟨rfl, hb1⟩
            have HI := Lib.hid (HI.out.step hb1)
            have HD := Lib.hid (HD.out.below hb1)
            clear hb1
            refine hK.out _ _ (fun _ => HI.out.1.1) (fun hH => ?_)
            replace hH := hH (by decide)
            clear hK K
            try simp only [Act.put, List.setIfInBounds_toArray, List.set_cons_zero, List.set_cons_succ]
            refine oneZ 6 (by kernel_rfl) (gi rfl) (fun K hK => ?_)
            try simp only [Act.put, List.setIfInBounds_toArray, List.set_cons_zero, List.set_cons_succ]
            go_simp
            rw [← HW.out]
            refine (HSU.out _).mono ?_
            rintro e XX ⟨rfl, hb1⟩
            have HI := Lib.hid (HI.out.step hb1)
            have HD := Lib.hid (HD.out.below hb1)
            clear hb1
            refine hK.out _ _ (fun _ => HI.out.1.1) (fun hH => ?_)
            replace hH := hH (by decide)
            clear hK K
            try simp only [Act.put, List.setIfInBounds_toArray, List.set_cons_zero, List.set_cons_succ]
            refine takeZ 7 (v := ?_) (gi rfl) (by kernel_rfl) (fun _ _ _ h => h) hH (.inl ⟨rfl, fun w hW => ?_⟩) ?_
            rotate_left
            · (go_simp; try with_reducible rfl)
            try simp only [Act.put, List.setIfInBounds_toArray, List.set_cons_zero, List.set_cons_succ]
            refine takeZ 8 (v := ?_) (gi rfl) (by kernel_rfl) (fun _ _ _ h => h) hH (.inl ⟨rfl, fun w hW => ?_⟩) ?_
            rotate_left
            · (go_simp; try with_reducible rfl)
            try simp only [Act.put, List.setIfInBounds_toArray, List.set_cons_zero, List.set_cons_succ]
            refine takeZ 9 (v := ?_) (gi rfl) (by kernel_rfl) (fun _ _ _ h => h) hH (.inl ⟨rfl, fun w hW => ?_⟩) ?_
            rotate_left
            · (go_simp; try with_reducible rfl)
            try simp only [Act.put, List.setIfInBounds_toArray, List.set_cons_zero, List.set_cons_succ]
            refine oneZ 11 (by kernel_rfl) (gi rfl) (fun K hK => ?_)
            try simp only [Act.put, List.setIfInBounds_toArray, List.set_cons_zero, List.set_cons_succ]
            obtain ⟨⟨d0, d1⟩, g0, g1⟩ := HD.out
            unfold WV
            go_simp
            have HI := Lib.hid (show SI z w _ _ from ⟨wd_far (z' := pairs [] l) HI.out.1 HCD.out.1, wd_far HI.out.2.1 HCD.out.2.1, (HI.out.2.2.setCell (p := ⟨_, 0, none⟩) HCD.out.2.2 _).setCell (p := ⟨_, 1, none⟩) HCD.out.2.2 _⟩)
            replace HD := Lib.hid (wd_set (z' := pairs [] l) HD.out)
            clear d0 d1 g0 g1
            refine hK.out _ _ (fun _ => HI.out.1.1) (fun hH => ?_)
            replace hH := hH (by decide)
            clear hK K
            try simp only [Act.put, List.setIfInBounds_toArray, List.set_cons_zero, List.set_cons_succ]
            refine yieldZ 12 (v := ?_) (by kernel_rfl) (gi rfl) hH (.inl ⟨rfl, fun w hW => ?_⟩) ?_
            rotate_left
            · (go_simp; try with_reducible rfl)
            try simp only [Act.put, List.setIfInBounds_toArray, List.set_cons_zero, List.set_cons_succ]
            refine doneZ (by kernel_rfl) ?_ _
            clear hH s0 s1 f0 f1
            obtain ⟨⟨d0, d1⟩, g0, g1⟩ := HD.out
            obtain ⟨-, ⟨⟨q0, q1⟩, k0, k1⟩, hbf⟩ := HI.out
            clear HD HI
            go_wp2
            refine bodyPost_ret (v := WV (pairs [] l)) (by unfold WV; simp [results, Tryz.results62, go_sem, *]) rfl ?_
            exact ⟨rfl, (hbf.setCell (p := ⟨w.heap.size, 0, none⟩) (Nat.le_refl _) _).setCell (p := ⟨w.heap.size, 1, none⟩) (Nat.le_refl _) _⟩
end Go.Proofs.YtcaeihfgdlffkaaGreatRRRRDoor.SpdW
