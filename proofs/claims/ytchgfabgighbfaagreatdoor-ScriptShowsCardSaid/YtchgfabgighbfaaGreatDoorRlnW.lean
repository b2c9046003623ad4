/- The reference's ask and Line (printed by mkrln.py). -/
import Derived.Test.YtchgfabgighbfaaGreatDoorRwdW
import Derived.Test.YtchgfabgighbfaaGreatDoorShoW
import Derived.Test.YtchgfabgighbfaaGreatDoorHzW
import Derived.Test.YtchgfabgighbfaaGreatDoorRrgW
namespace Go.Proofs.YtchgfabgighbfaaGreatDoor.RlnW
set_option linter.unusedVariables false
set_option linter.unusedSimpArgs false
open Go.RowKit Go.Shelf Base SeqM ScrM ScrP ScrR TxtM GlbD RdsW EqlW LinV SchW RgtW ScrB ScrL ShwW ShoW GsM RrwW RwdW HzW StpW RrgW

theorem seq_one {W : World} {g : Nat} {cs : Array Value} (xs : List Int) {n : Nat} (hn : xs.length = n) (hcs : cs.toList = xs.flatMap inC) (hl : n ≤ 100) (h : W.heap.size = g) : Seq 1 inC (W.alloc (.cells cs 3)) 0 (W.alloc (.cells cs 3)).heap.size (.slice (some ⟨g, 0, none⟩) n n) xs := by
  subst h
  exact seq_built xs hn (heap_alloc_new W _) hcs hl
def DaRel (L0 : List UInt8) (ds : List Nat) (w : World) (s i : Value) (wr : World) : Prop := ∃ k : Nat, k ≤ ds.length ∧ i = .int .i64 k ∧ s = .string ⟨(L0 ++ drawT (ds.take k)).toArray⟩ ∧ Below w.heap.size w wr
def KaRel (ks : List (Int × Int)) (w : World) (R : World → Prop) (s i : Value) (wr : World) : Prop := ∃ k : Nat, k ≤ ks.length ∧ i = .int .i64 k ∧ s = .string ⟨([99, 114, 97, 115, 104] ++ kepT (ks.take k)).toArray⟩ ∧ Below w.heap.size w wr ∧ R wr
set_option maxHeartbeats 8000000 in
set_option maxRecDepth 100000 in
theorem Rask_1 (xv dv : Value) (i : Int) (xs : List Int) (n m : Int) (ds : List Nat) (w : World) (h : Seq 1 inC w 0 w.heap.size xv xs) (hd : Seq 1 u6C w 0 w.heap.size dv ds) (hI : ∀ x ∈ xs, I64 x) (hxl : xs.length ≤ 8) (hi : I64 i) (hn : I64 n) (hm : I64 m) (hD : ∀ x ∈ ds, x < 18446744073709551616) (hdl : ds.length ≤ 2048) :
    Calls Tryz.prog 42 #[.agg #[.int .i64 1, .int .i64 i, xv, .int .i64 n, .int .i64 m], dv] w fun e w' => e = .returned (.string ⟨(askT 1 i xs n m ds).toArray⟩) ∧ Below w.heap.size w w' := by
  obtain ⟨XA, xc, rfl, _, _, _⟩ := id h
  obtain ⟨xn, hxn⟩ : ∃ xn, xs.length = xn := ⟨_, rfl⟩
  rw [hxn] at h hxl ⊢
  have HXN := Lib.hid hxn
  clear hxn
  obtain ⟨DA, dc, rfl, hd1, hd2, _⟩ := id hd
  unfold maxLen at hd2
  obtain ⟨dn, hdn⟩ : ∃ dn, ds.length = dn := ⟨_, rfl⟩
  have HDN := Lib.hid hdn
  have HD := Lib.hid hD
  have HVD := Lib.hid (fun (W : World) (hb : Below w.heap.size w W) (k : Nat) (hlt : k < dn) => by
    obtain ⟨A', cap', e', _, _, hr, _⟩ := hd.below hb
    cases e'
    exact rdU hr (i := k) (by rw [hdn]; exact hlt))
  have HDL := Lib.hid (fun k : Nat => show (drawT (ds.take k)).length ≤ 43008 from by
    have h1 := drawT_len (ds.take k) (fun x hx => hD x (List.mem_of_mem_take hx))
    have h2 : (ds.take k).length ≤ ds.length := by rw [List.length_take]; omega
    omega)
  rw [hdn] at hd1 hdl ⊢
  have l1 := rowT_len [i] (one_bd hi)
  have l2 := rowT_len xs hI
  simp only [List.length_cons, List.length_nil] at l1
  obtain ⟨LA, hLA⟩ : ∃ L, rowT [i] = L := ⟨_, rfl⟩
  obtain ⟨LX, hLX⟩ : ∃ L, rowT xs = L := ⟨_, rfl⟩
  obtain ⟨L1, hL1⟩ : ∃ L, [112, 117, 116] ++ LA = L := ⟨_, rfl⟩
  obtain ⟨L2, hL2⟩ : ∃ L, L1 ++ LX = L := ⟨_, rfl⟩
  obtain ⟨L3, hL3⟩ : ∃ L, L2 ++ [32, 47] = L := ⟨_, rfl⟩
  have F := Lib.hid (show askT 1 i xs n m ds = L3 ++ drawT ds by rw [← hL3, ← hL2, ← hL1, ← hLA, ← hLX]; rfl)
  rw [hLA] at l1
  rw [hLX] at l2
  have z1 : L1.length = 3 + LA.length := by rw [← hL1]; simp; omega
  have z2 : L2.length = L1.length + LX.length := by rw [← hL2]; simp
  have z3 : L3.length = L2.length + 2 := by rw [← hL3]; simp
  have hxn9 := HXN.out; have zz : L3.length ≤ 1000 := by omega
  have ce1 : (⟨#[112, 117, 116]⟩ : ByteArray) ++ (⟨LA.toArray⟩ : ByteArray) = ⟨L1.toArray⟩ := cat_eq [112, 117, 116] LA L1 hL1
  have cn1 : ¬ 9223372036854775807 < 3 + LA.length := by omega
  have cs1 : ¬ 9223372036854775807 < 3 + (⟨LA.toArray⟩ : ByteArray).size := by rw [sz]; omega
  have ce2 : (⟨L1.toArray⟩ : ByteArray) ++ (⟨LX.toArray⟩ : ByteArray) = ⟨L2.toArray⟩ := cat_eq L1 LX L2 hL2
  have cn2 : ¬ 9223372036854775807 < L1.length + LX.length := by omega
  have cs2 : ¬ 9223372036854775807 < (⟨L1.toArray⟩ : ByteArray).size + (⟨LX.toArray⟩ : ByteArray).size := by rw [sz, sz]; omega
  have ce3 : (⟨L2.toArray⟩ : ByteArray) ++ (⟨#[32, 47]⟩ : ByteArray) = ⟨L3.toArray⟩ := cat_eq L2 [32, 47] L3 hL3
  have cn3 : ¬ 9223372036854775807 < L2.length + 2 := by omega
  have cs3 : ¬ 9223372036854775807 < (⟨L2.toArray⟩ : ByteArray).size + 2 := by rw [sz]; omega
  have SS := Lib.hid (And.intro ce1 (And.intro ce2 (And.intro ce3 (And.intro cn1 (And.intro cn2 (And.intro cn3 (And.intro cs1 (And.intro cs2 cs3))))))))
  have HX := Lib.hid (fun W (hb : Below w.heap.size w W) => (by have h9 := RrwW.row_any (.slice XA xn xc) xs 0 W.heap.size W (h.up hb) (by rw [HXN.out]; omega) hI; rw [hLX] at h9; exact h9 : Calls Tryz.prog 41 #[(.slice XA xn xc)] W fun e w' => e = .returned (.string ⟨LX.toArray⟩) ∧ W = w'))
  have HA := Lib.hid (fun (W : World) (g : Nat) (hz : W.heap.size = g) => (by have h9 := RrwW.row_any _ [i] 0 _ _ (seq_one (W := W) (g := g) [i] (n := 1) rfl (cs := #[.int .i64 i]) rfl (by omega) hz) (by simp) (one_bd hi); rw [hLA] at h9; exact h9 : Calls Tryz.prog 41 #[.slice (some ⟨g, 0, none⟩) 1 1] (W.alloc (.cells #[.int .i64 i] 3)) fun e w' => e = .returned (.string ⟨LA.toArray⟩) ∧ W.alloc (.cells #[.int .i64 i] 3) = w'))
  clear h hd hI hD hLA hLX hL1 hL2 hL3 l1 l2 z1 z2 z3 ce1 ce2 ce3 cn1 cn2 cn3 cs1 cs2 cs3 hdn
  go_enter Tryz.func42, Tryz.ntmps42
  go_wp2_with fail
  obtain ⟨W0, hW0⟩ : ∃ W0, w.alloc (.cells #[.int .i64 1, .int .i64 i, (.slice XA xn xc), .int .i64 n, .int .i64 m] 27) = W0 := ⟨_, rfl⟩
  have hb0 : Below w.heap.size w W0 := by rw [← hW0]; exact below_a1 _ _
  have g0 : W0.heap[w.heap.size]? = some (.cells #[.int .i64 1, .int .i64 i, (.slice XA xn xc), .int .i64 n, .int .i64 m] 27) := by rw [← hW0]; exact heap_alloc_new _ _
  rw [hW0]
  have c1 := cell_of g0 (o := 1) rfl
  have c2 := cell_of g0 (o := 2) rfl
  have HB0 := Lib.hid hb0
  have HC1 := Lib.hid c1
  have HC2 := Lib.hid c2
  clear hW0 hb0 g0 c1 c2
  obtain ⟨ce1, ce2, ce3, cn1, cn2, cn3, cs1, cs2, cs3⟩ := SS.out
  have hbA : Below w.heap.size w (W0.drew.alloc (.cells #[.int .i64 i] 3)) := (HB0.out.trans (show Below w.heap.size W0 W0.drew from (Below.refl _ _).drew)).alloc HB0.out.size _
  have HX2 := Lib.hid (HX.out _ hbA)
  have HBA := Lib.hid hbA
  clear hbA
  refine regionZ 10 (fun w' => w'.cell? ⟨w.heap.size, 1, none⟩ = some (.int .i64 i) ∧ w'.cell? ⟨w.heap.size, 2, none⟩ = some (.slice XA xn xc)) (by kernel_rfl) (⟨HC1.out, HC2.out⟩) (fun hH => ?_)
  refine takeZ 0 (v := ?_) (by simp only [List.getElem?_toArray, List.getElem?_cons_succ, List.getElem?_cons_zero]; rfl) (by kernel_rfl) (by exact fun _ _ _ h => h) hH (.inl ⟨rfl, fun w hW => ?_⟩) ?_
  rotate_left
  · (go_simp; try with_reducible rfl)
  try simp only [Act.put, List.setIfInBounds_toArray, List.set_cons_zero, List.set_cons_succ]
  refine takeZ 1 (v := ?_) (by simp only [List.getElem?_toArray, List.getElem?_cons_succ, List.getElem?_cons_zero]; rfl) (by kernel_rfl) (by exact fun _ _ _ h => h) hH (.inl ⟨rfl, fun w hW => ?_⟩) ?_
  rotate_left
  · (obtain ⟨hW1, hW2⟩ := hW; go_simp; try with_reducible rfl)
  try simp only [Act.put, List.setIfInBounds_toArray, List.set_cons_zero, List.set_cons_succ]
  refine takeZ 5 (v := ?_) (by simp only [List.getElem?_toArray, List.getElem?_cons_succ, List.getElem?_cons_zero]; rfl) (by kernel_rfl) (by exact fun _ _ _ h => h) hH (.inl ⟨rfl, fun w hW => ?_⟩) ?_
  rotate_left
  · (go_simp; try with_reducible rfl)
  try simp only [Act.put, List.setIfInBounds_toArray, List.set_cons_zero, List.set_cons_succ]
  refine takeZ 6 (v := ?_) (by simp only [List.getElem?_toArray, List.getElem?_cons_succ, List.getElem?_cons_zero]; rfl) (by kernel_rfl) (by exact fun _ _ _ h => h) hH (.inl ⟨rfl, fun w hW => ?_⟩) ?_
  rotate_left
  · (obtain ⟨hW1, hW2⟩ := hW; go_simp; try with_reducible rfl)
  try simp only [Act.put, List.setIfInBounds_toArray, List.set_cons_zero, List.set_cons_succ]
  refine oneZ 2 (by kernel_rfl) (by simp only [List.getElem?_toArray, List.getElem?_cons_succ, List.getElem?_cons_zero]; rfl) (fun K hK => ?_)
  try simp only [Act.put, List.setIfInBounds_toArray, List.set_cons_zero, List.set_cons_succ]
  try go_wp2_with fail
  refine hK.out _ _ (fun _ => ⟨keepA (below_a1 W0.drew _) HC1.out, keepA (below_a1 W0.drew _) HC2.out⟩) (fun hH => ?_)
  replace hH := hH (by decide)
  clear hK K
  try simp only [Act.put, List.setIfInBounds_toArray, List.set_cons_zero, List.set_cons_succ]
  refine oneZ 3 (by kernel_rfl) (by simp only [List.getElem?_toArray, List.getElem?_cons_succ, List.getElem?_cons_zero]; rfl) (fun K hK => ?_)
  try simp only [Act.put, List.setIfInBounds_toArray, List.set_cons_zero, List.set_cons_succ]
  go_simp
  refine (HA.out W0.drew W0.heap.size rfl).mono ?_
  rintro e w1 ⟨rfl, rfl⟩
  refine hK.out _ _ (fun _ => ⟨keepA (below_a1 W0.drew _) HC1.out, keepA (below_a1 W0.drew _) HC2.out⟩) (fun hH => ?_)
  replace hH := hH (by decide)
  clear hK K
  try simp only [Act.put, List.setIfInBounds_toArray, List.set_cons_zero, List.set_cons_succ]
  refine takeZ 4 (v := ?_) (by simp only [List.getElem?_toArray, List.getElem?_cons_succ, List.getElem?_cons_zero]; rfl) (by kernel_rfl) (by exact fun _ _ _ h => h) hH (.inl ⟨rfl, fun w hW => ?_⟩) ?_
  rotate_left
  · (go_simp; try with_reducible rfl)
  try simp only [Act.put, List.setIfInBounds_toArray, List.set_cons_zero, List.set_cons_succ]
  refine oneZ 7 (by kernel_rfl) (by simp only [List.getElem?_toArray, List.getElem?_cons_succ, List.getElem?_cons_zero]; rfl) (fun K hK => ?_)
  try simp only [Act.put, List.setIfInBounds_toArray, List.set_cons_zero, List.set_cons_succ]
  go_simp
  refine HX2.out.mono ?_
  rintro e w1 ⟨rfl, rfl⟩
  refine hK.out _ _ (fun _ => ⟨keepA (below_a1 W0.drew _) HC1.out, keepA (below_a1 W0.drew _) HC2.out⟩) (fun hH => ?_)
  replace hH := hH (by decide)
  clear hK K
  try simp only [Act.put, List.setIfInBounds_toArray, List.set_cons_zero, List.set_cons_succ]
  refine takeZ 8 (v := ?_) (by simp only [List.getElem?_toArray, List.getElem?_cons_succ, List.getElem?_cons_zero]; rfl) (by kernel_rfl) (by exact fun _ _ _ h => h) hH (.inl ⟨rfl, fun w hW => ?_⟩) ?_
  rotate_left
  · (go_simp; try with_reducible rfl)
  try simp only [Act.put, List.setIfInBounds_toArray, List.set_cons_zero, List.set_cons_succ]
  refine takeZ 9 (v := ?_) (by simp only [List.getElem?_toArray, List.getElem?_cons_succ, List.getElem?_cons_zero]; rfl) (by kernel_rfl) (by exact fun _ _ _ h => h) hH (.inl ⟨rfl, fun w hW => ?_⟩) ?_
  rotate_left
  · (go_simp; try with_reducible rfl)
  try simp only [Act.put, List.setIfInBounds_toArray, List.set_cons_zero, List.set_cons_succ]
  refine yieldZ 10 (v := ?_) (by kernel_rfl) (by simp only [List.getElem?_toArray, List.getElem?_cons_succ, List.getElem?_cons_zero]; rfl) hH (.inl ⟨rfl, fun w hW => ?_⟩) ?_
  rotate_left
  · (go_simp; try with_reducible rfl)
  try simp only [Act.put, List.setIfInBounds_toArray, List.set_cons_zero, List.set_cons_succ]
  refine doneZ (by kernel_rfl) ?_ _
  clear hH ce1 ce2 ce3 cn1 cn2 cn3 cs1 cs2 cs3
  have hbB := HBA.out
  obtain ⟨W2, hW2⟩ : ∃ W2, W0.drew.alloc (.cells #[.int .i64 i] 3) = W2 := ⟨_, rfl⟩
  rw [hW2] at hbB ⊢
  have H0 := Lib.hid (show DaRel L3 ds w (.string ⟨L3.toArray⟩) (.int .i64 0) W2 from ⟨0, Nat.zero_le _, rfl, by simp [drawT], hbB⟩)
  clear hW2 hbB
  go_wp2_with fail
  go_loopw [5, 6] (fun s i wr => DaRel L3 ds w s i wr) (fun _ i _ => dn - (RowKit.intOf i).toNat)
  case atStart => exact H0.out
  case round =>
    obtain ⟨k, hk, rfl, rfl, hb⟩ := hrel
    rw [HDN.out] at hk
    have hl0 := HDL.out k
    have HB := Lib.hid hb
    clear H0
    by_cases hlt : k < dn
    · obtain ⟨ad, u, e2, _, hbk, hu, hcell⟩ := HVD.out _ hb k hlt
      cases e2
      have hu64 := HD.out u (List.mem_of_getElem? hu)
      have hul := dec_len u hu64
      obtain ⟨LU, hLU⟩ : ∃ L, Lib.decDigits u = L := ⟨_, rfl⟩
      obtain ⟨P0, hP0⟩ : ∃ L, L3 ++ drawT (ds.take k) = L := ⟨_, rfl⟩
      obtain ⟨P1, hP1⟩ : ∃ L, P0 ++ [32] = L := ⟨_, rfl⟩
      obtain ⟨P2, hP2⟩ : ∃ L, P1 ++ LU = L := ⟨_, rfl⟩
      have y0 : P0.length ≤ 50000 := by rw [← hP0]; simp; omega
      have y1 : P1.length = P0.length + 1 := by rw [← hP1]; simp
      have HU := Lib.hid (fun W => (by have h9 := draw_any u hu64 W; rw [hLU] at h9; exact h9 : Calls Tryz.prog 66 #[.int .u64 (u : Int)] W fun e w' => e = .returned (.string ⟨LU.toArray⟩) ∧ W = w'))
      have HF := Lib.hid (show DaRel L3 ds w (.string ⟨P2.toArray⟩) (.int .i64 ((k : Int) + 1)) wr from ⟨k + 1, by rw [HDN.out]; omega, by go_num, by rw [drawT_next hu, ← hP2, ← hP1, ← hP0, ← hLU]; simp, hb⟩)
      rw [hLU] at hul
      rw [hP0]
      have ce1 : (⟨P0.toArray⟩ : ByteArray) ++ (⟨#[32]⟩ : ByteArray) = ⟨P1.toArray⟩ := cat_eq P0 [32] P1 hP1
      have cn1 : ¬ 9223372036854775807 < P0.length + 1 := by omega
      have cs1 : ¬ 9223372036854775807 < (⟨P0.toArray⟩ : ByteArray).size + 1 := by rw [sz]; omega
      have ce2 : (⟨P1.toArray⟩ : ByteArray) ++ (⟨LU.toArray⟩ : ByteArray) = ⟨P2.toArray⟩ := cat_eq P1 LU P2 hP2
      have cn2 : ¬ 9223372036854775807 < P1.length + LU.length := by omega
      have cs2 : ¬ 9223372036854775807 < (⟨P1.toArray⟩ : ByteArray).size + (⟨LU.toArray⟩ : ByteArray).size := by rw [sz, sz]; omega
      clear hu hLU hP0 hP1 hP2 y1 hl0 hb
      go_wp2_with fail
      refine (HU.out _).mono ?_
      rintro e w1 ⟨rfl, rfl⟩
      go_wp2_with fail
      exact ⟨HF.out, by simp [RowKit.intOf]; omega⟩
    · have HJ := Lib.hid (show ds.take k = ds from List.take_of_length_le (by rw [HDN.out]; omega))
      rw [HJ.out]
      clear hb hl0
      go_wp2_with fail
      go_ret
      exact ⟨by rw [F.out]; rfl, HB.out⟩
set_option maxHeartbeats 8000000 in
set_option maxRecDepth 100000 in
theorem Rask_2 (xv dv : Value) (i : Int) (xs : List Int) (n m : Int) (ds : List Nat) (w : World) (h : Seq 1 inC w 0 w.heap.size xv xs) (hd : Seq 1 u6C w 0 w.heap.size dv ds) (hI : ∀ x ∈ xs, I64 x) (hxl : xs.length ≤ 8) (hi : I64 i) (hn : I64 n) (hm : I64 m) (hD : ∀ x ∈ ds, x < 18446744073709551616) (hdl : ds.length ≤ 2048) :
    Calls Tryz.prog 42 #[.agg #[.int .i64 2, .int .i64 i, xv, .int .i64 n, .int .i64 m], dv] w fun e w' => e = .returned (.string ⟨(askT 2 i xs n m ds).toArray⟩) ∧ Below w.heap.size w w' := by
  have hll := rowT_len xs (hI)
  obtain ⟨LR, hLR⟩ : ∃ L, rowT xs = L := ⟨_, rfl⟩
  obtain ⟨L1, hL1⟩ : ∃ L, [115, 99, 111, 114, 101] ++ LR = L := ⟨_, rfl⟩
  have F := Lib.hid (show askT 2 i xs n m ds = L1 by rw [← hL1, ← hLR]; rfl)
  rw [hLR] at hll
  try simp only [List.length_cons, List.length_nil] at hll
  have ce1 : (⟨#[115, 99, 111, 114, 101]⟩ : ByteArray) ++ (⟨LR.toArray⟩ : ByteArray) = ⟨L1.toArray⟩ := cat_eq [115, 99, 111, 114, 101] LR L1 hL1
  have cn1 : ¬ 9223372036854775807 < 5 + LR.length := by omega
  have cs1 : ¬ 9223372036854775807 < 5 + (⟨LR.toArray⟩ : ByteArray).size := by rw [sz]; omega
  have HC := Lib.hid (fun W (hb : Below w.heap.size w W) => (by have h9 := RrwW.row_any xv xs 0 W.heap.size W (h.up hb) (by omega) hI; rw [hLR] at h9; exact h9 : Calls Tryz.prog 41 #[xv] W fun e w' => e = .returned (.string ⟨LR.toArray⟩) ∧ W = w'))
  clear h hd hI hD hLR hL1 hll
  go_enter Tryz.func42, Tryz.ntmps42
  go_wp2_with fail
  refine (HC.out _ (below_a1 _ _)).mono ?_
  rintro e w1 ⟨rfl, rfl⟩
  go_wp2_with fail
  go_ret
  exact ⟨by rw [F.out]; rfl, below_a1 _ _⟩
set_option maxHeartbeats 8000000 in
set_option maxRecDepth 100000 in
theorem Rask_7 (xv dv : Value) (i : Int) (xs : List Int) (n m : Int) (ds : List Nat) (w : World) (h : Seq 1 inC w 0 w.heap.size xv xs) (hd : Seq 1 u6C w 0 w.heap.size dv ds) (hI : ∀ x ∈ xs, I64 x) (hxl : xs.length ≤ 8) (hi : I64 i) (hn : I64 n) (hm : I64 m) (hD : ∀ x ∈ ds, x < 18446744073709551616) (hdl : ds.length ≤ 2048) :
    Calls Tryz.prog 42 #[.agg #[.int .i64 7, .int .i64 i, xv, .int .i64 n, .int .i64 m], dv] w fun e w' => e = .returned (.string ⟨(askT 7 i xs n m ds).toArray⟩) ∧ Below w.heap.size w w' := by
  have hll := rowT_len xs (hI)
  obtain ⟨LR, hLR⟩ : ∃ L, rowT xs = L := ⟨_, rfl⟩
  obtain ⟨L1, hL1⟩ : ∃ L, [119, 104, 121] ++ LR = L := ⟨_, rfl⟩
  have F := Lib.hid (show askT 7 i xs n m ds = L1 by rw [← hL1, ← hLR]; rfl)
  rw [hLR] at hll
  try simp only [List.length_cons, List.length_nil] at hll
  have ce1 : (⟨#[119, 104, 121]⟩ : ByteArray) ++ (⟨LR.toArray⟩ : ByteArray) = ⟨L1.toArray⟩ := cat_eq [119, 104, 121] LR L1 hL1
  have cn1 : ¬ 9223372036854775807 < 3 + LR.length := by omega
  have cs1 : ¬ 9223372036854775807 < 3 + (⟨LR.toArray⟩ : ByteArray).size := by rw [sz]; omega
  have HC := Lib.hid (fun W (hb : Below w.heap.size w W) => (by have h9 := RrwW.row_any xv xs 0 W.heap.size W (h.up hb) (by omega) hI; rw [hLR] at h9; exact h9 : Calls Tryz.prog 41 #[xv] W fun e w' => e = .returned (.string ⟨LR.toArray⟩) ∧ W = w'))
  clear h hd hI hD hLR hL1 hll
  go_enter Tryz.func42, Tryz.ntmps42
  go_wp2_with fail
  refine (HC.out _ (below_a1 _ _)).mono ?_
  rintro e w1 ⟨rfl, rfl⟩
  go_wp2_with fail
  go_ret
  exact ⟨by rw [F.out]; rfl, below_a1 _ _⟩
set_option maxHeartbeats 8000000 in
set_option maxRecDepth 100000 in
theorem Rask_3 (xv dv : Value) (i : Int) (xs : List Int) (n m : Int) (ds : List Nat) (w : World) (h : Seq 1 inC w 0 w.heap.size xv xs) (hd : Seq 1 u6C w 0 w.heap.size dv ds) (hI : ∀ x ∈ xs, I64 x) (hxl : xs.length ≤ 8) (hi : I64 i) (hn : I64 n) (hm : I64 m) (hD : ∀ x ∈ ds, x < 18446744073709551616) (hdl : ds.length ≤ 2048) :
    Calls Tryz.prog 42 #[.agg #[.int .i64 3, .int .i64 i, xv, .int .i64 n, .int .i64 m], dv] w fun e w' => e = .returned (.string ⟨(askT 3 i xs n m ds).toArray⟩) ∧ Below w.heap.size w w' := by
  have hll := rowT_len [n, m] (two_bd hn hm)
  obtain ⟨LR, hLR⟩ : ∃ L, rowT [n, m] = L := ⟨_, rfl⟩
  obtain ⟨L1, hL1⟩ : ∃ L, [97, 108, 101, 114, 116, 115] ++ LR = L := ⟨_, rfl⟩
  have F := Lib.hid (show askT 3 i xs n m ds = L1 by rw [← hL1, ← hLR]; rfl)
  rw [hLR] at hll
  try simp only [List.length_cons, List.length_nil] at hll
  have ce1 : (⟨#[97, 108, 101, 114, 116, 115]⟩ : ByteArray) ++ (⟨LR.toArray⟩ : ByteArray) = ⟨L1.toArray⟩ := cat_eq [97, 108, 101, 114, 116, 115] LR L1 hL1
  have cn1 : ¬ 9223372036854775807 < 6 + LR.length := by omega
  have cs1 : ¬ 9223372036854775807 < 6 + (⟨LR.toArray⟩ : ByteArray).size := by rw [sz]; omega
  have HC := Lib.hid (fun (W : World) (g : Nat) (hg : W.heap.size = g) => (by have h9 := RrwW.row_any _ [n, m] 0 _ _ (seq_one (W := W) (g := g) [n, m] (n := 2) rfl (cs := #[.int .i64 n, .int .i64 m]) rfl (by omega) hg) (by simp) (two_bd hn hm); rw [hLR] at h9; exact h9 : Calls Tryz.prog 41 #[.slice (some ⟨g, 0, none⟩) 2 2] (W.alloc (.cells #[.int .i64 n, .int .i64 m] 3)) fun e w' => e = .returned (.string ⟨LR.toArray⟩) ∧ W.alloc (.cells #[.int .i64 n, .int .i64 m] 3) = w'))
  clear h hd hI hD hLR hL1 hll
  go_enter Tryz.func42, Tryz.ntmps42
  go_wp2_with fail
  refine (HC.out _ (w.heap.size + 1) (by simp)).mono ?_
  rintro e w1 ⟨rfl, rfl⟩
  go_wp2_with fail
  go_ret
  exact ⟨by rw [F.out]; rfl, below_a2 _ _ _⟩
set_option maxHeartbeats 8000000 in
set_option maxRecDepth 100000 in
theorem Rask_4 (xv dv : Value) (i : Int) (xs : List Int) (n m : Int) (ds : List Nat) (w : World) (h : Seq 1 inC w 0 w.heap.size xv xs) (hd : Seq 1 u6C w 0 w.heap.size dv ds) (hI : ∀ x ∈ xs, I64 x) (hxl : xs.length ≤ 8) (hi : I64 i) (hn : I64 n) (hm : I64 m) (hD : ∀ x ∈ ds, x < 18446744073709551616) (hdl : ds.length ≤ 2048) :
    Calls Tryz.prog 42 #[.agg #[.int .i64 4, .int .i64 i, xv, .int .i64 n, .int .i64 m], dv] w fun e w' => e = .returned (.string ⟨(askT 4 i xs n m ds).toArray⟩) ∧ Below w.heap.size w w' := by
  have hll := rowT_len [n] (one_bd hn)
  obtain ⟨LR, hLR⟩ : ∃ L, rowT [n] = L := ⟨_, rfl⟩
  obtain ⟨L1, hL1⟩ : ∃ L, [97, 99, 107] ++ LR = L := ⟨_, rfl⟩
  have F := Lib.hid (show askT 4 i xs n m ds = L1 by rw [← hL1, ← hLR]; rfl)
  rw [hLR] at hll
  try simp only [List.length_cons, List.length_nil] at hll
  have ce1 : (⟨#[97, 99, 107]⟩ : ByteArray) ++ (⟨LR.toArray⟩ : ByteArray) = ⟨L1.toArray⟩ := cat_eq [97, 99, 107] LR L1 hL1
  have cn1 : ¬ 9223372036854775807 < 3 + LR.length := by omega
  have cs1 : ¬ 9223372036854775807 < 3 + (⟨LR.toArray⟩ : ByteArray).size := by rw [sz]; omega
  have HC := Lib.hid (fun (W : World) (g : Nat) (hg : W.heap.size = g) => (by have h9 := RrwW.row_any _ [n] 0 _ _ (seq_one (W := W) (g := g) [n] (n := 1) rfl (cs := #[.int .i64 n]) rfl (by omega) hg) (by simp) (one_bd hn); rw [hLR] at h9; exact h9 : Calls Tryz.prog 41 #[.slice (some ⟨g, 0, none⟩) 1 1] (W.alloc (.cells #[.int .i64 n] 3)) fun e w' => e = .returned (.string ⟨LR.toArray⟩) ∧ W.alloc (.cells #[.int .i64 n] 3) = w'))
  clear h hd hI hD hLR hL1 hll
  go_enter Tryz.func42, Tryz.ntmps42
  go_wp2_with fail
  refine (HC.out _ (w.heap.size + 1) (by simp)).mono ?_
  rintro e w1 ⟨rfl, rfl⟩
  go_wp2_with fail
  go_ret
  exact ⟨by rw [F.out]; rfl, below_a2 _ _ _⟩
set_option maxHeartbeats 8000000 in
set_option maxRecDepth 100000 in
theorem Rask_5 (xv dv : Value) (i : Int) (xs : List Int) (n m : Int) (ds : List Nat) (w : World) (h : Seq 1 inC w 0 w.heap.size xv xs) (hd : Seq 1 u6C w 0 w.heap.size dv ds) (hI : ∀ x ∈ xs, I64 x) (hxl : xs.length ≤ 8) (hi : I64 i) (hn : I64 n) (hm : I64 m) (hD : ∀ x ∈ ds, x < 18446744073709551616) (hdl : ds.length ≤ 2048) :
    Calls Tryz.prog 42 #[.agg #[.int .i64 5, .int .i64 i, xv, .int .i64 n, .int .i64 m], dv] w fun e w' => e = .returned (.string ⟨(askT 5 i xs n m ds).toArray⟩) ∧ Below w.heap.size w w' := by
  clear h hd hI hD
  go_enter Tryz.func42, Tryz.ntmps42
  go_wp2_with fail
  go_ret
  exact ⟨rfl, below_a1 _ _⟩
set_option maxHeartbeats 8000000 in
set_option maxRecDepth 100000 in
theorem Rask_6 (xv dv : Value) (i : Int) (xs : List Int) (n m : Int) (ds : List Nat) (w : World) (h : Seq 1 inC w 0 w.heap.size xv xs) (hd : Seq 1 u6C w 0 w.heap.size dv ds) (hI : ∀ x ∈ xs, I64 x) (hxl : xs.length ≤ 8) (hi : I64 i) (hn : I64 n) (hm : I64 m) (hD : ∀ x ∈ ds, x < 18446744073709551616) (hdl : ds.length ≤ 2048) :
    Calls Tryz.prog 42 #[.agg #[.int .i64 6, .int .i64 i, xv, .int .i64 n, .int .i64 m], dv] w fun e w' => e = .returned (.string ⟨(askT 6 i xs n m ds).toArray⟩) ∧ Below w.heap.size w w' := by
  clear h hd hI hD
  go_enter Tryz.func42, Tryz.ntmps42
  go_wp2_with fail
  go_ret
  exact ⟨rfl, below_a1 _ _⟩
theorem Rask_any (xv dv : Value) (a : Ak) (ds : List Nat) (w : World) (h : Seq 1 inC w 0 w.heap.size xv a.xs) (hd : Seq 1 u6C w 0 w.heap.size dv ds) (hok : askOk a) (hD : ∀ x ∈ ds, x < 18446744073709551616) (hdl : ds.length ≤ 2048) :
    Calls Tryz.prog 42 #[.agg (akC xv a).toArray, dv] w fun e w' => e = .returned (.string ⟨(askT a.kind a.id a.xs a.n a.m ds).toArray⟩) ∧ Below w.heap.size w w' := by
  obtain ⟨k, i, xs, n, m⟩ := a
  have hI : ∀ x ∈ xs, I64 x := fun x hx => by have := hok.2.2.2.2.2.1 x hx; unfold I64; omega
  obtain ⟨h1, h2, h3, h4, h5, _⟩ := hok
  dsimp only at *
  have hi : I64 i := by unfold few at h3; unfold I64; omega
  have hn : I64 n := by unfold few at h4; unfold I64; omega
  have hm : I64 m := by unfold few at h5; unfold I64; omega
  have hk : k = 1 ∨ k = 2 ∨ k = 3 ∨ k = 4 ∨ k = 5 ∨ k = 6 ∨ k = 7 := by omega
  rcases hk with rfl | rfl | rfl | rfl | rfl | rfl | rfl
  · exact Rask_1 xv dv i xs n m ds w h hd hI h2 hi hn hm hD hdl
  · exact Rask_2 xv dv i xs n m ds w h hd hI h2 hi hn hm hD hdl
  · exact Rask_3 xv dv i xs n m ds w h hd hI h2 hi hn hm hD hdl
  · exact Rask_4 xv dv i xs n m ds w h hd hI h2 hi hn hm hD hdl
  · exact Rask_5 xv dv i xs n m ds w h hd hI h2 hi hn hm hD hdl
  · exact Rask_6 xv dv i xs n m ds w h hd hI h2 hi hn hm hD hdl
  · exact Rask_7 xv dv i xs n m ds w h hd hI h2 hi hn hm hD hdl
theorem range_new {w : World} {cs : List Value} {t : TypeId} (o : Nat) (ds : List Value) (h : ∀ j v, ds[j]? = some v → cs[o + j]? = some v) : (w.alloc (.cells cs.toArray t)).rangeAt w.heap.size o ds := fun j v hj => cell_of (heap_alloc_new w _) (by simpa using h j v hj)
set_option maxHeartbeats 8000000 in
set_option maxRecDepth 100000 in
theorem RLine_1 (c0 c1 c2 c3 c4 c5 c6 c7 c8 c9 c10 a1 a2 a4 a5 n1 : Int) (xv dv kv : Value) (w : World) (hc : ∀ x ∈ [c0, c1, c2, c3, c4, c5, c6, c7, c8, c9, c10], I64 x) (tx : List UInt8) (htx : tx = [98, 101, 103, 105, 110] ++ rowT [c0, c1, c2, c3, c4, c5, c6, c7, c8, c9, c10] ++ [10]) :
    Calls Tryz.prog 19 #[.agg #[.int .i64 1, .int .i64 c0, .int .i64 c1, .int .i64 c2, .int .i64 c3, .int .i64 c4, .int .i64 c5, .int .i64 c6, .int .i64 c7, .int .i64 c8, .int .i64 c9, .int .i64 c10, .int .i64 a1, .int .i64 a2, xv, .int .i64 a4, .int .i64 a5, dv, .int .i64 n1, kv]] w fun e w' => e = .returned (.string ⟨tx.toArray⟩) ∧ Below w.heap.size w w' := by
  have hll := rowT_len [c0, c1, c2, c3, c4, c5, c6, c7, c8, c9, c10] (hc)
  obtain ⟨LR, hLR⟩ : ∃ L, rowT [c0, c1, c2, c3, c4, c5, c6, c7, c8, c9, c10] = L := ⟨_, rfl⟩
  obtain ⟨L1, hL1⟩ : ∃ L, [98, 101, 103, 105, 110] ++ LR = L := ⟨_, rfl⟩
  obtain ⟨L2, hL2⟩ : ∃ L, L1 ++ [10] = L := ⟨_, rfl⟩
  have F := Lib.hid (show tx = L2 by rw [htx, ← hL2, ← hL1, ← hLR])
  clear htx
  rw [hLR] at hll
  simp only [List.length_cons, List.length_nil] at hll
  have z1 : L1.length = 5 + LR.length := by rw [← hL1]; simp; omega
  have ce1 : (⟨#[98, 101, 103, 105, 110]⟩ : ByteArray) ++ (⟨LR.toArray⟩ : ByteArray) = ⟨L1.toArray⟩ := cat_eq [98, 101, 103, 105, 110] LR L1 hL1
  have cn1 : ¬ 9223372036854775807 < 5 + LR.length := by omega
  have cs1 : ¬ 9223372036854775807 < 5 + (⟨LR.toArray⟩ : ByteArray).size := by rw [sz]; omega
  have ce2 : (⟨L1.toArray⟩ : ByteArray) ++ (⟨#[10]⟩ : ByteArray) = ⟨L2.toArray⟩ := cat_eq L1 [10] L2 hL2
  have cn2 : ¬ 9223372036854775807 < L1.length + 1 := by omega
  have cs2 : ¬ 9223372036854775807 < (⟨L1.toArray⟩ : ByteArray).size + 1 := by rw [sz]; omega
  have HC := Lib.hid (fun (W : World) (g : Nat) (hg : W.heap.size = g) => (by have h9 := RrwW.row_any _ [c0, c1, c2, c3, c4, c5, c6, c7, c8, c9, c10] 0 _ _ (seq_one (W := W) (g := g) [c0, c1, c2, c3, c4, c5, c6, c7, c8, c9, c10] (n := 11) rfl (cs := #[.int .i64 c0, .int .i64 c1, .int .i64 c2, .int .i64 c3, .int .i64 c4, .int .i64 c5, .int .i64 c6, .int .i64 c7, .int .i64 c8, .int .i64 c9, .int .i64 c10]) rfl (by omega) hg) (by simp) (hc); rw [hLR] at h9; exact h9 : Calls Tryz.prog 41 #[.slice (some ⟨g, 0, none⟩) 11 11] (W.alloc (.cells #[.int .i64 c0, .int .i64 c1, .int .i64 c2, .int .i64 c3, .int .i64 c4, .int .i64 c5, .int .i64 c6, .int .i64 c7, .int .i64 c8, .int .i64 c9, .int .i64 c10] 3)) fun e w' => e = .returned (.string ⟨LR.toArray⟩) ∧ W.alloc (.cells #[.int .i64 c0, .int .i64 c1, .int .i64 c2, .int .i64 c3, .int .i64 c4, .int .i64 c5, .int .i64 c6, .int .i64 c7, .int .i64 c8, .int .i64 c9, .int .i64 c10] 3) = w'))
  clear hc hLR hL1 hL2 hll z1
  go_enter Tryz.func19, Tryz.ntmps19
  go_wp2_with fail
  refine (HC.out _ (w.heap.size + 1 + 1) (by simp)).mono ?_
  rintro e w1 ⟨rfl, rfl⟩
  go_wp2_with fail
  go_ret
  exact ⟨by rw [F.out]; rfl, (below_a2 w _ _).alloc (by simp; omega) _⟩
set_option maxHeartbeats 8000000 in
set_option maxRecDepth 100000 in
theorem RLine_2 (c0 c1 c2 c3 c4 c5 c6 c7 c8 c9 c10 a1 a2 a4 a5 n1 : Int) (xv dv kv : Value) (w : World) (xs : List Int) (ds : List Nat) (h : Seq 1 inC w 0 w.heap.size xv xs) (hd : Seq 1 u6C w 0 w.heap.size dv ds) (hok : askOk ⟨a1, a2, xs, a4, a5⟩) (hD : ∀ x ∈ ds, x < 18446744073709551616) (hdl : ds.length ≤ 2048) (hal : (askT a1 a2 xs a4 a5 ds).length ≤ 110000) (tx : List UInt8) (htx : tx = askT a1 a2 xs a4 a5 ds ++ [10]) :
    Calls Tryz.prog 19 #[.agg #[.int .i64 2, .int .i64 c0, .int .i64 c1, .int .i64 c2, .int .i64 c3, .int .i64 c4, .int .i64 c5, .int .i64 c6, .int .i64 c7, .int .i64 c8, .int .i64 c9, .int .i64 c10, .int .i64 a1, .int .i64 a2, xv, .int .i64 a4, .int .i64 a5, dv, .int .i64 n1, kv]] w fun e w' => e = .returned (.string ⟨tx.toArray⟩) ∧ Below w.heap.size w w' := by
  obtain ⟨LR, hLR⟩ : ∃ L, askT a1 a2 xs a4 a5 ds = L := ⟨_, rfl⟩
  obtain ⟨L2, hL2⟩ : ∃ L, LR ++ [10] = L := ⟨_, rfl⟩
  have F := Lib.hid (show tx = L2 by rw [htx, hLR, hL2])
  clear htx
  have HC := Lib.hid (fun W (hb : Below w.heap.size w W) => (by have h9 := Rask_any xv dv ⟨a1, a2, xs, a4, a5⟩ ds W (h.up hb) (hd.up hb) hok hD hdl; dsimp only at h9; rw [hLR] at h9; exact h9 : Calls Tryz.prog 42 #[.agg #[.int .i64 a1, .int .i64 a2, xv, .int .i64 a4, .int .i64 a5], dv] W fun e w' => e = .returned (.string ⟨LR.toArray⟩) ∧ Below W.heap.size W w'))
  rw [hLR] at hal
  have ce1 : (⟨LR.toArray⟩ : ByteArray) ++ (⟨#[10]⟩ : ByteArray) = ⟨L2.toArray⟩ := cat_eq LR [10] L2 hL2
  have cn1 : ¬ 9223372036854775807 < LR.length + 1 := by omega
  have cs1 : ¬ 9223372036854775807 < (⟨LR.toArray⟩ : ByteArray).size + 1 := by rw [sz]; omega
  obtain ⟨XA, xc, rfl, _, _, _⟩ := id h
  obtain ⟨DA, dc, rfl, _, _, _⟩ := id hd
  clear h hd hok hD hLR hL2
  have HRG := Lib.hid (range_new (w := w) (cs := [.int .i64 2, .int .i64 c0, .int .i64 c1, .int .i64 c2, .int .i64 c3, .int .i64 c4, .int .i64 c5, .int .i64 c6, .int .i64 c7, .int .i64 c8, .int .i64 c9, .int .i64 c10, .int .i64 a1, .int .i64 a2, .slice XA xs.length xc, .int .i64 a4, .int .i64 a5, .slice DA ds.length dc, .int .i64 n1, kv]) (t := 31) 12 [.int .i64 a1, .int .i64 a2, .slice XA xs.length xc, .int .i64 a4, .int .i64 a5] (fun j v hj => by rcases j with _ | _ | _ | _ | _ | j <;> first | exact hj | (simp at hj)))
  go_enter Tryz.func19, Tryz.ntmps19
  go_wp2_with (refine (id ?_ : wpList _ _ _ (⟨some 41, .load _ _, _, _, _, _⟩ :: _) _ _); refine wpList_load_mid rfl 27 (.tmp 40) rfl w.heap.size 12 (by rfl) [.int .i64 a1, .int .i64 a2, .slice XA xs.length xc, .int .i64 a4, .int .i64 a5] _ HRG.out Tryz.underlying27 rfl (by kernel_rfl) ?_)
  refine (HC.out _ (below_a1 _ _)).mono ?_
  rintro e w1 ⟨rfl, hb⟩
  have HB := Lib.hid (bt hb (below_a1 _ _))
  clear hb
  go_wp2_with fail
  go_ret
  exact ⟨by rw [F.out]; rfl, HB.out⟩
set_option maxHeartbeats 8000000 in
set_option maxRecDepth 100000 in
theorem RLine_3 (c0 c1 c2 c3 c4 c5 c6 c7 c8 c9 c10 a1 a2 a4 a5 n1 : Int) (xv dv kv : Value) (w : World) (hn : I64 n1) (tx : List UInt8) (htx : tx = [115, 116, 111, 112] ++ rowT [n1] ++ [10]) :
    Calls Tryz.prog 19 #[.agg #[.int .i64 3, .int .i64 c0, .int .i64 c1, .int .i64 c2, .int .i64 c3, .int .i64 c4, .int .i64 c5, .int .i64 c6, .int .i64 c7, .int .i64 c8, .int .i64 c9, .int .i64 c10, .int .i64 a1, .int .i64 a2, xv, .int .i64 a4, .int .i64 a5, dv, .int .i64 n1, kv]] w fun e w' => e = .returned (.string ⟨tx.toArray⟩) ∧ Below w.heap.size w w' := by
  have hll := rowT_len [n1] (one_bd hn)
  obtain ⟨LR, hLR⟩ : ∃ L, rowT [n1] = L := ⟨_, rfl⟩
  obtain ⟨L1, hL1⟩ : ∃ L, [115, 116, 111, 112] ++ LR = L := ⟨_, rfl⟩
  obtain ⟨L2, hL2⟩ : ∃ L, L1 ++ [10] = L := ⟨_, rfl⟩
  have F := Lib.hid (show tx = L2 by rw [htx, ← hL2, ← hL1, ← hLR])
  clear htx
  rw [hLR] at hll
  simp only [List.length_cons, List.length_nil] at hll
  have z1 : L1.length = 4 + LR.length := by rw [← hL1]; simp; omega
  have ce1 : (⟨#[115, 116, 111, 112]⟩ : ByteArray) ++ (⟨LR.toArray⟩ : ByteArray) = ⟨L1.toArray⟩ := cat_eq [115, 116, 111, 112] LR L1 hL1
  have cn1 : ¬ 9223372036854775807 < 4 + LR.length := by omega
  have cs1 : ¬ 9223372036854775807 < 4 + (⟨LR.toArray⟩ : ByteArray).size := by rw [sz]; omega
  have ce2 : (⟨L1.toArray⟩ : ByteArray) ++ (⟨#[10]⟩ : ByteArray) = ⟨L2.toArray⟩ := cat_eq L1 [10] L2 hL2
  have cn2 : ¬ 9223372036854775807 < L1.length + 1 := by omega
  have cs2 : ¬ 9223372036854775807 < (⟨L1.toArray⟩ : ByteArray).size + 1 := by rw [sz]; omega
  have HC := Lib.hid (fun (W : World) (g : Nat) (hg : W.heap.size = g) => (by have h9 := RrwW.row_any _ [n1] 0 _ _ (seq_one (W := W) (g := g) [n1] (n := 1) rfl (cs := #[.int .i64 n1]) rfl (by omega) hg) (by simp) (one_bd hn); rw [hLR] at h9; exact h9 : Calls Tryz.prog 41 #[.slice (some ⟨g, 0, none⟩) 1 1] (W.alloc (.cells #[.int .i64 n1] 3)) fun e w' => e = .returned (.string ⟨LR.toArray⟩) ∧ W.alloc (.cells #[.int .i64 n1] 3) = w'))
  clear hn hLR hL1 hL2 hll z1
  go_enter Tryz.func19, Tryz.ntmps19
  go_wp2_with fail
  refine (HC.out _ (w.heap.size + 1) (by simp)).mono ?_
  rintro e w1 ⟨rfl, rfl⟩
  go_wp2_with fail
  go_ret
  exact ⟨by rw [F.out]; rfl, below_a2 _ _ _⟩
set_option maxHeartbeats 8000000 in
set_option maxRecDepth 100000 in
theorem RLine_4 (c0 c1 c2 c3 c4 c5 c6 c7 c8 c9 c10 a1 a2 a4 a5 n1 : Int) (xv dv kv : Value) (w : World) (ks : List (Int × Int)) (hk : Seq 2 kpC w 0 w.heap.size kv ks) (hkr : ∀ x ∈ ks, (0 ≤ x.1 ∧ x.1 ≤ 4096) ∧ (0 ≤ x.2 ∧ x.2 ≤ 64)) (hkl : ks.length ≤ 256) (tx : List UInt8) (htx : tx = [99, 114, 97, 115, 104] ++ kepT ks ++ [10]) :
    Calls Tryz.prog 19 #[.agg #[.int .i64 4, .int .i64 c0, .int .i64 c1, .int .i64 c2, .int .i64 c3, .int .i64 c4, .int .i64 c5, .int .i64 c6, .int .i64 c7, .int .i64 c8, .int .i64 c9, .int .i64 c10, .int .i64 a1, .int .i64 a2, xv, .int .i64 a4, .int .i64 a5, dv, .int .i64 n1, kv]] w fun e w' => e = .returned (.string ⟨tx.toArray⟩) ∧ Below w.heap.size w w' := by
  obtain ⟨KA, kc, rfl, hc1, hc2, _⟩ := id hk
  unfold maxLen at hc2
  have HTX := Lib.hid htx
  clear htx
  obtain ⟨kn, hkn⟩ : ∃ kn, ks.length = kn := ⟨_, rfl⟩
  have HKN := Lib.hid hkn
  have HKR := Lib.hid hkr
  have HKV := Lib.hid (fun (W : World) (hb : Below w.heap.size w W) (k : Nat) (hlt : k < kn) => by
    obtain ⟨A', cap', e', _, _, hr, _⟩ := hk.below hb
    cases e'
    exact rdP hr (i := k) (by rw [hkn]; exact hlt))
  have HKL := Lib.hid (fun k : Nat => show (kepT (ks.take k)).length ≤ 11264 from by
    have h1 := kepT_len (ks.take k) (fun x hx => hkr x (List.mem_of_mem_take hx))
    have h2 : (ks.take k).length ≤ ks.length := by rw [List.length_take]; omega
    omega)
  rw [hkn] at hc1 hkl ⊢
  clear hk hkr hkn
  go_enter Tryz.func19, Tryz.ntmps19
  go_wp2_with fail
  have H0 := Lib.hid (show KaRel ks w (fun W => W.cell? ⟨w.heap.size, 19, none⟩ = some (.slice KA kn kc)) (.string ⟨#[99, 114, 97, 115, 104]⟩) (.int .i64 0) (w.alloc (.cells #[.int .i64 4, .int .i64 c0, .int .i64 c1, .int .i64 c2, .int .i64 c3, .int .i64 c4, .int .i64 c5, .int .i64 c6, .int .i64 c7, .int .i64 c8, .int .i64 c9, .int .i64 c10, .int .i64 a1, .int .i64 a2, xv, .int .i64 a4, .int .i64 a5, dv, .int .i64 n1, .slice KA kn kc] 31)) from ⟨0, Nat.zero_le _, rfl, rfl, below_a1 _ _, cell_of (heap_alloc_new w _) rfl⟩)
  go_loopw [4, 5] (fun s i wr => KaRel ks w (fun W => W.cell? ⟨w.heap.size, 19, none⟩ = some (.slice KA kn kc)) s i wr) (fun _ i _ => kn - (RowKit.intOf i).toNat)
  case atStart => exact H0.out
  case round =>
    obtain ⟨k, hk, rfl, rfl, hb, e19⟩ := hrel
    rw [HKN.out] at hk
    try dsimp only at e19
    have hl0 := HKL.out k
    have HB := Lib.hid hb
    have hw := hb.size
    have hbx : w.heap.size < wr.heap.size := World.block_lt_of_cell? wr _ e19
    clear H0
    by_cases hlt : k < kn
    · obtain ⟨ad, ⟨x1, x2⟩, e2, _, hbk, hx, d0, d1⟩ := HKV.out _ hb k hlt
      cases e2
      dsimp only at d0 d1
      have hxb := HKR.out _ (List.mem_of_getElem? hx)
      dsimp only at hxb
      have i1 : I64 x1 := by unfold I64; omega
      have i2 : I64 x2 := by unfold I64; omega
      have hll := rowT_len [x1] (one_bd i1)
      have hlb := itoa_len x2 i2.1 i2.2
      simp only [List.length_cons, List.length_nil] at hll
      obtain ⟨LR, hLR⟩ : ∃ L, rowT [x1] = L := ⟨_, rfl⟩
      obtain ⟨LB, hLB⟩ : ∃ L, Lib.itoa x2 = L := ⟨_, rfl⟩
      obtain ⟨P0, hP0⟩ : ∃ L, [99, 114, 97, 115, 104] ++ kepT (ks.take k) = L := ⟨_, rfl⟩
      obtain ⟨P1, hP1⟩ : ∃ L, P0 ++ LR = L := ⟨_, rfl⟩
      obtain ⟨P2, hP2⟩ : ∃ L, P1 ++ [58] = L := ⟨_, rfl⟩
      obtain ⟨P3, hP3⟩ : ∃ L, P2 ++ LB = L := ⟨_, rfl⟩
      have y0 : P0.length ≤ 20000 := by rw [← hP0]; simp; omega
      have y1 : P1.length = P0.length + LR.length := by rw [← hP1]; simp
      have y2 : P2.length = P1.length + 1 := by rw [← hP2]; simp
      have HA := Lib.hid (fun (W : World) (g : Nat) (hg : W.heap.size = g) => (by have h9 := RrwW.row_any _ [x1] 0 _ _ (seq_one (W := W) (g := g) [x1] (n := 1) rfl (cs := #[.int .i64 x1]) rfl (by omega) hg) (by simp) (one_bd i1); rw [hLR] at h9; exact h9 : Calls Tryz.prog 41 #[.slice (some ⟨g, 0, none⟩) 1 1] (W.alloc (.cells #[.int .i64 x1] 3)) fun e w' => e = .returned (.string ⟨LR.toArray⟩) ∧ W.alloc (.cells #[.int .i64 x1] 3) = w'))
      have HD := Lib.hid (fun W => (by have h9 := DigW.Digits_any x2 W i2.1 i2.2; rw [hLB] at h9; exact h9 : Calls Tryz.prog 43 #[.int .i64 x2] W fun e w' => e = .returned (.string ⟨LB.toArray⟩) ∧ W = w'))
      have HF := Lib.hid (fun (W : World) (h1 : Below w.heap.size w W) (h2 : W.cell? ⟨w.heap.size, 19, none⟩ = some (.slice (some ad) kn kc)) => show KaRel ks w (fun W => W.cell? ⟨w.heap.size, 19, none⟩ = some (.slice (some ad) kn kc)) (.string ⟨P3.toArray⟩) (.int .i64 ((k : Int) + 1)) W from ⟨k + 1, by rw [HKN.out]; omega, by go_num, by rw [kepT_next hx, ← hP3, ← hP2, ← hP1, ← hP0, ← hLR, ← hLB]; simp, h1, h2⟩)
      rw [hLR] at hll
      rw [hLB] at hlb
      rw [hP0]
      have ce1 : (⟨P0.toArray⟩ : ByteArray) ++ (⟨LR.toArray⟩ : ByteArray) = ⟨P1.toArray⟩ := cat_eq P0 LR P1 hP1
      have cn1 : ¬ 9223372036854775807 < P0.length + LR.length := by omega
      have cs1 : ¬ 9223372036854775807 < (⟨P0.toArray⟩ : ByteArray).size + (⟨LR.toArray⟩ : ByteArray).size := by rw [sz, sz]; omega
      have ce2 : (⟨P1.toArray⟩ : ByteArray) ++ (⟨#[58]⟩ : ByteArray) = ⟨P2.toArray⟩ := cat_eq P1 [58] P2 hP2
      have cn2 : ¬ 9223372036854775807 < P1.length + 1 := by omega
      have cs2 : ¬ 9223372036854775807 < (⟨P1.toArray⟩ : ByteArray).size + 1 := by rw [sz]; omega
      have ce3 : (⟨P2.toArray⟩ : ByteArray) ++ (⟨LB.toArray⟩ : ByteArray) = ⟨P3.toArray⟩ := cat_eq P2 LB P3 hP3
      have cn3 : ¬ 9223372036854775807 < P2.length + LB.length := by omega
      have cs3 : ¬ 9223372036854775807 < (⟨P2.toArray⟩ : ByteArray).size + (⟨LB.toArray⟩ : ByteArray).size := by rw [sz, sz]; omega
      have HE := Lib.hid e19
      have HD0 := Lib.hid d0
      have HD1 := Lib.hid d1
      have SS := Lib.hid (And.intro ce1 (And.intro ce2 (And.intro ce3 (And.intro cn1 (And.intro cn2 (And.intro cn3 (And.intro cs1 (And.intro cs2 cs3))))))))
      clear hx hxb i1 i2 hll hlb hLR hLB hP0 hP1 hP2 hP3 y0 y1 y2 hl0 d0 d1 ce1 ce2 ce3 cn1 cn2 cn3 cs1 cs2 cs3
      go_wp2_with fail
      clear e19
      have hbA : Below w.heap.size w (wr.drew.alloc (.cells #[.int .i64 x1] 3)) := (HB.out.trans (show Below w.heap.size wr wr.drew from (Below.refl _ _).drew)).alloc hw _
      have HBA := Lib.hid hbA
      clear hbA hb
      obtain ⟨ce1, ce2, ce3, cn1, cn2, cn3, cs1, cs2, cs3⟩ := SS.out
      refine regionZ 19 (fun w' => w'.cell? ⟨w.heap.size, 19, none⟩ = some (.slice (some ad) kn kc) ∧ w'.cell? (ad.add (k * 2)) = some (.int .i64 x1) ∧ w'.cell? ⟨(ad.add (k * 2)).block, (ad.add (k * 2)).off + 1, none⟩ = some (.int .i64 x2)) (by kernel_rfl) (⟨HE.out, HD0.out, HD1.out⟩) (fun hH => ?_)
      refine takeZ 0 (v := ?_) (by simp only [List.getElem?_toArray, List.getElem?_cons_succ, List.getElem?_cons_zero]; rfl) (by kernel_rfl) (by exact fun _ _ _ h => h) hH (.inl ⟨rfl, fun w hW => ?_⟩) ?_
      rotate_left
      · (go_simp; try with_reducible rfl)
      try simp only [Act.put, List.setIfInBounds_toArray, List.set_cons_zero, List.set_cons_succ]
      refine takeZ 1 (v := ?_) (by simp only [List.getElem?_toArray, List.getElem?_cons_succ, List.getElem?_cons_zero]; rfl) (by kernel_rfl) (by exact fun _ _ _ h => h) hH (.inl ⟨rfl, fun w hW => ?_⟩) ?_
      rotate_left
      · (go_simp; try with_reducible rfl)
      try simp only [Act.put, List.setIfInBounds_toArray, List.set_cons_zero, List.set_cons_succ]
      refine takeZ 2 (v := ?_) (by simp only [List.getElem?_toArray, List.getElem?_cons_succ, List.getElem?_cons_zero]; rfl) (by kernel_rfl) (by exact fun _ _ _ h => h) hH (.inl ⟨rfl, fun w hW => ?_⟩) ?_
      rotate_left
      · (obtain ⟨hW1, hW2, hW3⟩ := hW; go_simp; try with_reducible rfl)
      try simp only [Act.put, List.setIfInBounds_toArray, List.set_cons_zero, List.set_cons_succ]
      refine takeZ 3 (v := ?_) (by simp only [List.getElem?_toArray, List.getElem?_cons_succ, List.getElem?_cons_zero]; rfl) (by kernel_rfl) (by exact fun _ _ _ h => h) hH (.inl ⟨rfl, fun w hW => ?_⟩) ?_
      rotate_left
      · (go_simp; try with_reducible rfl)
      try simp only [Act.put, List.setIfInBounds_toArray, List.set_cons_zero, List.set_cons_succ]
      refine takeZ 4 (v := ?_) (by simp only [List.getElem?_toArray, List.getElem?_cons_succ, List.getElem?_cons_zero]; rfl) (by kernel_rfl) (by exact fun _ _ _ h => h) hH (.inl ⟨rfl, fun w hW => ?_⟩) ?_
      rotate_left
      · (go_simp; try with_reducible rfl)
      try simp only [Act.put, List.setIfInBounds_toArray, List.set_cons_zero, List.set_cons_succ]
      refine takeZ 5 (v := ?_) (by simp only [List.getElem?_toArray, List.getElem?_cons_succ, List.getElem?_cons_zero]; rfl) (by kernel_rfl) (by exact fun _ _ _ h => h) hH (.inl ⟨rfl, fun w hW => ?_⟩) ?_
      rotate_left
      · (go_simp; try with_reducible rfl)
      try simp only [Act.put, List.setIfInBounds_toArray, List.set_cons_zero, List.set_cons_succ]
      refine takeZ 6 (v := ?_) (by simp only [List.getElem?_toArray, List.getElem?_cons_succ, List.getElem?_cons_zero]; rfl) (by kernel_rfl) (by exact fun _ _ _ h => h) hH (.inl ⟨rfl, fun w hW => ?_⟩) ?_
      rotate_left
      · (obtain ⟨hW1, hW2, hW3⟩ := hW; go_simp; try with_reducible rfl)
      try simp only [Act.put, List.setIfInBounds_toArray, List.set_cons_zero, List.set_cons_succ]
      refine takeZ 11 (v := ?_) (by simp only [List.getElem?_toArray, List.getElem?_cons_succ, List.getElem?_cons_zero]; rfl) (by kernel_rfl) (by exact fun _ _ _ h => h) hH (.inl ⟨rfl, fun w hW => ?_⟩) ?_
      rotate_left
      · (go_simp; try with_reducible rfl)
      try simp only [Act.put, List.setIfInBounds_toArray, List.set_cons_zero, List.set_cons_succ]
      refine takeZ 12 (v := ?_) (by simp only [List.getElem?_toArray, List.getElem?_cons_succ, List.getElem?_cons_zero]; rfl) (by kernel_rfl) (by exact fun _ _ _ h => h) hH (.inl ⟨rfl, fun w hW => ?_⟩) ?_
      rotate_left
      · (obtain ⟨hW1, hW2, hW3⟩ := hW; go_simp; try with_reducible rfl)
      try simp only [Act.put, List.setIfInBounds_toArray, List.set_cons_zero, List.set_cons_succ]
      refine takeZ 13 (v := ?_) (by simp only [List.getElem?_toArray, List.getElem?_cons_succ, List.getElem?_cons_zero]; rfl) (by kernel_rfl) (by exact fun _ _ _ h => h) hH (.inl ⟨rfl, fun w hW => ?_⟩) ?_
      rotate_left
      · (go_simp; try with_reducible rfl)
      try simp only [Act.put, List.setIfInBounds_toArray, List.set_cons_zero, List.set_cons_succ]
      refine takeZ 14 (v := ?_) (by simp only [List.getElem?_toArray, List.getElem?_cons_succ, List.getElem?_cons_zero]; rfl) (by kernel_rfl) (by exact fun _ _ _ h => h) hH (.inl ⟨rfl, fun w hW => ?_⟩) ?_
      rotate_left
      · (go_simp; try with_reducible rfl)
      try simp only [Act.put, List.setIfInBounds_toArray, List.set_cons_zero, List.set_cons_succ]
      refine takeZ 15 (v := ?_) (by simp only [List.getElem?_toArray, List.getElem?_cons_succ, List.getElem?_cons_zero]; rfl) (by kernel_rfl) (by exact fun _ _ _ h => h) hH (.inl ⟨rfl, fun w hW => ?_⟩) ?_
      rotate_left
      · (go_simp; try with_reducible rfl)
      try simp only [Act.put, List.setIfInBounds_toArray, List.set_cons_zero, List.set_cons_succ]
      refine takeZ 16 (v := ?_) (by simp only [List.getElem?_toArray, List.getElem?_cons_succ, List.getElem?_cons_zero]; rfl) (by kernel_rfl) (by exact fun _ _ _ h => h) hH (.inl ⟨rfl, fun w hW => ?_⟩) ?_
      rotate_left
      · (obtain ⟨hW1, hW2, hW3⟩ := hW; go_simp; try with_reducible rfl)
      try simp only [Act.put, List.setIfInBounds_toArray, List.set_cons_zero, List.set_cons_succ]
      refine oneZ 7 (by kernel_rfl) (by simp only [List.getElem?_toArray, List.getElem?_cons_succ, List.getElem?_cons_zero]; rfl) (fun K hK => ?_)
      try simp only [Act.put, List.setIfInBounds_toArray, List.set_cons_zero, List.set_cons_succ]
      try go_wp2_with fail
      refine hK.out _ _ (fun _ => ⟨keepA (below_a1 wr.drew _) HE.out, keepA (below_a1 wr.drew _) HD0.out, keepA (below_a1 wr.drew _) HD1.out⟩) (fun hH => ?_)
      replace hH := hH (by decide)
      clear hK K
      try simp only [Act.put, List.setIfInBounds_toArray, List.set_cons_zero, List.set_cons_succ]
      refine oneZ 8 (by kernel_rfl) (by simp only [List.getElem?_toArray, List.getElem?_cons_succ, List.getElem?_cons_zero]; rfl) (fun K hK => ?_)
      try simp only [Act.put, List.setIfInBounds_toArray, List.set_cons_zero, List.set_cons_succ]
      go_simp
      refine (HA.out wr.drew wr.heap.size rfl).mono ?_
      rintro e w1 ⟨rfl, rfl⟩
      refine hK.out _ _ (fun _ => ⟨keepA (below_a1 wr.drew _) HE.out, keepA (below_a1 wr.drew _) HD0.out, keepA (below_a1 wr.drew _) HD1.out⟩) (fun hH => ?_)
      replace hH := hH (by decide)
      clear hK K
      try simp only [Act.put, List.setIfInBounds_toArray, List.set_cons_zero, List.set_cons_succ]
      refine takeZ 9 (v := ?_) (by simp only [List.getElem?_toArray, List.getElem?_cons_succ, List.getElem?_cons_zero]; rfl) (by kernel_rfl) (by exact fun _ _ _ h => h) hH (.inl ⟨rfl, fun w hW => ?_⟩) ?_
      rotate_left
      · (go_simp; try with_reducible rfl)
      try simp only [Act.put, List.setIfInBounds_toArray, List.set_cons_zero, List.set_cons_succ]
      refine takeZ 10 (v := ?_) (by simp only [List.getElem?_toArray, List.getElem?_cons_succ, List.getElem?_cons_zero]; rfl) (by kernel_rfl) (by exact fun _ _ _ h => h) hH (.inl ⟨rfl, fun w hW => ?_⟩) ?_
      rotate_left
      · (go_simp; try with_reducible rfl)
      try simp only [Act.put, List.setIfInBounds_toArray, List.set_cons_zero, List.set_cons_succ]
      refine oneZ 17 (by kernel_rfl) (by simp only [List.getElem?_toArray, List.getElem?_cons_succ, List.getElem?_cons_zero]; rfl) (fun K hK => ?_)
      try simp only [Act.put, List.setIfInBounds_toArray, List.set_cons_zero, List.set_cons_succ]
      go_simp
      refine (HD.out _).mono ?_
      rintro e w1 ⟨rfl, rfl⟩
      refine hK.out _ _ (fun _ => ⟨keepA (below_a1 wr.drew _) HE.out, keepA (below_a1 wr.drew _) HD0.out, keepA (below_a1 wr.drew _) HD1.out⟩) (fun hH => ?_)
      replace hH := hH (by decide)
      clear hK K
      try simp only [Act.put, List.setIfInBounds_toArray, List.set_cons_zero, List.set_cons_succ]
      refine takeZ 18 (v := ?_) (by simp only [List.getElem?_toArray, List.getElem?_cons_succ, List.getElem?_cons_zero]; rfl) (by kernel_rfl) (by exact fun _ _ _ h => h) hH (.inl ⟨rfl, fun w hW => ?_⟩) ?_
      rotate_left
      · (go_simp; try with_reducible rfl)
      try simp only [Act.put, List.setIfInBounds_toArray, List.set_cons_zero, List.set_cons_succ]
      refine yieldZ 19 (v := ?_) (by kernel_rfl) (by simp only [List.getElem?_toArray, List.getElem?_cons_succ, List.getElem?_cons_zero]; rfl) hH (.inl ⟨rfl, fun w hW => ?_⟩) ?_
      rotate_left
      · (go_simp; try with_reducible rfl)
      try simp only [Act.put, List.setIfInBounds_toArray, List.set_cons_zero, List.set_cons_succ]
      refine doneZ (by kernel_rfl) ?_ _
      have HFF := Lib.hid (HF.out _ HBA.out hH.1)
      clear hH ce1 ce2 ce3 cn1 cn2 cn3 cs1 cs2 cs3
      go_wp2_with fail
      exact ⟨HFF.out, by simp [RowKit.intOf]; omega⟩
    · have HJ := Lib.hid (show ks.take k = ks from List.take_of_length_le (by rw [HKN.out]; omega))
      rw [HJ.out] at hl0 ⊢
      obtain ⟨P0, hP0⟩ : ∃ L, [99, 114, 97, 115, 104] ++ kepT ks = L := ⟨_, rfl⟩
      obtain ⟨P1, hP1⟩ : ∃ L, P0 ++ [10] = L := ⟨_, rfl⟩
      have y0 : P0.length ≤ 20000 := by rw [← hP0]; simp; omega
      have F := Lib.hid (show tx = P1 by rw [HTX.out, hP0, hP1])
      rw [hP0]
      have ce1 : (⟨P0.toArray⟩ : ByteArray) ++ (⟨#[10]⟩ : ByteArray) = ⟨P1.toArray⟩ := cat_eq P0 [10] P1 hP1
      have cn1 : ¬ 9223372036854775807 < P0.length + 1 := by omega
      have cs1 : ¬ 9223372036854775807 < (⟨P0.toArray⟩ : ByteArray).size + 1 := by rw [sz]; omega
      clear hb hl0 hP0 hP1 y0
      go_wp2_with fail
      go_ret
      exact ⟨by rw [F.out]; rfl, HB.out⟩
set_option maxHeartbeats 8000000 in
set_option maxRecDepth 100000 in
theorem RLine_5 (c0 c1 c2 c3 c4 c5 c6 c7 c8 c9 c10 a1 a2 a4 a5 n1 : Int) (xv dv kv : Value) (w : World)  (tx : List UInt8) (htx : tx = [111, 112, 101, 110] ++ [10]) :
    Calls Tryz.prog 19 #[.agg #[.int .i64 5, .int .i64 c0, .int .i64 c1, .int .i64 c2, .int .i64 c3, .int .i64 c4, .int .i64 c5, .int .i64 c6, .int .i64 c7, .int .i64 c8, .int .i64 c9, .int .i64 c10, .int .i64 a1, .int .i64 a2, xv, .int .i64 a4, .int .i64 a5, dv, .int .i64 n1, kv]] w fun e w' => e = .returned (.string ⟨tx.toArray⟩) ∧ Below w.heap.size w w' := by
  subst htx
  go_enter Tryz.func19, Tryz.ntmps19
  go_wp2_with fail
  go_ret
  exact ⟨rfl, below_a1 _ _⟩
/-- the text of a right line -/
theorem RLine_any (r : LnR) (lo : Nat) (w : World) (h : LnIn w lo w.heap.size r) (hr : Right r.ln) :
    Calls Tryz.prog 19 #[.agg (lnC r).toArray] w fun e w' => e = .returned (.string ⟨(lineT r.ln).toArray⟩) ∧ Below w.heap.size w w' := by
  obtain ⟨xv, dv, kv, l⟩ := r
  have h0 : LnIn w 0 w.heap.size ⟨xv, dv, kv, l⟩ := h.more (Nat.zero_le _) (Nat.le_refl _)
  cases hr with
  | conf c hc =>
    obtain ⟨c0, c1, c2, c3, c4, c5, c6, c7, c8, c9, c10⟩ := c
    show Calls _ _ _ _ fun e w' => e = .returned (.string ⟨(lineT (onlyCf ⟨c0, c1, c2, c3, c4, c5, c6, c7, c8, c9, c10⟩)).toArray⟩) ∧ _
    refine RLine_1 c0 c1 c2 c3 c4 c5 c6 c7 c8 c9 c10 0 0 0 0 0 xv dv kv w ?_ _ (lineT_conf _)
    intro x hx
    unfold confOk at hc
    unfold I64
    dsimp only at hc
    simp only [List.mem_cons, List.not_mem_nil, or_false] at hx
    omega
  | ask a d ha h2 h3 h4 =>
    show Calls _ _ _ _ fun e w' => e = .returned (.string ⟨(lineT (onlyAk a d)).toArray⟩) ∧ _
    have hle := lineT_le (r := ⟨xv, dv, kv, onlyAk a d⟩) (.ask a d ha h2 h3 h4)
    dsimp only at hle
    have e9 := lineT_ask a d
    rw [e9] at hle
    obtain ⟨k, i, xs, n, m⟩ := a
    exact RLine_2 0 0 0 0 0 0 0 0 0 0 0 k i n m 0 xv dv kv w xs d h0.xs h0.ds ha h4 h2 (by simp at hle; omega) _ e9
  | stop n h1 h2 =>
    show Calls _ _ _ _ fun e w' => e = .returned (.string ⟨(lineT (onlyN n)).toArray⟩) ∧ _
    exact RLine_3 0 0 0 0 0 0 0 0 0 0 0 0 0 0 0 n xv dv kv w (by unfold I64; omega) _ (lineT_stop n)
  | crash k h1 h2 =>
    show Calls _ _ _ _ fun e w' => e = .returned (.string ⟨(lineT (onlyKept k)).toArray⟩) ∧ _
    exact RLine_4 0 0 0 0 0 0 0 0 0 0 0 0 0 0 0 0 xv dv kv w k h0.ks h1 h2 _ (lineT_crash k)
  | opens =>
    show Calls _ _ _ _ fun e w' => e = .returned (.string ⟨(lineT (ln0 5)).toArray⟩) ∧ _
    exact RLine_5 0 0 0 0 0 0 0 0 0 0 0 0 0 0 0 0 xv dv kv w _ lineT_open
end Go.Proofs.YtchgfabgighbfaaGreatDoor.RlnW
