/- The births of the trees at a count after the document, walked (copseref28.Births; printed by mkrbi.py). -/
import Derived.Test.YtcaeihfgdlffkaaGreatRRRRDoorPk21
import Derived.Test.YtcaeihfgdlffkaaGreatRRRRDoorPk18
import Derived.Test.YtcaeihfgdlffkaaGreatRRRRDoorPk13
namespace Go.Proofs.YtcaeihfgdlffkaaGreatRRRRDoor.RsbW
set_option linter.unusedVariables false
set_option linter.unusedSimpArgs false
open Go.RowKit Base SeqM CfM SchX SchY StM HyW RotW RscX RscY RscZ StpW
open BirW (eltI)

def bAt (F E T t : Int) (i : Nat) : Int := F + ((i : Int) + (T - 1 - i) / t * t) * E
def RbRel (f : Nat → Int) (m B : Nat) (w : World) (o i : Value) (wr : World) : Prop := ∃ (k cap : Nat) (A : Option Addr), k ≤ m ∧ i = .int .i64 (k : Int) ∧ o = .slice A k cap ∧
  wr.ownsRow B 3 1 (.slice A k cap) k ((List.range k).map fun j => .int .i64 (f j)) ∧ Below w.heap.size w wr
theorem SchY_seq {w : World} {B k cap : Nat} {A : Option Addr} {f : Nat → Int} {t : TypeId} (h : w.ownsRow B t 1 (.slice A k cap) k ((List.range k).map fun j => Value.int .i64 (f j))) (he : ((List.range k).map fun j => Value.int .i64 (f j)) = ((List.range k).map f).map (Value.int .i64)) :
    Seq 1 inC w 0 w.heap.size (.slice A k cap) ((List.range k).map f) := by
  rw [he] at h
  refine (Seq.of_own (base := B) (e := t) (l := (List.range k).map f) ?_).more (Nat.zero_le _) (Nat.le_refl _)
  rw [SchY.flat_inC, List.length_map, List.length_range]
  exact h
set_option maxHeartbeats 4000000 in
set_option maxRecDepth 100000 in
theorem RBirths_any (c : Cf) (n : Int) (hc : confOk c) (hn : cnt n) (w : World) :
    Calls Tryz.prog 77 #[.agg (CfM.cfC c).toArray, .int .i64 n] w fun e w' => (∃ v, e = .returned (.tuple #[v, .int .i64 0]) ∧ Seq 1 inC w' 0 w'.heap.size v (birthsL c n)) ∧ Below w.heap.size w w' := by
  have h1 := cf_in hc
  have hub := up_bd hc hn
  have hu0 := up_bd hc (n := 0) (by decide)
  have HTU := Lib.hid (fun W => RTurns_ok c n hc hn W)
  have HTN := Lib.hid (fun k (hk : cnt k) W => turn_ok c k hc hk W)
  have hT0 : turnsC c n = max 0 (upC c n - upC c 0) := rfl
  have hTb : 0 ≤ turnsC c n ∧ turnsC c n ≤ n := by rw [hT0]; omega
  have HBL := Lib.hid (show birthsL c n = (List.range (min (turnsC c n) c.c2).toNat).map fun (i : Nat) => birthAt c (turnsC c n) (i : Int) from rfl)
  unfold birthAt at HBL
  unfold cnt at hn
  obtain ⟨F, hq⟩ : ∃ q, nextC c 0 = q := ⟨_, rfl⟩
  rw [hq] at HTN HBL
  obtain ⟨T, hT⟩ : ∃ T : Nat, turnsC c n = (T : Int) := ⟨(turnsC c n).toNat, by omega⟩
  rw [hT] at HTU HBL hTb
  obtain ⟨c0, c1, c2, c3, c4, c5, c6, c7, c8, c9, c10⟩ := c
  generalize birthsL ⟨c0, c1, c2, c3, c4, c5, c6, c7, c8, c9, c10⟩ n = BL at *
  unfold CfM.cfC at HTU HTN ⊢
  dsimp only at HTU HTN h1 HBL ⊢
  clear hc hq hT0 hT hub hu0
  obtain ⟨m, hm⟩ : ∃ m : Nat, min (T : Int) c2 = (m : Int) := ⟨(min (T : Int) c2).toNat, by omega⟩
  have HBE := Lib.hid (show BL = (List.range m).map (bAt F c4 T c2) by rw [HBL.out, hm, Int.toNat_natCast]; rfl)
  have hm16 : m ≤ 16 := by omega
  obtain ⟨W, eW⟩ : ∃ W, w.alloc (.cells #[.int .i64 c0, .int .i64 c1, .int .i64 c2, .int .i64 c3, .int .i64 c4, .int .i64 c5, .int .i64 c6, .int .i64 c7, .int .i64 c8, .int .i64 c9, .int .i64 c10] 23) = W := ⟨_, rfl⟩
  have HB := Lib.hid (show Below w.heap.size w W by rw [← eW]; exact below_a1 _ _)
  have HCS := Lib.hid (show ∀ W' : World, Below W.heap.size W W' → (W'.cell? ⟨w.heap.size, 0, none⟩ = some (.int .i64 c0) ∧ W'.cell? ⟨w.heap.size, 1, none⟩ = some (.int .i64 c1) ∧ W'.cell? ⟨w.heap.size, 2, none⟩ = some (.int .i64 c2) ∧ W'.cell? ⟨w.heap.size, 3, none⟩ = some (.int .i64 c3) ∧ W'.cell? ⟨w.heap.size, 4, none⟩ = some (.int .i64 c4) ∧ W'.cell? ⟨w.heap.size, 5, none⟩ = some (.int .i64 c5) ∧ W'.cell? ⟨w.heap.size, 6, none⟩ = some (.int .i64 c6) ∧ W'.cell? ⟨w.heap.size, 7, none⟩ = some (.int .i64 c7) ∧ W'.cell? ⟨w.heap.size, 8, none⟩ = some (.int .i64 c8) ∧ W'.cell? ⟨w.heap.size, 9, none⟩ = some (.int .i64 c9) ∧ W'.cell? ⟨w.heap.size, 10, none⟩ = some (.int .i64 c10)) by
    intro W' hb
    subst eW
    refine ⟨keepA hb ?_, keepA hb ?_, keepA hb ?_, keepA hb ?_, keepA hb ?_, keepA hb ?_, keepA hb ?_, keepA hb ?_, keepA hb ?_, keepA hb ?_, keepA hb ?_⟩ <;> go_simp)
  obtain ⟨d0, d1, d2, d3, d4, d5, d6, d7, d8, d9, d10⟩ := HCS.out W (Below.refl _ _)
  go_enter Tryz.func77, Tryz.ntmps77
  go_wp2_with fail
  refine (HTU.out _).mono ?_
  rintro e w1 ⟨rfl, hb1⟩
  have HB1 := Lib.hid hb1
  clear d0 d1 d2 d3 d4 d5 d6 d7 d8 d9 d10 hb1
  go_wp2_with fail
  go_loopw [8, 9] (fun o k wr => RbRel (bAt F c4 T c2) m W.heap.size W o k wr) (fun _ k _ => m - (intOf k).toNat)
  case atStart => exact ⟨0, 0, none, Nat.zero_le _, rfl, rfl, World.ownsRow_nil _ _ _ _, HB1.out⟩
  case round =>
    obtain ⟨k, cap, A, hk, rfl, rfl, hown, hbr⟩ := hrel
    have HO := Lib.hid hown
    have HBR := Lib.hid hbr
    have HLT := Lib.hid hbr.size
    obtain ⟨d0, d1, d2, d3, d4, d5, d6, d7, d8, d9, d10⟩ := HCS.out wr hbr
    clear hown hbr
    by_cases hlt : k < m
    · have g1 : (k : Int) < c2 := by omega
      have g2 : (k : Int) < (T : Int) := by omega
      obtain ⟨q, hqq⟩ : ∃ q : Int, ((T : Int) - 1 - (k : Int)) / c2 = q := ⟨_, rfl⟩
      have hq0 : ((T : Int) - 1 - (k : Int)).tdiv c2 = q := by rw [Int.tdiv_eq_ediv_of_nonneg (by omega), hqq]
      have hqb : 0 ≤ q ∧ q ≤ 1099511627776 := by
        refine ⟨by rw [← hqq]; exact Int.ediv_nonneg (by omega) (by omega), ?_⟩
        have := Int.ediv_le_self (a := (T : Int) - 1 - (k : Int)) c2 (by omega)
        omega
      obtain ⟨P, hP⟩ : ∃ P : Int, q * c2 = P := ⟨_, rfl⟩
      have hPb : 0 ≤ P ∧ P ≤ (T : Int) - 1 - (k : Int) := by
        rw [← hP, ← hqq]
        exact ⟨Int.mul_nonneg (Int.ediv_nonneg (by omega) (by omega)) (by omega), Int.ediv_mul_le _ (by omega)⟩
      have HV := Lib.hid (show bAt F c4 T c2 k = F + ((k : Int) + P) * c4 by unfold bAt; rw [hqq, hP])
      have HTK := Lib.hid (fun W => HTN.out ((k : Int) + P) (by unfold cnt; omega) W)
      generalize hX : F + ((k : Int) + P) * c4 = X at HV HTK
      have hz : ¬ c2 = 0 := by omega
      have hz0 : (c2 == 0) = false := by simpa using hz
      have hzm : (c2 == -1) = false := by simpa using (by omega : c2 ≠ -1)
      have hk1 : k < 1073741824 := by omega
      have HVL := Lib.hid (show IntKind.i64.wrap ((k : Int) + IntKind.i64.wrap (IntKind.i64.wrap ((IntKind.i64.wrap (IntKind.i64.wrap ((T : Int) - 1) - (k : Int))).tdiv c2) * c2)) = (k : Int) + P by
        rw [IntWalk.i64_in ((T : Int) - 1) (by omega), IntWalk.i64_in ((T : Int) - 1 - (k : Int)) (by omega), hq0, IntWalk.i64_in q (by omega), hP, IntWalk.i64_in P (by omega), IntWalk.i64_in ((k : Int) + P) (by omega)])
      clear hqq hm HBL HTN hX
      go_wp2_with fail
      refine regionZ 16 (fun w' => w'.cell? ⟨w.heap.size, 0, none⟩ = some (.int .i64 c0) ∧ w'.cell? ⟨w.heap.size, 1, none⟩ = some (.int .i64 c1) ∧ w'.cell? ⟨w.heap.size, 2, none⟩ = some (.int .i64 c2) ∧ w'.cell? ⟨w.heap.size, 3, none⟩ = some (.int .i64 c3) ∧ w'.cell? ⟨w.heap.size, 4, none⟩ = some (.int .i64 c4) ∧ w'.cell? ⟨w.heap.size, 5, none⟩ = some (.int .i64 c5) ∧ w'.cell? ⟨w.heap.size, 6, none⟩ = some (.int .i64 c6) ∧ w'.cell? ⟨w.heap.size, 7, none⟩ = some (.int .i64 c7) ∧ w'.cell? ⟨w.heap.size, 8, none⟩ = some (.int .i64 c8) ∧ w'.cell? ⟨w.heap.size, 9, none⟩ = some (.int .i64 c9) ∧ w'.cell? ⟨w.heap.size, 10, none⟩ = some (.int .i64 c10)) (by kernel_rfl) (HCS.out _ (HBR.out.drew)) (fun hH => ?_)
      refine takeZ 0 (v := ?_) (gi rfl) (by kernel_rfl) (fun _ _ _ h => h) hH (.inl ⟨rfl, fun w hW => ?_⟩) ?_
      rotate_left
      · (go_simp; try with_reducible rfl)
      try simp only [Act.put, List.setIfInBounds_toArray, List.set_cons_zero, List.set_cons_succ]
      refine takeZ 1 (v := ?_) (gi rfl) (by kernel_rfl) (fun _ _ _ h => h) hH (.inl ⟨rfl, fun w hW => ?_⟩) ?_
      rotate_left
      · (obtain ⟨hW0, hW1, hW2, hW3, hW4, hW5, hW6, hW7, hW8, hW9, hW10⟩ := hW; go_simp; try with_reducible rfl)
      try simp only [Act.put, List.setIfInBounds_toArray, List.set_cons_zero, List.set_cons_succ]
      refine takeZ 2 (v := ?_) (gi rfl) (by kernel_rfl) (fun _ _ _ h => h) hH (.inl ⟨rfl, fun w hW => ?_⟩) ?_
      rotate_left
      · (go_simp; try with_reducible rfl)
      try simp only [Act.put, List.setIfInBounds_toArray, List.set_cons_zero, List.set_cons_succ]
      refine takeZ 3 (v := ?_) (gi rfl) (by kernel_rfl) (fun _ _ _ h => h) hH (.inl ⟨rfl, fun w hW => ?_⟩) ?_
      rotate_left
      · (go_simp; try with_reducible rfl)
      try simp only [Act.put, List.setIfInBounds_toArray, List.set_cons_zero, List.set_cons_succ]
      refine takeZ 4 (v := ?_) (gi rfl) (by kernel_rfl) (fun _ _ _ h => h) hH (.inl ⟨rfl, fun w hW => ?_⟩) ?_
      rotate_left
      · (go_simp; try with_reducible rfl)
      try simp only [Act.put, List.setIfInBounds_toArray, List.set_cons_zero, List.set_cons_succ]
      refine takeZ 5 (v := ?_) (gi rfl) (by kernel_rfl) (fun _ _ _ h => h) hH (.inl ⟨rfl, fun w hW => ?_⟩) ?_
      rotate_left
      · (go_simp; try with_reducible rfl)
      try simp only [Act.put, List.setIfInBounds_toArray, List.set_cons_zero, List.set_cons_succ]
      refine takeZ 6 (v := ?_) (gi rfl) (by kernel_rfl) (fun _ _ _ h => h) hH (.inl ⟨rfl, fun w hW => ?_⟩) ?_
      rotate_left
      · (go_simp; try with_reducible rfl)
      try simp only [Act.put, List.setIfInBounds_toArray, List.set_cons_zero, List.set_cons_succ]
      refine takeZ 7 (v := ?_) (gi rfl) (by kernel_rfl) (fun _ _ _ h => h) hH (.inl ⟨rfl, fun w hW => ?_⟩) ?_
      rotate_left
      · (go_simp; try with_reducible rfl)
      try simp only [Act.put, List.setIfInBounds_toArray, List.set_cons_zero, List.set_cons_succ]
      refine takeZ 8 (v := ?_) (gi rfl) (by kernel_rfl) (fun _ _ _ h => h) hH (.inl ⟨rfl, fun w hW => ?_⟩) ?_
      rotate_left
      · (obtain ⟨hW0, hW1, hW2, hW3, hW4, hW5, hW6, hW7, hW8, hW9, hW10⟩ := hW; go_simp; try with_reducible rfl)
      try simp only [Act.put, List.setIfInBounds_toArray, List.set_cons_zero, List.set_cons_succ]
      refine takeZ 9 (v := ?_) (gi rfl) (by kernel_rfl) (fun _ _ _ h => h) hH (.inl ⟨rfl, fun w hW => ?_⟩) ?_
      rotate_left
      · (go_simp; try with_reducible rfl)
      try simp only [Act.put, List.setIfInBounds_toArray, List.set_cons_zero, List.set_cons_succ]
      refine takeZ 10 (v := ?_) (gi rfl) (by kernel_rfl) (fun _ _ _ h => h) hH (.inl ⟨rfl, fun w hW => ?_⟩) ?_
      rotate_left
      · (go_simp; try with_reducible rfl)
      try simp only [Act.put, List.setIfInBounds_toArray, List.set_cons_zero, List.set_cons_succ]
      refine takeZ 11 (v := ?_) (gi rfl) (by kernel_rfl) (fun _ _ _ h => h) hH (.inl ⟨rfl, fun w hW => ?_⟩) ?_
      rotate_left
      · (obtain ⟨hW0, hW1, hW2, hW3, hW4, hW5, hW6, hW7, hW8, hW9, hW10⟩ := hW; go_simp; try with_reducible rfl)
      try simp only [Act.put, List.setIfInBounds_toArray, List.set_cons_zero, List.set_cons_succ]
      refine takeZ 12 (v := ?_) (gi rfl) (by kernel_rfl) (fun _ _ _ h => h) hH (.inl ⟨rfl, fun w hW => ?_⟩) ?_
      rotate_left
      · (go_simp; try with_reducible rfl)
      try simp only [Act.put, List.setIfInBounds_toArray, List.set_cons_zero, List.set_cons_succ]
      refine takeZ 13 (v := ?_) (gi rfl) (by kernel_rfl) (fun _ _ _ h => h) hH (.inl ⟨rfl, fun w hW => ?_⟩) ?_
      rotate_left
      · (go_simp; try with_reducible rfl)
      try simp only [Act.put, List.setIfInBounds_toArray, List.set_cons_zero, List.set_cons_succ]
      refine oneZ 14 (by kernel_rfl) (gi rfl) (fun K hK => ?_)
      try simp only [Act.put, List.setIfInBounds_toArray, List.set_cons_zero, List.set_cons_succ]
      go_simp
      rw [HVL.out]
      refine (HTK.out wr.drew).mono ?_
      rintro e w5 ⟨rfl, hb5⟩
      have HB5 := Lib.hid (show Below wr.heap.size wr w5 from bt hb5 (Below.refl _ _).drew)
      have HB6 := Lib.hid (bt HB5.out HBR.out)
      clear hb5
      refine hK.out _ _ (fun _ => HCS.out _ HB6.out) (fun hH => ?_)
      replace hH := hH (by decide)
      clear hK K
      try simp only [Act.put, List.setIfInBounds_toArray, List.set_cons_zero, List.set_cons_succ]
      refine oneZ 15 (by kernel_rfl) (gi rfl) (fun K hK => ?_)
      try simp only [Act.put, List.setIfInBounds_toArray, List.set_cons_zero, List.set_cons_succ]
      try go_wp2_with fail
      refine hK.out _ _ (fun _ => HCS.out _ (bt (below_a1 _ _) HB6.out)) (fun hH => ?_)
      replace hH := hH (by decide)
      clear hK K
      try simp only [Act.put, List.setIfInBounds_toArray, List.set_cons_zero, List.set_cons_succ]
      refine oneZ 16 (by kernel_rfl) (gi rfl) (fun K hK => ?_)
      try simp only [Act.put, List.setIfInBounds_toArray, List.set_cons_zero, List.set_cons_succ]
      refine stepS (a := ⟨_, _⟩) (w := w5.alloc (.cells #[.int .i64 X] 3)) (by rfl) (.tmp 30) (.tmp 45) _ (by rfl) eltI W.heap.size w5.heap.size (.slice A k cap) _ k 1 _ _ (by rfl) ((own_below HO.out HB5.out).alloc _) (by rfl) (own_one w5 #[.int .i64 X] _ 1 rfl) (by simp [Value.oneCell']) (by omega) (by omega) (by have := HLT.out; have := HB5.out.size; simp; omega) ?_
      intro v6 w6 hown6 hg6
      have HF := Lib.hid (show w6.ownsRow W.heap.size 3 1 v6 (k + 1) (_ ++ [.int .i64 (bAt F c4 T c2 k)]) from by rw [HV.out]; exact hown6)
      have HBA := Lib.hid (show Below W.heap.size W w6 from below_own (HB6.out.alloc HB6.out.size _) ((own_below HO.out HB5.out).alloc _) hg6 (Nat.le_refl _) (by have := HB6.out.size; simp; omega))
      clear hown6 hg6
      refine hK.out _ _ (fun h => absurd h (by decide)) (fun hH => ?_)
      clear hK K
      try simp only [Act.put, List.setIfInBounds_toArray, List.set_cons_zero, List.set_cons_succ]
      refine takeP 17 (v := ?_) (gi rfl) (by kernel_rfl) (fun _ _ _ h => h) hH (.inl ⟨rfl, fun w hW => ?_⟩) ?_
      rotate_left
      · (go_simp; try with_reducible rfl)
      try simp only [Act.put, List.setIfInBounds_toArray, List.set_cons_zero, List.set_cons_succ]
      refine doneZ (by kernel_rfl) ?_ _
      clear hH
      go_wp2_with fail
      obtain ⟨g6, cap6, e6, -, -⟩ := HF.out.form (by omega)
      subst e6
      exact ⟨⟨k + 1, cap6, some ⟨g6, 0, none⟩, by omega, by go_num, rfl, by rw [List.range_succ, List.map_append]; exact HF.out, HBA.out⟩, by simp [intOf]; omega⟩
    · obtain rfl : k = m := by omega
      have hown := HO.out
      have HE := Lib.hid (show ((List.range k).map fun j => Value.int .i64 (bAt F c4 T c2 j)) = ((List.range k).map (bAt F c4 T c2)).map (Value.int .i64) by rw [List.map_map]; rfl)
      by_cases g1 : (k : Int) < c2
      · have g2 : decide ((k : Int) < (T : Int)) = false := decide_eq_false (by omega)
        clear hown
        go_wp2_with fail
        go_ret2
        refine ⟨⟨_, rfl, ?_⟩, bt HBR.out HB.out⟩
        rw [HBE.out]
        exact (SchY_seq HO.out HE.out)
      · have g1d : decide ((k : Int) < c2) = false := decide_eq_false g1
        clear hown g1
        go_wp2_with fail
        go_ret2
        refine ⟨⟨_, rfl, ?_⟩, bt HBR.out HB.out⟩
        rw [HBE.out]
        exact (SchY_seq HO.out HE.out)
end Go.Proofs.YtcaeihfgdlffkaaGreatRRRRDoor.RsbW

/- The document's Is and All of vectors, walked (Is: lines of ShpV). -/
namespace Go.Proofs.YtcaeihfgdlffkaaGreatRRRRDoor.RalW
set_option linter.unusedVariables false
set_option linter.unusedSimpArgs false
open Go.RowKit Base SeqM RptC VecW
open VisW hiding ret_bool

set_option maxHeartbeats 2000000 in
theorem RIs_any (v : Value) (l : List Int) (dim : Int) (lo B : Nat) (w : World) (h : Seq 1 inC w lo B v l) :
    Calls Tryz.prog 80 #[v, .int .i64 dim] w fun e w' => e = .returned (.bool (vecB l dim)) ∧ w = w' := by
  obtain ⟨A, cap, rfl, hc1, hc2, hr, _⟩ := h
  unfold maxLen at hc2
  have HR := Lib.hid hr
  obtain ⟨n, hn⟩ : ∃ n, l.length = n := ⟨_, rfl⟩
  rw [hn] at hc1 ⊢
  have HN := Lib.hid hn
  clear hr hn
  by_cases hd : 1 ≤ dim ∧ dim ≤ 8 ∧ (n : Int) = dim
  · have HV := Lib.hid (show vecB l dim = l.all rngB by unfold vecB; rw [decide_eq_true (by rw [HN.out]; exact hd)]; rfl)
    obtain ⟨h1, h2, h3⟩ := hd
    have h3b : ((n : Int) != dim) = false := by simpa using h3
    have h1' : ¬ dim < 1 := by omega
    have h2' : ¬ 8 < dim := by omega
    have H0 := Lib.hid (show IRel n (fun k => (l.take k).all rngB = true) w (.int .i64 0) w from ⟨0, Nat.zero_le _, rfl, by simp, rfl⟩)
    clear h3
    go_enter Tryz.func80, Tryz.ntmps80
    go_wp2
    go_loopw [5] (fun i wr => IRel n (fun k => (l.take k).all rngB = true) w i wr) (fun i _ => n - (intOf i).toNat)
    case atStart => exact H0.out
    case round =>
      obtain ⟨k, hk, rfl, ht, rfl⟩ := hrel
      have HT := Lib.hid ht
      clear H0 ht
      by_cases hlt : k < n
      · obtain ⟨ad, x, rfl, _, _, hx, c0⟩ := rdI HR.out (i := k) (by rw [HN.out]; exact hlt)
        have HX := Lib.hid (all_next hx rngB)
        clear hx
        by_cases hx1 : x < -2147483648
        · have HB := Lib.hid (show vecB l dim = false by rw [HV.out]; exact all_no (k := k + 1) (by rw [HX.out, show rngB x = false from decide_eq_false (fun h => by omega)]; simp))
          go_wp2
          go_ret
          exact ⟨ret_bool HB.out.symm, rfl⟩
        · by_cases hx2 : 2147483647 < x
          · have HB := Lib.hid (show vecB l dim = false by rw [HV.out]; exact all_no (k := k + 1) (by rw [HX.out, show rngB x = false from decide_eq_false (fun h => by omega)]; simp))
            go_wp2
            go_ret
            exact ⟨ret_bool HB.out.symm, rfl⟩
          · have HB := Lib.hid (show rngB x = true from decide_eq_true ⟨by omega, by omega⟩)
            go_wp2
            exact ⟨⟨k + 1, by omega, by go_num, (show (l.take (k + 1)).all rngB = true by rw [HX.out, HT.out, HB.out]; rfl), rfl⟩, by simp [intOf]; omega⟩
      · have F := Lib.hid (show vecB l dim = true by
          have := HT.out
          rw [List.take_of_length_le (by rw [HN.out]; omega)] at this
          rw [HV.out, this])
        go_wp2
        go_ret
        exact ⟨ret_bool F.out.symm, rfl⟩
  · have F := Lib.hid (show vecB l dim = false by unfold vecB; rw [decide_eq_false (by rw [HN.out]; exact hd)]; rfl)
    by_cases h1 : dim < 1
    · clear hd
      go_enter Tryz.func80, Tryz.ntmps80
      go_wp2
      go_ret
      exact ⟨ret_bool F.out.symm, rfl⟩
    · by_cases h2 : 8 < dim
      · clear hd
        go_enter Tryz.func80, Tryz.ntmps80
        go_wp2
        go_ret
        exact ⟨ret_bool F.out.symm, rfl⟩
      · have h3 : ((n : Int) != dim) = true := by rw [bne_iff_ne]; exact fun h => hd ⟨by omega, by omega, h⟩
        clear hd
        go_enter Tryz.func80, Tryz.ntmps80
        go_wp2
        go_ret
        exact ⟨ret_bool F.out.symm, rfl⟩
def ARel (l : List (List Int)) (dim : Int) (w : World) (i : Value) (wr : World) : Prop := ∃ k : Nat, k ≤ l.length ∧ i = .int .i64 k ∧ (l.take k).all (fun x => vecB x dim) = true ∧ w = wr
set_option maxHeartbeats 2000000 in
set_option maxRecDepth 100000 in
theorem RAll_any (v : Value) (l : List (List Int)) (dim : Int) (lo : Nat) (w : World) (h : Vecs w lo w.heap.size v l) (hl : 0 < l.length) :
    Calls Tryz.prog 46 #[v, .int .i64 dim] w fun e w' => e = .returned (.bool (allV l dim)) ∧ w = w' := by
  have HS := Lib.hid h
  obtain ⟨A, cap, rfl, hc1, hc2, _⟩ := h.form
  obtain ⟨n, hn⟩ : ∃ n, l.length = n := ⟨_, rfl⟩
  have HN := Lib.hid hn
  rw [hn] at HS hc1 hl ⊢
  clear h hn
  have hl2 : (0 : Int) < (n : Int) := by omega
  go_enter Tryz.func46, Tryz.ntmps46
  go_wp2_with fail
  go_loopw [5] (fun i wr => ARel l dim w i wr) (fun i _ => n - (intOf i).toNat)
  case atStart => exact ⟨0, Nat.zero_le _, rfl, rfl, rfl⟩
  case round =>
    obtain ⟨k, hk, rfl, ht, rfl⟩ := hrel
    rw [HN.out] at hk
    have HT := Lib.hid ht
    clear ht
    by_cases hlt : k < n
    · obtain ⟨x, hx⟩ : ∃ x, l[k]? = some x := ⟨_, List.getElem?_eq_getElem (by rw [HN.out]; exact hlt)⟩
      obtain ⟨ad, cv, rfl, hbk, d0, hcv⟩ := HS.out.get hx
      have HX := Lib.hid (all_next hx (fun x => vecB x dim))
      clear hx
      go_wp2_with fail
      refine (RIs_any _ _ _ _ _ _ hcv).mono ?_
      rintro e w2 ⟨rfl, rfl⟩
      cases hv : vecB x dim
      · have F := Lib.hid (show allV l dim = false by unfold allV; exact all_no (k := k + 1) (by rw [HX.out, hv]; simp))
        go_wp2_with fail
        go_ret
        exact ⟨ret_bool F.out.symm, rfl⟩
      · have HV := Lib.hid hv
        go_wp2_with fail
        exact ⟨⟨k + 1, by rw [HN.out]; omega, by go_num, by rw [HX.out, HT.out, HV.out]; rfl, rfl⟩, by simp [intOf]; omega⟩
    · have F := Lib.hid (show allV l dim = true by
        have := HT.out
        rw [List.take_of_length_le (by rw [HN.out]; omega)] at this
        exact this)
      go_wp2_with fail
      go_ret
      exact ⟨ret_bool F.out.symm, rfl⟩
end Go.Proofs.YtcaeihfgdlffkaaGreatRRRRDoor.RalW
