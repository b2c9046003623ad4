/- The walks of copseref01 over numbers of any size with a sign: Int, Both, Product, Turn, Fits, Sub. -/
import Derived.Test.YtodiipkedhfncaaGreatDoorBigO
import Derived.Deep.RegionHeld3
namespace Go.Proofs.YtodiipkedhfncaaGreatDoor.BigZ
set_option linter.unusedVariables false
open Go.RowKit Base BigM BigW

theorem bcell {W w1 : World} (hb : Below W.heap.size W w1) : (∀ b o, b < W.heap.size → w1.cell? ⟨b, o, none⟩ = W.cell? ⟨b, o, none⟩) ∧ (∀ b o, b < W.heap.size → w1.frozen? ⟨b, o, none⟩ = W.frozen? ⟨b, o, none⟩) :=
  ⟨fun b o h => hb.cell (p := ⟨b, o, none⟩) h, fun b o h => hb.frozen (p := ⟨b, o, none⟩) h⟩

def sg (neg : Bool) (N : Int) : Int := if neg then -N else N
/-- A number with its sign: not below 0 by its digits, Z with the sign. -/
def Whole (w : World) (B : Nat) (v : Value) (Z : Int) (s : Nat) : Prop := ∃ neg u N, v = .agg #[.bool neg, u] ∧ Big w 0 B u N s ∧ Z = sg neg N
theorem Whole.below {w w' : World} {B B' s : Nat} {v : Value} {N : Int} (h : Whole w B v N s) (hb : Below B' w w') (hB : B ≤ B') : Whole w' B v N s := by
  obtain ⟨neg, u, M, e, h, e2⟩ := h
  exact ⟨neg, u, M, e, h.below hb hB, e2⟩
theorem Whole.more {w : World} {B B' s s' : Nat} {v : Value} {N : Int} (h : Whole w B v N s) (hB : B ≤ B') (hs : s ≤ s') : Whole w B' v N s' := by
  obtain ⟨neg, u, M, e, h, e2⟩ := h
  exact ⟨neg, u, M, e, h.more (Nat.le_refl _) hB hs, e2⟩
theorem below_alloc3 (w : World) (a b c : Obj) : Below w.heap.size w (((w.alloc a).alloc b).alloc c) :=
  (((Below.refl _ _).alloc (Nat.le_refl _) a).alloc (by simp) b).alloc (by simp; omega) c

theorem sg_mul (a b : Bool) (N M : Int) : sg (!(a == b)) (N * M) = sg a N * sg b M := by
  cases a <;> cases b <;> simp [sg, Int.neg_mul, Int.mul_neg]
/-- a result that lies in the newest of three blocks of the call's own -/
theorem below3_set {w w5 : World} {a b c : Obj} (q : Nat) (hb : Below ((((w.alloc a).alloc b).alloc c).drewN q).heap.size ((((w.alloc a).alloc b).alloc c).drewN q) w5) (v0 v1 : Value) (o0 o1 : Nat) :
    Below w.heap.size w ((w5.setCell ⟨w.heap.size + 1 + 1, o0, none⟩ v0).setCell ⟨w.heap.size + 1 + 1, o1, none⟩ v1) :=
  (((below_drewN (below_alloc3 w a b c) q).trans (hb.mono (by simp; omega))).setCell (by simp; omega) v0).setCell (by simp; omega) v1
theorem cell_at_below {W w1 : World} (hb : Below W.heap.size W w1) (b o : Nat) (v : Value) (h : W.cell? ⟨b, o, none⟩ = some v) : w1.cell? ⟨b, o, none⟩ = some v :=
  (hb.cell (p := ⟨b, o, none⟩) (World.block_lt_of_cell? W _ h)).trans h
theorem free_at_below {W w1 : World} (hb : Below W.heap.size W w1) (b o : Nat) (h : W.frozen? ⟨b, o, none⟩ = false) (hlt : b < W.heap.size) : w1.frozen? ⟨b, o, none⟩ = false :=
  (hb.frozen (p := ⟨b, o, none⟩) hlt).trans h
/-- two boxes of two cells, and a result of two cells, behind a call that leaves what was there -/
theorem keep3 {w w5 : World} {a0 a1 b0 b1 c0 c1 : Value} {t t2 t3 : TypeId} (q : Nat) (hb : Below ((((w.alloc (.cells #[a0, a1] t)).alloc (.cells #[b0, b1] t2)).alloc (.cells #[c0, c1] t3)).drewN q).heap.size ((((w.alloc (.cells #[a0, a1] t)).alloc (.cells #[b0, b1] t2)).alloc (.cells #[c0, c1] t3)).drewN q) w5) :
    w5.cell? ⟨w.heap.size, 0, none⟩ = some a0 ∧ w5.cell? ⟨w.heap.size, 1, none⟩ = some a1 ∧ w5.cell? ⟨w.heap.size + 1, 0, none⟩ = some b0 ∧ w5.cell? ⟨w.heap.size + 1, 1, none⟩ = some b1 ∧
    w5.cell? ⟨w.heap.size + 1 + 1, 0, none⟩ = some c0 ∧ w5.cell? ⟨w.heap.size + 1 + 1, 1, none⟩ = some c1 ∧ w5.frozen? ⟨w.heap.size + 1 + 1, 0, none⟩ = false ∧ w5.frozen? ⟨w.heap.size + 1 + 1, 1, none⟩ = false ∧
    w.heap.size + 1 + 1 + 1 ≤ w5.heap.size :=
  ⟨cell_at_below hb _ _ _ (by go_simp), cell_at_below hb _ _ _ (by go_simp), cell_at_below hb _ _ _ (by go_simp), cell_at_below hb _ _ _ (by go_simp), cell_at_below hb _ _ _ (by go_simp), cell_at_below hb _ _ _ (by go_simp),
   free_at_below hb _ _ (by go_simp) (by simp), free_at_below hb _ _ (by go_simp) (by simp), by have := hb.size; simpa using this⟩

theorem cell_far2 {w : World} {b o g i j : Nat} {v x y : Value} (hne : b ≠ g) (h : w.cell? ⟨b, o, none⟩ = some v) : ((w.setCell ⟨g, i, none⟩ x).setCell ⟨g, j, none⟩ y).cell? ⟨b, o, none⟩ = some v := by
  have hx : ∀ (p q : Addr), p.block = g → q.block = b → q ≠ p := fun p q hp hq e => hne (by rw [← hp, ← hq, e])
  rw [World.cell?_setCell_other _ _ _ _ (by first | exact hx _ _ rfl rfl | exact (hx _ _ rfl rfl).symm), World.cell?_setCell_other _ _ _ _ (by first | exact hx _ _ rfl rfl | exact (hx _ _ rfl rfl).symm)]; exact h
/-- the result's own block holds no digits -/
theorem whole_set {w w5 : World} {a b c : Obj} {v : Value} {N Z : Int} {s : Nat} {neg : Bool} (q : Nat) (h : Big w5 ((((w.alloc a).alloc b).alloc c).drewN q).heap.size w5.heap.size v N s)
    (hb : Below ((((w.alloc a).alloc b).alloc c).drewN q).heap.size ((((w.alloc a).alloc b).alloc c).drewN q) w5) (hz : Z = sg neg N) (v0 v1 : Value) (o0 o1 : Nat) :
    Whole ((w5.setCell ⟨w.heap.size + 1 + 1, o0, none⟩ v0).setCell ⟨w.heap.size + 1 + 1, o1, none⟩ v1) ((w5.setCell ⟨w.heap.size + 1 + 1, o0, none⟩ v0).setCell ⟨w.heap.size + 1 + 1, o1, none⟩ v1).heap.size (.agg #[.bool neg, v]) Z s := by
  have h1 := (h.set_ ⟨w.heap.size + 1 + 1, o0, none⟩ (.inl (by simp)) v0).set_ ⟨w.heap.size + 1 + 1, o1, none⟩ (.inl (by simp)) v1
  exact ⟨neg, v, N, rfl, h1.more (Nat.zero_le _) (by simp [World.setCell]) (Nat.le_refl _), hz⟩
set_option maxHeartbeats 1000000 in
theorem Product_any (va vb : Value) (N M : Int) (s t : Nat) (w : World) (ha : Whole w w.heap.size va N s) (hb : Whole w w.heap.size vb M t) (hs : s ≤ 100000) (ht : t ≤ 100000) :
    Calls Tryz.prog 62 #[va, vb] w fun e w' => (∃ v, e = .returned v ∧ Whole w' w'.heap.size v (N * M) (s + t)) ∧ Below w.heap.size w w' := by
  obtain ⟨na, ua, N, rfl, ha, rfl⟩ := ha
  obtain ⟨nb, ub, M, rfl, hb, rfl⟩ := hb
  obtain ⟨A, n, ca, rfl⟩ := ha.form
  obtain ⟨A2, n2, cb, rfl⟩ := hb.form
  have HA := Lib.hid ha
  have HB := Lib.hid hb
  clear ha hb
  go_enter Tryz.func62, Tryz.ntmps62
  go_wp2_with fail
  go_region_held3 (fun w' => w'.cell? ⟨w.heap.size, 0, none⟩ = some (.bool na) ∧ w'.cell? ⟨w.heap.size, 1, none⟩ = some (.slice A n ca) ∧ w'.cell? ⟨w.heap.size + 1, 0, none⟩ = some (.bool nb) ∧ w'.cell? ⟨w.heap.size + 1, 1, none⟩ = some (.slice A2 n2 cb)) (first | (go_keep; done) | (exact ⟨cell_far2 (by omega) k1, cell_far2 (by omega) k2, cell_far2 (by omega) k3, cell_far2 (by omega) k4⟩))
    (first | (go_at_call 18; refine (Times_any _ _ _ _ _ _ _ (by exact HA.out.up ((below_alloc3 _ _ _ _).drew)) (by exact HB.out.up ((below_alloc3 _ _ _ _).drew)) hs ht).mono ?_; rintro e w5 ⟨⟨v2, rfl, hv2⟩, hb5⟩; obtain ⟨A5, n5, c5, rfl⟩ := hv2.form; have HV2 := Lib.hid hv2; clear hv2; obtain ⟨k1, k2, k3, k4, k5, k6, k7, k8, k9⟩ := keep3 1 hb5))
  go_wp2
  refine bodyPost_ret (v := .agg #[.bool (!(na == nb)), .slice A5 n5 c5]) (by simp [results, Tryz.results62, go_sem, k5, k6]) rfl ?_
  exact ⟨⟨_, rfl, whole_set 1 HV2.out hb5 (sg_mul na nb N M).symm _ _ _ _⟩, below3_set 1 hb5 _ _ _ _⟩

theorem sg_add (a : Bool) (N M : Int) : sg a N + sg a M = sg a (N + M) := by
  cases a <;> simp [sg]; omega
theorem sg_sub {a b : Bool} (h : (a == b) = false) (N M : Int) : sg a N + sg b M = sg a (N - M) := by
  cases a <;> cases b <;> simp [sg] at h ⊢ <;> omega
theorem sg_sub' {a b : Bool} (h : (a == b) = false) (N M : Int) : sg a N + sg b M = sg b (M - N) := by
  cases a <;> cases b <;> simp [sg] at h ⊢ <;> omega

set_option maxHeartbeats 1000000 in
theorem Both_any (va vb : Value) (N M : Int) (s t : Nat) (w : World) (ha : Whole w w.heap.size va N s) (hb : Whole w w.heap.size vb M t) (hs : s ≤ 1000000) (ht : t ≤ 1000000) :
    Calls Tryz.prog 118 #[va, vb] w fun e w' => (∃ v, e = .returned v ∧ Whole w' w'.heap.size v (N + M) (max s t + 1)) ∧ Below w.heap.size w w' := by
  obtain ⟨na, ua, N, rfl, ha, rfl⟩ := ha
  obtain ⟨nb, ub, M, rfl, hb, rfl⟩ := hb
  obtain ⟨A, n, ca, rfl⟩ := ha.form
  obtain ⟨A2, n2, cb, rfl⟩ := hb.form
  have HA := Lib.hid ha
  have HB := Lib.hid hb
  clear ha hb
  by_cases hab : na = nb
  · subst hab
    go_enter Tryz.func118, Tryz.ntmps118
    go_wp2_with fail
    go_region_held3 (fun w' => w'.cell? ⟨w.heap.size, 0, none⟩ = some (.bool na) ∧ w'.cell? ⟨w.heap.size, 1, none⟩ = some (.slice A n ca) ∧ w'.cell? ⟨w.heap.size + 1, 0, none⟩ = some (.bool na) ∧ w'.cell? ⟨w.heap.size + 1, 1, none⟩ = some (.slice A2 n2 cb))
      (first | (go_keep; done) | (exact ⟨cell_far2 (by omega) k1, cell_far2 (by omega) k2, cell_far2 (by omega) k3, cell_far2 (by omega) k4⟩))
      (first | (go_at_call 20; refine (Plus_any _ _ _ _ _ _ _ (by exact HA.out.up ((below_alloc3 _ _ _ _).drew)) (by exact HB.out.up ((below_alloc3 _ _ _ _).drew)) hs ht).mono ?_; rintro e w5 ⟨⟨v2, rfl, hv2⟩, hb5⟩; obtain ⟨A5, n5, c5, rfl⟩ := hv2.form; have HV2 := Lib.hid hv2; clear hv2; obtain ⟨k1, k2, k3, k4, k5, k6, k7, k8, k9⟩ := keep3 1 hb5))
    go_wp2
    refine bodyPost_ret (v := .agg #[.bool na, .slice A5 n5 c5]) (by simp [results, Tryz.results118, go_sem, k5, k6]) rfl ?_
    exact ⟨⟨_, rfl, whole_set 1 HV2.out hb5 (sg_add na N M) _ _ _ _⟩, below3_set 1 hb5 _ _ _ _⟩
  · have hne : (na == nb) = false := by simpa using hab
    have HNE := Lib.hid hne
    clear hab
    by_cases ho : M ≤ N
    · have HO := Lib.hid (show 0 ≤ ord N M by unfold ord; split <;> (try split) <;> omega)
      go_enter Tryz.func118, Tryz.ntmps118
      go_wp2_with fail
      refine (Order_any _ _ N M s t _ (by exact HA.out.up (below_alloc3 _ _ _ _)) (by exact HB.out.up (below_alloc3 _ _ _ _)) hs ht).mono ?_
      rintro e w' ⟨rfl, q, rfl⟩
      have ho2 := HO.out
      go_wp2_with fail
      go_region_held3 (fun w' => w'.cell? ⟨w.heap.size, 0, none⟩ = some (.bool na) ∧ w'.cell? ⟨w.heap.size, 1, none⟩ = some (.slice A n ca) ∧ w'.cell? ⟨w.heap.size + 1, 0, none⟩ = some (.bool nb) ∧ w'.cell? ⟨w.heap.size + 1, 1, none⟩ = some (.slice A2 n2 cb))
        (first | (go_keep; done) | (exact ⟨cell_far2 (by omega) k1, cell_far2 (by omega) k2, cell_far2 (by omega) k3, cell_far2 (by omega) k4⟩))
        (first | (go_at_call 144; refine (Minus_any _ _ N M s t _ (by exact HA.out.up (below_drewN (below_alloc3 _ _ _ _) (q + 1))) (by exact HB.out.up (below_drewN (below_alloc3 _ _ _ _) (q + 1))) hs ho).mono ?_; rintro e w5 ⟨⟨v2, rfl, hv2⟩, hb5⟩; obtain ⟨A5, n5, c5, rfl⟩ := hv2.form; have HV2 := Lib.hid hv2; clear hv2; obtain ⟨k1, k2, k3, k4, k5, k6, k7, k8, k9⟩ := keep3 (q + 1) hb5))
      go_wp2
      refine bodyPost_ret (v := .agg #[.bool na, .slice A5 n5 c5]) (by simp [results, Tryz.results118, go_sem, k5, k6]) rfl ?_
      exact ⟨⟨_, rfl, whole_set (q + 1) (HV2.out.more (Nat.le_refl _) (Nat.le_refl _) (by omega)) hb5 (sg_sub HNE.out N M) _ _ _ _⟩, below3_set (q + 1) hb5 _ _ _ _⟩
    · have HO := Lib.hid (show ord N M < 0 by unfold ord; split <;> (try split) <;> omega)
      go_enter Tryz.func118, Tryz.ntmps118
      go_wp2_with fail
      refine (Order_any _ _ N M s t _ (by exact HA.out.up (below_alloc3 _ _ _ _)) (by exact HB.out.up (below_alloc3 _ _ _ _)) hs ht).mono ?_
      rintro e w' ⟨rfl, q, rfl⟩
      have ho2 := HO.out
      go_wp2_with fail
      go_region_held3 (fun w' => w'.cell? ⟨w.heap.size, 0, none⟩ = some (.bool na) ∧ w'.cell? ⟨w.heap.size, 1, none⟩ = some (.slice A n ca) ∧ w'.cell? ⟨w.heap.size + 1, 0, none⟩ = some (.bool nb) ∧ w'.cell? ⟨w.heap.size + 1, 1, none⟩ = some (.slice A2 n2 cb))
        (first | (go_keep; done) | (exact ⟨cell_far2 (by omega) k1, cell_far2 (by omega) k2, cell_far2 (by omega) k3, cell_far2 (by omega) k4⟩))
        (first | (go_at_call 144; refine (Minus_any _ _ M N t s _ (by exact HB.out.up (below_drewN (below_alloc3 _ _ _ _) (q + 1))) (by exact HA.out.up (below_drewN (below_alloc3 _ _ _ _) (q + 1))) ht (by omega)).mono ?_; rintro e w5 ⟨⟨v2, rfl, hv2⟩, hb5⟩; obtain ⟨A5, n5, c5, rfl⟩ := hv2.form; have HV2 := Lib.hid hv2; clear hv2; obtain ⟨k1, k2, k3, k4, k5, k6, k7, k8, k9⟩ := keep3 (q + 1) hb5))
      go_wp2
      refine bodyPost_ret (v := .agg #[.bool nb, .slice A5 n5 c5]) (by simp [results, Tryz.results118, go_sem, k5, k6]) rfl ?_
      exact ⟨⟨_, rfl, whole_set (q + 1) (HV2.out.more (Nat.le_refl _) (Nat.le_refl _) (by omega)) hb5 (sg_sub' HNE.out N M) _ _ _ _⟩, below3_set (q + 1) hb5 _ _ _ _⟩
end Go.Proofs.YtodiipkedhfncaaGreatDoor.BigZ
