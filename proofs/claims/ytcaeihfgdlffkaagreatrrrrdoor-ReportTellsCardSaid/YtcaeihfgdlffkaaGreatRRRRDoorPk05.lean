/- The walks of copseref01 over numbers of any size with a sign: Int, Both, Product, Turn, Fits, Sub. -/
import Derived.Test.YtcaeihfgdlffkaaGreatRRRRDoorPk04
import Derived.Deep.RegionHeld3
namespace Go.Proofs.YtcaeihfgdlffkaaGreatRRRRDoor.BigZ
set_option linter.unusedVariables false
open Go.RowKit Base BigM BigW

theorem bcell {W w1 : World} (hb : Below W.heap.size W w1) : (∀ b o, b < W.heap.size → w1.cell? ⟨b, o, none⟩ = W.cell? ⟨b, o, none⟩) ∧ (∀ b o, b < W.heap.size → w1.frozen? ⟨b, o, none⟩ = W.frozen? ⟨b, o, none⟩) :=
  ⟨fun b o h => hb.cell (p := ⟨b, o, none⟩) h, fun b o h => hb.frozen (p := ⟨b, o, none⟩) h⟩

def sg (neg : Bool) (N : Int) : Int := if neg then -N else N
/-- A number with its sign: not below 0 by its digits, Z with the sign. -/
def Whole (w : World) (B : Nat) (v : Value) (Z : Int) (s : Nat) : Prop := ∃ neg u N, v = .agg #[.bool neg, u] ∧ Big w 0 B u N s ∧ Z = sg neg N
theorem Whole.below {w w' : World} {B B' s : Nat} {v : Value} {N : Int} (h : Whole w B v N s) (hb : Below B' w w') (hB : B ≤ B') : Whole w' B v N s := by
  obtain ⟨neg, u, M, e, h, e2⟩ := h
  exact ⟨neg, u, M, e, h.below hb hB, e2⟩
theorem Whole.more {w : World} {B B' s s' : Nat} {v : Value} {N : Int} (h : Whole w B v N s) (hB : B ≤ B') (hs : s ≤ s') : Whole w B' v N s' := by
  obtain ⟨neg, u, M, e, h, e2⟩ := h
  exact ⟨neg, u, M, e, h.more (Nat.le_refl _) hB hs, e2⟩
theorem below_alloc3 (w : World) (a b c : Obj) : Below w.heap.size w (((w.alloc a).alloc b).alloc c) :=
  (((Below.refl _ _).alloc (Nat.le_refl _) a).alloc (by simp) b).alloc (by simp; omega) c

theorem sg_mul (a b : Bool) (N M : Int) : sg (!(a == b)) (N * M) = sg a N * sg b M := by
  cases a <;> cases b <;> simp [sg, Int.neg_mul, Int.mul_neg]
/-- a result that lies in the newest of three blocks of the call's own -/
theorem below3_set {w w5 : World} {a b c : Obj} (q : Nat) (hb : Below ((((w.alloc a).alloc b).alloc c).drewN q).heap.size ((((w.alloc a).alloc b).alloc c).drewN q) w5) (v0 v1 : Value) (o0 o1 : Nat) :
    Below w.heap.size w ((w5.setCell ⟨w.heap.size + 1 + 1, o0, none⟩ v0).setCell ⟨w.heap.size + 1 + 1, o1, none⟩ v1) :=
  (((below_drewN (below_alloc3 w a b c) q).trans (hb.mono (by simp; omega))).setCell (by simp; omega) v0).setCell (by simp; omega) v1
theorem cell_at_below {W w1 : World} (hb : Below W.heap.size W w1) (b o : Nat) (v : Value) (h : W.cell? ⟨b, o, none⟩ = some v) : w1.cell? ⟨b, o, none⟩ = some v :=
  (hb.cell (p := ⟨b, o, none⟩) (World.block_lt_of_cell? W _ h)).trans h
theorem free_at_below {W w1 : World} (hb : Below W.heap.size W w1) (b o : Nat) (h : W.frozen? ⟨b, o, none⟩ = false) (hlt : b < W.heap.size) : w1.frozen? ⟨b, o, none⟩ = false :=
  (hb.frozen (p := ⟨b, o, none⟩) hlt).trans h
/-- two boxes of two cells, and a result of two cells, behind a call that leaves what was there -/
theorem keep3 {w w5 : World} {a0 a1 b0 b1 c0 c1 : Value} {t t2 t3 : TypeId} (q : Nat) (hb : Below ((((w.alloc (.cells #[a0, a1] t)).alloc (.cells #[b0, b1] t2)).alloc (.cells #[c0, c1] t3)).drewN q).heap.size ((((w.alloc (.cells #[a0, a1] t)).alloc (.cells #[b0, b1] t2)).alloc (.cells #[c0, c1] t3)).drewN q) w5) :
    w5.cell? ⟨w.heap.size, 0, none⟩ = some a0 ∧ w5.cell? ⟨w.heap.size, 1, none⟩ = some a1 ∧ w5.cell? ⟨w.heap.size + 1, 0, none⟩ = some b0 ∧ w5.cell? ⟨w.heap.size + 1, 1, none⟩ = some b1 ∧
    w5.cell? ⟨w.heap.size + 1 + 1, 0, none⟩ = some c0 ∧ w5.cell? ⟨w.heap.size + 1 + 1, 1, none⟩ = some c1 ∧ w5.frozen? ⟨w.heap.size + 1 + 1, 0, none⟩ = false ∧ w5.frozen? ⟨w.heap.size + 1 + 1, 1, none⟩ = false ∧
    w.heap.size + 1 + 1 + 1 ≤ w5.heap.size :=
  ⟨cell_at_below hb _ _ _ (by go_simp), cell_at_below hb _ _ _ (by go_simp), cell_at_below hb _ _ _ (by go_simp), cell_at_below hb _ _ _ (by go_simp), cell_at_below hb _ _ _ (by go_simp), cell_at_below hb _ _ _ (by go_simp),
   free_at_below hb _ _ (by go_simp) (by simp), free_at_below hb _ _ (by go_simp) (by simp), by have := hb.size; simpa using this⟩

theorem cell_far2 {w : World} {b o g i j : Nat} {v x y : Value} (hne : b ≠ g) (h : w.cell? ⟨b, o, none⟩ = some v) : ((w.setCell ⟨g, i, none⟩ x).setCell ⟨g, j, none⟩ y).cell? ⟨b, o, none⟩ = some v := by
  have hx : ∀ (p q : Addr), p.block = g → q.block = b → q ≠ p := fun p q hp hq e => hne (by rw [← hp, ← hq, e])
  rw [World.cell?_setCell_other _ _ _ _ (by first | exact hx _ _ rfl rfl | exact (hx _ _ rfl rfl).symm), World.cell?_setCell_other _ _ _ _ (by first | exact hx _ _ rfl rfl | exact (hx _ _ rfl rfl).symm)]; exact h
/-- the result's own block holds no digits -/
theorem whole_set {w w5 : World} {a b c : Obj} {v : Value} {N Z : Int} {s : Nat} {neg : Bool} (q : Nat) (h : Big w5 ((((w.alloc a).alloc b).alloc c).drewN q).heap.size w5.heap.size v N s)
    (hb : Below ((((w.alloc a).alloc b).alloc c).drewN q).heap.size ((((w.alloc a).alloc b).alloc c).drewN q) w5) (hz : Z = sg neg N) (v0 v1 : Value) (o0 o1 : Nat) :
    Whole ((w5.setCell ⟨w.heap.size + 1 + 1, o0, none⟩ v0).setCell ⟨w.heap.size + 1 + 1, o1, none⟩ v1) ((w5.setCell ⟨w.heap.size + 1 + 1, o0, none⟩ v0).setCell ⟨w.heap.size + 1 + 1, o1, none⟩ v1).heap.size (.agg #[.bool neg, v]) Z s := by
  have h1 := (h.set_ ⟨w.heap.size + 1 + 1, o0, none⟩ (.inl (by simp)) v0).set_ ⟨w.heap.size + 1 + 1, o1, none⟩ (.inl (by simp)) v1
  exact ⟨neg, v, N, rfl, h1.more (Nat.zero_le _) (by simp [World.setCell]) (Nat.le_refl _), hz⟩
set_option maxHeartbeats 1000000 in
theorem Product_any (va vb : Value) (N M : Int) (s t : Nat) (w : World) (ha : Whole w w.heap.size va N s) (hb : Whole w w.heap.size vb M t) (hs : s ≤ 100000) (ht : t ≤ 100000) :
    Calls Tryz.prog 140 #[va, vb] w fun e w' => (∃ v, e = .returned v ∧ Whole w' w'.heap.size v (N * M) (s + t)) ∧ Below w.heap.size w w' := by
  obtain ⟨na, ua, N, rfl, ha, rfl⟩ := ha
  obtain ⟨nb, ub, M, rfl, hb, rfl⟩ := hb
  obtain ⟨A, n, ca, rfl⟩ := ha.form
  obtain ⟨A2, n2, cb, rfl⟩ := hb.form
  have HA := Lib.hid ha
  have HB := Lib.hid hb
  clear ha hb
  go_enter Tryz.func140, Tryz.ntmps140
  go_wp2_with fail
  go_region_held3 (fun w' => w'.cell? ⟨w.heap.size, 0, none⟩ = some (.bool na) ∧ w'.cell? ⟨w.heap.size, 1, none⟩ = some (.slice A n ca) ∧ w'.cell? ⟨w.heap.size + 1, 0, none⟩ = some (.bool nb) ∧ w'.cell? ⟨w.heap.size + 1, 1, none⟩ = some (.slice A2 n2 cb)) (first | (go_keep; done) | (exact ⟨cell_far2 (by omega) k1, cell_far2 (by omega) k2, cell_far2 (by omega) k3, cell_far2 (by omega) k4⟩))
    (first | (go_at_call 57; refine (Times_any _ _ _ _ _ _ _ (by exact HA.out.up ((below_alloc3 _ _ _ _).drew)) (by exact HB.out.up ((below_alloc3 _ _ _ _).drew)) hs ht).mono ?_; rintro e w5 ⟨⟨v2, rfl, hv2⟩, hb5⟩; obtain ⟨A5, n5, c5, rfl⟩ := hv2.form; have HV2 := Lib.hid hv2; clear hv2; obtain ⟨k1, k2, k3, k4, k5, k6, k7, k8, k9⟩ := keep3 1 hb5))
  go_wp2
  refine bodyPost_ret (v := .agg #[.bool (!(na == nb)), .slice A5 n5 c5]) (by simp [results, Tryz.results140, go_sem, k5, k6]) rfl ?_
  exact ⟨⟨_, rfl, whole_set 1 HV2.out hb5 (sg_mul na nb N M).symm _ _ _ _⟩, below3_set 1 hb5 _ _ _ _⟩

theorem sg_add (a : Bool) (N M : Int) : sg a N + sg a M = sg a (N + M) := by
  cases a <;> simp [sg]; omega
theorem sg_sub {a b : Bool} (h : (a == b) = false) (N M : Int) : sg a N + sg b M = sg a (N - M) := by
  cases a <;> cases b <;> simp [sg] at h ⊢ <;> omega
theorem sg_sub' {a b : Bool} (h : (a == b) = false) (N M : Int) : sg a N + sg b M = sg b (M - N) := by
  cases a <;> cases b <;> simp [sg] at h ⊢ <;> omega

set_option maxHeartbeats 1000000 in
theorem Both_any (va vb : Value) (N M : Int) (s t : Nat) (w : World) (ha : Whole w w.heap.size va N s) (hb : Whole w w.heap.size vb M t) (hs : s ≤ 1000000) (ht : t ≤ 1000000) :
    Calls Tryz.prog 89 #[va, vb] w fun e w' => (∃ v, e = .returned v ∧ Whole w' w'.heap.size v (N + M) (max s t + 1)) ∧ Below w.heap.size w w' := by
  obtain ⟨na, ua, N, rfl, ha, rfl⟩ := ha
  obtain ⟨nb, ub, M, rfl, hb, rfl⟩ := hb
  obtain ⟨A, n, ca, rfl⟩ := ha.form
  obtain ⟨A2, n2, cb, rfl⟩ := hb.form
  have HA := Lib.hid ha
  have HB := Lib.hid hb
  clear ha hb
  by_cases hab : na = nb
  · subst hab
    go_enter Tryz.func89, Tryz.ntmps89
    go_wp2_with fail
    go_region_held3 (fun w' => w'.cell? ⟨w.heap.size, 0, none⟩ = some (.bool na) ∧ w'.cell? ⟨w.heap.size, 1, none⟩ = some (.slice A n ca) ∧ w'.cell? ⟨w.heap.size + 1, 0, none⟩ = some (.bool na) ∧ w'.cell? ⟨w.heap.size + 1, 1, none⟩ = some (.slice A2 n2 cb))
      (first | (go_keep; done) | (exact ⟨cell_far2 (by omega) k1, cell_far2 (by omega) k2, cell_far2 (by omega) k3, cell_far2 (by omega) k4⟩))
      (first | (go_at_call 92; refine (Plus_any _ _ _ _ _ _ _ (by exact HA.out.up ((below_alloc3 _ _ _ _).drew)) (by exact HB.out.up ((below_alloc3 _ _ _ _).drew)) hs ht).mono ?_; rintro e w5 ⟨⟨v2, rfl, hv2⟩, hb5⟩; obtain ⟨A5, n5, c5, rfl⟩ := hv2.form; have HV2 := Lib.hid hv2; clear hv2; obtain ⟨k1, k2, k3, k4, k5, k6, k7, k8, k9⟩ := keep3 1 hb5))
    go_wp2
    refine bodyPost_ret (v := .agg #[.bool na, .slice A5 n5 c5]) (by simp [results, Tryz.results89, go_sem, k5, k6]) rfl ?_
    exact ⟨⟨_, rfl, whole_set 1 HV2.out hb5 (sg_add na N M) _ _ _ _⟩, below3_set 1 hb5 _ _ _ _⟩
  · have hne : (na == nb) = false := by simpa using hab
    have HNE := Lib.hid hne
    clear hab
    by_cases ho : M ≤ N
    · have HO := Lib.hid (show 0 ≤ ord N M by unfold ord; split <;> (try split) <;> omega)
      go_enter Tryz.func89, Tryz.ntmps89
      go_wp2_with fail
      refine (Order_any _ _ N M s t _ (by exact HA.out.up (below_alloc3 _ _ _ _)) (by exact HB.out.up (below_alloc3 _ _ _ _)) hs ht).mono ?_
      rintro e w' ⟨rfl, q, rfl⟩
      have ho2 := HO.out
      go_wp2_with fail
      go_region_held3 (fun w' => w'.cell? ⟨w.heap.size, 0, none⟩ = some (.bool na) ∧ w'.cell? ⟨w.heap.size, 1, none⟩ = some (.slice A n ca) ∧ w'.cell? ⟨w.heap.size + 1, 0, none⟩ = some (.bool nb) ∧ w'.cell? ⟨w.heap.size + 1, 1, none⟩ = some (.slice A2 n2 cb))
        (first | (go_keep; done) | (exact ⟨cell_far2 (by omega) k1, cell_far2 (by omega) k2, cell_far2 (by omega) k3, cell_far2 (by omega) k4⟩))
        (first | (go_at_call 123; refine (Minus_any _ _ N M s t _ (by exact HA.out.up (below_drewN (below_alloc3 _ _ _ _) (q + 1))) (by exact HB.out.up (below_drewN (below_alloc3 _ _ _ _) (q + 1))) hs ho).mono ?_; rintro e w5 ⟨⟨v2, rfl, hv2⟩, hb5⟩; obtain ⟨A5, n5, c5, rfl⟩ := hv2.form; have HV2 := Lib.hid hv2; clear hv2; obtain ⟨k1, k2, k3, k4, k5, k6, k7, k8, k9⟩ := keep3 (q + 1) hb5))
      go_wp2
      refine bodyPost_ret (v := .agg #[.bool na, .slice A5 n5 c5]) (by simp [results, Tryz.results89, go_sem, k5, k6]) rfl ?_
      exact ⟨⟨_, rfl, whole_set (q + 1) (HV2.out.more (Nat.le_refl _) (Nat.le_refl _) (by omega)) hb5 (sg_sub HNE.out N M) _ _ _ _⟩, below3_set (q + 1) hb5 _ _ _ _⟩
    · have HO := Lib.hid (show ord N M < 0 by unfold ord; split <;> (try split) <;> omega)
      go_enter Tryz.func89, Tryz.ntmps89
      go_wp2_with fail
      refine (Order_any _ _ N M s t _ (by exact HA.out.up (below_alloc3 _ _ _ _)) (by exact HB.out.up (below_alloc3 _ _ _ _)) hs ht).mono ?_
      rintro e w' ⟨rfl, q, rfl⟩
      have ho2 := HO.out
      go_wp2_with fail
      go_region_held3 (fun w' => w'.cell? ⟨w.heap.size, 0, none⟩ = some (.bool na) ∧ w'.cell? ⟨w.heap.size, 1, none⟩ = some (.slice A n ca) ∧ w'.cell? ⟨w.heap.size + 1, 0, none⟩ = some (.bool nb) ∧ w'.cell? ⟨w.heap.size + 1, 1, none⟩ = some (.slice A2 n2 cb))
        (first | (go_keep; done) | (exact ⟨cell_far2 (by omega) k1, cell_far2 (by omega) k2, cell_far2 (by omega) k3, cell_far2 (by omega) k4⟩))
        (first | (go_at_call 123; refine (Minus_any _ _ M N t s _ (by exact HB.out.up (below_drewN (below_alloc3 _ _ _ _) (q + 1))) (by exact HA.out.up (below_drewN (below_alloc3 _ _ _ _) (q + 1))) ht (by omega)).mono ?_; rintro e w5 ⟨⟨v2, rfl, hv2⟩, hb5⟩; obtain ⟨A5, n5, c5, rfl⟩ := hv2.form; have HV2 := Lib.hid hv2; clear hv2; obtain ⟨k1, k2, k3, k4, k5, k6, k7, k8, k9⟩ := keep3 (q + 1) hb5))
      go_wp2
      refine bodyPost_ret (v := .agg #[.bool nb, .slice A5 n5 c5]) (by simp [results, Tryz.results89, go_sem, k5, k6]) rfl ?_
      exact ⟨⟨_, rfl, whole_set (q + 1) (HV2.out.more (Nat.le_refl _) (Nat.le_refl _) (by omega)) hb5 (sg_sub' HNE.out N M) _ _ _ _⟩, below3_set (q + 1) hb5 _ _ _ _⟩
end Go.Proofs.YtcaeihfgdlffkaaGreatRRRRDoor.BigZ

/- The walks of copseref01.Turn, Int, Fits, Sub. -/
namespace Go.Proofs.YtcaeihfgdlffkaaGreatRRRRDoor.BigZ
set_option linter.unusedVariables false
open Go.RowKit Base BigM BigW

theorem sg_not (a : Bool) (N : Int) : sg (!a) N = -sg a N := by cases a <;> simp [sg]
theorem below_alloc2 (w : World) (a b : Obj) : Below w.heap.size w ((w.alloc a).alloc b) :=
  ((Below.refl _ _).alloc (Nat.le_refl _) a).alloc (by simp) b
theorem below_alloc1 (w : World) (a : Obj) : Below w.heap.size w (w.alloc a) := (Below.refl _ _).alloc (Nat.le_refl _) a

set_option maxHeartbeats 1000000 in
theorem Turn_any (va : Value) (N : Int) (s : Nat) (w : World) (ha : Whole w w.heap.size va N s) :
    Calls Tryz.prog 91 #[va] w fun e w' => (∃ v, e = .returned v ∧ Whole w' w'.heap.size v (-N) s) ∧ Below w.heap.size w w' := by
  obtain ⟨na, ua, N, rfl, ha, rfl⟩ := ha
  obtain ⟨A, n, ca, rfl⟩ := ha.form
  have HA := Lib.hid ha
  clear ha
  go_enter Tryz.func91, Tryz.ntmps91
  go_wp2
  refine bodyPost_ret (v := .agg #[.bool (!na), .slice A n ca]) (by simp [results, Tryz.results91, go_sem]) rfl ?_
  exact ⟨⟨_, rfl, ⟨_, _, _, rfl, HA.out.up (below_alloc2 _ _ _), (sg_not na N).symm⟩⟩, below_alloc2 _ _ _⟩

/-- a block of two cells, behind a call that leaves what was there -/
theorem keepR {W0 w5 : World} (hb : Below W0.heap.size W0 w5) {r : Nat} {c0 c1 : Value} (h0 : W0.cell? ⟨r, 0, none⟩ = some c0) (h1 : W0.cell? ⟨r, 1, none⟩ = some c1) (f0 : W0.frozen? ⟨r, 0, none⟩ = false) (f1 : W0.frozen? ⟨r, 1, none⟩ = false) :
    w5.cell? ⟨r, 0, none⟩ = some c0 ∧ w5.cell? ⟨r, 1, none⟩ = some c1 ∧ w5.frozen? ⟨r, 0, none⟩ = false ∧ w5.frozen? ⟨r, 1, none⟩ = false ∧ r + 1 ≤ w5.heap.size := by
  have hr := World.block_lt_of_cell? W0 _ h0
  exact ⟨cell_at_below hb _ _ _ h0, cell_at_below hb _ _ _ h1, free_at_below hb _ _ f0 hr, free_at_below hb _ _ f1 hr, by have := hb.size; simp at hr; omega⟩
theorem below_setR {w W0 w5 : World} (h : Below w.heap.size w W0) (hb : Below W0.heap.size W0 w5) {r : Nat} (hr : w.heap.size ≤ r) (v0 v1 : Value) (o0 o1 : Nat) :
    Below w.heap.size w ((w5.setCell ⟨r, o0, none⟩ v0).setCell ⟨r, o1, none⟩ v1) := ((h.trans (hb.mono h.size)).setCell hr v0).setCell hr v1
theorem whole_setR {W0 w5 : World} {v : Value} {N Z : Int} {s : Nat} {neg : Bool} (h : Big w5 W0.heap.size w5.heap.size v N s) {r : Nat} (hr : r < W0.heap.size) (hz : Z = sg neg N) (v0 v1 : Value) (o0 o1 : Nat) :
    Whole ((w5.setCell ⟨r, o0, none⟩ v0).setCell ⟨r, o1, none⟩ v1) ((w5.setCell ⟨r, o0, none⟩ v0).setCell ⟨r, o1, none⟩ v1).heap.size (.agg #[.bool neg, v]) Z s := by
  have h1 := (h.set_ ⟨r, o0, none⟩ (.inl hr) v0).set_ ⟨r, o1, none⟩ (.inl hr) v1
  exact ⟨neg, v, N, rfl, h1.more (Nat.zero_le _) (by simp [World.setCell]) (Nat.le_refl _), hz⟩

set_option maxHeartbeats 1000000 in
theorem Int_any (n : Int) (w : World) (h0 : -9223372036854775808 ≤ n) (h1 : n ≤ 9223372036854775807) :
    Calls Tryz.prog 90 #[.int .i64 n] w fun e w' => (∃ v, e = .returned v ∧ Whole w' w'.heap.size v n 4) ∧ Below w.heap.size w w' := by
  by_cases hn : n < 0
  · go_enter Tryz.func90, Tryz.ntmps90
    go_wp2_with fail
    refine (Of_any _ _ (by omega) (by omega)).mono ?_
    rintro e w5 ⟨⟨v2, rfl, hv2⟩, hb5⟩
    obtain ⟨A5, n5, c5, rfl⟩ := hv2.form
    have HV2 := Lib.hid hv2
    clear hv2
    obtain ⟨k1, k2, k3, k4, k5⟩ := keepR hb5 (r := w.heap.size) (by go_simp; rfl) (by go_simp; rfl) (by go_simp) (by go_simp)
    go_wp2
    refine bodyPost_ret (v := .agg #[.bool true, .slice A5 n5 c5]) (by simp [results, Tryz.results90, go_sem, k1, k2]) rfl ?_
    exact ⟨⟨_, rfl, whole_setR HV2.out (by simp) (by simp [sg]; omega) _ _ _ _⟩, below_setR (below_alloc1 _ _) hb5 (Nat.le_refl _) _ _ _ _⟩
  · go_enter Tryz.func90, Tryz.ntmps90
    go_wp2_with fail
    refine (Of_any _ _ (by omega) (by omega)).mono ?_
    rintro e w5 ⟨⟨v2, rfl, hv2⟩, hb5⟩
    obtain ⟨A5, n5, c5, rfl⟩ := hv2.form
    have HV2 := Lib.hid hv2
    clear hv2
    obtain ⟨k1, k2, k3, k4, k5⟩ := keepR hb5 (r := w.heap.size) (by go_simp; rfl) (by go_simp; rfl) (by go_simp) (by go_simp)
    go_wp2
    refine bodyPost_ret (v := .agg #[.bool false, .slice A5 n5 c5]) (by simp [results, Tryz.results90, go_sem, k1, k2]) rfl ?_
    exact ⟨⟨_, rfl, whole_setR HV2.out (by simp) (by simp [sg]) _ _ _ _⟩, below_setR (below_alloc1 _ _) hb5 (Nat.le_refl _) _ _ _ _⟩

def two63 : Int := 9223372036854775808
def FitsRel (neg : Bool) (N : Int) (l : List Int) (n i : Value) : Prop :=
  (i = .int .i64 (-1) ∧ n = .int .i64 (sg neg N)) ∨ ∃ j : Nat, j < l.length ∧ i = .int .i64 j ∧ n = .int .i64 (sg neg (val (l.drop (j + 1))))
theorem fits_next {neg : Bool} {N : Int} {l : List Int} {j : Nat} (hj : j < l.length) (hv : val l = N) (n i : Int) (hn : n = sg neg (val (l.drop j))) (hi : i = (j : Int) - 1) : FitsRel neg N l (.int .i64 n) (.int .i64 i) := by
  subst hn hi
  cases j with
  | zero => exact .inl ⟨rfl, by simp [hv]⟩
  | succ j => exact .inr ⟨j, by omega, by go_num, rfl⟩

set_option maxHeartbeats 2000000 in
theorem Fits_any (va : Value) (Z : Int) (s : Nat) (w : World) (ha : Whole w w.heap.size va Z s) (hs : s ≤ 1000000) :
    Calls Tryz.prog 88 #[va] w fun e w' => e = .returned (.tuple #[.int .i64 (fitsV Z), .int .i64 (fitsE Z)]) ∧ Below w.heap.size w w' := by
  obtain ⟨neg, ua, N, rfl, ha, hZ⟩ := ha
  have h0N := ha.nonneg
  obtain ⟨A, n, ca, l, rfl, hat⟩ := ha
  have hns := hat.small
  have HAT := Lib.hid hat
  have HA := Lib.hid (show Big w 0 w.heap.size (.slice A n ca) N s from ⟨A, n, ca, l, rfl, hat⟩)
  have HZ := Lib.hid hZ
  clear hat hZ
  go_enter Tryz.func88, Tryz.ntmps88
  go_wp2_with fail
  refine (Of_any _ _ (by omega) (by omega)).mono ?_
  rintro e w5 ⟨⟨v2, rfl, hv2⟩, hb5⟩
  obtain ⟨A5, n5, c5, rfl⟩ := hv2.form
  have HV2 := Lib.hid hv2
  clear hv2
  obtain ⟨k1, k2, k3, k4, k5⟩ := keepR hb5 (r := w.heap.size) (by go_simp; rfl) (by go_simp; rfl) (by go_simp) (by go_simp)
  go_wp2_with fail
  refine (Order_any _ _ N two63 s 4 _ (by exact HA.out.up ((below_alloc1 _ _).trans (hb5.mono (below_alloc1 _ _).size))) (by exact HV2.out.more (Nat.zero_le _) (Nat.le_refl _) (Nat.le_refl _)) hs (by omega)).mono ?_
  rintro e w6 ⟨rfl, q, rfl⟩
  obtain ⟨o, ho⟩ : ∃ o, ord N two63 = o := ⟨_, rfl⟩
  rw [ho]
  have hcase : (o = -1 ∧ N < two63) ∨ (o = 0 ∧ N = two63) ∨ (o = 1 ∧ two63 < N) := by
    rw [← ho]
    rcases Int.lt_trichotomy N two63 with h | h | h
    · exact .inl ⟨ord_lt h, h⟩
    · exact .inr (.inl ⟨ord_eq h, h⟩)
    · exact .inr (.inr ⟨ord_gt h, h⟩)
  have HB5 := Lib.hid ((below_alloc1 w (.cells #[.bool neg, .slice A n ca] 140)).trans (hb5.mono (below_alloc1 _ _).size))
  clear ho hb5
  by_cases hout : (o = 1) ∨ (o = 0 ∧ neg = false)
  · have HE := Lib.hid (fits_out (z := Z) (by rw [HZ.out]; unfold two63 at hcase; cases neg <;> simp [sg] at hout ⊢ <;> omega))
    rcases hcase with ⟨rfl, h⟩ | ⟨rfl, h⟩ | ⟨rfl, h⟩
    · exfalso; simp at hout
    · obtain rfl : neg = false := by simpa using hout
      clear h hout
      go_wp2
      go_ret2
      exact ⟨ret_int2 HE.out.1.symm HE.out.2.symm, below_drewN HB5.out q⟩
    · clear h hout
      go_wp2
      go_ret2
      exact ⟨ret_int2 HE.out.1.symm HE.out.2.symm, below_drewN HB5.out q⟩
  · have hN : (neg = true → N ≤ 9223372036854775808) ∧ (neg = false → N ≤ 9223372036854775807) := by
      unfold two63 at hcase; cases neg <;> simp at hout ⊢ <;> omega
    have HE := Lib.hid (fits_in (z := Z) (by rw [HZ.out]; cases neg <;> simp [sg] at hN ⊢ <;> omega) (by rw [HZ.out]; cases neg <;> simp [sg] at hN ⊢ <;> omega))
    have HN := Lib.hid hN
    have hog : o ≤ 0 := by omega
    have hoz : o = 0 → neg = true := by intro h; subst h; simpa using hout
    have HB6 := Lib.hid (below_drewN HB5.out q)
    have HRD := Lib.hid (HAT.out.rd.below HB6.out)
    have HL := Lib.hid HAT.out.len
    have H0 : FitsRel neg N l (.int .i64 0) (.int .i64 ((n : Int) - 1)) := by
      cases n with
      | zero =>
        have : l = [] := List.eq_nil_of_length_eq_zero HL.out
        subst this
        have hv := HAT.out.val
        simp [val] at hv
        exact .inl ⟨rfl, by rw [← hv]; cases neg <;> rfl⟩
      | succ n => exact .inr ⟨n, by rw [HL.out]; omega, by go_num, by rw [List.drop_of_length_le (by rw [HL.out]; omega)]; cases neg <;> rfl⟩
    have H0 := Lib.hid H0
    have k1' : (w5.drewN q).cell? ⟨w.heap.size, 0, none⟩ = some (.bool neg) := k1
    have k2' : (w5.drewN q).cell? ⟨w.heap.size, 1, none⟩ = some (.slice A n ca) := k2
    clear k1 k2 k3 k4 hN hcase hout
    generalize hW : w5.drewN q = W at *
    have HW := Lib.hid hW
    clear hW
    cases neg
    all_goals
      by_cases hz : o = 0
      all_goals first
        | (exfalso; have := hoz hz; cases this; done)
        | skip
      all_goals
        have hz2 : (o == 0) = decide (o = 0) := rfl
        clear hoz
        first
        | (subst hz; go_wp2)
        | (have hz3 : (o == 0) = false := by simpa using hz
           clear hz hz2
           go_wp2)
        go_loop [6, 7] (fun m i => FitsRel _ N l m i) (fun _ i => (intOf i + 1).toNat)
        case atStart => exact H0.out
        case round =>
          rcases hrel with ⟨rfl, rfl⟩ | ⟨j, hj, rfl, rfl⟩
          · go_wp2
            go_ret2
            exact ⟨ret_int2 (by rw [HE.out.1, HZ.out]) HE.out.2.symm, HB6.out⟩
          · have hjn : j < n := by rw [HL.out] at hj; exact hj
            obtain ⟨ad, d, rfl, hbl, hcell, HX⟩ := rd_at HRD.out hjn
            have hdd : 0 ≤ d ∧ d < 65536 := by rw [← HX.out]; exact dig_getD HAT.out.canon.1 j
            have hvd := val_drop l j hj
            rw [HX.out] at hvd
            have hle := val_drop_le HAT.out.canon.1 j (by omega)
            rw [HAT.out.val] at hle
            have hv0 := val_nonneg (dig_drop HAT.out.canon.1 (j + 1))
            have HJ := Lib.hid hj
            obtain ⟨V, hV⟩ : ∃ V, val (l.drop (j + 1)) = V := ⟨_, rfl⟩
            rw [hV] at hvd hv0
            rw [hvd] at hle
            have HVD := Lib.hid hvd
            have HVV := Lib.hid hV
            have hN := HN.out
            simp only [sg, hV]
            simp at hN
            clear hvd hj hV
            go_wp2
            exact ⟨fits_next HJ.out HAT.out.val _ _ (by rw [HVD.out]; simp only [sg]; first | (simp; omega) | omega) rfl, by simp only [intOf]; omega⟩
end Go.Proofs.YtcaeihfgdlffkaaGreatRRRRDoor.BigZ

/- Reports, plainly: the spread of all pairs, numbers in their order, the root bit by bit. No program is in sight. -/
namespace Go.Proofs.YtcaeihfgdlffkaaGreatRRRRDoor.RptM
set_option linter.unusedVariables false
set_option linter.unusedSimpArgs false

/-! ### Sums -/
def sum1 (l : List Int) : Int := l.foldl (· + ·) 0
def sum2 (l : List Int) : Int := l.foldl (fun a x => a + x * x) 0
def apart (x : Int) (l : List Int) : Int := l.foldl (fun a y => a + (x - y) * (x - y)) 0
theorem sum1_snoc (l : List Int) (x : Int) : sum1 (l ++ [x]) = sum1 l + x := by unfold sum1; rw [List.foldl_append]; rfl
theorem sum2_snoc (l : List Int) (x : Int) : sum2 (l ++ [x]) = sum2 l + x * x := by unfold sum2; rw [List.foldl_append]; rfl
theorem apart_snoc (x : Int) (l : List Int) (y : Int) : apart x (l ++ [y]) = apart x l + (x - y) * (x - y) := by unfold apart; rw [List.foldl_append]; rfl
/-- lists from their end -/
theorem snoc_ind {α : Type} {p : List α → Prop} (h0 : p []) (h : ∀ l x, p l → p (l ++ [x])) : ∀ l, p l := by
  intro l
  have : ∀ n, ∀ l : List α, l.length = n → p l := by
    intro n
    induction n with
    | zero => intro l hl; rw [List.eq_nil_of_length_eq_zero hl]; exact h0
    | succ n ih =>
      intro l hl
      have hne : l ≠ [] := fun e => by rw [e] at hl; simp at hl
      rw [← List.dropLast_concat_getLast hne]
      exact h _ _ (ih _ (by rw [List.length_dropLast]; omega))
  exact this _ l rfl
theorem apart_eq (x : Int) (l : List Int) : apart x l = (l.length : Int) * (x * x) - 2 * x * sum1 l + sum2 l := by
  induction l using snoc_ind with
  | h0 => simp [apart, sum1, sum2]
  | h l y ih =>
    rw [apart_snoc, ih, sum1_snoc, sum2_snoc, List.length_append]
    simp only [List.length_cons, List.length_nil, Int.natCast_add, Int.natCast_one, Int.natCast_zero, Int.zero_add]
    grind
/-- of all pairs how far they are apart, squared, together: one after the other as they come -/
def pairs : List Int → List Int → Int
  | _, [] => 0
  | done, x :: r => apart x done + pairs (done ++ [x]) r
theorem pairs_append (l m done : List Int) : pairs done (l ++ m) = pairs done l + pairs (done ++ l) m := by
  induction l generalizing done with
  | nil => simp [pairs]
  | cons x l ih => rw [List.cons_append, pairs, pairs, ih]; simp; omega
theorem pairs_snoc (l : List Int) (x : Int) : pairs [] (l ++ [x]) = pairs [] l + apart x l := by
  rw [pairs_append]
  simp [pairs]
/-- THE SPREAD: so many times the squares of all together, less the square of all together -/
theorem spread_eq (l : List Int) : pairs [] l = (l.length : Int) * sum2 l - sum1 l * sum1 l := by
  induction l using snoc_ind with
  | h0 => simp [pairs, sum1, sum2]
  | h l x ih =>
    rw [pairs_snoc, ih, apart_eq, sum1_snoc, sum2_snoc, List.length_append]
    simp only [List.length_cons, List.length_nil, Int.natCast_add, Int.natCast_one, Int.natCast_zero, Int.zero_add]
    grind
theorem apart_ge (x : Int) (l : List Int) : 0 ≤ apart x l := by
  induction l using snoc_ind with
  | h0 => simp [apart]
  | h l y ih =>
    rw [apart_snoc]
    have : 0 ≤ (x - y) * (x - y) := by
      rcases Int.le_total 0 (x - y) with h | h
      · exact Int.mul_nonneg h h
      · exact Int.mul_nonneg_of_nonpos_of_nonpos h h
    omega
theorem pairs_ge (l : List Int) : ∀ done, 0 ≤ pairs done l := by
  induction l with
  | nil => intro _; simp [pairs]
  | cons x l ih =>
    intro done
    have := apart_ge x done
    have := ih (done ++ [x])
    rw [pairs]; omega
theorem sum2_le (B : Int) (hB : 0 ≤ B) (l : List Int) (h : ∀ x ∈ l, x * x ≤ B) : 0 ≤ sum2 l ∧ sum2 l ≤ (l.length : Int) * B := by
  induction l using snoc_ind with
  | h0 => simp [sum2]
  | h l x ih =>
    have h1 := ih (fun y hy => h y (by simp [hy]))
    have h2 := h x (by simp)
    have h3 : 0 ≤ x * x := by
      rcases Int.le_total 0 x with h | h
      · exact Int.mul_nonneg h h
      · exact Int.mul_nonneg_of_nonpos_of_nonpos h h
    rw [sum2_snoc, List.length_append]
    simp only [List.length_cons, List.length_nil, Int.natCast_add, Int.natCast_one, Int.natCast_zero, Int.zero_add]
    rw [Int.add_mul, Int.one_mul]
    omega
/-- moved by as much, the spread stays -/
theorem apart_move (by_ x : Int) (l : List Int) : apart (x + by_) (l.map (· + by_)) = apart x l := by
  induction l using snoc_ind with
  | h0 => rfl
  | h l y ih =>
    rw [List.map_append, List.map_cons, List.map_nil, apart_snoc, apart_snoc, ih]
    rw [show x + by_ - (y + by_) = x - y by omega]
theorem pairs_move (by_ : Int) (l : List Int) : ∀ done, pairs (done.map (· + by_)) (l.map (· + by_)) = pairs done l := by
  induction l with
  | nil => intro _; rfl
  | cons x l ih =>
    intro done
    rw [List.map_cons, pairs, pairs, apart_move]
    have := ih (done ++ [x])
    rw [List.map_append, List.map_cons, List.map_nil] at this
    rw [this]
/-- the spread is 0 just of what is all the same -/
theorem apart_zero {x : Int} {l : List Int} : apart x l = 0 ↔ ∀ y ∈ l, y = x := by
  induction l using snoc_ind with
  | h0 => simp [apart]
  | h l y ih =>
    rw [apart_snoc]
    have h1 := apart_ge x l
    have h2 : 0 ≤ (x - y) * (x - y) := by
      rcases Int.le_total 0 (x - y) with h | h
      · exact Int.mul_nonneg h h
      · exact Int.mul_nonneg_of_nonpos_of_nonpos h h
    constructor
    · intro h z hz
      have h3 : apart x l = 0 := by omega
      have h4 : (x - y) * (x - y) = 0 := by omega
      rcases List.mem_append.1 hz with hz | hz
      · exact ih.1 h3 z hz
      · rw [List.mem_singleton.1 hz]
        rcases Int.mul_eq_zero.1 h4 with h5 | h5 <;> omega
    · intro h
      have h3 := ih.2 (fun z hz => h z (by simp [hz]))
      have h4 := h y (by simp)
      rw [h3, h4]; simp
theorem pairs_zero (l : List Int) : ∀ done : List Int, pairs done l = 0 → (∀ x ∈ done, ∀ y ∈ done, x = y) → ∀ x ∈ done ++ l, ∀ y ∈ done ++ l, x = y := by
  induction l with
  | nil => intro done _ h; simpa using h
  | cons z l ih =>
    intro done hp h
    rw [pairs] at hp
    have h1 := apart_ge z done
    have h2 := pairs_ge l (done ++ [z])
    have h3 : apart z done = 0 := by omega
    have h4 : pairs (done ++ [z]) l = 0 := by omega
    have h5 := apart_zero.1 h3
    have := ih (done ++ [z]) h4 (fun x hx y hy => by
      rcases List.mem_append.1 hx with hx | hx <;> rcases List.mem_append.1 hy with hy | hy
      · exact h x hx y hy
      · rw [List.mem_singleton.1 hy]; exact h5 x hx
      · rw [List.mem_singleton.1 hx]; exact (h5 y hy).symm
      · rw [List.mem_singleton.1 hx, List.mem_singleton.1 hy])
    intro x hx y hy
    exact this x (by simpa using hx) y (by simpa using hy)
theorem pairs_same {l : List Int} : ∀ done : List Int, (∀ x ∈ done ++ l, ∀ y ∈ done ++ l, x = y) → pairs done l = 0 := by
  induction l with
  | nil => intro _ _; rfl
  | cons z l ih =>
    intro done h
    rw [pairs, apart_zero.2 (fun y hy => h y (by simp [hy]) z (by simp)), ih (done ++ [z]) (by simpa using h)]
    rfl
/-! ### Numbers in their order -/
def insR (x : Int) : List Int → List Int
  | [] => [x]
  | y :: r => if y ≤ x then y :: insR x r else x :: y :: r
def sortR (l : List Int) : List Int := l.foldl (fun o x => insR x o) []
theorem insR_perm (x : Int) : ∀ l, (insR x l).Perm (x :: l)
  | [] => .refl _
  | y :: r => by
    rw [insR]
    split
    · exact ((insR_perm x r).cons y).trans (.swap x y r)
    · exact .refl _
theorem insR_mem {x z : Int} {l : List Int} (h : z ∈ insR x l) : z = x ∨ z ∈ l := by
  have := (insR_perm x l).mem_iff.1 h
  simpa using this
theorem insR_sorted (x : Int) : ∀ l : List Int, l.Pairwise (· ≤ ·) → (insR x l).Pairwise (· ≤ ·)
  | [], _ => by simp [insR]
  | y :: r, h => by
    rw [insR]
    have h' := List.pairwise_cons.1 h
    split
    · rename_i hy
      refine List.pairwise_cons.2 ⟨fun z hz => ?_, insR_sorted x r h'.2⟩
      rcases insR_mem hz with rfl | hz
      · exact hy
      · exact h'.1 z hz
    · rename_i hy
      refine List.pairwise_cons.2 ⟨fun z hz => ?_, h⟩
      rcases List.mem_cons.1 hz with rfl | hz
      · omega
      · have := h'.1 z hz; omega
theorem sortR_snoc (l : List Int) (x : Int) : sortR (l ++ [x]) = insR x (sortR l) := by unfold sortR; rw [List.foldl_append]; rfl
theorem sortR_perm (l : List Int) : (sortR l).Perm l := by
  induction l using snoc_ind with
  | h0 => exact .refl _
  | h l x ih => rw [sortR_snoc]; exact ((insR_perm x _).trans (ih.cons x)).trans (List.perm_append_singleton x l).symm
theorem sortR_sorted (l : List Int) : (sortR l).Pairwise (· ≤ ·) := by
  induction l using snoc_ind with
  | h0 => exact .nil
  | h l x ih => rw [sortR_snoc]; exact insR_sorted x _ ih
/-- two rising lists of the same numbers are one -/
theorem sorted_eq : ∀ {l m : List Int}, l.Perm m → l.Pairwise (· ≤ ·) → m.Pairwise (· ≤ ·) → l = m
  | [], m, h, _, _ => (List.perm_nil.1 h.symm).symm ▸ rfl
  | x :: l, [], h, _, _ => by have := h.length_eq; simp at this
  | x :: l, y :: m, h, h1, h2 => by
    have h1' := List.pairwise_cons.1 h1
    have h2' := List.pairwise_cons.1 h2
    have hxy : x = y := by
      have hx : x ∈ y :: m := h.mem_iff.1 (by simp)
      have hy : y ∈ x :: l := h.mem_iff.2 (by simp)
      rcases List.mem_cons.1 hx with hx | hx
      · exact hx
      · rcases List.mem_cons.1 hy with hy | hy
        · exact hy.symm
        · have := h2'.1 x hx; have := h1'.1 y hy; omega
    subst hxy
    rw [sorted_eq (List.Perm.cons_inv h) h1'.2 h2'.2]
/-! ### The root, bit by bit -/
def rootS (a r k : Nat) : Nat := if (r + 2 ^ k) * (r + 2 ^ k) ≤ a then r + 2 ^ k else r
/-- from bit k - 1 down -/
def rootK (a : Nat) : Nat → Nat → Nat
  | 0, r => r
  | k + 1, r => rootK a k (rootS a r k)
theorem rootK_ok (a : Nat) : ∀ (k r : Nat), r * r ≤ a → a < (r + 2 ^ k) * (r + 2 ^ k) → rootK a k r * rootK a k r ≤ a ∧ a < (rootK a k r + 1) * (rootK a k r + 1)
  | 0, r, h1, h2 => ⟨h1, by rw [rootK]; simpa using h2⟩
  | k + 1, r, h1, h2 => by
    rw [rootK]
    unfold rootS
    split
    · rename_i h
      refine rootK_ok a k _ h ?_
      rw [Nat.pow_succ] at h2
      rw [show r + 2 ^ k + 2 ^ k = r + 2 ^ k * 2 by omega]
      exact h2
    · rename_i h
      exact rootK_ok a k r h1 (by omega)
def rootF (a : Nat) : Nat := rootK a 64 0
theorem rootF_ok {a : Nat} (h : a < 340282366920938463463374607431768211456) : rootF a * rootF a ≤ a ∧ a < (rootF a + 1) * (rootF a + 1) := rootK_ok a 64 0 (by omega) (by simpa using h)
theorem rootF_lt {a : Nat} (h : a < 340282366920938463463374607431768211456) : rootF a < 18446744073709551616 := by
  have h1 := (rootF_ok h).1
  rcases Nat.lt_or_ge (rootF a) 18446744073709551616 with h2 | h2
  · exact h2
  · have := Nat.mul_le_mul h2 h2; omega
/-- the deviation: so many times, squared, it is no more than the spread, and one more is -/
theorem dev_low {a n : Nat} (h : a < 340282366920938463463374607431768211456) : (rootF a / n * n) * (rootF a / n * n) ≤ a :=
  Nat.le_trans (Nat.mul_le_mul (Nat.div_mul_le_self _ _) (Nat.div_mul_le_self _ _)) (rootF_ok h).1
theorem dev_high {a n : Nat} (hn : 0 < n) (h : a < 340282366920938463463374607431768211456) : a < (rootF a / n * n + n) * (rootF a / n * n + n) := by
  have h1 : rootF a + 1 ≤ rootF a / n * n + n := by
    have h2 := Nat.div_add_mod (rootF a) n
    have h3 := Nat.mod_lt (rootF a) hn
    rw [Nat.mul_comm (rootF a / n) n]
    omega
  exact Nat.lt_of_lt_of_le (rootF_ok h).2 (Nat.mul_le_mul h1 h1)
end Go.Proofs.YtcaeihfgdlffkaaGreatRRRRDoor.RptM
