/- Lines in memory: a line's cells, its rows; sameAsk and Same, of the program and of the reference. -/
import Derived.Test.YtchgfabgighbfaaGreatDoorEqlW
import Derived.Test.YtchgfabgighbfaaGreatDoorScrA
namespace Go.Proofs.YtchgfabgighbfaaGreatDoor.LinV
set_option linter.unusedVariables false
open Go.RowKit Base SeqM ScrM EqlW

/-- a line with the values of its slices -/
structure LnR where
  xv : Value
  dv : Value
  kv : Value
  ln : Ln
def cfC (c : Cf) : List Value := [.int .i64 c.c0, .int .i64 c.c1, .int .i64 c.c2, .int .i64 c.c3, .int .i64 c.c4, .int .i64 c.c5, .int .i64 c.c6, .int .i64 c.c7, .int .i64 c.c8, .int .i64 c.c9, .int .i64 c.c10]
def akC (xv : Value) (a : Ak) : List Value := [.int .i64 a.kind, .int .i64 a.id, xv, .int .i64 a.n, .int .i64 a.m]
def lnC (r : LnR) : List Value := .int .i64 r.ln.kind :: (cfC r.ln.cf ++ (akC r.xv r.ln.ak ++ [r.dv, .int .i64 r.ln.n, r.kv]))
theorem lnC_len (r : LnR) : (lnC r).length = 20 := rfl
/-- its rows lie in a world -/
structure LnIn (w : World) (lo B : Nat) (r : LnR) : Prop where
  xs : Seq 1 inC w lo B r.xv r.ln.ak.xs
  ds : Seq 1 u6C w lo B r.dv r.ln.draws
  ks : Seq 2 kpC w lo B r.kv r.ln.kept
theorem LnIn.below {w w' : World} {lo B : Nat} {r : LnR} (h : LnIn w lo B r) (hb : Below B w w') : LnIn w' lo B r := ⟨h.xs.below hb, h.ds.below hb, h.ks.below hb⟩
theorem LnIn.more {w : World} {lo lo' B B' : Nat} {r : LnR} (h : LnIn w lo B r) (hl : lo' ≤ lo) (hB : B ≤ B') : LnIn w lo' B' r := ⟨h.xs.more hl hB, h.ds.more hl hB, h.ks.more hl hB⟩
theorem LnIn.up {w w' : World} {lo : Nat} {r : LnR} (h : LnIn w lo w.heap.size r) (hb : Below w.heap.size w w') : LnIn w' lo w'.heap.size r := (h.below hb).more (Nat.le_refl _) hb.size
open Classical in
noncomputable def sameAkB (a b : Ak) : Bool := decide (a = b)
open Classical in
noncomputable def sameLB (a b : Ln) : Bool := decide (a = b)
theorem sameAk_yes {a b : Ak} (h : a = b) : sameAkB a b = true := by unfold sameAkB; simpa using h
theorem sameAk_no {a b : Ak} (h : a ≠ b) : sameAkB a b = false := by unfold sameAkB; simpa using h
theorem sameL_yes {a b : Ln} (h : a = b) : sameLB a b = true := by unfold sameLB; simpa using h
theorem sameL_no {a b : Ln} (h : a ≠ b) : sameLB a b = false := by unfold sameLB; simpa using h
theorem cell_of {W : World} {b o : Nat} {cs : Array Value} {t : TypeId} {fz : Nat × Nat} {u : Value} (h : W.heap[b]? = some (.cells cs t fz)) (hu : cs[o]? = some u) : W.cell? ⟨b, o, none⟩ = some u := by
  simp [World.cell?, h, hu]
theorem box2 {w w1 : World} {T N : Array Value} {t t' : TypeId} (hb : Below ((w.alloc (.cells T t)).alloc (.cells N t')).heap.size ((w.alloc (.cells T t)).alloc (.cells N t')) w1) :
    w1.heap[w.heap.size]? = some (.cells T t (0, 0)) ∧ w1.heap[w.heap.size + 1]? = some (.cells N t' (0, 0)) := by
  refine ⟨(hb.block _ (by simp; omega)).trans ((Below.heap_alloc _ _ _ (by simp)).trans (heap_alloc_new w _)), (hb.block _ (by simp)).trans ?_⟩
  have := heap_alloc_new (w.alloc (.cells T t)) (.cells N t')
  simpa using this
set_option maxHeartbeats 2000000 in
set_option maxRecDepth 100000 in
theorem sameAsk_any (xv yv : Value) (a b : Ak) (lo lo' : Nat) (w : World) (h : Seq 1 inC w lo w.heap.size xv a.xs) (h' : Seq 1 inC w lo' w.heap.size yv b.xs) :
    Calls Tryz.prog 26 #[.agg (akC xv a).toArray, .agg (akC yv b).toArray] w fun e w' => e = .returned (.bool (sameAkB a b)) ∧ Below w.heap.size w w' := by
  have HE := Lib.hid (fun (W : World) (hb : Below w.heap.size w W) => EqI_any xv yv a.xs b.xs lo lo' W.heap.size W.heap.size W (h.up hb) (h'.up hb))
  obtain ⟨k1, i1, x1, n1, m1⟩ := a
  obtain ⟨k2, i2, x2, n2, m2⟩ := b
  unfold akC
  dsimp only at HE ⊢
  clear h h'
  by_cases ek : k1 = k2
  · subst ek
    by_cases ei : i1 = i2
    · subst ei
      by_cases en : n1 = n2
      · subst en
        by_cases em : m1 = m2
        · subst em
          have F := Lib.hid (show sameAkB ⟨k1, i1, x1, n1, m1⟩ ⟨k1, i1, x2, n1, m1⟩ = decide (x1 = x2) by
            by_cases hx : x1 = x2
            · rw [sameAk_yes (by rw [hx]), decide_eq_true hx]
            · rw [sameAk_no (fun e => hx (by injection e)), decide_eq_false hx])
          go_enter Tryz.func26, Tryz.ntmps26
          go_wp2_with fail
          refine (HE.out _ (below_a2 _ _ _)).mono ?_
          rintro e w1 ⟨rfl, q, rfl⟩
          go_wp2_with fail
          go_ret
          exact ⟨by rw [F.out]; rfl, below_drewN (below_a2 _ _ _) q⟩
        · have F := Lib.hid (sameAk_no (a := ⟨k1, i1, x1, n1, m1⟩) (b := ⟨k1, i1, x2, n1, m2⟩) (fun e => em (by injection e)))
          have hq : (m1 == m2) = false := beq_eq_false_iff_ne.2 em
          clear em
          go_enter Tryz.func26, Tryz.ntmps26
          go_wp2_with fail
          go_ret
          exact ⟨by rw [F.out]; rfl, below_a2 _ _ _⟩
      · have F := Lib.hid (sameAk_no (a := ⟨k1, i1, x1, n1, m1⟩) (b := ⟨k1, i1, x2, n2, m2⟩) (fun e => en (by injection e)))
        have hq : (n1 == n2) = false := beq_eq_false_iff_ne.2 en
        clear en
        go_enter Tryz.func26, Tryz.ntmps26
        go_wp2_with fail
        go_ret
        exact ⟨by rw [F.out]; rfl, below_a2 _ _ _⟩
    · have F := Lib.hid (sameAk_no (a := ⟨k1, i1, x1, n1, m1⟩) (b := ⟨k1, i2, x2, n2, m2⟩) (fun e => ei (by injection e)))
      have hq : (i1 == i2) = false := beq_eq_false_iff_ne.2 ei
      clear ei
      go_enter Tryz.func26, Tryz.ntmps26
      go_wp2_with fail
      go_ret
      exact ⟨by rw [F.out]; rfl, below_a2 _ _ _⟩
  · have F := Lib.hid (sameAk_no (a := ⟨k1, i1, x1, n1, m1⟩) (b := ⟨k2, i2, x2, n2, m2⟩) (fun e => ek (by injection e)))
    have hq : (k1 == k2) = false := beq_eq_false_iff_ne.2 ek
    clear ek
    go_enter Tryz.func26, Tryz.ntmps26
    go_wp2_with fail
    go_ret
    exact ⟨by rw [F.out]; rfl, below_a2 _ _ _⟩
set_option maxHeartbeats 2000000 in
set_option maxRecDepth 100000 in
theorem RSameAsk_any (xv yv : Value) (a b : Ak) (lo lo' : Nat) (w : World) (h : Seq 1 inC w lo w.heap.size xv a.xs) (h' : Seq 1 inC w lo' w.heap.size yv b.xs) :
    Calls Tryz.prog 29 #[.agg (akC xv a).toArray, .agg (akC yv b).toArray] w fun e w' => e = .returned (.bool (sameAkB a b)) ∧ Below w.heap.size w w' := by
  have HE := Lib.hid (fun (W : World) (hb : Below w.heap.size w W) => RSameI_any xv yv a.xs b.xs lo lo' W.heap.size W.heap.size W (h.up hb) (h'.up hb))
  obtain ⟨k1, i1, x1, n1, m1⟩ := a
  obtain ⟨k2, i2, x2, n2, m2⟩ := b
  unfold akC
  dsimp only at HE ⊢
  clear h h'
  by_cases ek : k1 = k2
  · subst ek
    by_cases ei : i1 = i2
    · subst ei
      by_cases en : n1 = n2
      · subst en
        by_cases em : m1 = m2
        · subst em
          have F := Lib.hid (show sameAkB ⟨k1, i1, x1, n1, m1⟩ ⟨k1, i1, x2, n1, m1⟩ = decide (x1 = x2) by
            by_cases hx : x1 = x2
            · rw [sameAk_yes (by rw [hx]), decide_eq_true hx]
            · rw [sameAk_no (fun e => hx (by injection e)), decide_eq_false hx])
          go_enter Tryz.func29, Tryz.ntmps29
          go_wp2_with fail
          refine (HE.out _ (below_a2 _ _ _)).mono ?_
          rintro e w1 ⟨rfl, q, rfl⟩
          go_wp2_with fail
          go_ret
          exact ⟨by rw [F.out]; rfl, below_drewN (below_a2 _ _ _) q⟩
        · have F := Lib.hid (sameAk_no (a := ⟨k1, i1, x1, n1, m1⟩) (b := ⟨k1, i1, x2, n1, m2⟩) (fun e => em (by injection e)))
          have hq : (m1 == m2) = false := beq_eq_false_iff_ne.2 em
          clear em
          go_enter Tryz.func29, Tryz.ntmps29
          go_wp2_with fail
          go_ret
          exact ⟨by rw [F.out]; rfl, below_a2 _ _ _⟩
      · have F := Lib.hid (sameAk_no (a := ⟨k1, i1, x1, n1, m1⟩) (b := ⟨k1, i1, x2, n2, m2⟩) (fun e => en (by injection e)))
        have hq : (n1 == n2) = false := beq_eq_false_iff_ne.2 en
        clear en
        go_enter Tryz.func29, Tryz.ntmps29
        go_wp2_with fail
        go_ret
        exact ⟨by rw [F.out]; rfl, below_a2 _ _ _⟩
    · have F := Lib.hid (sameAk_no (a := ⟨k1, i1, x1, n1, m1⟩) (b := ⟨k1, i2, x2, n2, m2⟩) (fun e => ei (by injection e)))
      have hq : (i1 == i2) = false := beq_eq_false_iff_ne.2 ei
      clear ei
      go_enter Tryz.func29, Tryz.ntmps29
      go_wp2_with fail
      go_ret
      exact ⟨by rw [F.out]; rfl, below_a2 _ _ _⟩
  · have F := Lib.hid (sameAk_no (a := ⟨k1, i1, x1, n1, m1⟩) (b := ⟨k2, i2, x2, n2, m2⟩) (fun e => ek (by injection e)))
    have hq : (k1 == k2) = false := beq_eq_false_iff_ne.2 ek
    clear ek
    go_enter Tryz.func29, Tryz.ntmps29
    go_wp2_with fail
    go_ret
    exact ⟨by rw [F.out]; rfl, below_a2 _ _ _⟩
set_option maxHeartbeats 4000000 in
set_option maxRecDepth 100000 in
theorem Same_any (ra rb : LnR) (lo lo' : Nat) (w : World) (h : LnIn w lo w.heap.size ra) (h' : LnIn w lo' w.heap.size rb) :
    Calls Tryz.prog 11 #[.agg (lnC ra).toArray, .agg (lnC rb).toArray] w fun e w' => e = .returned (.bool (sameLB ra.ln rb.ln)) ∧ Below w.heap.size w w' := by
  have HA := Lib.hid (fun (W : World) (hb : Below w.heap.size w W) => sameAsk_any ra.xv rb.xv ra.ln.ak rb.ln.ak lo lo' W (h.up hb).xs (h'.up hb).xs)
  have HU := Lib.hid (fun (W : World) (hb : Below w.heap.size w W) => EqU_any ra.dv rb.dv ra.ln.draws rb.ln.draws lo lo' W.heap.size W.heap.size W (h.up hb).ds (h'.up hb).ds)
  have HK := Lib.hid (fun (W : World) (hb : Below w.heap.size w W) => EqK_any ra.kv rb.kv ra.ln.kept rb.ln.kept lo lo' W.heap.size W.heap.size W (h.up hb).ks (h'.up hb).ks)
  clear h h'
  obtain ⟨xv, dv, kv, k1, cf, ak, dr, n1, kp⟩ := ra
  obtain ⟨yv, ev, lv, k2, df, bk, er, n2, lp⟩ := rb
  unfold lnC
  dsimp only at HA HU HK ⊢
  have HX := Lib.hid (show ∀ x y : Ln, x ≠ y → sameLB x y = false from fun x y h => sameL_no h)
  by_cases ek : k1 = k2
  · subst ek
    by_cases ec : cf = df
    · subst ec
      obtain ⟨c0, c1, c2, c3, c4, c5, c6, c7, c8, c9, c10⟩ := cf
      by_cases en : n1 = n2
      · subst en
        by_cases ea : ak = bk
        · subst ea
          rw [sameAk_yes rfl] at HA
          by_cases eu : dr = er
          · subst eu
            rw [decide_eq_true rfl] at HU
            have F := Lib.hid (show sameLB ⟨k1, ⟨c0, c1, c2, c3, c4, c5, c6, c7, c8, c9, c10⟩, ak, dr, n1, kp⟩ ⟨k1, ⟨c0, c1, c2, c3, c4, c5, c6, c7, c8, c9, c10⟩, ak, dr, n1, lp⟩ = decide (kp = lp) by
              by_cases hx : kp = lp
              · rw [sameL_yes (by rw [hx]), decide_eq_true hx]
              · rw [sameL_no (fun e => hx (by injection e)), decide_eq_false hx])
            unfold akC at HA
            unfold cfC akC
            obtain ⟨a1, a2, a3, a4, a5⟩ := ak
            dsimp only [List.cons_append, List.nil_append] at HA ⊢
            go_enter Tryz.func11, Tryz.ntmps11
            go_wp2_with fail
            refine (HA.out _ (below_a2 _ _ _)).mono ?_
            rintro e w1 ⟨rfl, hb⟩
            have HB := Lib.hid (bt hb (below_a2 w _ _))
            obtain ⟨k0, k1'⟩ := box2 hb
            have HB0 := Lib.hid (And.intro k0 k1')
            have z3 := cell_of k0 (o := 17) rfl
            have z5 := cell_of k0 (o := 19) rfl
            have y3 := cell_of k1' (o := 17) rfl
            have y5 := cell_of k1' (o := 19) rfl
            have lz : w.heap.size < w1.heap.size := (Array.getElem?_eq_some_iff.1 k0).1
            have lz1 : w.heap.size + 1 < w1.heap.size := (Array.getElem?_eq_some_iff.1 k1').1
            clear hb k0 k1'
            go_wp2_with fail
            refine (HU.out _ HB.out).mono ?_
            rintro e w2 ⟨rfl, q, rfl⟩
            have HB2 := Lib.hid (below_drewN HB.out q)
            clear z3 y3 z5 y5
            obtain ⟨k0, k1'⟩ := HB0.out
            have z5 : (w1.drewN q).cell? ⟨w.heap.size, 19, none⟩ = _ := cell_of k0 (o := 19) rfl
            have y5 : (w1.drewN q).cell? ⟨w.heap.size + 1, 19, none⟩ = _ := cell_of k1' (o := 19) rfl
            clear k0 k1'
            go_wp2_with fail
            refine (HK.out _ HB2.out).mono ?_
            rintro e w3 ⟨rfl, q3, rfl⟩
            have HB3 := Lib.hid (below_drewN HB2.out q3)
            go_wp2_with fail
            go_ret
            exact ⟨by rw [F.out]; rfl, below_drewN HB.out (q + q3)⟩
          · have F := Lib.hid (HX.out ⟨k1, ⟨c0, c1, c2, c3, c4, c5, c6, c7, c8, c9, c10⟩, ak, dr, n1, kp⟩ ⟨k1, ⟨c0, c1, c2, c3, c4, c5, c6, c7, c8, c9, c10⟩, ak, er, n1, lp⟩ (fun e => eu (by injection e)))
            rw [decide_eq_false eu] at HU
            clear eu
            unfold akC at HA
            unfold cfC akC
            obtain ⟨a1, a2, a3, a4, a5⟩ := ak
            dsimp only [List.cons_append, List.nil_append] at HA ⊢
            go_enter Tryz.func11, Tryz.ntmps11
            go_wp2_with fail
            refine (HA.out _ (below_a2 _ _ _)).mono ?_
            rintro e w1 ⟨rfl, hb⟩
            have HB := Lib.hid (bt hb (below_a2 w _ _))
            obtain ⟨k0, k1'⟩ := box2 hb
            have HB0 := Lib.hid (And.intro k0 k1')
            have z3 := cell_of k0 (o := 17) rfl
            have z5 := cell_of k0 (o := 19) rfl
            have y3 := cell_of k1' (o := 17) rfl
            have y5 := cell_of k1' (o := 19) rfl
            have lz : w.heap.size < w1.heap.size := (Array.getElem?_eq_some_iff.1 k0).1
            have lz1 : w.heap.size + 1 < w1.heap.size := (Array.getElem?_eq_some_iff.1 k1').1
            clear hb k0 k1'
            go_wp2_with fail
            refine (HU.out _ HB.out).mono ?_
            rintro e w2 ⟨rfl, q, rfl⟩
            have HB2 := Lib.hid (below_drewN HB.out q)
            go_wp2_with fail
            go_ret
            exact ⟨by rw [F.out]; rfl, HB2.out⟩
        · have F := Lib.hid (HX.out ⟨k1, ⟨c0, c1, c2, c3, c4, c5, c6, c7, c8, c9, c10⟩, ak, dr, n1, kp⟩ ⟨k1, ⟨c0, c1, c2, c3, c4, c5, c6, c7, c8, c9, c10⟩, bk, er, n1, lp⟩ (fun e => ea (by injection e)))
          rw [sameAk_no ea] at HA
          clear ea
          unfold akC at HA
          unfold cfC akC
          obtain ⟨a1, a2, a3, a4, a5⟩ := ak
          obtain ⟨b1, b2, b3, b4, b5⟩ := bk
          dsimp only [List.cons_append, List.nil_append] at HA ⊢
          go_enter Tryz.func11, Tryz.ntmps11
          go_wp2_with fail
          refine (HA.out _ (below_a2 _ _ _)).mono ?_
          rintro e w1 ⟨rfl, hb⟩
          have HB := Lib.hid (bt hb (below_a2 w _ _))
          clear hb
          go_wp2_with fail
          go_ret
          exact ⟨by rw [F.out]; rfl, HB.out⟩
      · have F := Lib.hid (HX.out ⟨k1, ⟨c0, c1, c2, c3, c4, c5, c6, c7, c8, c9, c10⟩, ak, dr, n1, kp⟩ ⟨k1, ⟨c0, c1, c2, c3, c4, c5, c6, c7, c8, c9, c10⟩, bk, er, n2, lp⟩ (fun e => en (by injection e)))
        have hq : (n1 == n2) = false := beq_eq_false_iff_ne.2 en
        clear en HA
        unfold cfC akC
        obtain ⟨a1, a2, a3, a4, a5⟩ := ak
        obtain ⟨b1, b2, b3, b4, b5⟩ := bk
        dsimp only [List.cons_append, List.nil_append]
        go_enter Tryz.func11, Tryz.ntmps11
        go_wp2_with fail
        go_ret
        exact ⟨by rw [F.out]; rfl, below_a2 _ _ _⟩
    · have F := Lib.hid (HX.out ⟨k1, cf, ak, dr, n1, kp⟩ ⟨k1, df, bk, er, n2, lp⟩ (fun e => ec (by injection e)))
      obtain ⟨c0, c1, c2, c3, c4, c5, c6, c7, c8, c9, c10⟩ := cf
      obtain ⟨d0, d1, d2, d3, d4, d5, d6, d7, d8, d9, d10⟩ := df
      have EC := Lib.hid ec
      clear ec HA
      unfold cfC akC
      obtain ⟨a1, a2, a3, a4, a5⟩ := ak
      obtain ⟨b1, b2, b3, b4, b5⟩ := bk
      dsimp only [List.cons_append, List.nil_append]
      go_enter Tryz.func11, Tryz.ntmps11
      go_wp2_with fail
      all_goals first
        | (go_ret; exact ⟨by rw [F.out]; rfl, below_a2 _ _ _⟩)
        | (exact absurd (by simp only [Cf.mk.injEq]; omega) EC.out)
  · have F := Lib.hid (HX.out ⟨k1, cf, ak, dr, n1, kp⟩ ⟨k2, df, bk, er, n2, lp⟩ (fun e => ek (by injection e)))
    have hq : (k1 == k2) = false := beq_eq_false_iff_ne.2 ek
    clear ek HA
    unfold cfC akC
    obtain ⟨a1, a2, a3, a4, a5⟩ := ak
    obtain ⟨b1, b2, b3, b4, b5⟩ := bk
    dsimp only [List.cons_append, List.nil_append]
    go_enter Tryz.func11, Tryz.ntmps11
    go_wp2_with fail
    go_ret
    exact ⟨by rw [F.out]; rfl, below_a2 _ _ _⟩
set_option maxHeartbeats 4000000 in
set_option maxRecDepth 100000 in
theorem RSame_any (ra rb : LnR) (lo lo' : Nat) (w : World) (h : LnIn w lo w.heap.size ra) (h' : LnIn w lo' w.heap.size rb) :
    Calls Tryz.prog 12 #[.agg (lnC ra).toArray, .agg (lnC rb).toArray] w fun e w' => e = .returned (.bool (sameLB ra.ln rb.ln)) ∧ Below w.heap.size w w' := by
  have HA := Lib.hid (fun (W : World) (hb : Below w.heap.size w W) => RSameAsk_any ra.xv rb.xv ra.ln.ak rb.ln.ak lo lo' W (h.up hb).xs (h'.up hb).xs)
  have HU := Lib.hid (fun (W : World) (hb : Below w.heap.size w W) => RSameU_any ra.dv rb.dv ra.ln.draws rb.ln.draws lo lo' W.heap.size W.heap.size W (h.up hb).ds (h'.up hb).ds)
  have HK := Lib.hid (fun (W : World) (hb : Below w.heap.size w W) => RSameK_any ra.kv rb.kv ra.ln.kept rb.ln.kept lo lo' W.heap.size W.heap.size W (h.up hb).ks (h'.up hb).ks)
  clear h h'
  obtain ⟨xv, dv, kv, k1, cf, ak, dr, n1, kp⟩ := ra
  obtain ⟨yv, ev, lv, k2, df, bk, er, n2, lp⟩ := rb
  unfold lnC
  dsimp only at HA HU HK ⊢
  have HX := Lib.hid (show ∀ x y : Ln, x ≠ y → sameLB x y = false from fun x y h => sameL_no h)
  by_cases ek : k1 = k2
  · subst ek
    by_cases ec : cf = df
    · subst ec
      obtain ⟨c0, c1, c2, c3, c4, c5, c6, c7, c8, c9, c10⟩ := cf
      by_cases en : n1 = n2
      · subst en
        by_cases ea : ak = bk
        · subst ea
          rw [sameAk_yes rfl] at HA
          by_cases eu : dr = er
          · subst eu
            rw [decide_eq_true rfl] at HU
            have F := Lib.hid (show sameLB ⟨k1, ⟨c0, c1, c2, c3, c4, c5, c6, c7, c8, c9, c10⟩, ak, dr, n1, kp⟩ ⟨k1, ⟨c0, c1, c2, c3, c4, c5, c6, c7, c8, c9, c10⟩, ak, dr, n1, lp⟩ = decide (kp = lp) by
              by_cases hx : kp = lp
              · rw [sameL_yes (by rw [hx]), decide_eq_true hx]
              · rw [sameL_no (fun e => hx (by injection e)), decide_eq_false hx])
            unfold akC at HA
            unfold cfC akC
            obtain ⟨a1, a2, a3, a4, a5⟩ := ak
            dsimp only [List.cons_append, List.nil_append] at HA ⊢
            go_enter Tryz.func12, Tryz.ntmps12
            go_wp2_with fail
            refine (HA.out _ (below_a2 _ _ _)).mono ?_
            rintro e w1 ⟨rfl, hb⟩
            have HB := Lib.hid (bt hb (below_a2 w _ _))
            obtain ⟨k0, k1'⟩ := box2 hb
            have HB0 := Lib.hid (And.intro k0 k1')
            have z3 := cell_of k0 (o := 17) rfl
            have z5 := cell_of k0 (o := 19) rfl
            have y3 := cell_of k1' (o := 17) rfl
            have y5 := cell_of k1' (o := 19) rfl
            have lz : w.heap.size < w1.heap.size := (Array.getElem?_eq_some_iff.1 k0).1
            have lz1 : w.heap.size + 1 < w1.heap.size := (Array.getElem?_eq_some_iff.1 k1').1
            clear hb k0 k1'
            go_wp2_with fail
            refine (HU.out _ HB.out).mono ?_
            rintro e w2 ⟨rfl, q, rfl⟩
            have HB2 := Lib.hid (below_drewN HB.out q)
            clear z3 y3 z5 y5
            obtain ⟨k0, k1'⟩ := HB0.out
            have z5 : (w1.drewN q).cell? ⟨w.heap.size, 19, none⟩ = _ := cell_of k0 (o := 19) rfl
            have y5 : (w1.drewN q).cell? ⟨w.heap.size + 1, 19, none⟩ = _ := cell_of k1' (o := 19) rfl
            clear k0 k1'
            go_wp2_with fail
            refine (HK.out _ HB2.out).mono ?_
            rintro e w3 ⟨rfl, q3, rfl⟩
            have HB3 := Lib.hid (below_drewN HB2.out q3)
            go_wp2_with fail
            go_ret
            exact ⟨by rw [F.out]; rfl, below_drewN HB.out (q + q3)⟩
          · have F := Lib.hid (HX.out ⟨k1, ⟨c0, c1, c2, c3, c4, c5, c6, c7, c8, c9, c10⟩, ak, dr, n1, kp⟩ ⟨k1, ⟨c0, c1, c2, c3, c4, c5, c6, c7, c8, c9, c10⟩, ak, er, n1, lp⟩ (fun e => eu (by injection e)))
            rw [decide_eq_false eu] at HU
            clear eu
            unfold akC at HA
            unfold cfC akC
            obtain ⟨a1, a2, a3, a4, a5⟩ := ak
            dsimp only [List.cons_append, List.nil_append] at HA ⊢
            go_enter Tryz.func12, Tryz.ntmps12
            go_wp2_with fail
            refine (HA.out _ (below_a2 _ _ _)).mono ?_
            rintro e w1 ⟨rfl, hb⟩
            have HB := Lib.hid (bt hb (below_a2 w _ _))
            obtain ⟨k0, k1'⟩ := box2 hb
            have HB0 := Lib.hid (And.intro k0 k1')
            have z3 := cell_of k0 (o := 17) rfl
            have z5 := cell_of k0 (o := 19) rfl
            have y3 := cell_of k1' (o := 17) rfl
            have y5 := cell_of k1' (o := 19) rfl
            have lz : w.heap.size < w1.heap.size := (Array.getElem?_eq_some_iff.1 k0).1
            have lz1 : w.heap.size + 1 < w1.heap.size := (Array.getElem?_eq_some_iff.1 k1').1
            clear hb k0 k1'
            go_wp2_with fail
            refine (HU.out _ HB.out).mono ?_
            rintro e w2 ⟨rfl, q, rfl⟩
            have HB2 := Lib.hid (below_drewN HB.out q)
            go_wp2_with fail
            go_ret
            exact ⟨by rw [F.out]; rfl, HB2.out⟩
        · have F := Lib.hid (HX.out ⟨k1, ⟨c0, c1, c2, c3, c4, c5, c6, c7, c8, c9, c10⟩, ak, dr, n1, kp⟩ ⟨k1, ⟨c0, c1, c2, c3, c4, c5, c6, c7, c8, c9, c10⟩, bk, er, n1, lp⟩ (fun e => ea (by injection e)))
          rw [sameAk_no ea] at HA
          clear ea
          unfold akC at HA
          unfold cfC akC
          obtain ⟨a1, a2, a3, a4, a5⟩ := ak
          obtain ⟨b1, b2, b3, b4, b5⟩ := bk
          dsimp only [List.cons_append, List.nil_append] at HA ⊢
          go_enter Tryz.func12, Tryz.ntmps12
          go_wp2_with fail
          refine (HA.out _ (below_a2 _ _ _)).mono ?_
          rintro e w1 ⟨rfl, hb⟩
          have HB := Lib.hid (bt hb (below_a2 w _ _))
          clear hb
          go_wp2_with fail
          go_ret
          exact ⟨by rw [F.out]; rfl, HB.out⟩
      · have F := Lib.hid (HX.out ⟨k1, ⟨c0, c1, c2, c3, c4, c5, c6, c7, c8, c9, c10⟩, ak, dr, n1, kp⟩ ⟨k1, ⟨c0, c1, c2, c3, c4, c5, c6, c7, c8, c9, c10⟩, bk, er, n2, lp⟩ (fun e => en (by injection e)))
        have hq : (n1 == n2) = false := beq_eq_false_iff_ne.2 en
        clear en HA
        unfold cfC akC
        obtain ⟨a1, a2, a3, a4, a5⟩ := ak
        obtain ⟨b1, b2, b3, b4, b5⟩ := bk
        dsimp only [List.cons_append, List.nil_append]
        go_enter Tryz.func12, Tryz.ntmps12
        go_wp2_with fail
        go_ret
        exact ⟨by rw [F.out]; rfl, below_a2 _ _ _⟩
    · have F := Lib.hid (HX.out ⟨k1, cf, ak, dr, n1, kp⟩ ⟨k1, df, bk, er, n2, lp⟩ (fun e => ec (by injection e)))
      obtain ⟨c0, c1, c2, c3, c4, c5, c6, c7, c8, c9, c10⟩ := cf
      obtain ⟨d0, d1, d2, d3, d4, d5, d6, d7, d8, d9, d10⟩ := df
      have EC := Lib.hid ec
      clear ec HA
      unfold cfC akC
      obtain ⟨a1, a2, a3, a4, a5⟩ := ak
      obtain ⟨b1, b2, b3, b4, b5⟩ := bk
      dsimp only [List.cons_append, List.nil_append]
      go_enter Tryz.func12, Tryz.ntmps12
      go_wp2_with fail
      all_goals first
        | (go_ret; exact ⟨by rw [F.out]; rfl, below_a2 _ _ _⟩)
        | (exact absurd (by simp only [Cf.mk.injEq]; omega) EC.out)
  · have F := Lib.hid (HX.out ⟨k1, cf, ak, dr, n1, kp⟩ ⟨k2, df, bk, er, n2, lp⟩ (fun e => ek (by injection e)))
    have hq : (k1 == k2) = false := beq_eq_false_iff_ne.2 ek
    clear ek HA
    unfold cfC akC
    obtain ⟨a1, a2, a3, a4, a5⟩ := ak
    obtain ⟨b1, b2, b3, b4, b5⟩ := bk
    dsimp only [List.cons_append, List.nil_append]
    go_enter Tryz.func12, Tryz.ntmps12
    go_wp2_with fail
    go_ret
    exact ⟨by rw [F.out]; rfl, below_a2 _ _ _⟩
end Go.Proofs.YtchgfabgighbfaaGreatDoor.LinV
