/- The reference's guess (printed by mkgue.py). -/
import Derived.Test.YtchgfabgighbfaaGreatDoorCrlW
import Derived.Test.YtchgfabgighbfaaGreatDoorZerW
namespace Go.Proofs.YtchgfabgighbfaaGreatDoor.GueW
set_option linter.unusedVariables false
set_option linter.unusedSimpArgs false
open Go.RowKit Go.Shelf Base SeqM ScrM ScrP ScrR TxtM GlbD RdsW EqlW LinV SchW AskW GsM RrwW RwdW HzW StpW PtlW CrlW ZerW

theorem gi {L : List Oper} {i : Nat} {o : Oper} (h : L[i]? = some o) : L.toArray[i]? = some o := by simpa using h
/-- the result's box, still as it was made -/
def Zb (w W : World) : Prop := W.heap[w.heap.size]? = some (.cells #[.int .i64 0, .int .i64 0, .int .i64 0, .int .i64 0, .int .i64 0, .int .i64 0, .int .i64 0, .int .i64 0, .int .i64 0, .int .i64 0, .int .i64 0, .int .i64 0, .int .i64 0, .int .i64 0, .slice none 0 0, .int .i64 0, .int .i64 0, .slice none 0 0, .int .i64 0, .slice none 0 0] 31 (0, 0)) ∧ Below w.heap.size w W
theorem Zb.free {w W W' : World} (h : Zb w W) (hb : Below W.heap.size W W') : Zb w W' :=
  ⟨(hb.block _ (Array.getElem?_eq_some_iff.1 h.1).1).trans h.1, bt hb h.2⟩
theorem Zb.lt {w W : World} (h : Zb w W) : w.heap.size < W.heap.size := (Array.getElem?_eq_some_iff.1 h.1).1
/-- the line is stored, and told -/
theorem Zb.done {w W : World} (h : Zb w W) {l : Ln} (r : LnR) (hr : r.ln = l) (ho : LnOw W w.heap.size r) : ∃ r' : LnR, Ending.returned (.agg (lnC r).toArray) = .returned (.agg (lnC r').toArray) ∧ r'.ln = l ∧ LnOw (W.setRow w.heap.size (lnC r).toArray) w.heap.size r' ∧ Below w.heap.size w (W.setRow w.heap.size (lnC r).toArray) :=
  ⟨r, rfl, hr, ho.row h.1, below_row h.2 (Nat.le_refl _)⟩
theorem at0_list (l : List Int) (k : Nat) (hk : k < 11) : (l ++ List.replicate 11 0)[k]? = some (at0 l k) := by
  unfold at0
  rw [List.getD_eq_getElem?_getD, List.getElem?_eq_getElem (by simp; omega)]; rfl
theorem flat_rep (k : Nat) : (List.replicate k (0 : Int)).flatMap inC = List.replicate k (.int .i64 0) := by
  induction k with
  | zero => rfl
  | succ k ih => rw [List.replicate_succ, List.flatMap_cons, ih, List.replicate_succ]; rfl
theorem zero_all {W : World} {base : Nat} {v : Value} {n : Nat} {l : List Int} (h : W.ownsRow base 3 1 v n (l.flatMap inC ++ List.replicate 11 (.int .i64 0))) (hn : n = l.length + 11) :
    ∃ (g cap : Nat), v = .slice (some ⟨g, 0, none⟩) n cap ∧ n ≤ cap ∧ cap ≤ maxLen ∧ ∀ k, k < 11 → W.cell? ⟨g, k, none⟩ = some (.int .i64 (at0 l k)) := by
  obtain ⟨g, cap, hv, _, _⟩ := h.form (by omega)
  have hs : W.ownsRow base 3 1 v (l ++ List.replicate 11 0).length ((l ++ List.replicate 11 0).flatMap inC) := by
    rw [List.flatMap_append, flat_rep, List.length_append, List.length_replicate, ← hn]; exact h
  obtain ⟨A, c, e, h1, h2, hr, _⟩ := Seq.of_own hs
  rw [hv] at e
  have e1 : n = (l ++ List.replicate 11 0).length := by simp [hn]
  cases e
  refine ⟨g, _, hv, by omega, h2, fun k hk => ?_⟩
  obtain ⟨ad, x, e2, _, _, hx, hc⟩ := rdI hr (i := k) (by simp; omega)
  obtain rfl := Option.some.inj e2
  rw [at0_list l k hk] at hx
  obtain rfl := Option.some.inj hx
  have e3 : (⟨g, 0, none⟩ : Addr).add k = ⟨g, k, none⟩ := by unfold Addr.add; split <;> simp_all
  rw [e3] at hc
  exact hc
theorem lnC_one1 {w : World} {lo B : Nat} {r : LnR} (h : LnIn w lo B r) : (lnC r).all (·.oneCell') = true := by
  obtain ⟨A1, c1, e1, _⟩ := h.xs
  obtain ⟨A2, c2, e2, _⟩ := h.ds
  obtain ⟨A3, c3, e3, _⟩ := h.ks
  obtain ⟨xv, dv, kv, k1, ⟨c0, c1, c2, c3, c4, c5, c6, c7, c8, c9, c10⟩, ⟨a1, a2, a3, a4, a5⟩, dr, n1, kp⟩ := r
  dsimp only at e1 e2 e3
  subst e1 e2 e3
  rfl
set_option maxHeartbeats 16000000 in
set_option maxRecDepth 100000 in
theorem guess_any (x : Wd) (r : List Wd) (v : Value) (lo : Nat) (w : World) (h : Seq 1 wdC w lo w.heap.size v (x :: r)) (hl : r.length ≤ 1000000) (hw : ∀ y ∈ x :: r, y.length ≤ 1000000) :
    Calls Tryz.prog 34 #[v] w (LnPost (guessF (x :: r)) w) := by
  obtain ⟨A, ca, rfl, hc1, hc2, hr, _⟩ := id h
  obtain ⟨m, hm⟩ : ∃ m, r.length = m := ⟨_, rfl⟩
  have hm1 : (x :: r).length = m + 1 := by simp [hm]
  obtain ⟨ad, x0, e1, _, hb, hx0, c0⟩ := rdW hr (i := 0) (by simp)
  obtain rfl : x = x0 := by simpa using hx0
  subst e1
  have c00 : w.cell? ad = some (.string ⟨x.toArray⟩) := by have h9 := c0; unfold Addr.add at h9; simpa using h9
  have hbk : ad.block < w.heap.size := hb
  obtain ⟨A', hA'⟩ : ∃ A', (if ca = 1 then some ad else some ⟨ad.block, ad.off + 1, none⟩) = A' := ⟨_, rfl⟩
  obtain ⟨cb, hcb⟩ : ∃ cb, ca - 1 = cb := ⟨_, rfl⟩
  have hsq : Seq 1 wdC w lo w.heap.size (.slice A' m cb) r := by
    refine ⟨A', cb, by rw [hm], by rw [hm]; omega, by omega, ?_, fun hh => ?_⟩
    · have h9 := hr.cut (k := 1) (cap := ca) (by rw [hm1]; omega) hc1
      rw [hm1] at h9
      have e9 : (if ca = 1 then some ad else (some ad).map (·.add (1 * 1))) = A' := by rw [← hA']; rfl
      rw [e9] at h9
      rw [hm]
      simpa [wdC] using h9
    · rw [hh] at hA'
      split at hA' <;> cases hA'
  have HSQ := Lib.hid (fun (W : World) (hb : Below w.heap.size w W) => hsq.up hb)
  have HRL := Lib.hid (show r.length ≤ 1000001 by omega)
  have HRW := Lib.hid (fun y hy => hw y (List.mem_cons_of_mem _ hy))
  have HM := Lib.hid hm
  rw [hm1] at hc1 ⊢
  have hc63 : ca ≤ 9223372036854775807 := by unfold maxLen at hc2; omega
  have HNU := Lib.hid (fun (W : World) (hb : Below w.heap.size w W) => (by have h9 := numbers_any (.slice A' m cb) r lo W (hsq.up hb) (by omega) (fun y hy => hw y (List.mem_cons_of_mem _ hy)); exact h9 : Calls Tryz.prog 60 #[.slice A' m cb] W (NmPost r W)))
  have HF := Lib.hid (show guessF (x :: r) = guessR x r from rfl)
  clear h hr hx0 c0 hb hsq hw hm hm1 hc2 hl
  go_enter Tryz.func34, Tryz.ntmps34
  go_wp2_with fail
  have hz0 := Lib.hid (show Zb w (w.alloc (.cells #[.int .i64 0, .int .i64 0, .int .i64 0, .int .i64 0, .int .i64 0, .int .i64 0, .int .i64 0, .int .i64 0, .int .i64 0, .int .i64 0, .int .i64 0, .int .i64 0, .int .i64 0, .int .i64 0, .slice none 0 0, .int .i64 0, .int .i64 0, .slice none 0 0, .int .i64 0, .slice none 0 0] 31)) from ⟨heap_alloc_new w _, below_a1 _ _⟩)
  refine (HNU.out _ (below_a1 _ _)).mono ?_
  rintro e W1 ⟨A1, k1, rfl, ho1, hb1⟩
  have hz1 := Lib.hid (hz0.out.free hb1)
  have HS1 := Lib.hid (show Seq 1 inC W1 (w.alloc (.cells #[.int .i64 0, .int .i64 0, .int .i64 0, .int .i64 0, .int .i64 0, .int .i64 0, .int .i64 0, .int .i64 0, .int .i64 0, .int .i64 0, .int .i64 0, .int .i64 0, .int .i64 0, .int .i64 0, .slice none 0 0, .int .i64 0, .int .i64 0, .slice none 0 0, .int .i64 0, .slice none 0 0] 31)).heap.size W1.heap.size (.slice A1 r.length k1) (r.map numF) from by
    have h9 := Seq.of_own (l := r.map numF) (by rw [List.length_map]; exact ho1); exact h9)
  clear ho1 hb1
  go_wp2_with fail
  refine (first_any _ _ _ _ _ HS1.out).mono ?_
  rintro e W2 ⟨rfl, rfl⟩
  obtain ⟨fa, hfa⟩ : ∃ a, (firstF (r.map numF)).1 = a := ⟨_, rfl⟩
  obtain ⟨fb, hfb⟩ : ∃ a, (firstF (r.map numF)).2 = a := ⟨_, rfl⟩
  have HFA := Lib.hid hfa
  have HFB := Lib.hid hfb
  rw [hfa, hfb]
  clear hfa hfb HS1
  have c1 : W1.cell? ad = some (.string ⟨x.toArray⟩) := (hz1.out.2.cell hbk).trans c00
  have hbk1 : ad.block < W1.heap.size := Nat.lt_trans hbk hz1.out.lt
  clear c00
  by_cases hx : x = wBegin
  · have F := Lib.hid (show guessF (x :: r) = onlyCf (cfF (r.map numF)) by rw [HF.out]; unfold guessR; rw [if_pos hx])
    have qwBegin : (x == [98, 101, 103, 105, 110]) = true := beq_iff_eq.2 hx
    clear hx
    go_wp2_with fail
    refine (HNU.out _ hz1.out.2).mono ?_
    rintro e W3 ⟨A3, k3, rfl, ho3, hb3⟩
    have HZ3 := Lib.hid (hz1.out.free hb3)
    have HO3 := Lib.hid (own_more ho3 (show w.heap.size ≤ _ from Nat.le_of_lt hz1.out.lt))
    clear ho3 hb3
    rw [HM.out] at HO3
    rw [HM.out]
    go_wp2_with (at_builtin; refine listZeros rfl (.tmp 21) _ 25 3 rfl eltI rfl rfl .i64 .i64 Tryz.underlying3 w.heap.size (.slice A3 m k3) m _ rfl HO3.out 11 (by rfl) (by omega) (by have := HRL.out; have := HM.out; omega) (Nat.le_of_lt HZ3.out.lt) ?_; intro v4 W4 ho4 hg4; have HA4 := Lib.hid (zero_all (l := r.map numF) ho4 (by rw [List.length_map, HM.out])); have HZ4 := Lib.hid (show Zb w W4 from ⟨(grown_keep HO3.out hg4 (e' := 31) (by decide) HZ3.out.lt ⟨_, _, HZ3.out.1⟩).trans HZ3.out.1, below_own HZ3.out.2 HO3.out hg4 (Nat.le_refl _) (Nat.le_of_lt HZ3.out.lt)⟩); clear ho4 hg4)
    obtain ⟨g4, k4, rfl, hk41, hk42, hat⟩ := HA4.out
    unfold maxLen at hk42
    have d0 := hat 0 (by decide)
    have d1 := hat 1 (by decide)
    have d2 := hat 2 (by decide)
    have d3 := hat 3 (by decide)
    have d4 := hat 4 (by decide)
    have d5 := hat 5 (by decide)
    have d6 := hat 6 (by decide)
    have d7 := hat 7 (by decide)
    have d8 := hat 8 (by decide)
    have d9 := hat 9 (by decide)
    have d10 := hat 10 (by decide)
    have D0 := Lib.hid d0
    have D1 := Lib.hid d1
    have D2 := Lib.hid d2
    have D3 := Lib.hid d3
    have D4 := Lib.hid d4
    have D5 := Lib.hid d5
    have D6 := Lib.hid d6
    have D7 := Lib.hid d7
    have D8 := Lib.hid d8
    have D9 := Lib.hid d9
    have D10 := Lib.hid d10
    obtain ⟨m4, hm4⟩ : ∃ m4, m + 11 = m4 := ⟨_, rfl⟩
    rw [hm4] at hk41 ⊢
    have g0_ : 0 < m4 := by omega
    have g1_ : (1 : Int) < (m4 : Int) := by omega
    have g2_ : (2 : Int) < (m4 : Int) := by omega
    have g3_ : (3 : Int) < (m4 : Int) := by omega
    have g4_ : (4 : Int) < (m4 : Int) := by omega
    have g5_ : (5 : Int) < (m4 : Int) := by omega
    have g6_ : (6 : Int) < (m4 : Int) := by omega
    have g7_ : (7 : Int) < (m4 : Int) := by omega
    have g8_ : (8 : Int) < (m4 : Int) := by omega
    have g9_ : (9 : Int) < (m4 : Int) := by omega
    have g10_ : (10 : Int) < (m4 : Int) := by omega
    clear hat hm4 HA4
    obtain ⟨q0, hq0⟩ : ∃ q, at0 (r.map numF) 0 = q := ⟨_, rfl⟩
    obtain ⟨q1, hq1⟩ : ∃ q, at0 (r.map numF) 1 = q := ⟨_, rfl⟩
    obtain ⟨q2, hq2⟩ : ∃ q, at0 (r.map numF) 2 = q := ⟨_, rfl⟩
    obtain ⟨q3, hq3⟩ : ∃ q, at0 (r.map numF) 3 = q := ⟨_, rfl⟩
    obtain ⟨q4, hq4⟩ : ∃ q, at0 (r.map numF) 4 = q := ⟨_, rfl⟩
    obtain ⟨q5, hq5⟩ : ∃ q, at0 (r.map numF) 5 = q := ⟨_, rfl⟩
    obtain ⟨q6, hq6⟩ : ∃ q, at0 (r.map numF) 6 = q := ⟨_, rfl⟩
    obtain ⟨q7, hq7⟩ : ∃ q, at0 (r.map numF) 7 = q := ⟨_, rfl⟩
    obtain ⟨q8, hq8⟩ : ∃ q, at0 (r.map numF) 8 = q := ⟨_, rfl⟩
    obtain ⟨q9, hq9⟩ : ∃ q, at0 (r.map numF) 9 = q := ⟨_, rfl⟩
    obtain ⟨q10, hq10⟩ : ∃ q, at0 (r.map numF) 10 = q := ⟨_, rfl⟩
    have HQ0 := Lib.hid hq0
    have HQ1 := Lib.hid hq1
    have HQ2 := Lib.hid hq2
    have HQ3 := Lib.hid hq3
    have HQ4 := Lib.hid hq4
    have HQ5 := Lib.hid hq5
    have HQ6 := Lib.hid hq6
    have HQ7 := Lib.hid hq7
    have HQ8 := Lib.hid hq8
    have HQ9 := Lib.hid hq9
    have HQ10 := Lib.hid hq10
    rw [hq0] at d0 D0
    rw [hq1] at d1 D1
    rw [hq2] at d2 D2
    rw [hq3] at d3 D3
    rw [hq4] at d4 D4
    rw [hq5] at d5 D5
    rw [hq6] at d6 D6
    rw [hq7] at d7 D7
    rw [hq8] at d8 D8
    rw [hq9] at d9 D9
    rw [hq10] at d10 D10
    clear hq0 hq1 hq2 hq3 hq4 hq5 hq6 hq7 hq8 hq9 hq10
    refine regionZ 35 (fun w' => w'.cell? ⟨g4, 0, none⟩ = some (.int .i64 q0) ∧ w'.cell? ⟨g4, 1, none⟩ = some (.int .i64 q1) ∧ w'.cell? ⟨g4, 2, none⟩ = some (.int .i64 q2) ∧ w'.cell? ⟨g4, 3, none⟩ = some (.int .i64 q3) ∧ w'.cell? ⟨g4, 4, none⟩ = some (.int .i64 q4) ∧ w'.cell? ⟨g4, 5, none⟩ = some (.int .i64 q5) ∧ w'.cell? ⟨g4, 6, none⟩ = some (.int .i64 q6) ∧ w'.cell? ⟨g4, 7, none⟩ = some (.int .i64 q7) ∧ w'.cell? ⟨g4, 8, none⟩ = some (.int .i64 q8) ∧ w'.cell? ⟨g4, 9, none⟩ = some (.int .i64 q9) ∧ w'.cell? ⟨g4, 10, none⟩ = some (.int .i64 q10)) (by kernel_rfl) (⟨D0.out, D1.out, D2.out, D3.out, D4.out, D5.out, D6.out, D7.out, D8.out, D9.out, D10.out⟩) (fun hH => ?_)
    refine takeZ 0 (v := ?_) (gi rfl) (by kernel_rfl) (fun _ _ _ h => h) hH (.inl ⟨rfl, fun w hW => ?_⟩) ?_
    rotate_left
    · (go_simp; try with_reducible rfl)
    refine takeZ 1 (v := ?_) (gi rfl) (by kernel_rfl) (fun _ _ _ h => h) hH (.inl ⟨rfl, fun w hW => ?_⟩) ?_
    rotate_left
    · (go_simp; try with_reducible rfl)
    refine takeZ 2 (v := ?_) (gi rfl) (by kernel_rfl) (fun _ _ _ h => h) hH (.inl ⟨rfl, fun w hW => ?_⟩) ?_
    rotate_left
    · (obtain ⟨hW0, hW1, hW2, hW3, hW4, hW5, hW6, hW7, hW8, hW9, hW10⟩ := hW; go_simp; try with_reducible rfl)
    try simp only [Act.put, List.setIfInBounds_toArray, List.set_cons_zero, List.set_cons_succ]
    refine takeZ 3 (v := ?_) (gi rfl) (by kernel_rfl) (fun _ _ _ h => h) hH (.inl ⟨rfl, fun w hW => ?_⟩) ?_
    rotate_left
    · (go_simp; try with_reducible rfl)
    refine takeZ 4 (v := ?_) (gi rfl) (by kernel_rfl) (fun _ _ _ h => h) hH (.inl ⟨rfl, fun w hW => ?_⟩) ?_
    rotate_left
    · (go_simp; try with_reducible rfl)
    refine takeZ 5 (v := ?_) (gi rfl) (by kernel_rfl) (fun _ _ _ h => h) hH (.inl ⟨rfl, fun w hW => ?_⟩) ?_
    rotate_left
    · (obtain ⟨hW0, hW1, hW2, hW3, hW4, hW5, hW6, hW7, hW8, hW9, hW10⟩ := hW; go_simp; try with_reducible rfl)
    try simp only [Act.put, List.setIfInBounds_toArray, List.set_cons_zero, List.set_cons_succ]
    refine takeZ 6 (v := ?_) (gi rfl) (by kernel_rfl) (fun _ _ _ h => h) hH (.inl ⟨rfl, fun w hW => ?_⟩) ?_
    rotate_left
    · (go_simp; try with_reducible rfl)
    refine takeZ 7 (v := ?_) (gi rfl) (by kernel_rfl) (fun _ _ _ h => h) hH (.inl ⟨rfl, fun w hW => ?_⟩) ?_
    rotate_left
    · (go_simp; try with_reducible rfl)
    refine takeZ 8 (v := ?_) (gi rfl) (by kernel_rfl) (fun _ _ _ h => h) hH (.inl ⟨rfl, fun w hW => ?_⟩) ?_
    rotate_left
    · (obtain ⟨hW0, hW1, hW2, hW3, hW4, hW5, hW6, hW7, hW8, hW9, hW10⟩ := hW; go_simp; try with_reducible rfl)
    try simp only [Act.put, List.setIfInBounds_toArray, List.set_cons_zero, List.set_cons_succ]
    refine takeZ 9 (v := ?_) (gi rfl) (by kernel_rfl) (fun _ _ _ h => h) hH (.inl ⟨rfl, fun w hW => ?_⟩) ?_
    rotate_left
    · (go_simp; try with_reducible rfl)
    refine takeZ 10 (v := ?_) (gi rfl) (by kernel_rfl) (fun _ _ _ h => h) hH (.inl ⟨rfl, fun w hW => ?_⟩) ?_
    rotate_left
    · (go_simp; try with_reducible rfl)
    refine takeZ 11 (v := ?_) (gi rfl) (by kernel_rfl) (fun _ _ _ h => h) hH (.inl ⟨rfl, fun w hW => ?_⟩) ?_
    rotate_left
    · (obtain ⟨hW0, hW1, hW2, hW3, hW4, hW5, hW6, hW7, hW8, hW9, hW10⟩ := hW; go_simp; try with_reducible rfl)
    try simp only [Act.put, List.setIfInBounds_toArray, List.set_cons_zero, List.set_cons_succ]
    refine takeZ 12 (v := ?_) (gi rfl) (by kernel_rfl) (fun _ _ _ h => h) hH (.inl ⟨rfl, fun w hW => ?_⟩) ?_
    rotate_left
    · (go_simp; try with_reducible rfl)
    refine takeZ 13 (v := ?_) (gi rfl) (by kernel_rfl) (fun _ _ _ h => h) hH (.inl ⟨rfl, fun w hW => ?_⟩) ?_
    rotate_left
    · (go_simp; try with_reducible rfl)
    refine takeZ 14 (v := ?_) (gi rfl) (by kernel_rfl) (fun _ _ _ h => h) hH (.inl ⟨rfl, fun w hW => ?_⟩) ?_
    rotate_left
    · (obtain ⟨hW0, hW1, hW2, hW3, hW4, hW5, hW6, hW7, hW8, hW9, hW10⟩ := hW; go_simp; try with_reducible rfl)
    try simp only [Act.put, List.setIfInBounds_toArray, List.set_cons_zero, List.set_cons_succ]
    refine takeZ 15 (v := ?_) (gi rfl) (by kernel_rfl) (fun _ _ _ h => h) hH (.inl ⟨rfl, fun w hW => ?_⟩) ?_
    rotate_left
    · (go_simp; try with_reducible rfl)
    refine takeZ 16 (v := ?_) (gi rfl) (by kernel_rfl) (fun _ _ _ h => h) hH (.inl ⟨rfl, fun w hW => ?_⟩) ?_
    rotate_left
    · (go_simp; try with_reducible rfl)
    refine takeZ 17 (v := ?_) (gi rfl) (by kernel_rfl) (fun _ _ _ h => h) hH (.inl ⟨rfl, fun w hW => ?_⟩) ?_
    rotate_left
    · (obtain ⟨hW0, hW1, hW2, hW3, hW4, hW5, hW6, hW7, hW8, hW9, hW10⟩ := hW; go_simp; try with_reducible rfl)
    try simp only [Act.put, List.setIfInBounds_toArray, List.set_cons_zero, List.set_cons_succ]
    refine takeZ 18 (v := ?_) (gi rfl) (by kernel_rfl) (fun _ _ _ h => h) hH (.inl ⟨rfl, fun w hW => ?_⟩) ?_
    rotate_left
    · (go_simp; try with_reducible rfl)
    refine takeZ 19 (v := ?_) (gi rfl) (by kernel_rfl) (fun _ _ _ h => h) hH (.inl ⟨rfl, fun w hW => ?_⟩) ?_
    rotate_left
    · (go_simp; try with_reducible rfl)
    refine takeZ 20 (v := ?_) (gi rfl) (by kernel_rfl) (fun _ _ _ h => h) hH (.inl ⟨rfl, fun w hW => ?_⟩) ?_
    rotate_left
    · (obtain ⟨hW0, hW1, hW2, hW3, hW4, hW5, hW6, hW7, hW8, hW9, hW10⟩ := hW; go_simp; try with_reducible rfl)
    try simp only [Act.put, List.setIfInBounds_toArray, List.set_cons_zero, List.set_cons_succ]
    refine takeZ 21 (v := ?_) (gi rfl) (by kernel_rfl) (fun _ _ _ h => h) hH (.inl ⟨rfl, fun w hW => ?_⟩) ?_
    rotate_left
    · (go_simp; try with_reducible rfl)
    refine takeZ 22 (v := ?_) (gi rfl) (by kernel_rfl) (fun _ _ _ h => h) hH (.inl ⟨rfl, fun w hW => ?_⟩) ?_
    rotate_left
    · (go_simp; try with_reducible rfl)
    refine takeZ 23 (v := ?_) (gi rfl) (by kernel_rfl) (fun _ _ _ h => h) hH (.inl ⟨rfl, fun w hW => ?_⟩) ?_
    rotate_left
    · (obtain ⟨hW0, hW1, hW2, hW3, hW4, hW5, hW6, hW7, hW8, hW9, hW10⟩ := hW; go_simp; try with_reducible rfl)
    try simp only [Act.put, List.setIfInBounds_toArray, List.set_cons_zero, List.set_cons_succ]
    refine takeZ 24 (v := ?_) (gi rfl) (by kernel_rfl) (fun _ _ _ h => h) hH (.inl ⟨rfl, fun w hW => ?_⟩) ?_
    rotate_left
    · (go_simp; try with_reducible rfl)
    refine takeZ 25 (v := ?_) (gi rfl) (by kernel_rfl) (fun _ _ _ h => h) hH (.inl ⟨rfl, fun w hW => ?_⟩) ?_
    rotate_left
    · (go_simp; try with_reducible rfl)
    refine takeZ 26 (v := ?_) (gi rfl) (by kernel_rfl) (fun _ _ _ h => h) hH (.inl ⟨rfl, fun w hW => ?_⟩) ?_
    rotate_left
    · (obtain ⟨hW0, hW1, hW2, hW3, hW4, hW5, hW6, hW7, hW8, hW9, hW10⟩ := hW; go_simp; try with_reducible rfl)
    try simp only [Act.put, List.setIfInBounds_toArray, List.set_cons_zero, List.set_cons_succ]
    refine takeZ 27 (v := ?_) (gi rfl) (by kernel_rfl) (fun _ _ _ h => h) hH (.inl ⟨rfl, fun w hW => ?_⟩) ?_
    rotate_left
    · (go_simp; try with_reducible rfl)
    refine takeZ 28 (v := ?_) (gi rfl) (by kernel_rfl) (fun _ _ _ h => h) hH (.inl ⟨rfl, fun w hW => ?_⟩) ?_
    rotate_left
    · (go_simp; try with_reducible rfl)
    refine takeZ 29 (v := ?_) (gi rfl) (by kernel_rfl) (fun _ _ _ h => h) hH (.inl ⟨rfl, fun w hW => ?_⟩) ?_
    rotate_left
    · (obtain ⟨hW0, hW1, hW2, hW3, hW4, hW5, hW6, hW7, hW8, hW9, hW10⟩ := hW; go_simp; try with_reducible rfl)
    try simp only [Act.put, List.setIfInBounds_toArray, List.set_cons_zero, List.set_cons_succ]
    refine takeZ 30 (v := ?_) (gi rfl) (by kernel_rfl) (fun _ _ _ h => h) hH (.inl ⟨rfl, fun w hW => ?_⟩) ?_
    rotate_left
    · (go_simp; try with_reducible rfl)
    refine takeZ 31 (v := ?_) (gi rfl) (by kernel_rfl) (fun _ _ _ h => h) hH (.inl ⟨rfl, fun w hW => ?_⟩) ?_
    rotate_left
    · (go_simp; try with_reducible rfl)
    refine takeZ 32 (v := ?_) (gi rfl) (by kernel_rfl) (fun _ _ _ h => h) hH (.inl ⟨rfl, fun w hW => ?_⟩) ?_
    rotate_left
    · (obtain ⟨hW0, hW1, hW2, hW3, hW4, hW5, hW6, hW7, hW8, hW9, hW10⟩ := hW; go_simp; try with_reducible rfl)
    try simp only [Act.put, List.setIfInBounds_toArray, List.set_cons_zero, List.set_cons_succ]
    refine takeZ 33 (v := ?_) (gi rfl) (by kernel_rfl) (fun _ _ _ h => h) hH (.inl ⟨rfl, fun w hW => ?_⟩) ?_
    rotate_left
    · (go_simp; try with_reducible rfl)
    try simp only [Act.put, List.setIfInBounds_toArray, List.set_cons_zero, List.set_cons_succ]
    refine takeZ 34 (v := ?_) (gi rfl) (by kernel_rfl) (fun _ _ _ h => h) hH (.inl ⟨rfl, fun w hW => ?_⟩) ?_
    rotate_left
    · (go_simp; try with_reducible rfl)
    try simp only [Act.put, List.setIfInBounds_toArray, List.set_cons_zero, List.set_cons_succ]
    refine oneZ 35 (by kernel_rfl) (gi rfl) (fun K hK => ?_)
    try simp only [Act.put, List.setIfInBounds_toArray, List.set_cons_zero, List.set_cons_succ]
    rw [if_pos (by rfl)]
    refine wp_store_part (w := W4.drew) 31 (.tmp 2) (.tmp 57) rfl w.heap.size 0 (.agg (lnC (⟨.slice none 0 0, .slice none 0 0, .slice none 0 0, onlyCf ⟨q0, q1, q2, q3, q4, q5, q6, q7, q8, q9, q10⟩⟩ : LnR)).toArray) (by rfl) (by rfl) 31 _ (lnC (⟨.slice none 0 0, .slice none 0 0, .slice none 0 0, onlyCf ⟨q0, q1, q2, q3, q4, q5, q6, q7, q8, q9, q10⟩⟩ : LnR)).toArray (show W4.drew.heap[w.heap.size]? = _ from HZ4.out.1) (by kernel_rfl) (Nat.le_of_ble_eq_true rfl) (by simp [Value.cells, lnC, cfC, akC, Value.oneCell', onlyCf, ln0, cf0, ak0]) (by rfl) ?_
    refine hK.out _ _ (fun h => absurd rfl h) (fun hH => ?_)
    clear hK K
    try simp only [Act.put, List.setIfInBounds_toArray, List.set_cons_zero, List.set_cons_succ]
    refine doneZ (by kernel_rfl) ?_ _
    have HZD := Lib.hid (show Zb w W4.drew from ⟨HZ4.out.1, HZ4.out.2.trans (show Below w.heap.size W4 W4.drew from (Below.refl _ _).drew)⟩)
    clear hH
    go_wp2_with fail
    have hF := row_heap (cs' := (lnC (⟨.slice none 0 0, .slice none 0 0, .slice none 0 0, onlyCf ⟨q0, q1, q2, q3, q4, q5, q6, q7, q8, q9, q10⟩⟩ : LnR)).toArray) HZD.out.1
    refine bodyPost_ret (v := .agg (lnC (⟨.slice none 0 0, .slice none 0 0, .slice none 0 0, onlyCf ⟨q0, q1, q2, q3, q4, q5, q6, q7, q8, q9, q10⟩⟩ : LnR)).toArray) (results_cell_row (p := 2) (by kernel_rfl) _ _ w.heap.size _ _ _ _ (by rfl) hF Tryz.underlying31 rfl (by kernel_rfl)) rfl ?_
    exact HZD.out.done (⟨.slice none 0 0, .slice none 0 0, .slice none 0 0, onlyCf ⟨q0, q1, q2, q3, q4, q5, q6, q7, q8, q9, q10⟩⟩ : LnR) (show onlyCf ⟨q0, q1, q2, q3, q4, q5, q6, q7, q8, q9, q10⟩ = guessF (x :: r) by rw [F.out]; unfold cfF; rw [HQ0.out, HQ1.out, HQ2.out, HQ3.out, HQ4.out, HQ5.out, HQ6.out, HQ7.out, HQ8.out, HQ9.out, HQ10.out]) (LnOw.nil_ ⟨rfl, rfl, rfl⟩)
  · have NwBegin := Lib.hid hx
    have qwBegin : (x == [98, 101, 103, 105, 110]) = false := beq_eq_false_iff_ne.2 hx
    clear hx
    by_cases hx : x = wPut
    · have F := Lib.hid (show guessF (x :: r) = putF r by rw [HF.out]; unfold guessR; rw [if_neg NwBegin.out, if_pos hx])
      have qwPut : (x == [112, 117, 116]) = true := beq_iff_eq.2 hx
      clear hx
      go_wp2_with fail
      refine (putLine_any _ r lo _ (HSQ.out _ hz1.out.2) HRL.out HRW.out).mono ?_
      rintro e W3 ⟨r3, rfl, hr3, ho3, hb3⟩
      have HZ3 := Lib.hid (hz1.out.free hb3)
      have HO3 := Lib.hid (ho3.more (Nat.le_of_lt hz1.out.lt))
      have HR3 := Lib.hid (hr3.trans F.out.symm)
      have HOC := Lib.hid (lnC_one1 ho3.toIn)
      clear ho3 hb3 hr3
      go_wp2_with (refine (id ?_ : wpList _ _ _ (⟨none, .store _ _ _, _, _, _, _⟩ :: _) _ _); refine wpList_store_row rfl 31 (.tmp 2) (.tmp 61) rfl w.heap.size (lnC r3).toArray (by rfl) (by rfl) 31 _ HZ3.out.1 (by kernel_rfl) (by rfl) (all_one _ HOC.out) ?_)
      have hF := row_heap (cs' := (lnC r3).toArray) HZ3.out.1
      refine bodyPost_ret (v := .agg (lnC r3).toArray) (results_cell_row (p := 2) (by kernel_rfl) _ _ w.heap.size _ _ _ _ (by rfl) hF Tryz.underlying31 rfl (by kernel_rfl)) rfl ?_
      exact HZ3.out.done r3 HR3.out HO3.out
    · have NwPut := Lib.hid hx
      have qwPut : (x == [112, 117, 116]) = false := beq_eq_false_iff_ne.2 hx
      clear hx
      by_cases hx : x = wScore
      · have F := Lib.hid (show guessF (x :: r) = onlyAk ⟨2, 0, r.map numF, 0, 0⟩ [] by rw [HF.out]; unfold guessR; rw [if_neg NwBegin.out, if_neg NwPut.out, if_pos hx])
        have qwScore : (x == [115, 99, 111, 114, 101]) = true := beq_iff_eq.2 hx
        clear hx
        go_wp2_with fail
        refine (HNU.out _ hz1.out.2).mono ?_
        rintro e W3 ⟨A3, k3, rfl, ho3, hb3⟩
        have HZ3 := Lib.hid (hz1.out.free hb3)
        have HO3 := Lib.hid (own_more ho3 (show w.heap.size ≤ _ from Nat.le_of_lt hz1.out.lt))
        clear ho3 hb3
        rw [HM.out] at HO3
        rw [HM.out]
        go_wp2_with (refine (id ?_ : wpList _ _ _ (⟨none, .store _ _ _, _, _, _, _⟩ :: _) _ _); refine wpList_store_row rfl 31 (.tmp 2) (.tmp 67) rfl w.heap.size (lnC (⟨.slice A3 m k3, .slice none 0 0, .slice none 0 0, onlyAk ⟨2, 0, r.map numF, 0, 0⟩ []⟩ : LnR)).toArray (by rfl) (by rfl) 31 _ HZ3.out.1 (by kernel_rfl) (by rfl) (all_one _ (by rfl)) ?_)
        have hF := row_heap (cs' := (lnC (⟨.slice A3 m k3, .slice none 0 0, .slice none 0 0, onlyAk ⟨2, 0, r.map numF, 0, 0⟩ []⟩ : LnR)).toArray) HZ3.out.1
        refine bodyPost_ret (v := .agg (lnC (⟨.slice A3 m k3, .slice none 0 0, .slice none 0 0, onlyAk ⟨2, 0, r.map numF, 0, 0⟩ []⟩ : LnR)).toArray) (results_cell_row (p := 2) (by kernel_rfl) _ _ w.heap.size _ _ _ _ (by rfl) hF Tryz.underlying31 rfl (by kernel_rfl)) rfl ?_
        exact HZ3.out.done (⟨.slice A3 m k3, .slice none 0 0, .slice none 0 0, onlyAk ⟨2, 0, r.map numF, 0, 0⟩ []⟩ : LnR) F.out.symm (⟨by show World.ownsRow _ _ _ _ _ (r.map numF).length _; rw [List.length_map, HM.out]; exact HO3.out, World.ownsRow_nil _ _ _ _, World.ownsRow_nil _ _ _ _⟩)
      · have NwScore := Lib.hid hx
        have qwScore : (x == [115, 99, 111, 114, 101]) = false := beq_eq_false_iff_ne.2 hx
        clear hx
        by_cases hx : x = wWhy
        · have F := Lib.hid (show guessF (x :: r) = onlyAk ⟨7, 0, r.map numF, 0, 0⟩ [] by rw [HF.out]; unfold guessR; rw [if_neg NwBegin.out, if_neg NwPut.out, if_neg NwScore.out, if_pos hx])
          have qwWhy : (x == [119, 104, 121]) = true := beq_iff_eq.2 hx
          clear hx
          go_wp2_with fail
          refine (HNU.out _ hz1.out.2).mono ?_
          rintro e W3 ⟨A3, k3, rfl, ho3, hb3⟩
          have HZ3 := Lib.hid (hz1.out.free hb3)
          have HO3 := Lib.hid (own_more ho3 (show w.heap.size ≤ _ from Nat.le_of_lt hz1.out.lt))
          clear ho3 hb3
          rw [HM.out] at HO3
          rw [HM.out]
          go_wp2_with (refine (id ?_ : wpList _ _ _ (⟨none, .store _ _ _, _, _, _, _⟩ :: _) _ _); refine wpList_store_row rfl 31 (.tmp 2) (.tmp 73) rfl w.heap.size (lnC (⟨.slice A3 m k3, .slice none 0 0, .slice none 0 0, onlyAk ⟨7, 0, r.map numF, 0, 0⟩ []⟩ : LnR)).toArray (by rfl) (by rfl) 31 _ HZ3.out.1 (by kernel_rfl) (by rfl) (all_one _ (by rfl)) ?_)
          have hF := row_heap (cs' := (lnC (⟨.slice A3 m k3, .slice none 0 0, .slice none 0 0, onlyAk ⟨7, 0, r.map numF, 0, 0⟩ []⟩ : LnR)).toArray) HZ3.out.1
          refine bodyPost_ret (v := .agg (lnC (⟨.slice A3 m k3, .slice none 0 0, .slice none 0 0, onlyAk ⟨7, 0, r.map numF, 0, 0⟩ []⟩ : LnR)).toArray) (results_cell_row (p := 2) (by kernel_rfl) _ _ w.heap.size _ _ _ _ (by rfl) hF Tryz.underlying31 rfl (by kernel_rfl)) rfl ?_
          exact HZ3.out.done (⟨.slice A3 m k3, .slice none 0 0, .slice none 0 0, onlyAk ⟨7, 0, r.map numF, 0, 0⟩ []⟩ : LnR) F.out.symm (⟨by show World.ownsRow _ _ _ _ _ (r.map numF).length _; rw [List.length_map, HM.out]; exact HO3.out, World.ownsRow_nil _ _ _ _, World.ownsRow_nil _ _ _ _⟩)
        · have NwWhy := Lib.hid hx
          have qwWhy : (x == [119, 104, 121]) = false := beq_eq_false_iff_ne.2 hx
          clear hx
          by_cases hx : x = wAlerts
          · have F := Lib.hid (show guessF (x :: r) = onlyAk ⟨3, 0, [], fa, fb⟩ [] by rw [HF.out]; unfold guessR; rw [if_neg NwBegin.out, if_neg NwPut.out, if_neg NwScore.out, if_neg NwWhy.out, if_pos hx, HFA.out, HFB.out])
            have qwAlerts : (x == [97, 108, 101, 114, 116, 115]) = true := beq_iff_eq.2 hx
            clear hx
            go_wp2_with (refine (id ?_ : wpList _ _ _ (⟨none, .store _ _ _, _, _, _, _⟩ :: _) _ _); refine wpList_store_row rfl 31 (.tmp 2) (.tmp 79) rfl w.heap.size (lnC (⟨.slice none 0 0, .slice none 0 0, .slice none 0 0, onlyAk ⟨3, 0, [], fa, fb⟩ []⟩ : LnR)).toArray (by rfl) (by rfl) 31 _ hz1.out.1 (by kernel_rfl) (by rfl) (all_one _ (by rfl)) ?_)
            have hF := row_heap (cs' := (lnC (⟨.slice none 0 0, .slice none 0 0, .slice none 0 0, onlyAk ⟨3, 0, [], fa, fb⟩ []⟩ : LnR)).toArray) hz1.out.1
            refine bodyPost_ret (v := .agg (lnC (⟨.slice none 0 0, .slice none 0 0, .slice none 0 0, onlyAk ⟨3, 0, [], fa, fb⟩ []⟩ : LnR)).toArray) (results_cell_row (p := 2) (by kernel_rfl) _ _ w.heap.size _ _ _ _ (by rfl) hF Tryz.underlying31 rfl (by kernel_rfl)) rfl ?_
            exact hz1.out.done (⟨.slice none 0 0, .slice none 0 0, .slice none 0 0, onlyAk ⟨3, 0, [], fa, fb⟩ []⟩ : LnR) F.out.symm (LnOw.nil_ ⟨rfl, rfl, rfl⟩)
          · have NwAlerts := Lib.hid hx
            have qwAlerts : (x == [97, 108, 101, 114, 116, 115]) = false := beq_eq_false_iff_ne.2 hx
            clear hx
            by_cases hx : x = wAck
            · have F := Lib.hid (show guessF (x :: r) = onlyAk ⟨4, 0, [], fa, 0⟩ [] by rw [HF.out]; unfold guessR; rw [if_neg NwBegin.out, if_neg NwPut.out, if_neg NwScore.out, if_neg NwWhy.out, if_neg NwAlerts.out, if_pos hx, HFA.out])
              have qwAck : (x == [97, 99, 107]) = true := beq_iff_eq.2 hx
              clear hx
              go_wp2_with (refine (id ?_ : wpList _ _ _ (⟨none, .store _ _ _, _, _, _, _⟩ :: _) _ _); refine wpList_store_row rfl 31 (.tmp 2) (.tmp 84) rfl w.heap.size (lnC (⟨.slice none 0 0, .slice none 0 0, .slice none 0 0, onlyAk ⟨4, 0, [], fa, 0⟩ []⟩ : LnR)).toArray (by rfl) (by rfl) 31 _ hz1.out.1 (by kernel_rfl) (by rfl) (all_one _ (by rfl)) ?_)
              have hF := row_heap (cs' := (lnC (⟨.slice none 0 0, .slice none 0 0, .slice none 0 0, onlyAk ⟨4, 0, [], fa, 0⟩ []⟩ : LnR)).toArray) hz1.out.1
              refine bodyPost_ret (v := .agg (lnC (⟨.slice none 0 0, .slice none 0 0, .slice none 0 0, onlyAk ⟨4, 0, [], fa, 0⟩ []⟩ : LnR)).toArray) (results_cell_row (p := 2) (by kernel_rfl) _ _ w.heap.size _ _ _ _ (by rfl) hF Tryz.underlying31 rfl (by kernel_rfl)) rfl ?_
              exact hz1.out.done (⟨.slice none 0 0, .slice none 0 0, .slice none 0 0, onlyAk ⟨4, 0, [], fa, 0⟩ []⟩ : LnR) F.out.symm (LnOw.nil_ ⟨rfl, rfl, rfl⟩)
            · have NwAck := Lib.hid hx
              have qwAck : (x == [97, 99, 107]) = false := beq_eq_false_iff_ne.2 hx
              clear hx
              by_cases hx : x = wStats
              · have F := Lib.hid (show guessF (x :: r) = onlyAk ⟨5, 0, [], 0, 0⟩ [] by rw [HF.out]; unfold guessR; rw [if_neg NwBegin.out, if_neg NwPut.out, if_neg NwScore.out, if_neg NwWhy.out, if_neg NwAlerts.out, if_neg NwAck.out, if_pos hx])
                have qwStats : (x == [115, 116, 97, 116, 115]) = true := beq_iff_eq.2 hx
                clear hx
                go_wp2_with (refine (id ?_ : wpList _ _ _ (⟨none, .store _ _ _, _, _, _, _⟩ :: _) _ _); refine wpList_store_row rfl 31 (.tmp 2) (.tmp 88) rfl w.heap.size (lnC (⟨.slice none 0 0, .slice none 0 0, .slice none 0 0, onlyAk ⟨5, 0, [], 0, 0⟩ []⟩ : LnR)).toArray (by rfl) (by rfl) 31 _ hz1.out.1 (by kernel_rfl) (by rfl) (all_one _ (by rfl)) ?_)
                have hF := row_heap (cs' := (lnC (⟨.slice none 0 0, .slice none 0 0, .slice none 0 0, onlyAk ⟨5, 0, [], 0, 0⟩ []⟩ : LnR)).toArray) hz1.out.1
                refine bodyPost_ret (v := .agg (lnC (⟨.slice none 0 0, .slice none 0 0, .slice none 0 0, onlyAk ⟨5, 0, [], 0, 0⟩ []⟩ : LnR)).toArray) (results_cell_row (p := 2) (by kernel_rfl) _ _ w.heap.size _ _ _ _ (by rfl) hF Tryz.underlying31 rfl (by kernel_rfl)) rfl ?_
                exact hz1.out.done (⟨.slice none 0 0, .slice none 0 0, .slice none 0 0, onlyAk ⟨5, 0, [], 0, 0⟩ []⟩ : LnR) F.out.symm (LnOw.nil_ ⟨rfl, rfl, rfl⟩)
              · have NwStats := Lib.hid hx
                have qwStats : (x == [115, 116, 97, 116, 115]) = false := beq_eq_false_iff_ne.2 hx
                clear hx
                by_cases hx : x = wSnap
                · have F := Lib.hid (show guessF (x :: r) = onlyAk ⟨6, 0, [], 0, 0⟩ [] by rw [HF.out]; unfold guessR; rw [if_neg NwBegin.out, if_neg NwPut.out, if_neg NwScore.out, if_neg NwWhy.out, if_neg NwAlerts.out, if_neg NwAck.out, if_neg NwStats.out, if_pos hx])
                  have qwSnap : (x == [115, 110, 97, 112]) = true := beq_iff_eq.2 hx
                  clear hx
                  go_wp2_with (refine (id ?_ : wpList _ _ _ (⟨none, .store _ _ _, _, _, _, _⟩ :: _) _ _); refine wpList_store_row rfl 31 (.tmp 2) (.tmp 92) rfl w.heap.size (lnC (⟨.slice none 0 0, .slice none 0 0, .slice none 0 0, onlyAk ⟨6, 0, [], 0, 0⟩ []⟩ : LnR)).toArray (by rfl) (by rfl) 31 _ hz1.out.1 (by kernel_rfl) (by rfl) (all_one _ (by rfl)) ?_)
                  have hF := row_heap (cs' := (lnC (⟨.slice none 0 0, .slice none 0 0, .slice none 0 0, onlyAk ⟨6, 0, [], 0, 0⟩ []⟩ : LnR)).toArray) hz1.out.1
                  refine bodyPost_ret (v := .agg (lnC (⟨.slice none 0 0, .slice none 0 0, .slice none 0 0, onlyAk ⟨6, 0, [], 0, 0⟩ []⟩ : LnR)).toArray) (results_cell_row (p := 2) (by kernel_rfl) _ _ w.heap.size _ _ _ _ (by rfl) hF Tryz.underlying31 rfl (by kernel_rfl)) rfl ?_
                  exact hz1.out.done (⟨.slice none 0 0, .slice none 0 0, .slice none 0 0, onlyAk ⟨6, 0, [], 0, 0⟩ []⟩ : LnR) F.out.symm (LnOw.nil_ ⟨rfl, rfl, rfl⟩)
                · have NwSnap := Lib.hid hx
                  have qwSnap : (x == [115, 110, 97, 112]) = false := beq_eq_false_iff_ne.2 hx
                  clear hx
                  by_cases hx : x = wStop
                  · have F := Lib.hid (show guessF (x :: r) = onlyN fa by rw [HF.out]; unfold guessR; rw [if_neg NwBegin.out, if_neg NwPut.out, if_neg NwScore.out, if_neg NwWhy.out, if_neg NwAlerts.out, if_neg NwAck.out, if_neg NwStats.out, if_neg NwSnap.out, if_pos hx, HFA.out])
                    have qwStop : (x == [115, 116, 111, 112]) = true := beq_iff_eq.2 hx
                    clear hx
                    go_wp2_with (refine (id ?_ : wpList _ _ _ (⟨none, .store _ _ _, _, _, _, _⟩ :: _) _ _); refine wpList_store_row rfl 31 (.tmp 2) (.tmp 96) rfl w.heap.size (lnC (⟨.slice none 0 0, .slice none 0 0, .slice none 0 0, onlyN fa⟩ : LnR)).toArray (by rfl) (by rfl) 31 _ hz1.out.1 (by kernel_rfl) (by rfl) (all_one _ (by rfl)) ?_)
                    have hF := row_heap (cs' := (lnC (⟨.slice none 0 0, .slice none 0 0, .slice none 0 0, onlyN fa⟩ : LnR)).toArray) hz1.out.1
                    refine bodyPost_ret (v := .agg (lnC (⟨.slice none 0 0, .slice none 0 0, .slice none 0 0, onlyN fa⟩ : LnR)).toArray) (results_cell_row (p := 2) (by kernel_rfl) _ _ w.heap.size _ _ _ _ (by rfl) hF Tryz.underlying31 rfl (by kernel_rfl)) rfl ?_
                    exact hz1.out.done (⟨.slice none 0 0, .slice none 0 0, .slice none 0 0, onlyN fa⟩ : LnR) F.out.symm (LnOw.nil_ ⟨rfl, rfl, rfl⟩)
                  · have NwStop := Lib.hid hx
                    have qwStop : (x == [115, 116, 111, 112]) = false := beq_eq_false_iff_ne.2 hx
                    clear hx
                    by_cases hx : x = wCrash
                    · have F := Lib.hid (show guessF (x :: r) = crashF r by rw [HF.out]; unfold guessR; rw [if_neg NwBegin.out, if_neg NwPut.out, if_neg NwScore.out, if_neg NwWhy.out, if_neg NwAlerts.out, if_neg NwAck.out, if_neg NwStats.out, if_neg NwSnap.out, if_neg NwStop.out, if_pos hx])
                      have qwCrash : (x == [99, 114, 97, 115, 104]) = true := beq_iff_eq.2 hx
                      clear hx
                      go_wp2_with fail
                      refine (crashLine_any _ r lo _ (HSQ.out _ hz1.out.2) HRL.out HRW.out).mono ?_
                      rintro e W3 ⟨r3, rfl, hr3, ho3, hb3⟩
                      have HZ3 := Lib.hid (hz1.out.free hb3)
                      have HO3 := Lib.hid (ho3.more (Nat.le_of_lt hz1.out.lt))
                      have HR3 := Lib.hid (hr3.trans F.out.symm)
                      have HOC := Lib.hid (lnC_one1 ho3.toIn)
                      clear ho3 hb3 hr3
                      go_wp2_with (refine (id ?_ : wpList _ _ _ (⟨none, .store _ _ _, _, _, _, _⟩ :: _) _ _); refine wpList_store_row rfl 31 (.tmp 2) (.tmp 100) rfl w.heap.size (lnC r3).toArray (by rfl) (by rfl) 31 _ HZ3.out.1 (by kernel_rfl) (by rfl) (all_one _ HOC.out) ?_)
                      have hF := row_heap (cs' := (lnC r3).toArray) HZ3.out.1
                      refine bodyPost_ret (v := .agg (lnC r3).toArray) (results_cell_row (p := 2) (by kernel_rfl) _ _ w.heap.size _ _ _ _ (by rfl) hF Tryz.underlying31 rfl (by kernel_rfl)) rfl ?_
                      exact HZ3.out.done r3 HR3.out HO3.out
                    · have NwCrash := Lib.hid hx
                      have qwCrash : (x == [99, 114, 97, 115, 104]) = false := beq_eq_false_iff_ne.2 hx
                      clear hx
                      by_cases hx : x = wOpen
                      · have F := Lib.hid (show guessF (x :: r) = ln0 5 by rw [HF.out]; unfold guessR; rw [if_neg NwBegin.out, if_neg NwPut.out, if_neg NwScore.out, if_neg NwWhy.out, if_neg NwAlerts.out, if_neg NwAck.out, if_neg NwStats.out, if_neg NwSnap.out, if_neg NwStop.out, if_neg NwCrash.out, if_pos hx])
                        have qwOpen : (x == [111, 112, 101, 110]) = true := beq_iff_eq.2 hx
                        clear hx
                        go_wp2_with (refine (id ?_ : wpList _ _ _ (⟨none, .store _ _ _, _, _, _, _⟩ :: _) _ _); refine wpList_store_row rfl 31 (.tmp 2) (.tmp 103) rfl w.heap.size (lnC (⟨.slice none 0 0, .slice none 0 0, .slice none 0 0, ln0 5⟩ : LnR)).toArray (by rfl) (by rfl) 31 _ hz1.out.1 (by kernel_rfl) (by rfl) (all_one _ (by rfl)) ?_)
                        have hF := row_heap (cs' := (lnC (⟨.slice none 0 0, .slice none 0 0, .slice none 0 0, ln0 5⟩ : LnR)).toArray) hz1.out.1
                        refine bodyPost_ret (v := .agg (lnC (⟨.slice none 0 0, .slice none 0 0, .slice none 0 0, ln0 5⟩ : LnR)).toArray) (results_cell_row (p := 2) (by kernel_rfl) _ _ w.heap.size _ _ _ _ (by rfl) hF Tryz.underlying31 rfl (by kernel_rfl)) rfl ?_
                        exact hz1.out.done (⟨.slice none 0 0, .slice none 0 0, .slice none 0 0, ln0 5⟩ : LnR) F.out.symm (LnOw.nil_ ⟨rfl, rfl, rfl⟩)
                      · have NwOpen := Lib.hid hx
                        have qwOpen : (x == [111, 112, 101, 110]) = false := beq_eq_false_iff_ne.2 hx
                        clear hx
                        have F := Lib.hid (show guessF (x :: r) = ln0 0 by rw [HF.out]; unfold guessR; rw [if_neg NwBegin.out, if_neg NwPut.out, if_neg NwScore.out, if_neg NwWhy.out, if_neg NwAlerts.out, if_neg NwAck.out, if_neg NwStats.out, if_neg NwSnap.out, if_neg NwStop.out, if_neg NwCrash.out, if_neg NwOpen.out])
                        go_wp2_with (refine (id ?_ : wpList _ _ _ (⟨none, .store _ _ _, _, _, _, _⟩ :: _) _ _); refine wpList_store_row rfl 31 (.tmp 2) (.tmp 104) rfl w.heap.size (lnC (⟨.slice none 0 0, .slice none 0 0, .slice none 0 0, ln0 0⟩ : LnR)).toArray (by rfl) (by rfl) 31 _ hz1.out.1 (by kernel_rfl) (by rfl) (all_one _ (by rfl)) ?_)
                        have hF := row_heap (cs' := (lnC (⟨.slice none 0 0, .slice none 0 0, .slice none 0 0, ln0 0⟩ : LnR)).toArray) hz1.out.1
                        refine bodyPost_ret (v := .agg (lnC (⟨.slice none 0 0, .slice none 0 0, .slice none 0 0, ln0 0⟩ : LnR)).toArray) (results_cell_row (p := 2) (by kernel_rfl) _ _ w.heap.size _ _ _ _ (by rfl) hF Tryz.underlying31 rfl (by kernel_rfl)) rfl ?_
                        exact hz1.out.done (⟨.slice none 0 0, .slice none 0 0, .slice none 0 0, ln0 0⟩ : LnR) F.out.symm (LnOw.nil_ ⟨rfl, rfl, rfl⟩)
end Go.Proofs.YtchgfabgighbfaaGreatDoor.GueW
