/- shape.walk and its closure: the iterator's contract. -/
import Derived.Test.YtmmgfelifmdnbaaDoorItrD
namespace Go.Proofs.YtmmgfelifmdnbaaDoor.ItrW
set_option linter.unusedVariables false
open Go.RowKit Go.Shelf Base SeqM ShpM ShpV ShpW ShpD ShpT ShpI ShpJ ItrD

attribute [local go_sem] Oper.semAt_some

/-- what comes of a walk: all visits of a right tree; nothing of another one -/
def Comes (dim : Int) (ls : List Nd) (ys : List Vis) : Prop := (∃ b, IsT dim ls ∧ At ls 0 b ∧ ys = visits b 0 (-1) 0) ∨ (¬ IsT dim ls ∧ ys = [])
set_option maxRecDepth 100000 in
set_option maxHeartbeats 2000000 in
theorem walk_any (dim : Int) (nv : Value) (ls : List Nd) (lo : Nat) (w : World) (h : Nds w lo w.heap.size nv ls) :
    Calls Tryd.prog 31 #[.agg #[.int .i64 dim, nv]] w fun e w' => e = .returned (.func (.func 51) #[] #[.pointer (some ⟨w.heap.size, 0, none⟩)]) ∧ w' = w.alloc (.cells #[.int .i64 dim, nv] 24) := by
  obtain ⟨A, cap, rfl, hc1, hc2, _⟩ := h.form
  go_enter Tryd.func31, Tryd.ntmps31
  go_wp2_with fail
  go_ret
  exact ⟨rfl, rfl⟩
section
variable (n₀ lo : Nat) (dim : Int) (nv : Value) (ls : List Nd) (Cb : World → Nat → Prop) (Wf : World → Prop)
set_option maxRecDepth 100000 in
set_option maxHeartbeats 2000000 in
theorem walk_stops (hWa : ∀ W o, Wf W → Wf (W.alloc o)) (hWs : ∀ W k, Wf W → Cb W k → k < W.heap.size) (hWb : ∀ W o k, Wf W → Cb (W.alloc o) k → Cb W k) (hWx : ∀ W W', Wf W → Below W.heap.size W W' → Wf W')
    (n Bt : Nat) (w : World) (hBt : Bt < w.heap.size) (hn₀ : n₀ ≤ w.heap.size) (hwf : Wf w) (hN : Nds w lo n₀ nv ls)
    (c0 : w.cell? ⟨Bt, 0, none⟩ = some (.int .i64 dim)) (c1 : w.cell? ⟨Bt, 1, none⟩ = some nv) :
    SeqStopsK Fence.wide n Tryd.prog 51 #[.pointer (some ⟨Bt, 0, none⟩)] (fun x : Vis => #[visV x]) (Kp n₀ Cb Wf) (Comes dim ls) (fun _ => True) 127 w := by
  intro l J Jx W hW hJ hJx hY h0
  have hdd : ∀ k : Nat, (Fence.wide.depth.isSome = true → 1 ≤ k) := fun k h => by cases h
  have hJa : ∀ s W1 o, J s W1 → J s (W1.alloc o) := fun s W1 o h => hJ s W1 _ none h (World.grownBy_alloc W1 o none) (fun r e => by cases e)
  have hYm : ∀ (vs : List Vis), vs.length ≤ 127 → ∀ m pre x W1, J pre W1 → pre ++ [x] <+: vs → YieldAt Fence.wide m Tryd.prog l #[visV x] W1 fun e W' =>
      (e = .returned (.bool true) ∧ J (pre ++ [x]) W' ∧ Kp n₀ Cb Wf W1 W') ∨ (e = .returned (.bool false) ∧ Jx (pre ++ [x]) W') := fun vs hv m pre x W1 hj hl => by
    have := hl.length_le
    simp only [List.length_append, List.length_cons, List.length_nil] at this
    obtain ⟨fn, tmps, assign, body, hy, hR⟩ := hY pre x W1 hj (by omega)
    exact ⟨fn, tmps, assign, body, hy, hR.1, fun c cs _ => hR.2 c cs (room_wide _)⟩
  have hwf' : Wf W := hWx _ _ hwf hW
  have hN' : Nds W lo n₀ nv ls := hN.below (hW.mono hn₀)
  have hsz := hW.size
  have k0 := (hW.cell (p := ⟨Bt, 0, none⟩) hBt).trans c0
  have k1 := (hW.cell (p := ⟨Bt, 1, none⟩) hBt).trans c1
  have HI := Lib.hid (TIs_any nv ls dim lo W (hN'.more (Nat.le_refl _) (by omega)))
  have hJb : ∀ s W1 W2, J s W1 → Below W1.heap.size W1 W2 → J s W2 := fun s W1 W2 h hb => hJ s W1 W2 none h ⟨hb.os, hb.tape, hb.output, hb.size, fun k hk _ => hb.block k hk⟩ (fun r e => by cases e)
  obtain ⟨A, cap, rfl, hc1, hc2, _⟩ := hN.form
  obtain ⟨q, hq⟩ : ∃ q, ls.length = q := ⟨_, rfl⟩
  rw [hq] at HI k1
  cases hT : isTB dim ls
  · refine callsIn_of_wp Tryd.func51 rfl trivial ?_ rfl
    simp only [Tryd.ntmps51, List.size_toArray, List.length_cons, List.length_nil, Nat.reduceAdd, Nat.reduceSub, Array.replicate_succ, Array.replicate_zero, List.push_toArray, List.append_toArray, List.nil_append, List.cons_append]
    gi_wp2_with (refine ⟨trivial, ?_⟩; (try refine ⟨hdd _, ?_⟩); gi_at_call 32; refine (callsIn_wide.2 HI.out).mono ?_; rintro e W1 ⟨rfl, hb1⟩; rw [hT])
    go_end0
    exact ⟨⟨_, rfl⟩, .inl ⟨[], .inr ⟨isTB_false.1 hT, rfl⟩, hJb _ _ _ h0 hb1⟩⟩
  · obtain ⟨g1, g2, b, g3, g4, g5, g6, g7⟩ := isTB_true.1 hT
    have h127 := (isT_len (isTB_true.1 hT)).2
    have hh : b.high ≤ 127 := by have := high_le b; omega
    have HD := Lib.hid (fun W1 (hb1 : Below W.heap.size W W1) => down_in l n₀ (visits b 0 (-1) 0) lo dim (.slice A ls.length cap) ls Cb Wf J Jx hJa hWa hWs hWb (hYm _ (by rw [visits_len]; omega)) b (n - 1) 0 (-1) 0 [] W1 (by have := hb1.size; omega) (hWx _ _ hwf' hb1) (hN'.below (hb1.mono (by omega))) g3 (by omega) (by omega) (hJb _ _ _ h0 hb1) (by simp))
    rw [hq] at HD
    simp only [visV] at HD
    refine callsIn_of_wp Tryd.func51 rfl trivial ?_ rfl
    simp only [Tryd.ntmps51, List.size_toArray, List.length_cons, List.length_nil, Nat.reduceAdd, Nat.reduceSub, Array.replicate_succ, Array.replicate_zero, List.push_toArray, List.append_toArray, List.nil_append, List.cons_append]
    gi_wp2_with (first | (refine ⟨trivial, ?_⟩; (try refine ⟨hdd _, ?_⟩); gi_at_call 32; refine (callsIn_wide.2 HI.out).mono ?_; rintro e W1 ⟨rfl, hb1⟩; rw [hT]; have k0 := keepA hb1 k0; have k1 := keepA hb1 k1) | (refine ⟨trivial, ?_⟩; (try refine ⟨hdd _, ?_⟩); gi_at_call 52; refine (HD.out _ hb1).mono ?_; rintro e W2 (⟨rfl, hJ2, hk2⟩ | ⟨rfl, q, hq, hx⟩)))
    · go_end0
      exact ⟨⟨_, rfl⟩, .inl ⟨_, .inl ⟨b, isTB_true.1 hT, g3, rfl⟩, by simpa using hJ2⟩⟩
    · go_end0
      exact ⟨⟨_, rfl⟩, .inr ⟨_, trivial, hx⟩⟩
end
/-- an iterator that gives just vs, to whatever rounds go on: a round may count on what has come -/
def Gives {α : Type} (F : Fence) (n : Nat) (P : Program) (g : Nat) (lb : Array Value) (encs : α → Array Value) (Kp : World → World → Prop) (vs : List α) (w : World) : Prop :=
  ∀ (l : Nat) (J : List α → World → Prop) (W : World), Below w.heap.size w W → (∀ s W1 W2, J s W1 → Below W1.heap.size W1 W2 → J s W2) →
    (∀ pre x W1, J pre W1 → pre ++ [x] <+: vs → YieldAt F (n - 1) P l (encs x) W1 fun e W' => e = .returned (.bool true) ∧ J (pre ++ [x]) W' ∧ Kp W1 W') →
    J [] W → CallsIn F n P g (#[.func (.yield l) #[] #[]] ++ lb) W fun e W' => (∃ v, e = .returned v) ∧ J vs W'
section
variable (n₀ lo : Nat) (dim : Int) (nv : Value) (ls : List Nd) (Cb : World → Nat → Prop) (Wf : World → Prop)
set_option maxRecDepth 100000 in
set_option maxHeartbeats 2000000 in
/-- the visits of any nodes: none where they are no tree -/
theorem walk_gives (vs : List Vis) (hvs : Comes dim ls vs) (hWa : ∀ W o, Wf W → Wf (W.alloc o)) (hWs : ∀ W k, Wf W → Cb W k → k < W.heap.size) (hWb : ∀ W o k, Wf W → Cb (W.alloc o) k → Cb W k) (hWx : ∀ W W', Wf W → Below W.heap.size W W' → Wf W')
    (n Bt : Nat) (w : World) (hBt : Bt < w.heap.size) (hn₀ : n₀ ≤ w.heap.size) (hwf : Wf w) (hN : Nds w lo n₀ nv ls)
    (c0 : w.cell? ⟨Bt, 0, none⟩ = some (.int .i64 dim)) (c1 : w.cell? ⟨Bt, 1, none⟩ = some nv) :
    Gives Fence.wide n Tryd.prog 51 #[.pointer (some ⟨Bt, 0, none⟩)] (fun x : Vis => #[visV x]) (Kp n₀ Cb Wf) vs w := by
  intro l J W hW hJb hY h0
  have hdd : ∀ k : Nat, (Fence.wide.depth.isSome = true → 1 ≤ k) := fun k h => by cases h
  have hJa : ∀ s W1 o, J s W1 → J s (W1.alloc o) := fun s W1 o h => hJb s W1 _ h (below_a1 W1 o)
  have hYm : ∀ m pre x W1, J pre W1 → pre ++ [x] <+: vs → YieldAt Fence.wide m Tryd.prog l #[visV x] W1 fun e W' =>
      (e = .returned (.bool true) ∧ J (pre ++ [x]) W' ∧ Kp n₀ Cb Wf W1 W') ∨ (e = .returned (.bool false) ∧ (fun _ _ => False : List Vis → World → Prop) (pre ++ [x]) W') := fun m pre x W1 hj hl => by
    obtain ⟨fn, tmps, assign, body, hy, hR⟩ := YieldAt.mono (hY pre x W1 hj hl) (fun e W' h => (Or.inl h : (e = .returned (.bool true) ∧ J (pre ++ [x]) W' ∧ Kp n₀ Cb Wf W1 W') ∨ (e = .returned (.bool false) ∧ (fun _ _ => False : List Vis → World → Prop) (pre ++ [x]) W')))
    exact ⟨fn, tmps, assign, body, hy, hR.1, fun c cs _ => hR.2 c cs (room_wide _)⟩
  have hwf' : Wf W := hWx _ _ hwf hW
  have hN' : Nds W lo n₀ nv ls := hN.below (hW.mono hn₀)
  have hsz := hW.size
  have k0 := (hW.cell (p := ⟨Bt, 0, none⟩) hBt).trans c0
  have k1 := (hW.cell (p := ⟨Bt, 1, none⟩) hBt).trans c1
  have HI := Lib.hid (TIs_any nv ls dim lo W (hN'.more (Nat.le_refl _) (by omega)))
  obtain ⟨A, cap, rfl, hc1, hc2, _⟩ := hN.form
  obtain ⟨q, hq⟩ : ∃ q, ls.length = q := ⟨_, rfl⟩
  rw [hq] at HI k1
  cases hT : isTB dim ls
  · obtain rfl : vs = [] := hvs.elim (fun ⟨b, ht, _⟩ => absurd ht (isTB_false.1 hT)) (fun h => h.2)
    refine callsIn_of_wp Tryd.func51 rfl trivial ?_ rfl
    simp only [Tryd.ntmps51, List.size_toArray, List.length_cons, List.length_nil, Nat.reduceAdd, Nat.reduceSub, Array.replicate_succ, Array.replicate_zero, List.push_toArray, List.append_toArray, List.nil_append, List.cons_append]
    gi_wp2_with (refine ⟨trivial, ?_⟩; (try refine ⟨hdd _, ?_⟩); gi_at_call 32; refine (callsIn_wide.2 HI.out).mono ?_; rintro e W1 ⟨rfl, hb1⟩; rw [hT])
    go_end0
    exact ⟨⟨_, rfl⟩, hJb _ _ _ h0 hb1⟩
  · obtain ⟨g1, g2, b, g3, g4, g5, g6, g7⟩ := isTB_true.1 hT
    obtain rfl : vs = visits b 0 (-1) 0 := hvs.elim (fun ⟨b', _, hat, hv⟩ => by rw [hv, at_unique hat g3]) (fun h => absurd (isTB_true.1 hT) h.1)
    have h127 := (isT_len (isTB_true.1 hT)).2
    have hh : b.high ≤ 127 := by have := high_le b; omega
    have HD := Lib.hid (fun W1 (hb1 : Below W.heap.size W W1) => down_in l n₀ (visits b 0 (-1) 0) lo dim (.slice A ls.length cap) ls Cb Wf J (fun _ _ => False) hJa hWa hWs hWb hYm b (n - 1) 0 (-1) 0 [] W1 (by have := hb1.size; omega) (hWx _ _ hwf' hb1) (hN'.below (hb1.mono (by omega))) g3 (by omega) (by omega) (hJb _ _ _ h0 hb1) (by simp))
    rw [hq] at HD
    simp only [visV] at HD
    refine callsIn_of_wp Tryd.func51 rfl trivial ?_ rfl
    simp only [Tryd.ntmps51, List.size_toArray, List.length_cons, List.length_nil, Nat.reduceAdd, Nat.reduceSub, Array.replicate_succ, Array.replicate_zero, List.push_toArray, List.append_toArray, List.nil_append, List.cons_append]
    gi_wp2_with (first | (refine ⟨trivial, ?_⟩; (try refine ⟨hdd _, ?_⟩); gi_at_call 32; refine (callsIn_wide.2 HI.out).mono ?_; rintro e W1 ⟨rfl, hb1⟩; rw [hT]; have k0 := keepA hb1 k0; have k1 := keepA hb1 k1) | (refine ⟨trivial, ?_⟩; (try refine ⟨hdd _, ?_⟩); gi_at_call 52; refine (HD.out _ hb1).mono ?_; rintro e W2 (⟨rfl, hJ2, hk2⟩ | ⟨rfl, q, hq, hx⟩)))
    · go_end0
      exact ⟨⟨_, rfl⟩, by simpa using hJ2⟩
end
/-- how a round ends: it goes on -/
def okPost {α : Type} (B : Nat) (Kp : World → World → Prop) (I : List α → World → Prop) (xs : List α) (Wb : World) : Exit → Act → World → Prop := fun e _ W' => e = .normal ∧ KeepsFrom B Wb W' ∧ Kp Wb W' ∧ I xs W'
/-- a loop over an iterator whose rounds go on: the law at 'Gives' (my own; the loop's variable may be boxed) -/
theorem rangeG {α : Type} {F : Fence} {n : Nat} {P : Program} {g : Operand} {ps : Array Tmp} {assign body : Code} {Q : Exit → Act → World → Prop} {a : Act} {w : World}
    (hro : F.round = none) (h1 : 1 ≤ n) {gf : Nat} {lb : Array Value} (hg : a.eval g = .func (.func gf) #[] lb) (hFg : F.fn gf) (eg : ∀ args w, (callFunc gf args).run P w = .ok (.enter gf args) w)
    {encs : α → Array Value} {Kp : World → World → Prop} {vs : List α} {w0 : World} (hseq : Gives F (n - 1) P gf lb encs Kp vs w0)
    (hKt : ∀ {A B C : World}, Kp A B → Kp B C → Kp A C) (hKb : ∀ (W : World) (l : Nat) (o o' : Obj), w.heap.size ≤ l → W.heap[l]? = some o → o.isCells = false → o.isWalk = false → Kp W (W.putObj l o')) (hb0 : Below w0.heap.size w0 w) (hps : ∀ x, (encs x).size = ps.size)
    (I : List α → World → Prop) (hI : OwnFrom w.heap.size I) (h0 : I [] w)
    (hround : ∀ (l : Nat) (pre : List α) (x : α) (W : World) (K : Act → World → Prop), w.heap.size ≤ l → I pre W → pre ++ [x] <+: vs →
      (∀ a' Wa (Ia : World → Prop), KeepsFrom w.heap.size W Wa → Kp W Wa → Ia Wa → OwnFrom w.heap.size (fun (_ : Unit) W => Ia W) →
        (∀ Wb, (∃ r, Wb.heap[l]? = some (.loop r)) → Ia Wb → body.wpIn (F.inRound l) (n - 1 - 1) P (okPost w.heap.size Kp I (pre ++ [x]) Wb) a' Wb) → K a' Wa) →
      assign.wpIn (F.inRound l) (n - 1 - 1) P (Exit.then K (fun _ _ _ => False)) { tmps := (ps.zip (encs x)).foldl (fun t (p, v) => t.setIfInBounds p v) a.tmps, defers := [] } W)
    (hdone : ∀ (D : Nat) (W : World), w.heap.size ≤ D → I vs W → W.heap[D]? = some (.deferred (some [])) → Q .normal { a with defers := { target := .collected D, args := #[] } :: a.defers } W) :
    (Code.rangeFunc g ps assign body).wpIn F n P Q a w := by
  refine wpIn_rangeFunc fun fn hfn => ?_
  rw [hro]
  let R (s : LoopState) : Loop := { state := s, pending := none, fn := fn, tmps := a.tmps, params := ps, assign := assign, body := body, defers := w.heap.size }
  have hsz1 : ((w.alloc (.deferred (some []))).alloc (.loop (R .ready))).heap.size = w.heap.size + 2 := by simp
  -- the two blocks of book-keeping
  let Bk (W : World) : Prop := W.heap[w.heap.size + 1]? = some (.loop (R .ready)) ∧ W.heap[w.heap.size]? = some (.deferred (some []))
  have hBk : Bk ((w.alloc (.deferred (some []))).alloc (.loop (R .ready))) := by
    refine ⟨?_, ?_⟩
    · have := World.alloc_heap_new (w.alloc (.deferred (some []))) (.loop (R .ready))
      rwa [World.size_alloc] at this
    · exact (Below.heap_alloc _ _ _ (by simp)).trans (World.alloc_heap_new w _)
  refine ⟨_, _, (w.alloc (.deferred (some []))).alloc (.loop (R .ready)), { target := .fn (.func gf) lb, args := #[.func (.yield (w.heap.size + 1)) #[] #[]] }, (w.alloc (.deferred (some []))).alloc (.loop (R .ready)), gf, #[.func (.yield (w.heap.size + 1)) #[] #[]] ++ lb, (w.alloc (.deferred (some []))).alloc (.loop (R .ready)), run_enterLoop_outer _ _ _ _ _, ?_, ?_, ?_, fun _ => h1, ?_⟩
  · simp only [resolve, hg]
    simp [go_sem]
  · intro f' hf'
    simp [Target.leads] at hf'
    subst hf'
    exact hFg
  · simp [invoke, go_sem, eg]
  · have hbel : Below w0.heap.size w0 ((w.alloc (.deferred (some []))).alloc (.loop (R .ready))) := hb0.trans ((below_a2 w _ _).mono hb0.size)
    refine (hseq (w.heap.size + 1) (fun pre W => I pre W ∧ Bk W) _ hbel (fun s W1 W2 hs hb => ?_) ?_ ⟨hI.alloc _ (hI.alloc _ h0), hBk⟩).mono ?_
    · have hlt := (Array.getElem?_eq_some_iff.1 hs.2.1).1
      exact ⟨hI s W1 W2 none hs.1 ⟨hb.os, hb.tape, hb.output, hb.size, fun k hk _ => hb.block k hk⟩ (fun r e => by cases e), (hb.block _ hlt).trans hs.2.1, (hb.block _ (by omega)).trans hs.2.2⟩
    · -- one round
      rintro pre x W ⟨hi, hl, hk⟩ hpre
      refine ⟨fn, _, assign, body, run_yield hl (hps x), roundIn_of_wpIn hfn (hround _ pre x W _ (by omega) hi hpre ?_)⟩
      intro a' Wa Ia hkfa hkpa hia hown hbody
      have hla := hkfa.same _ _ (by omega) hl rfl
      have hka := hkfa.same _ _ (Nat.le_refl _) hk rfl
      have hlt := (Array.getElem?_eq_some_iff.1 hla).1
      refine ⟨_, run_beginRound hla rfl, ?_⟩
      obtain ⟨Wb, hWb⟩ : ∃ Wb, Wa.putObj (w.heap.size + 1) (.loop { R .ready with state := .busy }) = Wb := ⟨_, rfl⟩
      have hlb : Wb.heap[w.heap.size + 1]? = some (.loop (R .busy)) := by rw [← hWb]; exact World.putObj_heap_same hlt
      have hkb : Wb.heap[w.heap.size]? = some (.deferred (some [])) := by rw [← hWb]; exact (World.putObj_heap_other (by omega)).trans hka
      have hkpb : Kp Wa Wb := by rw [← hWb]; exact hKb _ _ _ _ (by omega) hla rfl rfl
      have hib : Ia Wb := by rw [← hWb]; exact hown.putObj (s := ()) _ hia (by omega) hla rfl
      show body.wpIn (F.inRound (w.heap.size + 1)) (n - 1 - 1) P _ a' (Wa.putObj (w.heap.size + 1) (.loop { R .ready with state := .busy }))
      rw [hWb]
      refine wpIn_mono (hbody Wb ⟨_, hlb⟩ hib) ?_
      rintro e a3 W3 ⟨rfl, hkf3, hkp3, hi3⟩
      have hl3 := hkf3.same _ _ (by omega) hlb rfl
      have hk3 := hkf3.same _ _ (Nat.le_refl _) hkb rfl
      refine ⟨_, _, run_endRound none hl3, rfl, ⟨hI.putObj _ hi3 (by omega) hl3 rfl, World.putObj_heap_same (Array.getElem?_eq_some_iff.1 hl3).1, (World.putObj_heap_other (by omega)).trans hk3⟩, ?_⟩
      exact hKt (hKt hkpa hkpb) (hKt hkp3 (hKb _ _ _ _ (by omega) hl3 rfl rfl))
    · rintro e W2 ⟨⟨v, rfl⟩, hi, hl, hk⟩
      exact ⟨none, _, run_endLoop hl (by simp [R]), hdone _ _ (Nat.le_refl _) (hI.putObj _ hi (by omega) hl rfl) ((World.putObj_heap_other (by omega)).trans hk)⟩
end Go.Proofs.YtmmgfelifmdnbaaDoor.ItrW
