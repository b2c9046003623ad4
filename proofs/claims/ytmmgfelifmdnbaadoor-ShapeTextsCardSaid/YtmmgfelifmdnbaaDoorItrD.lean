/- shape.down, shape.walk: the iterator over a tree's nodes. -/
import Derived.RangeFuncNested
import Derived.RangeFuncBound
import Derived.RangeFuncCalls
import Derived.RangeFuncLeaves
import Derived.Shelf.Abstract
import Derived.Shelf.RegionOpen
import Derived.OwnWalkIn
import Derived.TacticsInMore
import Derived.LoopNIn
import Derived.LoopIn
import Derived.Test.YtmmgfelifmdnbaaDoorShpX
import Derived.Test.YtmmgfelifmdnbaaDoorShpJ
namespace Go.Proofs.YtmmgfelifmdnbaaDoor.ItrD
set_option linter.unusedVariables false
open Go.RowKit Go.Shelf Base SeqM ShpM ShpV ShpW ShpD ShpT ShpI ShpJ

attribute [local go_sem] Oper.semAt_some

/-- a visit: its place, its parent's, its depth -/
abbrev Vis := Int × Int × Int
def visV (x : Vis) : Value := .agg #[.int .i64 x.1, .int .i64 x.2.1, .int .i64 x.2.2]
/-- the visits of a tree's nodes, in their order -/
def visits : B → Nat → Int → Int → List Vis
  | .leaf _, i, p, d => [((i : Int), p, d)]
  | .fork _ _ l r, i, p, d => ((i : Int), p, d) :: (visits l (i + 1) i (d + 1) ++ visits r (i + 1 + l.count) i (d + 1))
theorem visits_len : ∀ (b : B) (i : Nat) (p d : Int), (visits b i p d).length = b.count
  | .leaf _, _, _, _ => rfl
  | .fork _ _ l r, i, p, d => by simp only [visits, B.count, List.length_cons, List.length_append, visits_len l, visits_len r]; omega
/-- what a round leaves: what lies below n₀, and every block of cells that is not the caller's -/
def Kp (n₀ : Nat) (Cb : World → Nat → Prop) (Wf : World → Prop) (W W' : World) : Prop := Below n₀ W W' ∧ (∀ k cs t fz, W.heap[k]? = some (.cells cs t fz) → ¬ Cb W k → W'.heap[k]? = W.heap[k]? ∧ ¬ Cb W' k) ∧ (Wf W → Wf W')
theorem kp_t {n₀ : Nat} {Cb : World → Nat → Prop} {Wf : World → Prop} {A B C : World} (h : Kp n₀ Cb Wf A B) (h' : Kp n₀ Cb Wf B C) : Kp n₀ Cb Wf A C := by
  refine ⟨h.1.trans h'.1, fun k cs t fz hk hc => ?_, fun hw => h'.2.2 (h.2.2 hw)⟩
  obtain ⟨e1, c1⟩ := h.2.1 k cs t fz hk hc
  obtain ⟨e2, c2⟩ := h'.2.1 k cs t fz (e1.trans hk) c1
  exact ⟨e2.trans e1, c2⟩
theorem kp_cell {n₀ : Nat} {Cb : World → Nat → Prop} {Wf : World → Prop} {W W' : World} (h : Kp n₀ Cb Wf W W') {b o : Nat} {u : Value} {cs : Array Value} {t : TypeId} {fz : Nat × Nat} (hb : W.heap[b]? = some (.cells cs t fz)) (hc : ¬ Cb W b) (hu : W.cell? ⟨b, o, none⟩ = some u) : W'.cell? ⟨b, o, none⟩ = some u :=
  (World.cell?_of_block (a := ⟨b, o, none⟩) (h.2.1 b cs t fz hb hc).1).trans hu
theorem nds_ge {W : World} {lo B : Nat} {v : Value} {l : List Nd} (h : Nds W lo B v l) {W' : World} (hb : Below B W W') : Nds W' lo B v l := h.below hb
theorem cell_heap {W : World} {b o : Nat} {cs : Array Value} {t : TypeId} {fz : Nat × Nat} {u : Value} (h : W.heap[b]? = some (.cells cs t fz)) (hu : cs[o]? = some u) : W.cell? ⟨b, o, none⟩ = some u := by
  unfold World.cell?
  rw [show W.heap[(⟨b, o, none⟩ : Addr).block]? = some (.cells cs t fz) from h]
  exact hu
theorem kp_alloc {n₀ : Nat} {Cb : World → Nat → Prop} {Wf : World → Prop} {W : World} (o : Obj) (h : n₀ ≤ W.heap.size) (hC : ∀ k, Cb (W.alloc o) k → Cb W k) (hw : Wf W → Wf (W.alloc o)) : Kp n₀ Cb Wf W (W.alloc o) :=
  ⟨(Below.refl _ _).alloc h o, fun k cs t fz hk hc => ⟨Below.heap_alloc W o k (Array.getElem?_eq_some_iff.1 hk).1, fun h => hc (hC k h)⟩, hw⟩
/-- the three boxes of a call of down -/
abbrev W3 (W : World) (dim : Int) (nv cv : Value) (i p d at_ left right size : Int) : World :=
  ((W.alloc (.cells #[.int .i64 dim, nv] 24)).alloc (.cells #[.int .i64 i, .int .i64 p, .int .i64 d] 54)).alloc (.cells #[cv, .int .i64 at_, .int .i64 left, .int .i64 right, .int .i64 size] 39)
section
variable {n₀ : Nat} {Cb : World → Nat → Prop} {Wf : World → Prop} {W W' : World} {dim : Int} {nv cv : Value} {i p d at_ left right size : Int}
theorem facts (hn : n₀ ≤ W.heap.size) (hC : ∀ k, Cb (W3 W dim nv cv i p d at_ left right size) k → k < W.heap.size) (h : Kp n₀ Cb Wf (W3 W dim nv cv i p d at_ left right size) W') :
    W'.cell? ⟨W.heap.size, 0, none⟩ = some (.int .i64 dim) ∧ W'.cell? ⟨W.heap.size, 1, none⟩ = some nv ∧ W'.cell? ⟨W.heap.size + 1, 0, none⟩ = some (.int .i64 i) ∧ W'.cell? ⟨W.heap.size + 1, 2, none⟩ = some (.int .i64 d) ∧
      W'.cell? ⟨W.heap.size + 2, 2, none⟩ = some (.int .i64 left) ∧ W'.cell? ⟨W.heap.size + 2, 3, none⟩ = some (.int .i64 right) := by
  have b2 : (W3 W dim nv cv i p d at_ left right size).heap[W.heap.size + 2]? = some (.cells #[cv, .int .i64 at_, .int .i64 left, .int .i64 right, .int .i64 size] 39) := by
    have := heap_alloc_new ((W.alloc (.cells #[.int .i64 dim, nv] 24)).alloc (.cells #[.int .i64 i, .int .i64 p, .int .i64 d] 54)) (.cells #[cv, .int .i64 at_, .int .i64 left, .int .i64 right, .int .i64 size] 39)
    simpa using this
  have b1 : (W3 W dim nv cv i p d at_ left right size).heap[W.heap.size + 1]? = some (.cells #[.int .i64 i, .int .i64 p, .int .i64 d] 54) := by
    have := heap_alloc_new (W.alloc (.cells #[.int .i64 dim, nv] 24)) (.cells #[.int .i64 i, .int .i64 p, .int .i64 d] 54)
    refine (Below.heap_alloc _ _ _ (by simp)).trans (by simpa using this)
  have b0 : (W3 W dim nv cv i p d at_ left right size).heap[W.heap.size]? = some (.cells #[.int .i64 dim, nv] 24) :=
    (Below.heap_alloc _ _ _ (by simp; omega)).trans ((Below.heap_alloc _ _ _ (by simp)).trans (heap_alloc_new W _))
  have n0 : ¬ Cb (W3 W dim nv cv i p d at_ left right size) W.heap.size := fun h => by have := hC _ h; omega
  have n1 : ¬ Cb (W3 W dim nv cv i p d at_ left right size) (W.heap.size + 1) := fun h => by have := hC _ h; omega
  have n2 : ¬ Cb (W3 W dim nv cv i p d at_ left right size) (W.heap.size + 2) := fun h => by have := hC _ h; omega
  exact ⟨kp_cell h b0 n0 (cell_heap b0 rfl), kp_cell h b0 n0 (cell_heap b0 rfl), kp_cell h b1 n1 (cell_heap b1 rfl), kp_cell h b1 n1 (cell_heap b1 rfl),
    kp_cell h b2 n2 (cell_heap b2 rfl), kp_cell h b2 n2 (cell_heap b2 rfl)⟩
end
section
variable (l n₀ : Nat) (vs : List Vis) (lo : Nat) (dim : Int) (nv : Value) (ls : List Nd) (Cb : World → Nat → Prop) (Wf : World → Prop) (J Jx : List Vis → World → Prop)
set_option maxRecDepth 100000 in
set_option maxHeartbeats 4000000 in
theorem down_in (hJa : ∀ s W o, J s W → J s (W.alloc o)) (hWa : ∀ W o, Wf W → Wf (W.alloc o)) (hWs : ∀ W k, Wf W → Cb W k → k < W.heap.size) (hWb : ∀ W o k, Wf W → Cb (W.alloc o) k → Cb W k)
    (hY : ∀ m pre x W, J pre W → pre ++ [x] <+: vs → YieldAt Fence.wide m Tryd.prog l #[visV x] W fun e W' =>
      (e = .returned (.bool true) ∧ J (pre ++ [x]) W' ∧ Kp n₀ Cb Wf W W') ∨ (e = .returned (.bool false) ∧ Jx (pre ++ [x]) W')) (b : B) :
    ∀ (n i : Nat) (p d : Int) (pre : List Vis) (W : World), n₀ ≤ W.heap.size → Wf W → Nds W lo n₀ nv ls → At ls i b → 0 ≤ d → d + b.high ≤ 1000000 → J pre W → pre ++ visits b i p d <+: vs →
      CallsIn Fence.wide n Tryd.prog 52 #[.agg #[.int .i64 dim, nv], visV ((i : Int), p, d), .func (.yield l) #[] #[]] W fun e W' =>
        (e = .returned (.bool true) ∧ J (pre ++ visits b i p d) W' ∧ Kp n₀ Cb Wf W W') ∨ (e = .returned (.bool false) ∧ ∃ q, q <+: visits b i p d ∧ Jx (pre ++ q) W') := by
  have hJ3 : ∀ pre W cv i p d at_ left right size, J pre W → J pre (W3 W dim nv cv i p d at_ left right size) := fun pre W cv i p d at_ left right size h => hJa _ _ _ (hJa _ _ _ (hJa _ _ _ h))
  have hC3 : ∀ W cv i p d at_ left right size, Wf W → ∀ k, Cb (W3 W dim nv cv i p d at_ left right size) k → k < W.heap.size := fun W cv i p d at_ left right size h k hk =>
    hWs _ k h (hWb _ _ _ h (hWb _ _ _ (hWa _ _ h) (hWb _ _ _ (hWa _ _ (hWa _ _ h)) hk)))
  have hK3 : ∀ W cv i p d at_ left right size, n₀ ≤ W.heap.size → Wf W → Kp n₀ Cb Wf W (W3 W dim nv cv i p d at_ left right size) := fun W cv i p d at_ left right size hn h =>
    kp_t (kp_t (kp_alloc _ hn (fun k => hWb _ _ _ h) (hWa _ _)) (kp_alloc _ (by simp; omega) (fun k => hWb _ _ _ (hWa _ _ h)) (hWa _ _))) (kp_alloc _ (by simp; omega) (fun k => hWb _ _ _ (hWa _ _ (hWa _ _ h))) (hWa _ _))
  have hdd : ∀ k : Nat, (Fence.wide.depth.isSome = true → 1 ≤ k) := fun k h => by cases h
  induction b with
  | leaf m =>
    intro n i p d pre W hn₀ hwf hN hat hd0 hd hJ hlen
    rw [at_leaf] at hat
    obtain ⟨A, cap, rfl, hc1, hc2, _⟩ := hN.form
    obtain ⟨ad, cv, rfl, hbk, d0, d1, d2, d3, d4, hcv⟩ := hN.get hat
    have hin := (List.getElem?_eq_some_iff.1 hat).1
    have hbk5 : (ad.add (i * 5)).block < W.heap.size := by rw [add_block]; omega
    obtain ⟨q, hq⟩ : ∃ q, ls.length = q := ⟨_, rfl⟩
    rw [hq] at hc1 hin hJ3 hC3 hK3 ⊢
    obtain ⟨AC, cc, rfl, _, _, _, _⟩ := hcv
    have HJ3 := Lib.hid (hJ3 pre W (.slice AC ([] : List Int).length cc) i p d 0 0 0 m hJ)
    have HC3 := Lib.hid (hC3 W (.slice AC ([] : List Int).length cc) i p d 0 0 0 m hwf)
    have HK3 := Lib.hid (hK3 W (.slice AC ([] : List Int).length cc) i p d 0 0 0 m hn₀ hwf)
    have hyy := hY (n - 1) pre ((i : Int), p, d) _ HJ3.out hlen
    have hyy := YieldAt.mono hyy (fun e W4 (h : (e = .returned (.bool true) ∧ J (pre ++ [((i : Int), p, d)]) W4 ∧ Kp n₀ Cb Wf _ W4) ∨ (e = .returned (.bool false) ∧ Jx (pre ++ [((i : Int), p, d)]) W4)) =>
      (h.elim (fun ⟨he, hj, hk⟩ => .inl ⟨he, hj, hk, (facts hn₀ HC3.out hk).2.2.2.2.1⟩) .inr : (e = .returned (.bool true) ∧ J (pre ++ [((i : Int), p, d)]) W4 ∧ Kp n₀ Cb Wf _ W4 ∧ W4.cell? ⟨W.heap.size + 2, 2, none⟩ = some (.int .i64 0)) ∨ (e = .returned (.bool false) ∧ Jx (pre ++ [((i : Int), p, d)]) W4)))
    obtain ⟨fn, tmps, assign, body, hy, hR⟩ := hyy
    clear hY hJ3 hC3 hK3 hN hat
    refine callsIn_of_wp Tryd.func52 rfl trivial ?_ rfl
    simp only [visV, W3, List.length_nil] at hy hR
    simp only [Tryd.ntmps52, visV, List.size_toArray, List.length_cons, List.length_nil, Nat.reduceAdd, Nat.reduceSub, Array.replicate_succ, Array.replicate_zero, List.push_toArray, List.append_toArray, List.nil_append, List.cons_append]
    gi_wp2_with ((try refine ⟨hdd _, ?_⟩); refine hR.mono ?_; clear hR; rintro e W4 (⟨rfl, hJ4, hk4, g4⟩ | ⟨rfl, hx4⟩))
    all_goals try (rename_i h1 h2; exfalso; cases h1; done)
    all_goals (refine ⟨trivial, ?_⟩; gi_wp2)
    all_goals try (rename_i h1 h2; exfalso; cases h1; done)
    all_goals try (refine ⟨(trivial : Fence.wide.fn 52), ?_⟩; gi_wp2)
    · go_ret
      exact .inl ⟨rfl, by simpa [visits] using hJ4, kp_t HK3.out hk4⟩
    · go_ret
      exact .inr ⟨rfl, [((i : Int), p, d)], by simp [visits], hx4⟩
  | fork c a x y ihx ihy =>
    intro n i p d pre W hn₀ hwf hN hat hd0 hd hJ hlen
    rw [at_fork] at hat
    obtain ⟨hnd, hatx, haty⟩ := hat
    have hly := at_le haty
    have hin := (List.getElem?_eq_some_iff.1 hnd).1
    simp only [B.high] at hd
    obtain ⟨j, hj⟩ : ∃ j, i + 1 = j := ⟨_, rfl⟩
    rw [hj] at hnd hatx haty hly
    obtain ⟨jr, hjr⟩ : ∃ jr, j + x.count = jr := ⟨_, rfl⟩
    rw [hjr] at hnd haty hly
    have hle : pre ++ [((i : Int), p, d)] ++ visits x j i (d + 1) ++ visits y jr i (d + 1) <+: vs := by
      have e : visits (.fork c a x y) i p d = ((i : Int), p, d) :: (visits x j i (d + 1) ++ visits y jr i (d + 1)) := by simp only [visits, hj, hjr]
      rw [e] at hlen
      simpa [List.append_assoc] using hlen
    have hle1 : pre ++ [((i : Int), p, d)] ++ visits x j i (d + 1) <+: vs := (List.prefix_append _ _).trans hle
    have hle0 : pre ++ [((i : Int), p, d)] <+: vs := (List.prefix_append _ _).trans hle1
    clear hlen
    obtain ⟨sz, hsz⟩ : ∃ sz, x.size + y.size = sz := ⟨_, rfl⟩
    rw [hsz] at hnd
    obtain ⟨A, cap, rfl, hc1, hc2, _⟩ := hN.form
    obtain ⟨ad, cv, rfl, hbk, d0, d1, d2, d3, d4, hcv⟩ := hN.get hnd
    have hbk5 : (ad.add (i * 5)).block < W.heap.size := by rw [add_block]; omega
    obtain ⟨AC, cc, rfl, _, _, _, _⟩ := hcv
    obtain ⟨cn, hcn⟩ : ∃ cn, c.length = cn := ⟨_, rfl⟩
    rw [hcn] at d0
    have HJ3 := Lib.hid (hJ3 pre W (.slice AC cn cc) i p d a j jr sz hJ)
    have HC3 := Lib.hid (hC3 W (.slice AC cn cc) i p d a j jr sz hwf)
    have HK3 := Lib.hid (hK3 W (.slice AC cn cc) i p d a j jr sz hn₀ hwf)
    have HNF := Lib.hid (fun W' (hk : Kp n₀ Cb Wf (W3 W dim (.slice (some ad) ls.length cap) (.slice AC cn cc) i p d a j jr sz) W') => show n₀ ≤ W'.heap.size ∧ Wf W' ∧ Nds W' lo n₀ (.slice (some ad) ls.length cap) ls from
      ⟨Nat.le_trans hn₀ (Nat.le_trans HK3.out.1.size hk.1.size), hk.2.2 (HK3.out.2.2 hwf), hN.below (HK3.out.1.trans hk.1)⟩)
    have ihl : ∀ W4, J (pre ++ [((i : Int), p, d)]) W4 → Kp n₀ Cb Wf (W3 W dim (.slice (some ad) ls.length cap) (.slice AC cn cc) i p d a j jr sz) W4 →
        CallsIn Fence.wide (n - 1) Tryd.prog 52 #[.agg #[.int .i64 dim, .slice (some ad) ls.length cap], visV ((j : Int), (i : Int), d + 1), .func (.yield l) #[] #[]] W4 fun e W5 =>
          (e = .returned (.bool true) ∧ J (pre ++ [((i : Int), p, d)] ++ visits x j i (d + 1)) W5 ∧ Kp n₀ Cb Wf (W3 W dim (.slice (some ad) ls.length cap) (.slice AC cn cc) i p d a j jr sz) W5 ∧
            W5.cell? ⟨W.heap.size, 0, none⟩ = some (.int .i64 dim) ∧ W5.cell? ⟨W.heap.size, 1, none⟩ = some (.slice (some ad) ls.length cap) ∧ W5.cell? ⟨W.heap.size + 1, 0, none⟩ = some (.int .i64 i) ∧ W5.cell? ⟨W.heap.size + 1, 2, none⟩ = some (.int .i64 d) ∧
            W5.cell? ⟨W.heap.size + 2, 2, none⟩ = some (.int .i64 j) ∧ W5.cell? ⟨W.heap.size + 2, 3, none⟩ = some (.int .i64 jr)) ∨
          (e = .returned (.bool false) ∧ ∃ q, q <+: visits x j i (d + 1) ∧ Jx (pre ++ [((i : Int), p, d)] ++ q) W5) := fun W4 hj4 hk4 =>
      (ihx (n - 1) j i (d + 1) _ W4 (HNF.out W4 hk4).1 (HNF.out W4 hk4).2.1 (HNF.out W4 hk4).2.2 hatx (by omega) (by omega) hj4 hle1).mono fun e W5 h =>
        h.elim (fun ⟨he, hj5, hk5⟩ => .inl ⟨he, hj5, kp_t hk4 hk5, facts hn₀ HC3.out (kp_t hk4 hk5)⟩) .inr
    have ihr : ∀ W5, J (pre ++ [((i : Int), p, d)] ++ visits x j i (d + 1)) W5 → Kp n₀ Cb Wf (W3 W dim (.slice (some ad) ls.length cap) (.slice AC cn cc) i p d a j jr sz) W5 →
        CallsIn Fence.wide (n - 1) Tryd.prog 52 #[.agg #[.int .i64 dim, .slice (some ad) ls.length cap], visV ((jr : Int), (i : Int), d + 1), .func (.yield l) #[] #[]] W5 fun e W6 =>
          (e = .returned (.bool true) ∧ J (pre ++ [((i : Int), p, d)] ++ visits x j i (d + 1) ++ visits y jr i (d + 1)) W6 ∧ Kp n₀ Cb Wf (W3 W dim (.slice (some ad) ls.length cap) (.slice AC cn cc) i p d a j jr sz) W6) ∨
          (e = .returned (.bool false) ∧ ∃ q, q <+: visits y jr i (d + 1) ∧ Jx (pre ++ [((i : Int), p, d)] ++ visits x j i (d + 1) ++ q) W6) := fun W5 hj5 hk5 =>
      (ihy (n - 1) jr i (d + 1) _ W5 (HNF.out W5 hk5).1 (HNF.out W5 hk5).2.1 (HNF.out W5 hk5).2.2 haty (by omega) (by omega) hj5 hle).mono fun e W6 h =>
        h.elim (fun ⟨he, hj6, hk6⟩ => .inl ⟨he, hj6, kp_t hk5 hk6⟩) .inr
    obtain ⟨q, hq⟩ : ∃ q, ls.length = q := ⟨_, rfl⟩
    have hyy := hY (n - 1) pre ((i : Int), p, d) _ HJ3.out hle0
    have hyy := YieldAt.mono hyy (fun e W4 (h : (e = .returned (.bool true) ∧ J (pre ++ [((i : Int), p, d)]) W4 ∧ Kp n₀ Cb Wf _ W4) ∨ (e = .returned (.bool false) ∧ Jx (pre ++ [((i : Int), p, d)]) W4)) =>
      (h.elim (fun ⟨he, hj, hk⟩ => .inl ⟨he, hj, hk, facts hn₀ HC3.out hk⟩) .inr : (e = .returned (.bool true) ∧ J (pre ++ [((i : Int), p, d)]) W4 ∧ Kp n₀ Cb Wf _ W4 ∧ _) ∨ (e = .returned (.bool false) ∧ Jx (pre ++ [((i : Int), p, d)]) W4)))
    obtain ⟨fn, tmps, assign, body, hy, hR⟩ := hyy
    have hj0 : ((j : Int) == 0) = false := by rw [beq_eq_false_iff_ne]; omega
    have hwd : IntKind.i64.wrap (d + 1) = d + 1 := IntWalk.i64_in _ (by omega)
    rw [hq] at hc1 hin ⊢
    clear hJ3 hC3 hK3
    refine callsIn_of_wp Tryd.func52 rfl trivial ?_ rfl
    simp only [visV, W3, hq] at hy hR ihl ihr
    simp only [Tryd.ntmps52, visV, List.size_toArray, List.length_cons, List.length_nil, Nat.reduceAdd, Nat.reduceSub, Array.replicate_succ, Array.replicate_zero, List.push_toArray, List.append_toArray, List.nil_append, List.cons_append]
    gi_wp2_with (first | ((try refine ⟨hdd _, ?_⟩); refine hR.mono ?_; clear hR; rintro e W4 (⟨rfl, hJ4, hk4, g0, g1, g2, g3, g4, g5⟩ | ⟨rfl, hx4⟩)) | (refine ⟨trivial, ?_⟩; (try refine ⟨hdd _, ?_⟩); gi_at_call 52; refine (ihl W4 hJ4 hk4).mono ?_; clear ihl; rintro e W5 (⟨rfl, hJ5, hk5, e0, e1, e2, e3, e4, e5⟩ | ⟨rfl, hx5⟩)) | (refine ⟨trivial, ?_⟩; (try refine ⟨hdd _, ?_⟩); gi_at_call 52; refine (ihr W5 hJ5 hk5).mono ?_; clear ihr; rintro e W6 (⟨rfl, hJ6, hk6⟩ | ⟨rfl, hx6⟩)))
    all_goals try (rename_i h1 h2; exfalso; cases h1; done)
    all_goals try (refine ⟨(trivial : Fence.wide.fn 52), ?_⟩; gi_wp2)
    all_goals try (rename_i h1 h2; exfalso; cases h1; done)
    all_goals try (refine ⟨(trivial : Fence.wide.fn 52), ?_⟩; gi_wp2)
    all_goals try (rename_i h1 h2; exfalso; cases h1; done)
    · go_ret
      have e : visits (.fork c a x y) i p d = ((i : Int), p, d) :: (visits x j i (d + 1) ++ visits y jr i (d + 1)) := by simp only [visits, hj, hjr]
      exact .inl ⟨rfl, by rw [e]; simpa [List.append_assoc] using hJ6, kp_t HK3.out (by rw [hq]; exact hk6)⟩
    · go_ret
      have e : visits (.fork c a x y) i p d = ((i : Int), p, d) :: (visits x j i (d + 1) ++ visits y jr i (d + 1)) := by simp only [visits, hj, hjr]
      obtain ⟨t, ⟨r, hr⟩, hx⟩ := hx6
      exact .inr ⟨rfl, ((i : Int), p, d) :: (visits x j i (d + 1) ++ t), ⟨r, by rw [e, ← hr]; simp⟩, by simpa [List.append_assoc] using hx⟩
    · go_ret
      have e : visits (.fork c a x y) i p d = ((i : Int), p, d) :: (visits x j i (d + 1) ++ visits y jr i (d + 1)) := by simp only [visits, hj, hjr]
      obtain ⟨t, ⟨r, hr⟩, hx⟩ := hx5
      exact .inr ⟨rfl, ((i : Int), p, d) :: t, ⟨r ++ visits y jr i (d + 1), by rw [e, ← hr]; simp⟩, by simpa [List.append_assoc] using hx⟩
    · go_ret
      have e : visits (.fork c a x y) i p d = ((i : Int), p, d) :: (visits x j i (d + 1) ++ visits y jr i (d + 1)) := by simp only [visits, hj, hjr]
      exact .inr ⟨rfl, [((i : Int), p, d)], ⟨visits x j i (d + 1) ++ visits y jr i (d + 1), by rw [e]; simp⟩, hx4⟩
end
end Go.Proofs.YtmmgfelifmdnbaaDoor.ItrD
