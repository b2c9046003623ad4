/- copseref11.keep, Prune. -/
import Derived.Test.YtmmgfelifmdnbaaDoorItrP
import Derived.Test.YtmmgfelifmdnbaaDoorAbvW
import Derived.StillTailTactics
namespace Go.Proofs.YtmmgfelifmdnbaaDoor.KeeW
set_option linter.unusedVariables false
open Go.BigFrame Go.RowKit Go.Shelf Go.WideElems Base SeqM ShpM ShpV ShpW ShpD ShpT ShpI ShpJ ShpR ShpU ItrD ItrW ItrK ItrF ItrG PruM PruW UpW

/-- a call that owns a row: all but that row is as it was -/
def KeepB (n0 : Nat) (w w' : World) (v v' : Value) : Prop := Below n0 w w' ∧ (∀ j, j < w.heap.size → v.ownBlock ≠ some j → w'.heap[j]? = w.heap[j]?) ∧ (∀ g, v'.ownBlock = some g → v.ownBlock = some g ∨ w.heap.size ≤ g)
theorem KeepB.trans {n0 : Nat} {w w' w'' : World} {v v' v'' : Value} (h : KeepB n0 w w' v v') (h' : KeepB n0 w' w'' v' v'') : KeepB n0 w w'' v v'' := by
  refine ⟨h.1.trans h'.1, fun j hj hne => ?_, fun g hg => ?_⟩
  · refine (h'.2.1 j (Nat.lt_of_lt_of_le hj h.1.size) (fun e => ?_)).trans (h.2.1 j hj hne)
    rcases h.2.2 j e with e1 | e1
    · exact hne e1
    · omega
  · rcases h'.2.2 g hg with e1 | e1
    · exact h.2.2 g e1
    · exact .inr (Nat.le_trans h.1.size e1)
theorem KeepB.of_below {n0 : Nat} {w w' : World} (v : Value) (h : Below w.heap.size w w') (hn : n0 ≤ w.heap.size) : KeepB n0 w w' v v := ⟨h.mono hn, fun j hj _ => h.block j hj, fun g hg => .inl hg⟩
theorem KeepB.of_app {n0 : Nat} {w w' : World} {e : TypeId} {size : Nat} {A A' : Option Addr} {n cap n' cap' : Nat} {xs : List Value} (h : App w w' n0 e size A n cap A' n' cap' xs) : KeepB n0 w w' (.slice A n cap) (.slice A' n' cap') := by
  refine ⟨h.below, fun j hj hne => h.grown.block j hj (fun e => hne e.symm), fun g hg => ?_⟩
  rcases h.lies with e1 | e1
  · exact .inl (e1 ▸ hg)
  · rw [hg] at e1; exact .inr e1
theorem KeepB.cell {n0 : Nat} {w w' : World} {v v' : Value} (h : KeepB n0 w w' v v') {b o : Nat} {u : Value} (hb : b < w.heap.size) (hne : v.ownBlock ≠ some b) (hc : w.cell? ⟨b, o, none⟩ = some u) : w'.cell? ⟨b, o, none⟩ = some u :=
  (World.cell?_of_block (a := ⟨b, o, none⟩) (h.2.1 b hb hne)).trans hc
def KPost (w0 : World) (lo : Nat) (nds : List Nd) (w : World) (v : Value) (e : Ending) (w' : World) : Prop :=
  ∃ (v' : Value) (rs' : List (Value × Nd)), e = .returned v' ∧ rs'.map (·.2) = nds ∧ w'.ownsRow w0.heap.size 39 5 v' rs'.length (rs'.flatMap ndC) ∧ (∀ r ∈ rs', Seq 1 inC w0 lo w0.heap.size r.1 r.2.coef) ∧ KeepB w0.heap.size w w' v v'
theorem slice_of_own {w : World} {base : Nat} {e : TypeId} {size n : Nat} {v : Value} {xs : List Value} (h : w.ownsRow base e size v n xs) : ∃ A cap, v = .slice A n cap := by
  rcases h.2 with ⟨e, e0⟩ | ⟨g, cp, cur, e, _⟩
  · exact ⟨none, 0, by rw [e, e0]⟩
  · exact ⟨_, _, e⟩
set_option maxHeartbeats 2000000 in
set_option maxRecDepth 100000 in
/-- a leaf's end: one node is appended -/
theorem keep_leaf {w0 : World} {lo : Nat} {dim : Int} {nv : Value} {ls : List Nd} (h : Nds w0 lo w0.heap.size nv ls) (hlen : ls.length ≤ 127) (i k : Nat) (w : World) (v : Value) (rs : List (Value × Nd)) (nd : Nd) (hnd : ls[i]? = some nd) (hb : Below w0.heap.size w0 w)
    (hown : w.ownsRow w0.heap.size 39 5 v rs.length (rs.flatMap ndC)) (hrs : ∀ r ∈ rs, Seq 1 inC w0 lo w0.heap.size r.1 r.2.coef) (hl : rs.length ≤ 1000) (hk : k = 0 ∨ nd.left = 0) :
    Calls Tryd.prog 34 #[.agg #[.int .i64 dim, nv], .int .i64 i, .int .i64 k, v] w fun e w' => KPost w0 lo (rs.map (·.2) ++ [⟨[], 0, 0, 0, nd.size⟩]) w v e w' := by
  have HRS := Lib.hid hrs
  obtain ⟨A, cap, rfl, hc1, hc2, _⟩ := h.form
  obtain ⟨n, hn⟩ : ∃ n, ls.length = n := ⟨_, rfl⟩
  have hil := (List.getElem?_eq_some_iff.1 hnd).1
  rw [hn] at h hc1 hlen hil ⊢
  obtain ⟨OA, oc, rfl⟩ := slice_of_own hown
  obtain ⟨on, hon⟩ : ∃ on, rs.length = on := ⟨_, rfl⟩
  have HON := Lib.hid hon
  rw [hon] at hown hl ⊢
  have HO := Lib.hid hown
  have HB := Lib.hid hb
  have hbz := hb.size
  obtain ⟨ad, cv, e1, hbk, d0, d1, d2, d3, d4, hcv⟩ := (h.below hb).get hnd
  subst e1
  obtain ⟨AC, cc, rfl, _, _, _, _⟩ := id hcv
  obtain ⟨cn, hcn⟩ : ∃ cn, nd.coef.length = cn := ⟨_, rfl⟩
  rw [hcn] at d0
  have l1 : ad.block < w.heap.size := Nat.lt_of_lt_of_le hbk hbz
  have l2 : (ad.add (i * 5)).block < w.heap.size := by rw [show (ad.add (i * 5)).block = ad.block by unfold Addr.add; split <;> rfl]; exact l1
  obtain ⟨nc, na, ndl, ndr, nz⟩ := nd
  dsimp only at d0 d1 d2 d3 d4 hk ⊢
  clear hcv hrs hown hon hb hnd hcn h
  have fin : ∀ (W W' : World) (A' : Option Addr) (c' : Nat), Below w.heap.size w W → App W W' w0.heap.size 39 5 OA on oc A' (on + 1) c' (rs.flatMap ndC ++ [.slice none 0 0, .int .i64 0, .int .i64 0, .int .i64 0, .int .i64 nz]) → KPost w0 lo (rs.map (·.2) ++ [⟨[], 0, 0, 0, nz⟩]) w (.slice OA on oc) (.returned (.slice A' (on + 1) c')) W' := fun W W' A' c' hW hA => by
    refine ⟨_, rs ++ [(.slice none 0 0, ⟨[], 0, 0, 0, nz⟩)], rfl, by simp, ?_, ?_, (KeepB.of_below _ hW HB.out.size).trans (KeepB.of_app hA)⟩
    · have := hA.own
      simpa [HON.out, ndC] using this
    · intro r hr
      rcases List.mem_append.1 hr with hr | hr
      · exact HRS.out r hr
      · obtain rfl := List.mem_singleton.1 hr; exact Seq.nil_
  have HF := Lib.hid fin
  clear fin
  by_cases hk0 : k = 0
  · subst hk0
    go_enter Tryd.func34, Tryd.ntmps34
    go_wp2_with (at_builtin; refine app1 _ _ rfl (.tmp 23) (.tmp 27) _ rfl eltN w0.heap.size OA on oc (rs.flatMap ndC) rfl (own_below HO.out (below_a2 _ _ _)) (by simp only [World.size_alloc]; rfl) rfl (by simp [Value.oneCell']) (by omega) (by simp; omega) ?_; intro A' cap' w' hA)
    go_ret
    exact HF.out _ _ _ _ (below_a2 _ _ _) hA
  · have hkb : ((k : Int) == 0) = false := by rw [beq_eq_false_iff_ne]; omega
    have hn0 : ndl = 0 := hk.resolve_left hk0
    subst hn0
    go_enter Tryd.func34, Tryd.ntmps34
    go_wp2_with (at_builtin; refine app1 _ _ rfl (.tmp 23) (.tmp 27) _ rfl eltN w0.heap.size OA on oc (rs.flatMap ndC) rfl (own_below HO.out (below_a2 _ _ _)) (by simp only [World.size_alloc]; rfl) rfl (by simp [Value.oneCell']) (by omega) (by simp; omega) ?_; intro A' cap' w' hA)
    go_ret
    exact HF.out _ _ _ _ (below_a2 _ _ _) hA
theorem own_store {W : World} {base g n cap : Nat} {rs : List (Value × Nd)} (h : W.ownsRow base 39 5 (.slice (some ⟨g, 0, none⟩) n cap) n (rs.flatMap ndC)) (hl : rs.length = n) {z : Nat} (hz : z < n) (o : Nat) (ho : o < 5) :
    base ≤ g ∧ g < W.heap.size ∧ W.frozen? ⟨g, z * 5 + o, none⟩ = false ∧ ∃ u, W.cell? ⟨g, z * 5 + o, none⟩ = some u := by
  obtain ⟨hT, h0, h1⟩ := own_typ h g rfl
  rcases h.2 with ⟨e, _⟩ | ⟨g', cap', cur, hv, hg, hc, _, _, _, ht⟩
  · cases e
  · injection hv with e1 _ e3
    injection e1 with e1
    injection e1 with e1
    subst e1
    have hl2 : (cur.toList.take (n * 5)).length = n * 5 := by rw [ht, flat_len ndC_len, hl]
    rw [List.length_take] at hl2
    have hlt2 : z * 5 + o < cur.size := by simp at hl2; omega
    exact ⟨h0, h1, by simp [World.frozen?, hc], _, cell_heap hc (Array.getElem?_eq_getElem hlt2)⟩
theorem KeepB.set {n0 g o : Nat} {w : World} {n cap : Nat} (v : Value) (h : n0 ≤ g) : KeepB n0 w (w.setCell ⟨g, o, none⟩ v) (.slice (some ⟨g, 0, none⟩) n cap) (.slice (some ⟨g, 0, none⟩) n cap) :=
  ⟨(Below.refl _ _).setCell (p := ⟨g, o, none⟩) h v, fun j _ hne => Below.heap_setCell _ _ _ j (fun e => hne (by simp [Value.ownBlock]; exact e.symm)), fun _ hg => .inl hg⟩
theorem boxes {w w1 : World} {n0 : Nat} {v v1 : Value} {T N : Array Value} {t t' : TypeId} (h : KeepB n0 ((w.alloc (.cells T t)).alloc (.cells N t')) w1 v v1) (hne : ∀ j, w.heap.size ≤ j → v.ownBlock ≠ some j) :
    w1.heap[w.heap.size]? = some (.cells T t (0, 0)) ∧ w1.heap[w.heap.size + 1]? = some (.cells N t' (0, 0)) := by
  refine ⟨(h.2.1 _ (by simp; omega) (hne _ (by omega))).trans ((Below.heap_alloc _ _ _ (by simp)).trans (heap_alloc_new w _)), (h.2.1 _ (by simp) (hne _ (by omega))).trans ?_⟩
  have := heap_alloc_new (w.alloc (.cells T t)) (.cells N t')
  simpa using this
theorem boxes_ne {w w1 : World} {n0 : Nat} {v v1 : Value} {T N : Array Value} {t t' : TypeId} (h : KeepB n0 ((w.alloc (.cells T t)).alloc (.cells N t')) w1 v v1) (hne : ∀ j, w.heap.size ≤ j → v.ownBlock ≠ some j) :
    ∀ j, w.heap.size ≤ j → j < w.heap.size + 2 → v1.ownBlock ≠ some j := fun j h1 h2 e => by
  rcases h.2.2 j e with e1 | e1
  · exact hne j h1 e1
  · simp at e1; omega
set_option maxHeartbeats 4000000 in
set_option maxRecDepth 100000 in
theorem keep_any {w0 : World} {lo : Nat} {dim : Int} {nv : Value} {ls : List Nd} (h : Nds w0 lo w0.heap.size nv ls) (hlen : ls.length ≤ 127) : ∀ (b : B) (i k : Nat) (iv st : Int) (w : World) (v : Value) (rs : List (Value × Nd)), iv = (i : Int) → st = (k : Int) → k ≤ 9223372036854775807 → At ls i b → Below w0.heap.size w0 w →
    w.ownsRow w0.heap.size 39 5 v rs.length (rs.flatMap ndC) → (∀ r ∈ rs, Seq 1 inC w0 lo w0.heap.size r.1 r.2.coef) → rs.length + b.count ≤ 1000 →
    Calls Tryd.prog 34 #[.agg #[.int .i64 dim, nv], .int .i64 iv, .int .i64 st, v] w fun e w' => KPost w0 lo (rs.map (·.2) ++ (pru b k).nodes rs.length) w v e w' := by
  intro b
  induction b with
  | leaf sz =>
    rintro i k iv st w v rs rfl rfl hk hat hb hown hrs hl
    have h0 := at_leaf.1 hat
    refine (keep_leaf h hlen i k w v rs _ h0 hb hown hrs (by omega) (.inr rfl)).mono ?_
    exact fun e w' hh => hh
  | fork c a l r IHl IHr =>
    rintro i k iv st w v rs rfl rfl hk hat hb hown hrs hl
    obtain ⟨h0, hL, hR⟩ := at_fork.1 hat
    cases k with
    | zero =>
      refine (keep_leaf h hlen i 0 w v rs _ h0 hb hown hrs (by omega) (.inl rfl)).mono ?_
      exact fun e w' hh => hh
    | succ k =>
      have cl := count_pos l
      have cr := count_pos r
      simp only [B.count] at hl
      have hpl := pru_count l k
      have HRS := Lib.hid hrs
      obtain ⟨A, cap, rfl, hc1, hc2, _⟩ := h.form
      have HIL := Lib.hid (fun W v' rs' x1 x2 x3 x4 => IHl (i + 1) k ((i : Int) + 1) (k : Int) W v' rs' (by omega) rfl (by omega) hL x1 x2 x3 x4)
      have HIR := Lib.hid (fun W v' rs' x1 x2 x3 x4 => IHr (i + 1 + l.count) k ((i : Int) + 1 + (l.count : Int)) (k : Int) W v' rs' (by omega) rfl (by omega) hR x1 x2 x3 x4)
      clear IHl IHr
      obtain ⟨n, hn⟩ : ∃ n, ls.length = n := ⟨_, rfl⟩
      have hil := (List.getElem?_eq_some_iff.1 h0).1
      rw [hn] at h hc1 hlen hil HIL HIR ⊢
      obtain ⟨OA, oc, rfl⟩ := slice_of_own hown
      obtain ⟨on, hon⟩ : ∃ on, rs.length = on := ⟨_, rfl⟩
      have HON := Lib.hid hon
      rw [hon] at hown hl ⊢
      have HO := Lib.hid hown
      have HB := Lib.hid hb
      have hbz := hb.size
      obtain ⟨ad, cv, e1, hbk, d0, d1, d2, d3, d4, hcv⟩ := (h.below hb).get h0
      subst e1
      have HCV := Lib.hid (by obtain ⟨ad', cv', e1', _, c0', _, _, _, _, hcv'⟩ := h.get h0; obtain rfl := Option.some.inj e1'; rw [show w.cell? (ad.add (i * 5)) = w0.cell? (ad.add (i * 5)) from hb.cell (by rw [show (ad.add (i * 5)).block = ad.block by unfold Addr.add; split <;> rfl]; exact hbk), c0'] at d0; obtain rfl := Option.some.inj d0; exact hcv' : Seq 1 inC w0 lo w0.heap.size cv c)
      obtain ⟨AC, cc, rfl, _, _, _, _⟩ := id HCV.out
      obtain ⟨cn, hcn⟩ : ∃ cn, c.length = cn := ⟨_, rfl⟩
      have HCN := Lib.hid hcn
      rw [hcn] at HCV
      have hdl : (⟨c, a, ((i + 1 : Nat) : Int), ((i + 1 + l.count : Nat) : Int), l.size + r.size⟩ : Nd).coef.length = cn := hcn
      have l1 : ad.block < w.heap.size := Nat.lt_of_lt_of_le hbk hbz
      have l2 : (ad.add (i * 5)).block < w.heap.size := by rw [show (ad.add (i * 5)).block = ad.block by unfold Addr.add; split <;> rfl]; exact l1
      dsimp only at d0 d1 d2 d3 d4
      rw [hcn] at d0
      have hkb : (((k : Int) + 1) == 0) = false := by rw [beq_eq_false_iff_ne]; omega
      have hlb : (((i : Int) + 1) == 0) = false := by rw [beq_eq_false_iff_ne]; omega
      have hne : ∀ j, w.heap.size ≤ j → (Value.slice OA on oc).ownBlock ≠ some j := fun j hj e => by have := (own_typ hown j e).2.2; omega
      obtain ⟨lc, hlc⟩ : ∃ lc, l.count = lc := ⟨_, rfl⟩
      rw [hlc] at d3 HIR
      have HL := Lib.hid hlc
      have HNE := Lib.hid hne
      clear hcv hrs hown hon hb h0 hcn h hdl hL hR hat hlc hne
      go_enter Tryd.func34, Tryd.ntmps34
      go_wp2_with (at_builtin; refine app1 _ _ rfl (.tmp 31) (.tmp 39) _ rfl eltN w0.heap.size OA on oc (rs.flatMap ndC) rfl (own_below HO.out (below_a2 _ _ _)) (by simp only [World.size_alloc]; rfl) rfl (by simp [Value.oneCell']) (by omega) (by simp; omega) ?_; intro A' cap' w1 hA; obtain ⟨kT, kN⟩ := boxes (KeepB.of_app hA) HNE.out; have HNV := Lib.hid (boxes_ne (KeepB.of_app hA) HNE.out); obtain ⟨t0, t1⟩ := Boxed2.cells kT; have n2 := cell_heap kN (o := 2) rfl; have n3 := cell_heap kN (o := 3) rfl; have lz : w.heap.size + 1 < w1.heap.size := (Array.getElem?_eq_some_iff.1 kN).1; have lz0 : w.heap.size < w1.heap.size := (by omega))
      have K1 := Lib.hid ((KeepB.of_below (.slice OA on oc) (below_a2 w _ _) HB.out.size).trans (KeepB.of_app hA))
      have KT := Lib.hid kT
      have KN := Lib.hid kN
      have HO1 := Lib.hid hA.own
      obtain ⟨rs1, hrs1⟩ : ∃ rs1, rs ++ [((.slice AC cn cc : Value), (⟨c, a, (on : Int) + 1, 0, l.size + r.size⟩ : Nd))] = rs1 := ⟨_, rfl⟩
      have hl1 : rs1.length = on + 1 := by rw [← hrs1]; simp [HON.out]
      refine (HIL.out w1 (.slice A' (on + 1) cap') rs1 (HB.out.trans K1.out.1) ?own ?coef ?len).mono ?_
      case own =>
        rw [hl1, ← hrs1]
        have := HO1.out
        simpa [ndC] using this
      case coef =>
        intro r' hr'
        rw [← hrs1] at hr'
        rcases List.mem_append.1 hr' with hr' | hr'
        · exact HRS.out r' hr'
        · obtain rfl := List.mem_singleton.1 hr'; exact HCV.out
      case len => rw [hl1]; omega
      rintro e w2 ⟨v2, rs2, rfl, hm2, hown2, hcf2, hk2⟩
      have hl2 : rs2.length = on + 1 + (pru l k).count := by have := congrArg List.length hm2; simpa [hl1, nodes_len] using this
      obtain ⟨m2, hm2l⟩ : ∃ m2, rs2.length = m2 := ⟨_, rfl⟩
      rw [hm2l] at hown2 hl2
      obtain ⟨g, c2, rfl, hg, hlt⟩ := hown2.form (by omega)
      obtain ⟨_, _, hfz, hcl⟩ := own_store hown2 hm2l (z := on) (by omega) 3 (by omega)
      obtain ⟨y, hy⟩ : ∃ y, rs2[on]? = some y := ⟨_, List.getElem?_eq_getElem (by omega)⟩
      have hy2 : y.2 = ⟨c, a, (on : Int) + 1, 0, l.size + r.size⟩ := by
        have e1 : (rs2.map (·.2))[on]? = some y.2 := by rw [List.getElem?_map, hy]; rfl
        rw [hm2, ← hrs1, List.map_append, List.append_assoc, List.getElem?_append_right (by simp [HON.out])] at e1
        simp [HON.out] at e1
        exact e1.symm
      have hgb : g ≠ w.heap.size ∧ g ≠ w.heap.size + 1 := by
        rcases hk2.2.2 g rfl with e1 | e1
        · exact ⟨fun e => HNV.out _ (by omega) (by omega) (e ▸ e1), fun e => HNV.out _ (by omega) (by omega) (e ▸ e1)⟩
        · omega
      have kT2 := (hk2.2.1 _ lz0 (HNV.out _ (by omega) (by omega))).trans KT.out
      have kN2 := (hk2.2.1 _ lz (HNV.out _ (by omega) (by omega))).trans KN.out
      have HM2 := Lib.hid hm2
      have HO2 := Lib.hid hown2
      have HCF2 := Lib.hid hcf2
      have HK2 := Lib.hid hk2
      have HY := Lib.hid hy
      have HY2 := Lib.hid hy2
      have HRS1 := Lib.hid hrs1
      have hz2 := hk2.1.size
      have lw2 : w.heap.size + 1 < w2.heap.size := (Array.getElem?_eq_some_iff.1 kN2).1
      have lw20 : w.heap.size < w2.heap.size := by omega
      clear t0 t1 n2 n3 kT kN hm2 hown2 hcf2 hk2 hy hy2 hrs1 hA
      obtain ⟨t0, t1⟩ := Boxed2.cells kT2
      have n3 := cell_heap kN2 (o := 3) rfl
      clear kT2 kN2
      obtain ⟨u, hcl⟩ := hcl
      obtain ⟨hg1, hg2⟩ := hgb
      have hg1' := Ne.symm hg1
      have hg2' := Ne.symm hg2
      have hon2 : on < m2 := by omega
      have hm21 : m2 ≤ 1000 := by omega
      have HL2 := Lib.hid hl2
      have HM2L := Lib.hid hm2l
      have hrl : m2 + r.count ≤ 1000 := by omega
      clear hl2 hm2l
      go_wp2_with fail
      obtain ⟨rs3, hrs3⟩ : ∃ rs3, rs2.set on (y.1, setR y.2 m2) = rs3 := ⟨_, rfl⟩
      have hl3 : rs3.length = m2 := by rw [← hrs3, List.length_set]; exact HM2L.out
      have KS := Lib.hid (KeepB.set (w := w2) (n := m2) (cap := c2) (o := on * 5 + 3) (Value.int .i64 m2) hg)
      refine (HIR.out (w2.setCell ⟨g, on * 5 + 3, none⟩ (.int .i64 m2)) (.slice (some ⟨g, 0, none⟩) m2 c2) rs3 (((HB.out.trans K1.out.1).trans HK2.out.1).trans KS.out.1) ?own3 ?coef3 ?len3).mono ?_
      case own3 =>
        rw [hl3, ← hrs3]
        exact own_fix HO2.out on m2 HY.out HM2L.out
      case coef3 =>
        intro r' hr'
        rw [← hrs3] at hr'
        rcases List.mem_or_eq_of_mem_set hr' with h1 | rfl
        · exact HCF2.out r' h1
        · exact HCF2.out y (List.mem_of_getElem? HY.out)
      case len3 => rw [hl3]; exact hrl
      rintro e w4 ⟨v4, rs4, rfl, hm4, hown4, hcf4, hk4⟩
      have HM4 := Lib.hid hm4
      have HO4 := Lib.hid hown4
      have HCF4 := Lib.hid hcf4
      have HK4 := Lib.hid hk4
      have HRS3 := Lib.hid hrs3
      have HL3 := Lib.hid hl3
      clear hm4 hown4 hcf4 hk4 hrs3 hl3
      go_wp2_with fail
      go_ret
      refine ⟨v4, rs4, rfl, ?_, HO4.out, HCF4.out, ((K1.out.trans HK2.out).trans KS.out).trans HK4.out⟩
      have e1 : rs1.map (·.2) = rs.map (·.2) ++ [⟨c, a, (on : Int) + 1, 0, l.size + r.size⟩] := by rw [← HRS1.out]; simp
      have e2 : (setR y.2 m2) = ⟨c, a, (on : Int) + 1, (m2 : Int), l.size + r.size⟩ := by rw [HY2.out]; rfl
      rw [HM4.out, HL3.out, ← HRS3.out, List.map_set, HM2.out, hl1, e1, List.append_assoc, List.set_append_right _ _ (by simp [HON.out])]
      simp only [List.length_map, HON.out, Nat.sub_self, List.cons_append, List.nil_append, List.set_cons_zero, pru, B.nodes, pru_size]
      rw [e2, List.append_assoc, ← HL2.out]
      simp
theorem prune_nodes {dim : Int} {ls : List Nd} {b : B} {D : Int} (hT : IsT dim ls) (hat : At ls 0 b) (hD : 0 ≤ D) : ItrP.pruneR dim ls D = (dim, (pru b D.toNat).nodes 0, 0) := by
  unfold ItrP.pruneR
  rw [if_pos (isTB_true.2 hT), if_neg (by omega), vsOf_tree hT hat, loopAll hat D hD]
def RPPost (w : World) (r : Int × List Nd × Int) (e : Ending) (w' : World) : Prop := (∃ v, e = .returned (.tuple #[.agg #[.int .i64 r.1, v], .int .i64 r.2.2]) ∧ Nds w' 0 w'.heap.size v r.2.1) ∧ Below w.heap.size w w'
theorem tree_box {w w1 : World} {T N : Array Value} {t t' : TypeId} (hb : Below ((w.alloc (.cells T t)).alloc (.cells N t')).heap.size ((w.alloc (.cells T t)).alloc (.cells N t')) w1) :
    w1.heap[w.heap.size]? = some (.cells T t (0, 0)) ∧ w1.heap[w.heap.size + 1]? = some (.cells N t' (0, 0)) := by
  refine ⟨(hb.block _ (by simp; omega)).trans ((Below.heap_alloc _ _ _ (by simp)).trans (heap_alloc_new w _)), (hb.block _ (by simp)).trans ?_⟩
  have := heap_alloc_new (w.alloc (.cells T t)) (.cells N t')
  simpa using this
set_option maxHeartbeats 4000000 in
set_option maxRecDepth 100000 in
theorem RPrune_any (D dim : Int) (nv : Value) (ls : List Nd) (lo : Nat) (w : World) (h : Nds w lo w.heap.size nv ls) (hl7 : ls.length ≤ 1000000) (hD2 : D ≤ 9223372036854775807) :
    Calls Tryd.prog 22 #[.agg #[.int .i64 dim, nv], .int .i64 D] w fun e w' => RPPost w (ItrP.pruneR dim ls D) e w' := by
  have HI := Lib.hid (fun (W : World) (hb : Below w.heap.size w W) => RTIs_any nv ls dim lo W (h.up hb) hl7)
  obtain ⟨A, cap, rfl, hc1, hc2, _⟩ := h.form
  obtain ⟨n, hn⟩ : ∃ n, ls.length = n := ⟨_, rfl⟩
  by_cases hT : IsT dim ls
  · obtain ⟨_, _, b, hat, hct, _⟩ := id hT
    have hn1 := (isT_len hT).2
    rw [isTB_true.2 hT] at HI
    by_cases hD : D < 0
    · have F := Lib.hid (show ItrP.pruneR dim ls D = (0, [], 1) by unfold ItrP.pruneR; rw [if_pos (isTB_true.2 hT), if_pos hD])
      rw [hn] at HI hc1 ⊢
      have hD0 : decide (D < 0) = true := decide_eq_true hD
      clear h hat
      go_enter Tryd.func22, Tryd.ntmps22
      go_wp2_with fail
      refine (HI.out _ (below_a2 _ _ _)).mono ?_
      rintro e w1 ⟨rfl, hb1⟩
      obtain ⟨k0, k1⟩ := tree_box hb1
      have HB1 := Lib.hid (bt hb1 (below_a2 w _ _))
      obtain ⟨t0, t1⟩ := Boxed2.cells k0
      obtain ⟨u0, u1⟩ := Boxed2.cells k1
      have f2 : ∀ o, w1.frozen? ⟨w.heap.size + 1, o, none⟩ = false := fun o => by simp [World.frozen?, k1]
      have l1 : w.heap.size + 1 < w1.heap.size := (Array.getElem?_eq_some_iff.1 k1).1
      clear hb1 k0 k1
      go_wp2_with fail
      refine bodyPost_ret (v := .tuple #[.agg #[.int .i64 0, .slice none 0 0], .int .i64 1]) (by simp only [results]; go_simp) rfl ?_
      unfold RPPost
      rw [F.out]
      exact ⟨⟨_, rfl, [], rfl, Seq.nil_, by simp⟩, (HB1.out.setCell (p := ⟨w.heap.size + 1, 0, none⟩) (by show w.heap.size ≤ w.heap.size + 1; omega) _).setCell (p := ⟨w.heap.size + 1, 1, none⟩) (by show w.heap.size ≤ w.heap.size + 1; omega) _⟩
    · have F := Lib.hid (prune_nodes (D := D) hT hat (by omega))
      obtain ⟨k, hk⟩ : ∃ k : Nat, D = (k : Int) := ⟨D.toNat, by omega⟩
      subst hk
      rw [Int.toNat_natCast] at F
      have HK := Lib.hid (fun W (hb : Below w.heap.size w W) => keep_any (dim := dim) h (by omega) b 0 k 0 (k : Int) W (.slice none 0 0) [] rfl rfl (by omega) hat hb (World.ownsRow_nil _ _ _ _) (by simp) (by simp; omega))
      have hD0 : decide ((k : Int) < 0) = false := decide_eq_false hD
      rw [hn] at HI HK hc1 ⊢
      clear h hat
      go_enter Tryd.func22, Tryd.ntmps22
      go_wp2_with fail
      refine (HI.out _ (below_a2 _ _ _)).mono ?_
      rintro e w1 ⟨rfl, hb1⟩
      obtain ⟨k0, k1⟩ := tree_box hb1
      have HB1 := Lib.hid (bt hb1 (below_a2 w _ _))
      have HK0 := Lib.hid k0
      have HK1 := Lib.hid k1
      obtain ⟨t0, t1⟩ := Boxed2.cells k0
      have l1 : w.heap.size + 1 < w1.heap.size := (Array.getElem?_eq_some_iff.1 k1).1
      clear hb1 k0 k1
      go_wp2_with fail
      refine wp_region_held_drew (S := fun w' => w'.cell? ⟨w.heap.size, 0, none⟩ = some (.int .i64 dim) ∧ w'.cell? ⟨w.heap.size, 1, none⟩ = some (.slice A n cap)) (by kernel_rfl) ?_ (fun hHeld => ?_)
      · exact ⟨t0, t1⟩
      clear t0 t1
      refine wpAnyH_take (i := 0) (oi := ?oi0_1) (v := ?v0_1) ?hi0_1 (by kernel_rfl) ?hf0_1 (by kernel_rfl) ?hq0_1 ?hy0_1 hHeld ?rest0_1
      case hi0_1 => (simp only [List.getElem?_toArray, List.getElem?_cons_zero]; try exact rfl)
      case hf0_1 => kernel_rfl
      case hq0_1 => exact fun _ _ _ h => h
      case hy0_1 => (refine Or.inl ⟨rfl, ?_⟩; intro w hSw; (try dsimp only at hSw); go_simp; try with_reducible rfl)
      try simp only [Act.put, List.setIfInBounds_toArray, List.set_cons_zero, List.set_cons_succ]
      refine wpAnyH_take (i := 1) (oi := ?oi1_2) (v := ?v1_2) ?hi1_2 (by kernel_rfl) ?hf1_2 (by kernel_rfl) ?hq1_2 ?hy1_2 hHeld ?rest1_2
      case hi1_2 => (simp only [List.getElem?_toArray, List.getElem?_cons_succ, List.getElem?_cons_zero]; try exact rfl)
      case hf1_2 => kernel_rfl
      case hq1_2 => exact fun _ _ _ h => h
      case hy1_2 => (refine Or.inl ⟨rfl, ?_⟩; intro w hSw; (try dsimp only at hSw); go_simp; try with_reducible rfl)
      try simp only [Act.put, List.setIfInBounds_toArray, List.set_cons_zero, List.set_cons_succ]
      refine wpAnyH_take (i := 2) (oi := ?oi2_3) (v := ?v2_3) ?hi2_3 (by kernel_rfl) ?hf2_3 (by kernel_rfl) ?hq2_3 ?hy2_3 hHeld ?rest2_3
      case hi2_3 => (simp only [List.getElem?_toArray, List.getElem?_cons_succ, List.getElem?_cons_zero]; try exact rfl)
      case hf2_3 => kernel_rfl
      case hq2_3 => exact fun _ _ _ h => h
      case hy2_3 => (refine Or.inl ⟨rfl, ?_⟩; intro w hSw; (try dsimp only at hSw); go_simp; try with_reducible rfl)
      try simp only [Act.put, List.setIfInBounds_toArray, List.set_cons_zero, List.set_cons_succ]
      refine wpAnyH_take (i := 3) (oi := ?oi3_4) (v := ?v3_4) ?hi3_4 (by kernel_rfl) ?hf3_4 (by kernel_rfl) ?hq3_4 ?hy3_4 hHeld ?rest3_4
      case hi3_4 => (simp only [List.getElem?_toArray, List.getElem?_cons_succ, List.getElem?_cons_zero]; try exact rfl)
      case hf3_4 => kernel_rfl
      case hq3_4 => exact fun _ _ _ h => h
      case hy3_4 => (refine Or.inl ⟨rfl, ?_⟩; intro w hSw; (try dsimp only at hSw); go_simp; try with_reducible rfl)
      try simp only [Act.put, List.setIfInBounds_toArray, List.set_cons_zero, List.set_cons_succ]
      refine wpAnyH_ready (rs := [4]) (by kernel_rfl) (by simp) ?_
      refine AllReadyH.cons (by simp only [List.getElem?_toArray, List.getElem?_cons_succ, List.getElem?_cons_zero]; try exact rfl) (fun K hK => ?_) AllReadyH.nil
      go_simp
      refine (HK.out _ HB1.out.drew).mono ?_
      rintro e w2 ⟨v2, rs2, rfl, hm2, hown2, hcf2, hk2⟩
      have q0 := (hk2.2.1 w.heap.size (by show w.heap.size < w1.heap.size; omega) (by simp [Value.ownBlock])).trans HK0.out
      have q1 := (hk2.2.1 (w.heap.size + 1) l1 (by simp [Value.ownBlock])).trans HK1.out
      obtain ⟨t0, t1⟩ := Boxed2.cells q0
      obtain ⟨u0, u1⟩ := Boxed2.cells q1
      have f2 : ∀ o, w2.frozen? ⟨w.heap.size + 1, o, none⟩ = false := fun o => by simp [World.frozen?, q1]
      obtain ⟨VA, vc, rfl⟩ := slice_of_own hown2
      have HM2 := Lib.hid hm2
      have HO2 := Lib.hid hown2
      have HCF2 := Lib.hid hcf2
      have HB2 := Lib.hid (HB1.out.drew.trans hk2.1)
      have HQ1 := Lib.hid q1
      obtain ⟨vn, hvn⟩ : ∃ vn, rs2.length = vn := ⟨_, rfl⟩
      have HVN := Lib.hid hvn
      rw [hvn] at HO2 ⊢
      clear hm2 hown2 hcf2 hk2 q0 q1 hvn
      refine hK.out _ _ ⟨t0, t1⟩ (fun hHeld => ?_)
      clear hK K
      try simp only [Act.put, List.setIfInBounds_toArray, List.set_cons_zero, List.set_cons_succ]
      refine wpAnyH_take (i := 5) (oi := ?oi5_5) (v := ?v5_5) ?hi5_5 (by kernel_rfl) ?hf5_5 (by kernel_rfl) ?hq5_5 ?hy5_5 hHeld ?rest5_5
      case hi5_5 => (simp only [List.getElem?_toArray, List.getElem?_cons_succ, List.getElem?_cons_zero]; try exact rfl)
      case hf5_5 => kernel_rfl
      case hq5_5 => exact fun _ _ _ h => h
      case hy5_5 => (refine Or.inl ⟨rfl, ?_⟩; intro w hSw; (try dsimp only at hSw); go_simp; try with_reducible rfl)
      try simp only [Act.put, List.setIfInBounds_toArray, List.set_cons_zero, List.set_cons_succ]
      refine wpAnyH_ready (rs := [6]) (by kernel_rfl) (by simp) ?_
      refine AllReadyH.cons (by simp only [List.getElem?_toArray, List.getElem?_cons_succ, List.getElem?_cons_zero]; try exact rfl) (fun K hK => ?_) AllReadyH.nil
      go_simp
      refine hK.out _ _ ?_ (fun hHeld => ?_)
      · exact ⟨by go_simp, by go_simp⟩
      clear hK K
      try simp only [Act.put, List.setIfInBounds_toArray, List.set_cons_zero, List.set_cons_succ]
      refine wpAnyH_take (i := 7) (oi := ?oi7_6) (v := ?v7_6) ?hi7_6 (by kernel_rfl) ?hf7_6 (by kernel_rfl) ?hq7_6 ?hy7_6 hHeld ?rest7_6
      case hi7_6 => (simp only [List.getElem?_toArray, List.getElem?_cons_succ, List.getElem?_cons_zero]; try exact rfl)
      case hf7_6 => kernel_rfl
      case hq7_6 => exact fun _ _ _ h => h
      case hy7_6 => (refine Or.inl ⟨rfl, ?_⟩; intro w hSw; (try dsimp only at hSw); go_simp; try with_reducible rfl)
      try simp only [Act.put, List.setIfInBounds_toArray, List.set_cons_zero, List.set_cons_succ]
      refine wpAnyH_done (by kernel_rfl) ?_ _
      have hk5 : ∀ k', k' ≠ w.heap.size + 1 → ((w2.setCell ⟨w.heap.size + 1, 0, none⟩ (.int .i64 dim)).setCell ⟨w.heap.size + 1, 1, none⟩ (.slice VA vn vc)).heap[k']? = w2.heap[k']? := fun k' hk' => (Below.heap_setCell _ _ _ k' hk').trans (Below.heap_setCell _ _ _ k' hk')
      have HO5 := Lib.hid (own_keep HO2.out (fun k' _ hT' => hk5 k' (fun e => by subst e; have := hT'.eq ⟨_, _, HQ1.out⟩; revert this; decide)))
      have HB5 := Lib.hid ((HB2.out.setCell (p := ⟨w.heap.size + 1, 0, none⟩) (by show w.heap.size ≤ w.heap.size + 1; omega) (.int .i64 dim)).setCell (p := ⟨w.heap.size + 1, 1, none⟩) (by show w.heap.size ≤ w.heap.size + 1; omega) (.slice VA vn vc))
      have l2 : w.heap.size + 1 < w2.heap.size := (Array.getElem?_eq_some_iff.1 HQ1.out).1
      clear hk5
      go_wp2_with fail
      refine bodyPost_ret (v := .tuple #[.agg #[.int .i64 dim, .slice VA vn vc], .int .i64 0]) (by simp only [results]; go_simp) rfl ?_
      unfold RPPost
      rw [F.out]
      refine ⟨⟨_, rfl, rs2, by rw [HM2.out]; simp, ?_, fun r hr => ?_⟩, HB5.out⟩
      · refine (Seq.of_own (α := Value × Nd) (f := ndC) (k := 5) (base := w.heap.size) (e := 39) ?_).more (Nat.zero_le _) (Nat.le_refl _)
        rw [HVN.out]
        exact HO5.out
      · exact ((HCF2.out r hr).below HB5.out).more (Nat.zero_le _) HB5.out.size
  · have F := Lib.hid (show ItrP.pruneR dim ls D = (0, [], 100) by unfold ItrP.pruneR; rw [if_neg (by rw [isTB_false.2 hT]; decide)])
    rw [isTB_false.2 hT] at HI
    rw [hn] at HI hc1 ⊢
    clear h
    go_enter Tryd.func22, Tryd.ntmps22
    go_wp2_with fail
    refine (HI.out _ (below_a2 _ _ _)).mono ?_
    rintro e w1 ⟨rfl, hb1⟩
    obtain ⟨k0, k1⟩ := tree_box hb1
    have HB1 := Lib.hid (bt hb1 (below_a2 w _ _))
    obtain ⟨u0, u1⟩ := Boxed2.cells k1
    have f2 : ∀ o, w1.frozen? ⟨w.heap.size + 1, o, none⟩ = false := fun o => by simp [World.frozen?, k1]
    have l1 : w.heap.size + 1 < w1.heap.size := (Array.getElem?_eq_some_iff.1 k1).1
    clear hb1 k0 k1
    go_wp2_with fail
    refine bodyPost_ret (v := .tuple #[.agg #[.int .i64 0, .slice none 0 0], .int .i64 100]) (by simp only [results]; go_simp) rfl ?_
    unfold RPPost
    rw [F.out]
    exact ⟨⟨_, rfl, [], rfl, Seq.nil_, by simp⟩, (HB1.out.setCell (p := ⟨w.heap.size + 1, 0, none⟩) (by show w.heap.size ≤ w.heap.size + 1; omega) _).setCell (p := ⟨w.heap.size + 1, 1, none⟩) (by show w.heap.size ≤ w.heap.size + 1; omega) _⟩
end Go.Proofs.YtmmgfelifmdnbaaDoor.KeeW
