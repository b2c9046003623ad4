/- The walks of score.merge, sorted, Sort and Oddest. -/
import Derived.Test.YtdpmijmofeechaaDoorSorM
import Derived.BigRegion
import Derived.Deep.RegionLaw
import Derived.Deep.DeepMust
import Derived.Laws.AppendOwnNone
namespace Go.Proofs.YtdpmijmofeechaaDoor.SorW
set_option linter.unusedVariables false
open Go.RowKit Base BigM BigZ GcdM RatM RatW RefRat Glob WideM WideW Rat2 TextW PartW ScoW SclW SorM

theorem eltS : Elt Tryd.prog 47 36 (.agg #[.int .i64 0, .int .i64 0]) 2 16 := elt_mk (z := .agg #[.int .i64 0, .int .i64 0]) Tryd.underlying47 (by kernel_rfl) rfl (by omega) (by omega)
/-- right scores are numbers of 64 bits -/
theorem fits_right {l : List (Int × Int)} (h : allS l = true) : Fits l := fun x hx => by
  obtain ⟨h1, h2, h3, h4, _⟩ := isS_true (all_mem h hx)
  exact ⟨⟨by omega, by omega⟩, by omega, by omega⟩
section
variable {P : Program}
/-- 's = append(s, x...)': whatever is read behind x, nothing of it too. -/
theorem appS {ops : Array Oper} {rest : List Oper} {o : Oper} {a : Act} {Q : Exit → Act → World → Prop} {w : World} (hgd : o.guard = none) (s x : Operand) (t : TypeId)
    (ho : o.op = .call { callee := .builtin .append, args := #[s, x], argTypes := #[t, t] })
    {e : TypeId} {z : Value} {size bytes : Nat} (E : Elt P t e z size bytes) (base : Nat) (v : Value) (n : Nat) (xs : List Value) (hs : a.eval s = v)
    (hown : w.ownsRow base e size v n xs) {A : Option Addr} {m c lo B : Nat} {news : List Value} (hx : a.eval x = .slice A m c) (hr : Rd w lo B size A m news) (hz : A = none → c = 0) (h1 : ∀ u ∈ news, u.oneCell' = true)
    (hn : n + m ≤ 1073741824) (hbase : base ≤ w.heap.size)
    (h : ∀ v' w', w'.ownsRow base e size v' (n + m) (xs ++ news) → w.grownBy w' v.ownBlock → wpList P ops Q rest (a.put o.dst v') w') :
    wpList P ops Q (o :: rest) a w := by
  obtain ⟨ht, h0, hby, i, hi, hzz, hsz, hbs, hzs⟩ := E
  have hb : (n + m) * bytes ≤ 140737488355328 := by
    have h2 : (n + m) * bytes ≤ 1073741824 * 131072 := Nat.mul_le_mul hn hby
    omega
  cases A with
  | none =>
    have hm : m = 0 := by
      rcases Nat.eq_zero_or_pos m with h' | h'
      · exact h'
      · obtain ⟨ad, e, _⟩ := hr.2 h'
        cases e
    subst hm
    have hnil : news = [] := List.eq_nil_of_length_eq_zero (by have := hr.1; omega)
    subst hnil
    rw [hz rfl] at hx
    refine wpList_append_own_none hgd s x t ho base e i size ht hi v n xs hs hown hx ?_
    refine h v w (by simpa using hown) ⟨rfl, rfl, rfl, Nat.le_refl _, fun _ _ _ => rfl⟩
  | some ad =>
    refine wpList_append_own w hgd s x t ho base e i z size bytes ht hi hzz hsz hbs hzs h0 v n xs hs hown ad m c news hx hr.1 ?_ h1 (by unfold maxLen; omega) hb hbase (fun v' w' h2 h3 _ => h v' w' h2 h3)
    intro j u hu
    have hj : j < news.length := (List.getElem?_eq_some_iff.1 hu).1
    have hm : 0 < m := by
      rcases Nat.eq_zero_or_pos m with h' | h'
      · have := hr.1; rw [h'] at this; omega
      · exact h'
    obtain ⟨ad2, e, _, _, hc⟩ := hr.2 hm
    injection e with e
    subst e
    exact hc j u hu
end
theorem own_below {w w' : World} {base : Nat} {e : TypeId} {size n : Nat} {v : Value} {xs : List Value} (h : w.ownsRow base e size v n xs) (hb : Below w.heap.size w w') : w'.ownsRow base e size v n xs := by
  refine ⟨h.1, ?_⟩
  rcases h.2 with h0 | ⟨g, cap, cur, hv, hg, hc, hr⟩
  · exact .inl h0
  · refine .inr ⟨g, cap, cur, hv, hg, ?_, hr⟩
    have hlt : g < w.heap.size := by
      rcases Nat.lt_or_ge g w.heap.size with h' | h'
      · exact h'
      · rw [Array.getElem?_eq_none h'] at hc; cases hc
    rw [← hc]
    exact hb.block g hlt
section
variable {P : Program}
/-- 's = append(s, x)' in a region that draws its order: the element has been laid as the newest block. -/
theorem stepA {ops : Array Oper} {o : Oper} {a : Act} {K : Act → World → Prop} {Q : Exit → Act → World → Prop} {E' : Prop} (wr : World) (cs : Array Value) (hgd : o.guard = none) (s x : Operand) (t : TypeId)
    (ho : o.op = .call { callee := .builtin .append, args := #[s, x], argTypes := #[t, t] })
    {e : TypeId} {z : Value} {size bytes : Nat} (E : Elt P t e z size bytes) (base : Nat) (A : Option Addr) (n cap : Nat) (xs : List Value) (hs : a.eval s = .slice A n cap)
    (hown : wr.ownsRow base e size (.slice A n cap) n xs) (hx : a.eval x = .slice (some ⟨wr.heap.size, 0, none⟩) 1 1) (hcs : cs.size = size) (h1 : ∀ u ∈ cs.toList, u.oneCell' = true)
    (hn : n < 1073741824) (hbase : base ≤ wr.heap.size)
    (h : ∀ g cap' w', App wr w' base e size A n cap (some ⟨g, 0, none⟩) (n + 1) cap' (xs ++ cs.toList) → base ≤ g → K (a.put o.dst (.slice (some ⟨g, 0, none⟩) (n + 1) cap')) w') :
    if Region.wanted o (yielded ops a.tmps) = true then Oper.wp P o a (wr.alloc (.cells cs e)).drew K Q else E' := by
  obtain ⟨ht, h0, hby, i, hi, hz, hsz, hbs, hzs⟩ := E
  refine step_append_lies (w := (wr.alloc (.cells cs e)).drew) hgd s x t ho base e i z size bytes ht hi hz hsz hbs hzs h0 (.slice A n cap) n xs hs (hown.alloc _) ⟨wr.heap.size, 0, none⟩ 1 1 cs.toList hx (by simp [hcs])
    (World.news_of_block (heap_alloc_new wr _)) h1 (by omega) (by unfold maxLen; omega) ?_ (by show base ≤ (wr.alloc (.cells cs e)).heap.size; simp; omega) (wr.heap.size + 1) (by show (wr.alloc (.cells cs e)).heap.size = _; simp) ?_
  · have h2 : (n + 1) * bytes ≤ (n + 1) * 131072 := Nat.mul_le_mul_left _ hby
    omega
  · intro g cp w' own hg hor hlt
    refine h _ _ _ ⟨own, ?_, ?_, ?_⟩ ?_
    · exact ⟨hg.os, hg.tape, hg.output, Nat.le_trans (by show wr.heap.size ≤ (wr.alloc (.cells cs e)).heap.size; simp) hg.size, fun k hk hne => (hg.block k (by show k < (wr.alloc (.cells cs e)).heap.size; simp; omega) hne).trans (Below.heap_alloc wr _ k hk)⟩
    · rcases hor with e1 | e1
      · exact .inl (by rw [e1]; rfl)
      · exact .inr (by subst e1; simp [Value.ownBlock])
    · exact (((Below.refl _ _).alloc hbase _).drew).grown hg (by show base ≤ (wr.alloc (.cells cs e)).heap.size; simp; omega) (fun k hk => (hown.lt k hk).1)
    · rcases hor with e1 | e1
      · exact (hown.lt g e1).1
      · omega
end
theorem one_cells (l : List (Int × Int)) : ∀ u ∈ cellsOf l, u.oneCell' = true := by
  intro u hu
  unfold cellsOf at hu
  rw [List.mem_flatMap] at hu
  obtain ⟨x, _, hx⟩ := hu
  rcases List.mem_cons.1 hx with rfl | hx
  · rfl
  · rcases List.mem_cons.1 hx with rfl | hx
    · rfl
    · cases hx
def lenOf : Value → Nat
  | .slice _ n _ => n
  | _ => 0
structure MRel (w : World) (a b : List (Int × Int)) (lo : Nat) (va vb vo : Value) (wr : World) (a' b' done : List (Int × Int)) : Prop where
  eqn : done ++ mergeL a' b' = mergeL a b
  ra : Scs wr lo w.heap.size va a'
  rb : Scs wr lo w.heap.size vb b'
  ha : allS a' = true
  hb : allS b' = true
  bel : Below w.heap.size w wr
  own : wr.ownsRow w.heap.size 36 2 vo done.length (cellsOf done)
  form : ∃ g cap, vo = .slice (some ⟨g, 0, none⟩) done.length cap ∧ w.heap.size ≤ g
  len : done.length + a'.length + b'.length = a.length + b.length
def MR (w : World) (a b : List (Int × Int)) (lo : Nat) (va vb vo : Value) (wr : World) : Prop := ∃ a' b' done, MRel w a b lo va vb vo wr a' b' done
/-- the newest cells of a list of scores: its head, and what is behind it -/
theorem rd_head {w : World} {lo B : Nat} {A : Option Addr} {x : Int × Int} {r : List (Int × Int)} (h : Rd w lo B 2 A (x :: r).length (cellsOf (x :: r))) :
    ∃ ad : Addr, A = some ad ∧ lo ≤ ad.block ∧ ad.block < B ∧ w.cell? ad = some (.int .i64 x.1) ∧ w.cell? ⟨ad.block, ad.off + 1, none⟩ = some (.int .i64 x.2) ∧
      (∀ cap, (x :: r).length ≤ cap → Rd w lo B 2 (if cap = 1 then some ad else some (ad.add 2)) r.length (cellsOf r)) := by
  obtain ⟨ad, y, rfl, hlo, hb, hy, c1, c2⟩ := rd2 h (i := 0) (by simp)
  have hyx : y = x := by simpa using hy.symm
  subst hyx
  have e0 : ad.add 0 = ad := rfl
  simp only [Nat.zero_mul, e0] at c1 c2
  refine ⟨ad, rfl, hlo, hb, c1, c2, fun cap hc => ?_⟩
  have := h.cut (k := 1) (by simp) hc
  simpa [cellsOf] using this
theorem scs_app {w4 w' : World} {B lo : Nat} {e : TypeId} {g n co g' n' co' : Nat} {xs : List Value} {v : Value} {l : List (Int × Int)} (h : Scs w4 lo B v l) (happ : App w4 w' B e 2 (some ⟨g, 0, none⟩) n co (some ⟨g', 0, none⟩) n' co' xs) (hB : B ≤ w4.heap.size) (hg : B ≤ g) : Scs w' lo B v l := by
  obtain ⟨A, cap, hv, h1, h2, h3, h4⟩ := h
  exact ⟨A, cap, hv, h1, h2, h3.grown happ.grown hB (fun k hk => by obtain rfl := Option.some.inj hk; exact .inr hg), h4⟩
theorem odd_neg {x y : Int × Int} (hx : rightX x = true) (hy : rightX y = true) : (oddV y.1 y.2 x.1 x.2 < 0 ↔ leK x y = false) := by
  have h : oddV y.1 y.2 x.1 x.2 = ord (key x) (key y) := odd_key hy hx
  rw [h]
  unfold leK
  rw [decide_eq_false_iff_not]
  rcases ord_cases (key x) (key y) with ⟨e, h1⟩ | ⟨e, h1⟩ | ⟨e, h1⟩ <;> rw [e] <;> omega
theorem mr_next_b {w : World} {a b : List (Int × Int)} {lo : Nat} {va : Value} {wr w4 w' : World} {x y : Int × Int} {ra rb done : List (Int × Int)} {ad2 : Addr} {c4 g co g' co' k k' : Nat}
    (h : MRel w a b lo va (.slice (some ad2) k' c4) (.slice (some ⟨g, 0, none⟩) k co) wr (x :: ra) (y :: rb) done) (hlt : oddV y.1 y.2 x.1 x.2 < 0) (hg : w.heap.size ≤ g)
    (hc : (y :: rb).length ≤ c4) (hc2 : c4 ≤ 9223372036854775807) (hrd : Rd wr lo w.heap.size 2 (if c4 = 1 then some ad2 else some (ad2.add 2)) rb.length (cellsOf rb)) (hb : Below wr.heap.size wr w4)
    (happ : App w4 w' w.heap.size 36 2 (some ⟨g, 0, none⟩) done.length co (some ⟨g', 0, none⟩) (done.length + 1) co' (cellsOf done ++ [.int .i64 y.1, .int .i64 y.2])) (hg' : w.heap.size ≤ g') :
    MR w a b lo va (.slice (if c4 = 1 then some ad2 else some (ad2.add 2)) rb.length (c4 - 1)) (.slice (some ⟨g', 0, none⟩) (done.length + 1) co') w' := by
  have hsz := h.bel.size
  have hx := all_mem h.ha (x := x) (by simp)
  have hy := all_mem h.hb (x := y) (by simp)
  have hle := (odd_neg hx hy).1 hlt
  refine ⟨x :: ra, rb, done ++ [y], ?_⟩
  have e1 : (done ++ [y]).length = done.length + 1 := by simp
  have e2 : cellsOf (done ++ [y]) = cellsOf done ++ [.int .i64 y.1, .int .i64 y.2] := by rw [cells_app]; rfl
  refine ⟨?_, scs_app (h.ra.below (hb.mono hsz)) happ (Nat.le_trans hsz hb.size) hg, ?_, h.ha, ?_, ?_, ?_, ⟨g', co', by rw [e1], hg'⟩, ?_⟩
  · rw [← h.eqn]
    unfold mergeL
    rw [List.cons_merge_cons, if_neg (by rw [hle]; decide)]
    simp
  · refine scs_app (Scs.below ⟨_, _, rfl, ?_, ?_, hrd, ?_⟩ (hb.mono hsz)) happ (Nat.le_trans hsz hb.size) hg
    · simp at hc; omega
    · unfold maxLen; omega
    · intro hh; split at hh <;> cases hh
  · have := h.hb
    unfold allS at *
    rw [List.all_cons, Bool.and_eq_true] at this
    exact this.2
  · exact h.bel.trans ((hb.mono hsz).trans (happ.below.mono (Nat.le_refl _)))
  · rw [e1, e2]; exact happ.own
  · have := h.len
    simp at this ⊢; omega
theorem mr_next_a {w : World} {a b : List (Int × Int)} {lo : Nat} {vb : Value} {wr w4 w' : World} {x y : Int × Int} {ra rb done : List (Int × Int)} {ad : Addr} {c3 g co g' co' k k' : Nat}
    (h : MRel w a b lo (.slice (some ad) k' c3) vb (.slice (some ⟨g, 0, none⟩) k co) wr (x :: ra) (y :: rb) done) (hlt : ¬ oddV y.1 y.2 x.1 x.2 < 0) (hg : w.heap.size ≤ g)
    (hc : (x :: ra).length ≤ c3) (hc2 : c3 ≤ 9223372036854775807) (hrd : Rd wr lo w.heap.size 2 (if c3 = 1 then some ad else some (ad.add 2)) ra.length (cellsOf ra)) (hb : Below wr.heap.size wr w4)
    (happ : App w4 w' w.heap.size 36 2 (some ⟨g, 0, none⟩) done.length co (some ⟨g', 0, none⟩) (done.length + 1) co' (cellsOf done ++ [.int .i64 x.1, .int .i64 x.2])) (hg' : w.heap.size ≤ g') :
    MR w a b lo (.slice (if c3 = 1 then some ad else some (ad.add 2)) ra.length (c3 - 1)) vb (.slice (some ⟨g', 0, none⟩) (done.length + 1) co') w' := by
  have hsz := h.bel.size
  have hx := all_mem h.ha (x := x) (by simp)
  have hy := all_mem h.hb (x := y) (by simp)
  have hle : leK x y = true := by
    cases hk : leK x y
    · exact absurd ((odd_neg hx hy).2 hk) hlt
    · rfl
  refine ⟨ra, y :: rb, done ++ [x], ?_⟩
  have e1 : (done ++ [x]).length = done.length + 1 := by simp
  have e2 : cellsOf (done ++ [x]) = cellsOf done ++ [.int .i64 x.1, .int .i64 x.2] := by rw [cells_app]; rfl
  refine ⟨?_, ?_, scs_app (h.rb.below (hb.mono hsz)) happ (Nat.le_trans hsz hb.size) hg, ?_, h.hb, ?_, ?_, ⟨g', co', by rw [e1], hg'⟩, ?_⟩
  · rw [← h.eqn]
    unfold mergeL
    rw [List.cons_merge_cons, if_pos hle]
    simp
  · refine scs_app (Scs.below ⟨_, _, rfl, ?_, ?_, hrd, ?_⟩ (hb.mono hsz)) happ (Nat.le_trans hsz hb.size) hg
    · simp at hc; omega
    · unfold maxLen; omega
    · intro hh; split at hh <;> cases hh
  · have := h.ha
    unfold allS at *
    rw [List.all_cons, Bool.and_eq_true] at this
    exact this.2
  · exact h.bel.trans ((hb.mono hsz).trans (happ.below.mono (Nat.le_refl _)))
  · rw [e1, e2]; exact happ.own
  · have := h.len
    simp at this ⊢; omega
theorem merge_end {w : World} {a b : List (Int × Int)} {lo : Nat} {va vb vo : Value} {wr : World} {a' b' done : List (Int × Int)} {v3 : Value} {w3 : World} (h : MRel w a b lo va vb vo wr a' b' done)
    (hm : mergeL a' b' = a' ++ b') (hown : w3.ownsRow w.heap.size 36 2 v3 (done.length + (a' ++ b').length) (cellsOf done ++ cellsOf (a' ++ b'))) (hb : Below w.heap.size w w3) :
    (∃ v, Ending.returned v3 = .returned v ∧ Scs w3 w.heap.size w3.heap.size v (mergeL a b)) ∧ Below w.heap.size w w3 := by
  refine ⟨⟨v3, rfl, ?_⟩, hb⟩
  rw [← h.eqn, hm]
  refine Scs.of_own (e := 36) ?_
  rw [cells_app, List.length_append]
  exact hown
set_option maxHeartbeats 1000000 in
set_option maxRecDepth 100000 in
theorem merge_any (va vb : Value) (a b : List (Int × Int)) (lo : Nat) (w : World) (h1 : Scs w lo w.heap.size va a) (h2 : Scs w lo w.heap.size vb b) (r1 : allS a = true) (r2 : allS b = true) (hl : a.length + b.length ≤ 1000000) :
    Calls Tryd.prog 109 #[va, vb, .func (.func 71) #[] #[]] w fun e w' => (∃ v, e = .returned v ∧ Scs w' w.heap.size w'.heap.size v (mergeL a b)) ∧ Below w.heap.size w w' := by
  have H1 := Lib.hid h1
  have H2 := Lib.hid h2
  have R1 := Lib.hid r1
  have R2 := Lib.hid r2
  obtain ⟨A, ca, rfl, hc1, hc2, hr1, hz1⟩ := h1
  obtain ⟨A2, cb, rfl, hd1, hd2, hr2, hz2⟩ := h2
  obtain ⟨n, hn⟩ : ∃ n, a.length = n := ⟨_, rfl⟩
  obtain ⟨m, hm⟩ : ∃ m, b.length = m := ⟨_, rfl⟩
  rw [hn] at hc1 H1 hl ⊢
  rw [hm] at hd1 H2 hl ⊢
  have HN := Lib.hid hn
  have HM := Lib.hid hm
  unfold maxLen at hc2 hd2
  clear hr1 hr2 hz1 hz2 hn hm r1 r2
  go_enter Tryd.func109, Tryd.ntmps109
  go_wp2_with (at_make; refine mk0 _ rfl (.const (.int .i64 0)) (.tmp 12) _ rfl eltS (n + m) rfl (by rfl) (by omega) (by omega) ?_; intro w1 hown1 hb1)
  have H0 := Lib.hid (show MR w a b lo (.slice A n ca) (.slice A2 m cb) (.slice (some ⟨w.heap.size, 0, none⟩) 0 (n + m)) w1 from
    ⟨a, b, [], rfl, H1.out.below hb1, H2.out.below hb1, R1.out, R2.out, hb1, hown1, ⟨w.heap.size, n + m, rfl, Nat.le_refl _⟩, by simp⟩)
  clear hb1 hown1 H1 H2
  go_loopw [0, 1, 7] (fun va vb vo wr => MR w a b lo va vb vo wr) (fun va vb _ _ => lenOf va + lenOf vb)
  case atStart => exact H0.out
  case round =>
    obtain ⟨a', b', done, hrel⟩ := hrel
    have HREL := Lib.hid hrel
    obtain ⟨A3, c3, rfl, he1, he2, hs1, hy1⟩ := hrel.ra
    obtain ⟨A4, c4, rfl, hf1, hf2, hs2, hy2⟩ := hrel.rb
    obtain ⟨g, co, rfl, hg⟩ := hrel.form
    have hlen := hrel.len
    rw [HN.out, HM.out] at hlen
    have hsz := hrel.bel.size
    have HEND := Lib.hid (fun v3 w3 => @merge_end w a b lo _ _ _ wr a' b' done v3 w3 hrel)
    unfold maxLen at he2 hf2
    have HS1 := Lib.hid hs1
    have HS2 := Lib.hid hs2
    have HY1 := Lib.hid hy1
    have HY2 := Lib.hid hy2
    clear hs1 hs2 hy1 hy2 hrel
    obtain ⟨p, hp⟩ : ∃ p, a'.length = p := ⟨_, rfl⟩
    obtain ⟨q, hq⟩ : ∃ q, b'.length = q := ⟨_, rfl⟩
    by_cases hexit : a' = [] ∨ b' = []
    · have HM2 := Lib.hid (show mergeL a' b' = a' ++ b' by
        rcases hexit with h | h
        · rw [h]; exact List.nil_merge _
        · rw [h]; unfold mergeL; rw [List.merge_right]; simp)
      have hpq : p < 1 ∨ q < 1 := by
        rcases hexit with h | h
        · left; rw [← hp, h]; simp
        · right; rw [← hq, h]; simp
      have hs1 := HS1.out
      have hs2 := HS2.out
      rw [hp] at hs1
      rw [hq] at hs2
      have HS1 := Lib.hid hs1
      have HS2 := Lib.hid hs2
      clear hs1 hs2
      rw [hp] at hlen he1 ⊢
      rw [hq] at hlen hf1 ⊢
      have HP := Lib.hid hp
      have HQ := Lib.hid hq
      clear hexit hp hq
      rcases hpq with hpq | hpq
      all_goals
        go_wp2_with (at_builtin; first | (refine appS rfl (.tmp 47) (.tmp 48) _ rfl eltS w.heap.size _ done.length (cellsOf done) rfl HREL.out.own rfl HS1.out HY1.out (one_cells _) (by omega) hsz ?_; intro v2 w2 hown2 hg2; have HS3 := Lib.hid (HS2.out.grown hg2 hsz (fun k hk => by obtain rfl := Option.some.inj hk; exact .inr hg)); have hsz2 := Nat.le_trans hsz hg2.size; have HO2 := Lib.hid hown2; have HG2 := Lib.hid hg2; clear hown2 hg2) | (refine appS rfl (.tmp 49) (.tmp 50) _ rfl eltS w.heap.size v2 (done.length + p) (cellsOf done ++ cellsOf a') rfl HO2.out rfl HS3.out HY2.out (one_cells _) (by omega) hsz2 ?_; intro v3 w3 hown3 hg3; have HO3 := Lib.hid hown3; have HG3 := Lib.hid hg3; clear hown3 hg3))
        all_goals
          go_ret
          refine HEND.out _ _ HM2.out (by rw [List.length_append, HP.out, HQ.out, cells_app, ← Nat.add_assoc, ← List.append_assoc]; exact HO3.out) ?_
          exact below_own (below_own HREL.out.bel HREL.out.own HG2.out (Nat.le_refl _) hsz) HO2.out HG3.out (Nat.le_refl _) hsz2
    · cases a' with
      | nil => exact absurd (.inl rfl) hexit
      | cons x ra =>
      cases b' with
      | nil => exact absurd (.inr rfl) hexit
      | cons y rb =>
        obtain ⟨ad, rfl, hlo, hb, x1, x2, hcut⟩ := rd_head HS1.out
        obtain ⟨ad2, rfl, hlo2, hb2, y1, y2, hcut2⟩ := rd_head HS2.out
        have HC1 := Lib.hid hcut
        have HC2 := Lib.hid hcut2
        clear hcut hcut2 hexit hp hq
        have fx := fits_right HREL.out.ha x (by simp)
        have fy := fits_right HREL.out.hb y (by simp)
        by_cases hlt : oddV y.1 y.2 x.1 x.2 < 0
        · have HFIN := Lib.hid (fun w4 hb4 g' co' w' happ hg' => @mr_next_b w a b lo _ wr w4 w' x y ra rb done ad2 c4 g co g' co' _ _ HREL.out hlt hg hf1 hf2 (HC2.out _ hf1) hb4 happ hg')
          have hI : (1 : Int) ≤ (rb.length : Int) + 1 := by omega
          by_cases hcap : c4 = 1
          · subst hcap
            go_wp2_with fail
            go_region_with (go_at_call 71; refine (odder_any y.1 y.2 x.1 x.2 _ fy fx).mono ?_; rintro e w4 ⟨rfl, hb4⟩)
            all_goals
              have HB4 := Lib.hid (((Below.refl wr.heap.size wr).drew).trans hb4)
              have q1 : w4.cell? ad2 = some (.int .i64 y.1) := (HB4.out.cell (show ad2.block < wr.heap.size by omega)).trans y1
              have q2 : w4.cell? ⟨ad2.block, ad2.off + 1, none⟩ = some (.int .i64 y.2) := (HB4.out.cell (p := ⟨ad2.block, ad2.off + 1, none⟩) (show ad2.block < wr.heap.size by omega)).trans y2
              have HO4 := Lib.hid (own_below HREL.out.own HB4.out)
              have hsz4 : w.heap.size ≤ w4.heap.size := Nat.le_trans hsz HB4.out.size
              clear hb4
              go_wp2_with fail
              go_region_law (refine stepA w4 _ rfl (.tmp 31) (.tmp 35) _ rfl eltS w.heap.size _ done.length co (cellsOf done) rfl HO4.out rfl rfl (by simp [Value.oneCell']) (by simp at hlen; omega) hsz4 ?_; intro g' co' w' happ hg'; have HAPP := Lib.hid happ; clear happ)
              all_goals
                go_wp2_with fail
                have hm := HFIN.out _ HB4.out _ _ _ HAPP.out hg'
                first | rw [if_pos rfl] at hm | rw [if_pos trivial] at hm
                first | exact ⟨hm, by simp [lenOf]⟩ | exact ⟨⟨_, _, _, hm, rfl, rfl, rfl⟩, by simp [lenOf]⟩
          · have HCAP := Lib.hid hcap
            go_wp2_with fail
            go_region_with (go_at_call 71; refine (odder_any y.1 y.2 x.1 x.2 _ fy fx).mono ?_; rintro e w4 ⟨rfl, hb4⟩)
            all_goals
              have HB4 := Lib.hid (((Below.refl wr.heap.size wr).drew).trans hb4)
              have q1 : w4.cell? ad2 = some (.int .i64 y.1) := (HB4.out.cell (show ad2.block < wr.heap.size by omega)).trans y1
              have q2 : w4.cell? ⟨ad2.block, ad2.off + 1, none⟩ = some (.int .i64 y.2) := (HB4.out.cell (p := ⟨ad2.block, ad2.off + 1, none⟩) (show ad2.block < wr.heap.size by omega)).trans y2
              have HO4 := Lib.hid (own_below HREL.out.own HB4.out)
              have hsz4 : w.heap.size ≤ w4.heap.size := Nat.le_trans hsz HB4.out.size
              clear hb4
              go_wp2_with fail
              go_region_law (refine stepA w4 _ rfl (.tmp 31) (.tmp 35) _ rfl eltS w.heap.size _ done.length co (cellsOf done) rfl HO4.out rfl rfl (by simp [Value.oneCell']) (by simp at hlen; omega) hsz4 ?_; intro g' co' w' happ hg'; have HAPP := Lib.hid happ; clear happ)
              all_goals
                go_wp2_with fail
                have hm := HFIN.out _ HB4.out _ _ _ HAPP.out hg'
                rw [if_neg HCAP.out] at hm
                first | exact ⟨hm, by simp [lenOf]⟩ | exact ⟨⟨_, _, _, hm, rfl, rfl, rfl⟩, by simp [lenOf]⟩
        · have HFIN := Lib.hid (fun w4 hb4 g' co' w' happ hg' => @mr_next_a w a b lo _ wr w4 w' x y ra rb done ad c3 g co g' co' _ _ HREL.out hlt hg he1 he2 (HC1.out _ he1) hb4 happ hg')
          have hI : (1 : Int) ≤ (ra.length : Int) + 1 := by omega
          by_cases hcap : c3 = 1
          · subst hcap
            go_wp2_with fail
            go_region_with (go_at_call 71; refine (odder_any y.1 y.2 x.1 x.2 _ fy fx).mono ?_; rintro e w4 ⟨rfl, hb4⟩)
            all_goals
              have HB4 := Lib.hid (((Below.refl wr.heap.size wr).drew).trans hb4)
              have q1 : w4.cell? ad = some (.int .i64 x.1) := (HB4.out.cell (show ad.block < wr.heap.size by omega)).trans x1
              have q2 : w4.cell? ⟨ad.block, ad.off + 1, none⟩ = some (.int .i64 x.2) := (HB4.out.cell (p := ⟨ad.block, ad.off + 1, none⟩) (show ad.block < wr.heap.size by omega)).trans x2
              have HO4 := Lib.hid (own_below HREL.out.own HB4.out)
              have hsz4 : w.heap.size ≤ w4.heap.size := Nat.le_trans hsz HB4.out.size
              clear hb4
              go_wp2_with fail
              go_region_law (refine stepA w4 _ rfl (.tmp 39) (.tmp 43) _ rfl eltS w.heap.size _ done.length co (cellsOf done) rfl HO4.out rfl rfl (by simp [Value.oneCell']) (by simp at hlen; omega) hsz4 ?_; intro g' co' w' happ hg'; have HAPP := Lib.hid happ; clear happ)
              all_goals
                go_wp2_with fail
                have hm := HFIN.out _ HB4.out _ _ _ HAPP.out hg'
                first | rw [if_pos rfl] at hm | rw [if_pos trivial] at hm
                first | exact ⟨hm, by simp [lenOf]⟩ | exact ⟨⟨_, _, _, hm, rfl, rfl, rfl⟩, by simp [lenOf]⟩
          · have HCAP := Lib.hid hcap
            go_wp2_with fail
            go_region_with (go_at_call 71; refine (odder_any y.1 y.2 x.1 x.2 _ fy fx).mono ?_; rintro e w4 ⟨rfl, hb4⟩)
            all_goals
              have HB4 := Lib.hid (((Below.refl wr.heap.size wr).drew).trans hb4)
              have q1 : w4.cell? ad = some (.int .i64 x.1) := (HB4.out.cell (show ad.block < wr.heap.size by omega)).trans x1
              have q2 : w4.cell? ⟨ad.block, ad.off + 1, none⟩ = some (.int .i64 x.2) := (HB4.out.cell (p := ⟨ad.block, ad.off + 1, none⟩) (show ad.block < wr.heap.size by omega)).trans x2
              have HO4 := Lib.hid (own_below HREL.out.own HB4.out)
              have hsz4 : w.heap.size ≤ w4.heap.size := Nat.le_trans hsz HB4.out.size
              clear hb4
              go_wp2_with fail
              go_region_law (refine stepA w4 _ rfl (.tmp 39) (.tmp 43) _ rfl eltS w.heap.size _ done.length co (cellsOf done) rfl HO4.out rfl rfl (by simp [Value.oneCell']) (by simp at hlen; omega) hsz4 ?_; intro g' co' w' happ hg'; have HAPP := Lib.hid happ; clear happ)
              all_goals
                go_wp2_with fail
                have hm := HFIN.out _ HB4.out _ _ _ HAPP.out hg'
                rw [if_neg HCAP.out] at hm
                first | exact ⟨hm, by simp [lenOf]⟩ | exact ⟨⟨_, _, _, hm, rfl, rfl, rfl⟩, by simp [lenOf]⟩
end Go.Proofs.YtdpmijmofeechaaDoor.SorW
