/- The reference's Steps over nodes. -/
import Derived.Test.YthinjoldbjcifaaDoorNodD
namespace Go.Proofs.YthinjoldbjcifaaDoor.NodS
set_option linter.unusedVariables false
open Go.RowKit Go.WideElems Base FltM FltW FltX FltI FltH FltC FltT FltS NodM PlayM NodC NodD

section
variable {P : Program}
/-- 's = append(s, x...)', both rows of one's own, something is appended -/
theorem listS {ops : Array Oper} {rest : List Oper} {o : Oper} {a : Act} {Q : Exit → Act → World → Prop} {w : World} (hgd : o.guard = none) (s x : Operand) (t : TypeId)
    (ho : o.op = .call { callee := .builtin .append, args := #[s, x], argTypes := #[t, t] })
    {e : TypeId} {z : Value} {size bytes : Nat} (E : Elt P t e z size bytes) (base base2 : Nat) (v v2 : Value) (n m : Nat) (xs news : List Value) (hs : a.eval s = v)
    (hown : w.ownsRow base e size v n xs) (hx : a.eval x = v2) (hown2 : w.ownsRow base2 e size v2 m news) (h1 : ∀ u ∈ news, u.oneCell' = true) (hm : 0 < m)
    (hn : n + m ≤ 1073741824) (hbase : base ≤ w.heap.size)
    (h : ∀ v' w', w'.ownsRow base e size v' (n + m) (xs ++ news) → w.grownBy w' v.ownBlock → wpList P ops Q rest (a.put o.dst v') w') :
    wpList P ops Q (o :: rest) a w := by
  obtain ⟨ht, h0, hby, i, hi, hz, hsz, hbs, hzs⟩ := E
  obtain ⟨g, cap, hv, hg, hlt⟩ := hown2.form hm
  have hr := (Rd.of_own (by rw [hv] at hown2; exact hown2)).2 hm
  obtain ⟨ad, e1, _, _, hc⟩ := hr
  obtain rfl := Option.some.inj e1
  refine wpList_append_lies _ hgd s x t ho base e i z size bytes ht hi hz hsz hbs hzs h0 v n xs hs hown _ m cap news (by rw [hx, hv]) hown2.1 hc h1 hm (by unfold maxLen; omega) ?_ hbase w.heap.size rfl ?_
  · have h2 : (n + m) * bytes ≤ 1073741824 * 131072 := Nat.mul_le_mul hn hby
    omega
  · intro g cp w' own hg hor hlt
    exact h _ _ own hg
end
theorem steps_pos : ∀ t : T, 0 < t.steps.length
  | .leaf _ _ _ => by simp [T.steps]
  | .wrap _ _ u => by simp [T.steps]
  | .both x y => steps_pos x
theorem one_stp (l : List (List UInt8 × Int)) : ∀ u ∈ cellsP l, u.oneCell' = true := by
  intro u hu
  unfold cellsP at hu
  obtain ⟨x, _, hx⟩ := List.mem_flatMap.1 hu
  rcases List.mem_cons.1 hx with rfl | hx
  · rfl
  · obtain rfl := List.mem_singleton.1 hx; rfl
set_option maxHeartbeats 4000000 in
set_option maxRecDepth 100000 in
theorem RSteps_at (v : Value) (l : List Nd) (lo : Nat) : ∀ (t : T) (i : Nat) (w : World), Seq 6 ndC w lo w.heap.size v l → Rep l i t → t.steps.length ≤ 2000000 →
    Calls Tryd.prog 20 #[v, .int .i64 i] w fun e w' => (∃ r, e = .returned r ∧ w'.ownsRow w.heap.size 48 2 r t.steps.length (cellsP t.steps)) ∧ Below w.heap.size w w'
  | .leaf op at_ c, i, w, h, ⟨a, b, hx⟩, hlen => by
    obtain ⟨A, cap, rfl, hc1, hc2, hr, _⟩ := h
    unfold maxLen at hc2
    obtain ⟨ad, rfl, hlo, hb, hi, c0, c1, c2, c3, c4, c5⟩ := get6 hr hx
    generalize l.length = n at *
    have n0 : ¬ ((i : Int) < 0) := by omega
    dsimp only at c0 c1 c2 c3 c4 c5
    clear hr hx
    go_enter Tryd.func20, Tryd.ntmps20
    go_wp2_with fail
    go_region_held3 (fun w' => w'.cell? ⟨(ad.add (i * 6)).block, (ad.add (i * 6)).off + 1, none⟩ = some (.string ⟨op.toArray⟩) ∧ w'.cell? ⟨(ad.add (i * 6)).block, (ad.add (i * 6)).off + 2, none⟩ = some (.int .i64 at_))
      (go_keep) (fail)
    have HO1 := Lib.hid (own_one w #[.string ⟨op.toArray⟩, .int .i64 at_] 48 2 rfl)
    have HB1 := Lib.hid ((below_a1 w (.cells #[.string ⟨op.toArray⟩, .int .i64 at_] 48)).drew)
    replace c0 : ((w.alloc (.cells #[.string ⟨op.toArray⟩, .int .i64 at_] 48)).drew).cell? (ad.add (i * 6)) = _ := (HB1.out.cell (by rw [add_block]; exact hb)).trans c0
    replace c4 : ((w.alloc (.cells #[.string ⟨op.toArray⟩, .int .i64 at_] 48)).drew).cell? ⟨(ad.add (i * 6)).block, (ad.add (i * 6)).off + 4, none⟩ = _ := (HB1.out.cell (by show (ad.add (i * 6)).block < _; rw [add_block]; exact hb)).trans c4
    replace HO1 := Lib.hid (show ((w.alloc (.cells #[.string ⟨op.toArray⟩, .int .i64 at_] 48)).drew).ownsRow w.heap.size 48 2 (.slice (some ⟨w.heap.size, 0, none⟩) 1 1) 1 (#[Value.string ⟨op.toArray⟩, .int .i64 at_] : Array Value).toList from HO1.out)
    generalize (w.alloc (.cells #[.string ⟨op.toArray⟩, .int .i64 at_] 48)).drew = w2 at *
    clear c1 c2 c3 c5
    go_wp2_with fail
    go_ret
    exact ⟨⟨_, rfl, HO1.out⟩, HB1.out⟩
  | .wrap op at_ u, i, w, h, ⟨c, j, b, hx, hu⟩, hlen => by
    have hl2 : u.steps.length ≤ 1999999 := by have : u.steps.length + 1 ≤ 2000000 := hlen; omega
    have IH := Lib.hid (fun w h => RSteps_at v l lo u j w h hu (by omega))
    have HS := Lib.hid h
    have pos := steps_pos u
    have F := Lib.hid (show (T.wrap op at_ u).steps.length = 1 + u.steps.length ∧ cellsP (T.wrap op at_ u).steps = (#[Value.string ⟨op.toArray⟩, .int .i64 at_] : Array Value).toList ++ cellsP u.steps from ⟨by simp [T.steps]; omega, rfl⟩)
    clear hu
    obtain ⟨A, cap, rfl, hc1, hc2, hr, _⟩ := h
    unfold maxLen at hc2
    obtain ⟨ad, rfl, hlo, hb, hi, c0, c1, c2, c3, c4, c5⟩ := get6 hr hx
    generalize l.length = n at *
    have n0 : ¬ ((i : Int) < 0) := by omega
    dsimp only at c0 c1 c2 c3 c4 c5
    clear hr hx
    go_enter Tryd.func20, Tryd.ntmps20
    go_wp2_with fail
    go_region_held3 (fun w' => w'.cell? ⟨(ad.add (i * 6)).block, (ad.add (i * 6)).off + 1, none⟩ = some (.string ⟨op.toArray⟩) ∧ w'.cell? ⟨(ad.add (i * 6)).block, (ad.add (i * 6)).off + 2, none⟩ = some (.int .i64 at_))
      (go_keep) (fail)
    have HO1 := Lib.hid (own_one w #[.string ⟨op.toArray⟩, .int .i64 at_] 48 2 rfl)
    have HB1 := Lib.hid ((below_a1 w (.cells #[.string ⟨op.toArray⟩, .int .i64 at_] 48)).drew)
    replace c0 : ((w.alloc (.cells #[.string ⟨op.toArray⟩, .int .i64 at_] 48)).drew).cell? (ad.add (i * 6)) = _ := (HB1.out.cell (by rw [add_block]; exact hb)).trans c0
    replace c4 : ((w.alloc (.cells #[.string ⟨op.toArray⟩, .int .i64 at_] 48)).drew).cell? ⟨(ad.add (i * 6)).block, (ad.add (i * 6)).off + 4, none⟩ = _ := (HB1.out.cell (by show (ad.add (i * 6)).block < _; rw [add_block]; exact hb)).trans c4
    replace HO1 := Lib.hid (show ((w.alloc (.cells #[.string ⟨op.toArray⟩, .int .i64 at_] 48)).drew).ownsRow w.heap.size 48 2 (.slice (some ⟨w.heap.size, 0, none⟩) 1 1) 1 (#[Value.string ⟨op.toArray⟩, .int .i64 at_] : Array Value).toList from HO1.out)
    generalize (w.alloc (.cells #[.string ⟨op.toArray⟩, .int .i64 at_] 48)).drew = w2 at *
    clear c1 c2 c3 c5
    go_wp2_with fail
    refine (IH.out w2 (HS.out.up HB1.out)).mono ?_
    rintro e w3 ⟨⟨r, rfl, ho⟩, hbl⟩
    have HO1 := Lib.hid (own_below HO1.out hbl)
    have HO := Lib.hid ho
    have HB2 := Lib.hid (bt hbl HB1.out)
    have hs2 := HB1.out.size
    have hs3 := hbl.size
    have hs4 : w.heap.size ≤ w3.heap.size := by omega
    clear ho hbl
    go_wp2_with (at_builtin; go_must (refine listS rfl (.tmp 47) (.tmp 54) _ rfl eltP w.heap.size w2.heap.size _ _ 1 u.steps.length _ (cellsP u.steps) rfl HO1.out rfl HO.out (one_stp _) pos (by omega) hs4 ?_); intro v7 w7 hown7 hg7; have X7 := Lib.hid (below_own HB2.out HO1.out hg7 (Nat.le_refl _) hs4); have HO7 := Lib.hid hown7; clear hown7 hg7)
    go_ret
    exact ⟨⟨_, rfl, by rw [F.out.1, F.out.2]; exact HO7.out⟩, X7.out⟩
  | .both x y, i, w, h, ⟨d, op, at_, c, j, k, h0, h1, hx, hX, hY⟩, hlen => by
    have IH := Lib.hid (RSteps_at v l lo x j w h hX hlen)
    obtain ⟨A, cap, rfl, hc1, hc2, hr, _⟩ := h
    unfold maxLen at hc2
    obtain ⟨ad, rfl, hlo, hb, hi, c0, c1, c2, c3, c4, c5⟩ := get6 hr hx
    generalize l.length = n at *
    have n0 : ¬ ((i : Int) < 0) := by omega
    have d0 : (d == 0) = false := by simpa using h0
    have d1 : (d == 1) = false := by simpa using h1
    have d2 : (d != 0) = true := by simpa using h0
    have d3 : (d != 1) = true := by simpa using h1
    dsimp only at c0 c1 c2 c3 c4 c5
    clear hr hx hX hY h0 h1
    go_enter Tryd.func20, Tryd.ntmps20
    go_wp2_with fail
    refine IH.out.mono ?_
    rintro e w1 ⟨⟨r, rfl, ho⟩, hbl⟩
    have HO := Lib.hid ho
    have HB := Lib.hid hbl
    clear ho hbl
    go_wp2
    go_ret
    exact ⟨⟨_, rfl, HO.out⟩, HB.out⟩
end Go.Proofs.YthinjoldbjcifaaDoor.NodS
