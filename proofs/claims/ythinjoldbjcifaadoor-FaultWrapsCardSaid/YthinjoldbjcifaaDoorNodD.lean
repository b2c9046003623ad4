/- The reference's Codes over nodes. -/
import Derived.Test.YthinjoldbjcifaaDoorNodC
namespace Go.Proofs.YthinjoldbjcifaaDoor.NodD
set_option linter.unusedVariables false
open Go.RowKit Go.WideElems Base FltM FltW FltX FltI FltH FltC FltT FltS NodM PlayM NodC

theorem eltE : Elt Tryd.prog 29 31 (.int .i64 0) 1 8 := elt_mk (z := .int .i64 0) Tryd.underlying29 (by kernel_rfl) rfl (by omega) (by omega)
theorem own_one (w : World) (cs : Array Value) (e : TypeId) (k : Nat) (hk : cs.size = k) : (w.alloc (.cells cs e)).ownsRow w.heap.size e k (.slice (some ⟨w.heap.size, 0, none⟩) 1 1) 1 cs.toList :=
  ⟨by simp [hk], .inr ⟨w.heap.size, 1, cs, rfl, Nat.le_refl _, heap_alloc_new w _, Nat.le_refl _, by unfold maxLen; omega, by omega, by rw [Nat.one_mul, ← hk]; exact List.take_of_length_le (by simp)⟩⟩
theorem codes_pos : ∀ t : T, 0 < t.codes.length
  | .leaf _ _ _ => by simp [T.codes]
  | .wrap _ _ u => codes_pos u
  | .both x y => by simp only [T.codes, List.length_append]; have := codes_pos x; omega
section
variable {P : Program}
/-- 's = append(s, x...)' in a region that draws its order, both rows of one's own, something is appended -/
theorem stepS {ops : Array Oper} {o : Oper} {a : Act} {K : Act → World → Prop} {Q : Exit → Act → World → Prop} {E' : Prop} {w : World} (hgd : o.guard = none) (s x : Operand) (t : TypeId)
    (ho : o.op = .call { callee := .builtin .append, args := #[s, x], argTypes := #[t, t] })
    {e : TypeId} {z : Value} {size bytes : Nat} (E : Elt P t e z size bytes) (base base2 : Nat) (v v2 : Value) (n m : Nat) (xs news : List Value) (hs : a.eval s = v)
    (hown : w.ownsRow base e size v n xs) (hx : a.eval x = v2) (hown2 : w.ownsRow base2 e size v2 m news) (h1 : ∀ u ∈ news, u.oneCell' = true) (hm : 0 < m)
    (hn : n + m ≤ 1073741824) (hbase : base ≤ w.heap.size)
    (h : ∀ v' w', w'.ownsRow base e size v' (n + m) (xs ++ news) → w.grownBy w' v.ownBlock → K (a.put o.dst v') w') :
    if Region.wanted o (yielded ops a.tmps) = true then Oper.wp P o a w K Q else E' := by
  obtain ⟨ht, h0, hby, i, hi, hz, hsz, hbs, hzs⟩ := E
  obtain ⟨g, cap, hv, hg, hlt⟩ := hown2.form hm
  have hr := (Rd.of_own (by rw [hv] at hown2; exact hown2)).2 hm
  obtain ⟨ad, e1, _, _, hc⟩ := hr
  obtain rfl := Option.some.inj e1
  refine step_append_lies _ hgd s x t ho base e i z size bytes ht hi hz hsz hbs hzs h0 v n xs hs hown _ m cap news (by rw [hx, hv]) hown2.1 hc h1 hm (by unfold maxLen; omega) ?_ hbase w.heap.size rfl ?_
  · have h2 : (n + m) * bytes ≤ 1073741824 * 131072 := Nat.mul_le_mul hn hby
    omega
  · intro g cp w' own hg hor hlt
    exact h _ _ own hg
end
theorem one_int (l : List Int) : ∀ u ∈ l.flatMap inC, u.oneCell' = true := by
  intro u hu
  obtain ⟨x, _, hx⟩ := List.mem_flatMap.1 hu
  obtain rfl := List.mem_singleton.1 hx
  rfl
set_option maxHeartbeats 4000000 in
set_option maxRecDepth 100000 in
theorem RCodes_at (v : Value) (l : List Nd) (lo : Nat) : ∀ (t : T) (i : Nat) (w : World), Seq 6 ndC w lo w.heap.size v l → Rep l i t → t.codes.length ≤ 2000000 →
    Calls Tryd.prog 10 #[v, .int .i64 i] w fun e w' => (∃ r, e = .returned r ∧ w'.ownsRow w.heap.size 31 1 r t.codes.length (t.codes.flatMap inC)) ∧ Below w.heap.size w w'
  | .leaf op at_ c, i, w, h, ⟨a, b, hx⟩, hlen => by
    obtain ⟨A, cap, rfl, hc1, hc2, hr, _⟩ := h
    unfold maxLen at hc2
    obtain ⟨ad, rfl, hlo, hb, hi, c0, c1, c2, c3, c4, c5⟩ := get6 hr hx
    generalize l.length = n at *
    have n0 : ¬ ((i : Int) < 0) := by omega
    dsimp only at c0 c1 c2 c3 c4 c5
    clear hr hx
    go_enter Tryd.func10, Tryd.ntmps10
    go_wp2
    go_ret
    exact ⟨⟨_, rfl, own_one w _ _ 1 rfl⟩, below_a1 _ _⟩
  | .wrap op at_ u, i, w, h, ⟨c, j, b, hx, hu⟩, hlen => by
    have IH := Lib.hid (RCodes_at v l lo u j w h hu hlen)
    obtain ⟨A, cap, rfl, hc1, hc2, hr, _⟩ := h
    unfold maxLen at hc2
    obtain ⟨ad, rfl, hlo, hb, hi, c0, c1, c2, c3, c4, c5⟩ := get6 hr hx
    generalize l.length = n at *
    have n0 : ¬ ((i : Int) < 0) := by omega
    dsimp only at c0 c1 c2 c3 c4 c5
    clear hr hx hu
    go_enter Tryd.func10, Tryd.ntmps10
    go_wp2_with fail
    refine IH.out.mono ?_
    rintro e w1 ⟨⟨r, rfl, ho⟩, hbl⟩
    have HO := Lib.hid ho
    have HB := Lib.hid hbl
    clear ho hbl
    go_wp2
    go_ret
    exact ⟨⟨_, rfl, HO.out⟩, HB.out⟩
  | .both x y, i, w, h, ⟨d, op, at_, c, j, k, h0, h1, hx, hX, hY⟩, hlen => by
    have hl2 : x.codes.length + y.codes.length ≤ 2000000 := by simpa [T.codes] using hlen
    have IX := Lib.hid (fun w h => RCodes_at v l lo x j w h hX (by omega))
    have IY := Lib.hid (fun w h => RCodes_at v l lo y k w h hY (by omega))
    have HS := Lib.hid h
    have pos := codes_pos y
    have F := Lib.hid (show (T.both x y).codes.length = x.codes.length + y.codes.length ∧ (T.both x y).codes.flatMap inC = x.codes.flatMap inC ++ y.codes.flatMap inC by simp [T.codes])
    obtain ⟨A, cap, rfl, hc1, hc2, hr, _⟩ := h
    unfold maxLen at hc2
    obtain ⟨ad, rfl, hlo, hb, hi, c0, c1, c2, c3, c4, c5⟩ := get6 hr hx
    generalize l.length = n at *
    have n0 : ¬ ((i : Int) < 0) := by omega
    have d0 : (d == 0) = false := by simpa using h0
    have d1 : (d == 1) = false := by simpa using h1
    dsimp only at c0 c1 c2 c3 c4 c5
    clear hr hx hX hY h0 h1 hlen
    go_enter Tryd.func10, Tryd.ntmps10
    go_wp2_with fail
    go_region_held_law (fun w' => w'.cell? ⟨(ad.add (i * 6)).block, (ad.add (i * 6)).off + 4, none⟩ = some (.int .i64 j) ∧ w'.cell? ⟨(ad.add (i * 6)).block, (ad.add (i * 6)).off + 5, none⟩ = some (.int .i64 k))
      (first | (go_keep; done) | (exact ⟨k54, k55⟩) | (exact ⟨k64, k65⟩) | (exact ⟨k74, k75⟩))
      ((first | (go_at_call_of 10 (Value.int IntKind.i64 j); refine (IX.out _ (by exact HS.out)).mono ?_; rintro e w5 ⟨⟨r5, rfl, ho5⟩, hb5⟩; have X5 := Lib.hid (bt hb5 (Below.refl _ _).drew); have k54 := cell_keep hb5 c4; have k55 := cell_keep hb5 c5) | (go_at_call_of 10 (Value.int IntKind.i64 k); refine (IY.out _ (HS.out.up X5.out)).mono ?_; rintro e w6 ⟨⟨r6, rfl, ho6⟩, hb6⟩; have X6 := Lib.hid (bt hb6 X5.out); have k64 := cell_keep hb6 k54; have k65 := cell_keep hb6 k55) | (refine stepS (by rfl) _ _ _ (by rfl) eltE w.heap.size w5.heap.size r5 r6 _ _ _ _ (by rfl) (own_below ho5 hb6) (by rfl) ho6 (one_int _) pos (by omega) (Nat.le_trans hb5.size hb6.size) ?_; intro v7 w7 hown7 hg7; have X7 := Lib.hid (below_own X6.out (own_below ho5 hb6) hg7 (Nat.le_refl _) X6.out.size); have k74 := cell_keep X7.out c4; have k75 := cell_keep X7.out c5)))
    have HO7 := Lib.hid hown7
    clear hown7 hg7 ho5 ho6 hb5 hb6
    go_wp2_with fail
    go_ret
    exact ⟨⟨v7, by simp, by rw [F.out.1, F.out.2]; exact HO7.out⟩, X7.out⟩
end Go.Proofs.YthinjoldbjcifaaDoor.NodD
