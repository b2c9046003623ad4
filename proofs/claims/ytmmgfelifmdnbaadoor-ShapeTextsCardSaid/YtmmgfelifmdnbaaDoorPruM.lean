/- Pruning, plainly: the steps of the loop over the visits lead to the pruned tree. -/
import Derived.Test.YtmmgfelifmdnbaaDoorItrG
namespace Go.Proofs.YtmmgfelifmdnbaaDoor.PruM
set_option linter.unusedVariables false
open ShpM ItrD ItrG

/-- a tree without what is deeper than so many steps -/
def pru : B → Nat → B
  | .leaf n, _ => .leaf n
  | .fork c a l r, 0 => .leaf (l.size + r.size)
  | .fork c a l r, k + 1 => .fork c a (pru l k) (pru r k)
theorem pru_size : ∀ (b : B) (k : Nat), (pru b k).size = b.size
  | .leaf n, _ => rfl
  | .fork c a l r, 0 => rfl
  | .fork c a l r, k + 1 => by simp only [pru, B.size, pru_size l k, pru_size r k]
theorem pru_count : ∀ (b : B) (k : Nat), (pru b k).count ≤ b.count
  | .leaf n, _ => Nat.le_refl _
  | .fork c a l r, 0 => by simp only [pru, B.count]; omega
  | .fork c a l r, k + 1 => by have := pru_count l k; have := pru_count r k; simp only [pru, B.count]; omega
theorem pru_high : ∀ (b : B) (k : Nat), (pru b k).high ≤ b.high
  | .leaf n, _ => Nat.le_refl _
  | .fork c a l r, 0 => by simp only [pru, B.high]; omega
  | .fork c a l r, k + 1 => by have := pru_high l k; have := pru_high r k; simp only [pru, B.high]; omega
theorem pru_ok {dim : Int} : ∀ (b : B) (k : Nat), b.ok dim → (pru b k).ok dim
  | .leaf n, _, h => h
  | .fork c a l r, 0, h => by have := size_pos h.2.1; have := size_pos h.2.2; simp only [pru, B.ok]; omega
  | .fork c a l r, k + 1, h => ⟨h.1, pru_ok l k h.2.1, pru_ok r k h.2.2⟩
/-- a node's right part -/
def setR (x : Nd) (r : Int) : Nd := { x with right := r }
/-- what a round makes of the nodes so far -/
def fixR (ls : List Nd) (out : List Nd) (place : List Int) (v : Vis) : List Nd :=
  match ls[v.2.1.toNat]? with
  | some m => if 0 ≤ v.2.1 ∧ m.right = v.1 then (match out[(place[v.2.1.toNat]?.getD 0).toNat]? with | some y => out.set (place[v.2.1.toNat]?.getD 0).toNat (setR y out.length) | none => out) else out
  | none => out
def newN (n : Nd) (v : Vis) (D : Int) (len : Nat) : Nd := if 0 < n.left ∧ v.2.2 < D then ⟨n.coef, n.at_, (len : Int) + 1, 0, n.size⟩ else ⟨[], 0, 0, 0, n.size⟩
/-- a round -/
def stepP (ls : List Nd) (D : Int) (st : List Nd × List Int) (v : Vis) : List Nd × List Int :=
  if D < v.2.2 then st else match ls[v.1.toNat]? with
    | some n => (fixR ls st.1 (st.2.set v.1.toNat st.1.length) v ++ [newN n v D st.1.length], st.2.set v.1.toNat st.1.length)
    | none => st
theorem fixR_len (ls out : List Nd) (place : List Int) (v : Vis) : (fixR ls out place v).length = out.length := by
  unfold fixR
  split
  · split
    · split <;> simp
    · rfl
  · rfl
/-- in what comes of a node each visit but the first one has its parent ahead -/
theorem above : ∀ (b : B) (i : Nat) (p d : Int) (pre : List Vis) (x : Vis), pre ++ [x] <+: visits b i p d → (pre = [] ∧ x = ((i : Int), p, d)) ∨ ∃ y ∈ pre, y.1 = x.2.1 ∧ y.2.2 + 1 = x.2.2 ∧ x.2.1 < x.1
  | .leaf n, i, p, d, pre, x, h => by
    obtain ⟨t, ht⟩ := h
    cases pre with
    | nil => simp [visits] at ht; exact .inl ⟨rfl, ht.1⟩
    | cons y r =>
      have := congrArg List.length ht
      simp [visits] at this
  | .fork c a l r, i, p, d, pre, x, h => by
    cases pre with
    | nil =>
      obtain ⟨t, ht⟩ := h
      simp [visits] at ht
      exact .inl ⟨rfl, ht.1⟩
    | cons y pre =>
      right
      obtain ⟨t, ht⟩ := h
      simp only [visits, List.cons_append, List.cons.injEq] at ht
      obtain ⟨hy, ht⟩ := ht
      subst hy
      have hcase : pre ++ [x] <+: visits l (i + 1) i (d + 1) ∨ ∃ s, pre = visits l (i + 1) i (d + 1) ++ s ∧ s ++ [x] <+: visits r (i + 1 + l.count) i (d + 1) := by
        rcases List.append_eq_append_iff.1 ht with ⟨u, h1, h2⟩ | ⟨u, h1, h2⟩
        · exact .inl ⟨u, h1.symm⟩
        · rcases List.eq_nil_or_concat u with rfl | ⟨u', z, rfl⟩
          · exact .inl ⟨[], by simpa using h1⟩
          · right
            rw [List.concat_eq_append, ← List.append_assoc] at h1
            obtain ⟨e1, e2⟩ := List.append_inj' h1 rfl
            obtain rfl : x = z := by simpa using e2
            exact ⟨u', e1, t, by rw [h2]; simp⟩
      rcases hcase with h1 | ⟨s, rfl, h1⟩
      · rcases above l _ _ _ _ _ h1 with ⟨rfl, rfl⟩ | ⟨z, hz, h2⟩
        · exact ⟨_, List.mem_cons_self, rfl, rfl, by dsimp only; omega⟩
        · exact ⟨z, List.mem_cons_of_mem _ hz, h2⟩
      · rcases above r _ _ _ _ _ h1 with ⟨rfl, rfl⟩ | ⟨z, hz, h2⟩
        · exact ⟨_, List.mem_cons_self, rfl, rfl, by dsimp only; omega⟩
        · exact ⟨z, List.mem_cons_of_mem _ (List.mem_append_right _ hz), h2⟩
/-- whatever was placed has a place among the nodes so far -/
def Okp (ls : List Nd) (D : Int) (st : List Nd × List Int) (pre : List Vis) : Prop :=
  st.2.length = ls.length ∧ st.1.length ≤ pre.length ∧ (∀ z ∈ st.2, 0 ≤ z ∧ z ≤ 1000000) ∧ ∀ y ∈ pre, y.2.2 ≤ D → ∃ z : Int, st.2[y.1.toNat]? = some z ∧ 0 ≤ z ∧ z.toNat < st.1.length
theorem okp_step {ls : List Nd} {D : Int} {st : List Nd × List Int} {pre : List Vis} {x : Vis} (h : Okp ls D st pre) (hx : ∃ (j : Nat) (nd : Nd), x.1 = (j : Int) ∧ ls[j]? = some nd) (hl : pre.length ≤ 1000000) : Okp ls D (stepP ls D st x) (pre ++ [x]) := by
  obtain ⟨h1, h2, h3, h4⟩ := h
  obtain ⟨j, nd, hj, hnd⟩ := hx
  have hjl := (List.getElem?_eq_some_iff.1 hnd).1
  unfold stepP
  by_cases hd : D < x.2.2
  · rw [if_pos hd]
    refine ⟨h1, by simp; omega, h3, fun y hy hyd => ?_⟩
    rcases List.mem_append.1 hy with hy | hy
    · exact h4 y hy hyd
    · obtain rfl := List.mem_singleton.1 hy; omega
  · rw [if_neg hd]
    have e : ls[x.1.toNat]? = some nd := by rw [hj]; simpa using hnd
    simp only [e]
    refine ⟨by simpa using h1, by simp [fixR_len]; omega, fun z hz => ?_, fun y hy hyd => ?_⟩
    · rcases List.mem_or_eq_of_mem_set hz with hz | rfl
      · exact h3 z hz
      · omega
    · have hjj : x.1.toNat = j := by omega
      rw [hjj]
      by_cases hyj : y.1.toNat = j
      · refine ⟨(st.1.length : Int), ?_, by omega, by simp [fixR_len]⟩
        rw [hyj, List.getElem?_set_self (by omega)]
      · rcases List.mem_append.1 hy with hy | hy
        · obtain ⟨z, k1, k2, k3⟩ := h4 y hy hyd
          exact ⟨z, by simpa [List.getElem?_set_ne (Ne.symm hyj)] using k1, k2, by simp [fixR_len]; omega⟩
        · obtain rfl := List.mem_singleton.1 hy
          omega
theorem okp_more {ls : List Nd} {D : Int} : ∀ (l pre : List Vis) (st : List Nd × List Int), Okp ls D st pre → (∀ x ∈ l, ∃ (j : Nat) (nd : Nd), x.1 = (j : Int) ∧ ls[j]? = some nd) → pre.length + l.length ≤ 1000000 → Okp ls D (l.foldl (stepP ls D) st) (pre ++ l)
  | [], pre, st, h, _, _ => by simpa using h
  | x :: r, pre, st, h, hx, hl => by
    simp only [List.length_cons] at hl
    have := okp_more r (pre ++ [x]) (stepP ls D st x) (okp_step h (hx x (by simp)) (by omega)) (fun y hy => hx y (List.mem_cons_of_mem _ hy)) (by simp; omega)
    simpa using this
theorem okp_fold {ls : List Nd} {D : Int} (m : Nat) (hm : m = ls.length) (pre : List Vis) (hx : ∀ x ∈ pre, ∃ (j : Nat) (nd : Nd), x.1 = (j : Int) ∧ ls[j]? = some nd) (hl : pre.length ≤ 1000000) : Okp ls D (pre.foldl (stepP ls D) ([], List.replicate m 0)) pre := by
  have := okp_more (ls := ls) (D := D) pre [] ([], List.replicate m 0) ⟨by simp [hm], by simp, fun z hz => by simp at hz; omega, fun y hy => by simp at hy⟩ hx (by simpa using hl)
  simpa using this
/-- what a round may count on -/
theorem counts {ls : List Nd} {D dim : Int} {b : B} (hat : At ls 0 b) {pre : List Vis} {x : Vis} (hpre : pre ++ [x] <+: visits b 0 (-1) 0) (hl : b.count ≤ 1000) {out : List Nd} {pl : List Int} (hst : pre.foldl (stepP ls D) ([], List.replicate ls.length 0) = (out, pl)) :
    pl.length = ls.length ∧ out.length ≤ pre.length ∧ (x.2.2 ≤ D → 0 ≤ x.2.1 → ∃ (j : Nat) (md : Nd) (z : Nat), x.2.1 = (j : Int) ∧ ls[j]? = some md ∧ x.2.1 < x.1 ∧ pl[j]? = some (z : Int) ∧ z < out.length) := by
  have hsub : ∀ y ∈ pre ++ [x], ∃ (j : Nat) (nd : Nd), y.1 = (j : Int) ∧ ls[j]? = some nd := fun y hy => visits_place b ls 0 (-1) 0 hat y (hpre.subset hy)
  have hlen := hpre.length_le
  rw [visits_len] at hlen
  simp only [List.length_append, List.length_cons, List.length_nil] at hlen
  have ok := okp_fold (D := D) ls.length rfl pre (fun y hy => hsub y (List.mem_append_left _ hy)) (by omega)
  rw [hst] at ok
  obtain ⟨k1, k2, k3, k4⟩ := ok
  refine ⟨k1, k2, fun hd h0 => ?_⟩
  rcases above b 0 (-1) 0 pre x hpre with ⟨_, rfl⟩ | ⟨y, hy, e1, e2, e3⟩
  · simp at h0
  · obtain ⟨j, md, hj, hmd⟩ := hsub y (List.mem_append_left _ hy)
    obtain ⟨z, z1, z2, z3⟩ := k4 y hy (by omega)
    refine ⟨j, md, z.toNat, by omega, hmd, e3, ?_, z3⟩
    rw [hj] at z1
    simpa [Int.toNat_of_nonneg z2] using z1
/-- no node deeper than asked for is taken -/
theorem deep : ∀ (b : B) (i : Nat) (p d : Int), ∀ x ∈ visits b i p d, d ≤ x.2.2
  | .leaf n, i, p, d, x, h => by simp only [visits, List.mem_singleton] at h; subst h; exact Int.le_refl _
  | .fork c a l r, i, p, d, x, h => by
    simp only [visits, List.mem_cons, List.mem_append] at h
    rcases h with rfl | h | h
    · exact Int.le_refl _
    · have := deep l _ _ _ x h; omega
    · have := deep r _ _ _ x h; omega
theorem skips (ls : List Nd) (D : Int) : ∀ (l : List Vis) (st : List Nd × List Int), (∀ x ∈ l, D < x.2.2) → l.foldl (stepP ls D) st = st
  | [], st, h => rfl
  | x :: r, st, h => by
    rw [List.foldl_cons, show stepP ls D st x = st by unfold stepP; rw [if_pos (h x (by simp))]]
    exact skips ls D r st fun y hy => h y (by simp [hy])
theorem loopP (ls : List Nd) (D : Int) : ∀ (b : B) (i : Nat) (p d : Int) (out : List Nd) (place : List Int), At ls i b → p < i → place.length = ls.length → d ≤ D →
    ∃ place', (visits b i p d).foldl (stepP ls D) (out, place) = (fixR ls out place ((i : Int), p, d) ++ (pru b (D - d).toNat).nodes out.length, place') ∧ place'.length = ls.length ∧ ∀ j, j < i ∨ i + b.count ≤ j → place'[j]? = place[j]?
  | .leaf n, i, p, d, out, place, h, hp, hlen, hd => by
    have h0 := at_leaf.1 h
    have hil := (List.getElem?_eq_some_iff.1 h0).1
    refine ⟨place.set i out.length, ?_, by simpa using hlen, fun j hj => ?_⟩
    · have hfx : fixR ls out (place.set i out.length) ((i : Int), p, d) = fixR ls out place ((i : Int), p, d) := by
        unfold fixR
        by_cases hp0 : 0 ≤ p
        · have : p.toNat ≠ i := by omega
          simp only [List.getElem?_set_ne (Ne.symm this)]
        · simp only [hp0, false_and, if_false]
      simp only [visits, List.foldl_cons, List.foldl_nil, stepP, if_neg (show ¬ D < d by omega)]
      simp [h0, hfx, newN, pru, B.nodes]
    · simp only [B.count] at hj
      exact List.getElem?_set_ne (by omega)
  | .fork c a l r, i, p, d, out, place, h, hp, hlen, hd => by
    obtain ⟨h0, hl, hr⟩ := at_fork.1 h
    have hil := (List.getElem?_eq_some_iff.1 h0).1
    have hfx : fixR ls out (place.set i out.length) ((i : Int), p, d) = fixR ls out place ((i : Int), p, d) := by
      unfold fixR
      by_cases hp0 : 0 ≤ p
      · have : p.toNat ≠ i := by omega
        simp only [List.getElem?_set_ne (Ne.symm this)]
      · simp only [hp0, false_and, if_false]
    have hst : stepP ls D (out, place) ((i : Int), p, d) = (fixR ls out place ((i : Int), p, d) ++ [newN ⟨c, a, ((i + 1 : Nat) : Int), ((i + 1 + l.count : Nat) : Int), l.size + r.size⟩ ((i : Int), p, d) D out.length], place.set i out.length) := by
      unfold stepP
      rw [if_neg (show ¬ D < d by omega)]
      simp only [Int.toNat_natCast, h0, hfx]
    rw [show visits (.fork c a l r) i p d = ((i : Int), p, d) :: (visits l (i + 1) i (d + 1) ++ visits r (i + 1 + l.count) i (d + 1)) from rfl, List.foldl_cons, hst, List.foldl_append]
    obtain ⟨o, ho⟩ : ∃ o, fixR ls out place ((i : Int), p, d) = o := ⟨_, rfl⟩
    have hol : o.length = out.length := by rw [← ho, fixR_len]
    rw [ho]
    by_cases hdD : d < D
    · obtain ⟨k, hk⟩ : ∃ k : Nat, (D - d).toNat = k + 1 := ⟨(D - d).toNat - 1, by omega⟩
      have hk' : (D - (d + 1)).toNat = k := by omega
      have hnew : newN ⟨c, a, ((i + 1 : Nat) : Int), ((i + 1 + l.count : Nat) : Int), l.size + r.size⟩ ((i : Int), p, d) D out.length = ⟨c, a, (out.length : Int) + 1, 0, l.size + r.size⟩ := by
        unfold newN; rw [if_pos ⟨by show (0 : Int) < ((i + 1 : Nat) : Int); omega, hdD⟩]
      rw [hnew]
      obtain ⟨pl1, e1, e2, e3⟩ := loopP ls D l (i + 1) i (d + 1) (o ++ [⟨c, a, (out.length : Int) + 1, 0, l.size + r.size⟩]) (place.set i out.length) hl (by omega) (by simpa using hlen) (by omega)
      rw [e1, hk']
      have hfl : fixR ls (o ++ [⟨c, a, (out.length : Int) + 1, 0, l.size + r.size⟩]) (place.set i out.length) (((i + 1 : Nat) : Int), (i : Int), d + 1) = o ++ [⟨c, a, (out.length : Int) + 1, 0, l.size + r.size⟩] := by
        unfold fixR
        simp only [Int.toNat_natCast, h0]
        have := count_pos l
        rw [if_neg (by rintro ⟨_, h⟩; omega)]
      rw [hfl]
      obtain ⟨o1, ho1⟩ : ∃ o1 : List Nd, o ++ [(⟨c, a, (out.length : Int) + 1, 0, l.size + r.size⟩ : Nd)] ++ (pru l k).nodes (o ++ [(⟨c, a, (out.length : Int) + 1, 0, l.size + r.size⟩ : Nd)]).length = o1 := ⟨_, rfl⟩
      have hlo1 : o1.length = out.length + 1 + (pru l k).count := by rw [← ho1]; simp [nodes_len, hol]; omega
      rw [ho1]
      obtain ⟨pl2, g1, g2, g3⟩ := loopP ls D r (i + 1 + l.count) i (d + 1) o1 pl1 hr (by omega) e2 (by omega)
      rw [g1, hk', hk]
      refine ⟨pl2, ?_, g2, fun j hj => ?_⟩
      · have hpl : pl1[i]? = some (out.length : Int) := by rw [e3 i (by omega), List.getElem?_set_self (by omega)]
        have hget : o1[out.length]? = some ⟨c, a, (out.length : Int) + 1, 0, l.size + r.size⟩ := by
          rw [← ho1, List.append_assoc, List.getElem?_append_right (by omega)]
          simp [hol]
        have hfr : fixR ls o1 pl1 (((i + 1 + l.count : Nat) : Int), (i : Int), d + 1) = o1.set out.length ⟨c, a, (out.length : Int) + 1, (o1.length : Int), l.size + r.size⟩ := by
          unfold fixR
          simp only [Int.toNat_natCast, h0, hpl, Option.getD_some, hget, setR]
          rw [if_pos ⟨by omega, trivial⟩]
        rw [hfr]
        have hset : o1.set out.length ⟨c, a, (out.length : Int) + 1, (o1.length : Int), l.size + r.size⟩ = o ++ (⟨c, a, (out.length : Int) + 1, (o1.length : Int), l.size + r.size⟩ :: (pru l k).nodes (out.length + 1)) := by
          rw [← ho1, List.append_assoc, List.set_append_right _ _ (by omega), hol, Nat.sub_self]
          simp [hol]
        rw [hset, hlo1]
        simp [pru, B.nodes, pru_size]
      · simp only [B.count] at hj
        rw [g3 j (by omega), e3 j (by omega), List.getElem?_set_ne (by omega)]
    · have hk : (D - d).toNat = 0 := by omega
      have hnew : newN ⟨c, a, ((i + 1 : Nat) : Int), ((i + 1 + l.count : Nat) : Int), l.size + r.size⟩ ((i : Int), p, d) D out.length = ⟨[], 0, 0, 0, l.size + r.size⟩ := by
        unfold newN; rw [if_neg (fun h => hdD h.2)]
      rw [skips ls D _ _ (fun x hx => by have := deep _ _ _ _ x hx; omega), skips ls D _ _ (fun x hx => by have := deep _ _ _ _ x hx; omega), hk, hnew]
      refine ⟨place.set i out.length, ?_, by simpa using hlen, fun j hj => ?_⟩
      · simp [pru, B.nodes]
      · simp only [B.count] at hj
        exact List.getElem?_set_ne (by omega)
/-- all of a tree -/
theorem loopAll {ls : List Nd} {b : B} (h : At ls 0 b) (D : Int) (hD : 0 ≤ D) : ((visits b 0 (-1) 0).foldl (stepP ls D) ([], List.replicate ls.length 0)).1 = (pru b D.toNat).nodes 0 := by
  obtain ⟨pl, e, _, _⟩ := loopP ls D b 0 (-1) 0 [] (List.replicate ls.length 0) h (by omega) (by simp) hD
  rw [e]
  have : fixR ls [] (List.replicate ls.length 0) (((0 : Nat) : Int), -1, 0) = [] := by
    unfold fixR
    split
    · rw [if_neg (by rintro ⟨h, _⟩; simp at h)]
    · rfl
  rw [this]
  simp
end Go.Proofs.YtmmgfelifmdnbaaDoor.PruM
