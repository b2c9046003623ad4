/- Rows of counts: how many vectors come out at each node, how many pass each node; rows of vectors in the memory. -/
import Derived.Test.YtmmgfelifmdnbaaDoorLefW
import Derived.Test.YtmmgfelifmdnbaaDoorPruW
namespace Go.Proofs.YtmmgfelifmdnbaaDoor.RouM
set_option linter.unusedVariables false
open Go.RowKit Go.Shelf Go.WideElems Base SeqM ShpM ShpV ShpW ShpD ShpT ShpI ShpJ ItrD LefM PruW

/-- from place k on how many pass, ahead of it how many come out -/
noncomputable def mixL (b : B) (n : Nat) (l : List (List Int)) (k : Nat) : List Int := (List.range n).map fun j => if k ≤ j then (thru b l j : Int) else (outN b l j : Int)
noncomputable def thruL (b : B) (n : Nat) (l : List (List Int)) : List Int := (List.range n).map fun j => (thru b l j : Int)
noncomputable def outL (b : B) (n : Nat) (l : List (List Int)) : List Int := (List.range n).map fun j => (outN b l j : Int)
theorem range_get {n j : Nat} (f : Nat → Int) (h : j < n) : ((List.range n).map f)[j]? = some (f j) := by
  rw [List.getElem?_map, List.getElem?_range h]; rfl
theorem range_set {n j : Nat} (f g : Nat → Int) (h : ∀ k, k < n → k ≠ j → f k = g k) (z : Int) (hz : j < n → g j = z) : ((List.range n).map f).set j z = (List.range n).map g := by
  apply List.ext_getElem?
  intro k
  by_cases hk : k < n
  · rw [range_get g hk]
    by_cases e : j = k
    · subst e
      rw [List.getElem?_set_self (by simpa using hk), hz hk]
    · rw [List.getElem?_set_ne e, range_get f hk, h k hk (fun e' => e e'.symm)]
  · rw [List.getElem?_eq_none (by simp; omega), List.getElem?_eq_none (by simp; omega)]
theorem out_nil (b : B) (n : Nat) : List.replicate n (0 : Int) = outL b n [] := by
  apply List.ext_getElem?
  intro k
  by_cases hk : k < n
  · unfold outL
    rw [range_get _ hk, List.getElem?_replicate, if_pos hk]; rfl
  · rw [List.getElem?_eq_none (by simp; omega), List.getElem?_eq_none (by unfold outL; simp; omega)]
theorem thru_nil (b : B) (n : Nat) : List.replicate n (0 : Int) = thruL b n [] := by
  apply List.ext_getElem?
  intro k
  by_cases hk : k < n
  · unfold thruL
    rw [range_get _ hk, List.getElem?_replicate, if_pos hk]; rfl
  · rw [List.getElem?_eq_none (by simp; omega), List.getElem?_eq_none (by unfold thruL; simp; omega)]
theorem out_set (b : B) (n : Nat) (l : List (List Int)) (x : List Int) : (outL b n l).set (leafOf b 0 x) ((outN b l (leafOf b 0 x) : Int) + 1) = outL b n (l ++ [x]) := by
  unfold outL
  refine range_set _ _ (fun k hk hne => ?_) _ (fun _ => ?_)
  · rw [out_app, if_neg (fun e => hne e.symm)]; rfl
  · rw [out_app, if_pos rfl]; simp
theorem mix_out (b : B) (n : Nat) (l : List (List Int)) : outL b n l = mixL b n l n := by
  unfold outL mixL
  refine List.map_congr_left fun j hj => ?_
  rw [if_neg (by have := List.mem_range.1 hj; omega)]
theorem mix_thru (b : B) (n : Nat) (l : List (List Int)) : mixL b n l 0 = thruL b n l := by
  unfold thruL mixL
  refine List.map_congr_left fun j hj => ?_
  rw [if_pos (Nat.zero_le _)]
theorem mix_leaf {b : B} {ls : List Nd} {j : Nat} {m : Int} (n : Nat) (l : List (List Int)) (h : At ls 0 b) (hj : j < b.count) (hf : At ls j (.leaf m)) : mixL b n l (j + 1) = mixL b n l j := by
  unfold mixL
  refine List.map_congr_left fun k hk => ?_
  by_cases e : j = k
  · subst e
    rw [if_neg (by omega), if_pos (Nat.le_refl _), thru_leaf l h hj hf]
  · by_cases h' : j + 1 ≤ k
    · rw [if_pos h', if_pos (by omega)]
    · rw [if_neg h', if_neg (by omega)]
theorem mix_fork {b : B} {ls : List Nd} {j : Nat} {c : List Int} {a : Int} {p q : B} (n : Nat) (l : List (List Int)) (h : At ls 0 b) (hj : j < b.count) (hf : At ls j (.fork c a p q)) (z : Int) (hz : z = (thru b l (j + 1) : Int) + (thru b l (j + 1 + p.count) : Int)) :
    (mixL b n l (j + 1)).set j z = mixL b n l j := by
  unfold mixL
  refine range_set _ _ (fun k hk hne => ?_) _ (fun _ => ?_)
  · by_cases h' : j + 1 ≤ k
    · rw [if_pos h', if_pos (by omega)]
    · rw [if_neg h', if_neg (by omega)]
  · rw [if_pos (Nat.le_refl _), thru_fork l h hj hf, hz]; simp
/-- a made row of noughts -/
theorem mkW {P : Program} {ops : Array Oper} {rest : List Oper} {o : Oper} {a : Act} {Q : Exit → Act → World → Prop} (w : World) (hgd : o.guard = none) (l c : Operand) (t : TypeId) (ho : o.op = Op.makeSlice t l c)
    {e : TypeId} {bytes : Nat} (E : Elt P t e (.int .i64 0) 1 bytes) (n : Nat) (hl : a.eval l = .int .i64 n) (hc : a.eval c = .int .i64 n) (hn : n ≤ 1073741824)
    (h : ∀ w', w'.heap[w.heap.size]? = some (.cells ((List.replicate n (0 : Int)).map (Value.int .i64)).toArray e (0, 0)) → Below w.heap.size w w' → wpList P ops Q rest (a.put o.dst (.slice (some ⟨w.heap.size, 0, none⟩) n n)) w') :
    wpList P ops Q (o :: rest) a w := by
  obtain ⟨ht, h0, hby, i, hi, hz, hsz, hbs, hzs⟩ := E
  refine wpList_make_full w hgd l c t ho w.heap.size e i _ 1 ht hi hz hsz .i64 .i64 n n n hl hc rfl rfl ?_ (by unfold maxLen; omega) (Nat.le_refl _) ?_
  · have h2 : i.bytes * n ≤ 131072 * n := Nat.mul_le_mul_right _ (by omega)
    omega
  · intro w' hown hg
    have hb : Below w.heap.size w w' := (Below.refl _ _).grown hg (Nat.le_refl _) (fun k hk => by cases hk)
    rcases hown.2 with ⟨hv, _⟩ | ⟨g, cap, cur, hv, _, hh, _, _, hcs, ht'⟩
    · cases hv
    · injection hv with h1 h2 h3
      injection h1 with h1; injection h1 with h1
      subst h1; subst h3
      rw [List.take_of_length_le (by simp; omega)] at ht'
      have e : cur = ((List.replicate n (0 : Int)).map (Value.int .i64)).toArray := by
        apply Array.toList_inj.1
        rw [ht', Nat.mul_one, show (Value.int .i64 0).cells = #[Value.int .i64 0] from rfl]
        have := toList_madeCells_one (Value.int .i64 0) n
        rw [this]; simp
      rw [e] at hh
      exact h w' hh hb
end Go.Proofs.YtmmgfelifmdnbaaDoor.RouM
