/- play: faults whose blocks' types are known (rows that grow leave them alone); New, Wrap, Both for them; the rows that play makes; what holds of them. -/
import Derived.Test.YthinjoldbjcifaaDoorNodM
namespace Go.Proofs.YthinjoldbjcifaaDoor.PlayM
set_option linter.unusedVariables false
open Go.RowKit Go.WideElems Base FltM FltW FltX FltI FltH FltC FltT FltS NodM

def Typ (w : World) (b : Nat) (t : TypeId) : Prop := ∃ cs fz, w.heap[b]? = some (.cells cs t fz)
theorem Typ.eq {w : World} {b : Nat} {t u : TypeId} (h : Typ w b t) (h' : Typ w b u) : t = u := by
  obtain ⟨_, _, e⟩ := h
  obtain ⟨_, _, e'⟩ := h'
  rw [e] at e'
  injection e' with e'
  injection e'
theorem Typ.keep {w w' : World} {b : Nat} {t : TypeId} (h : Typ w b t) (e : w'.heap[b]? = w.heap[b]?) : Typ w' b t := by
  obtain ⟨cs, fz, h⟩ := h
  exact ⟨cs, fz, by rw [e]; exact h⟩
theorem typ_new1 (w : World) (o : Obj) (cs : Array Value) (t : TypeId) : Typ ((w.alloc o).alloc (.cells cs t)) (w.heap.size + 1) t :=
  ⟨cs, _, by rw [show w.heap.size + 1 = (w.alloc o).heap.size by simp]; exact heap_alloc_new _ _⟩
theorem typ_new0 (w : World) (o : Obj) (cs : Array Value) (t : TypeId) : Typ ((w.alloc (.cells cs t)).alloc o) w.heap.size t :=
  ⟨cs, _, (Below.heap_alloc _ o _ (by simp)).trans (heap_alloc_new _ _)⟩
/-- as At, with the blocks' types -/
def AtT (w : World) (B : Nat) : Nat → T → Prop
  | b, .leaf op at_ c => ∃ g, b < B ∧ g < B ∧ Typ w b 71 ∧ Typ w g 69 ∧ w.cell? ⟨b, 0, none⟩ = some (.iface 67 (.pointer (some ⟨g, 0, none⟩))) ∧ w.cell? ⟨g, 0, none⟩ = some (.string ⟨op.toArray⟩) ∧ w.cell? ⟨g, 1, none⟩ = some (.int .i64 at_) ∧
      w.cell? ⟨g, 2, none⟩ = some (.int .i64 c) ∧ w.cell? ⟨g, 3, none⟩ = some (.pointer none)
  | b, .wrap op at_ u => ∃ g b', b < B ∧ g < B ∧ Typ w b 71 ∧ Typ w g 69 ∧ w.cell? ⟨b, 0, none⟩ = some (.iface 67 (.pointer (some ⟨g, 0, none⟩))) ∧ w.cell? ⟨g, 0, none⟩ = some (.string ⟨op.toArray⟩) ∧ w.cell? ⟨g, 1, none⟩ = some (.int .i64 at_) ∧
      w.cell? ⟨g, 2, none⟩ = some (.int .i64 0) ∧ w.cell? ⟨g, 3, none⟩ = some (.pointer (some ⟨b', 0, none⟩)) ∧ AtT w B b' u
  | b, .both x y => ∃ g b1 b2, b < B ∧ g < B ∧ Typ w b 71 ∧ Typ w g 74 ∧ w.cell? ⟨b, 0, none⟩ = some (.iface 72 (.pointer (some ⟨g, 0, none⟩))) ∧ w.cell? ⟨g, 0, none⟩ = some (.pointer (some ⟨b1, 0, none⟩)) ∧
      w.cell? ⟨g, 1, none⟩ = some (.pointer (some ⟨b2, 0, none⟩)) ∧ AtT w B b1 x ∧ AtT w B b2 y
theorem AtT.at {w : World} {B : Nat} : ∀ {t : T} {b : Nat}, AtT w B b t → At w B b t
  | .leaf op at_ c, b, ⟨g, h1, h2, _, _, h⟩ => ⟨g, h1, h2, h⟩
  | .wrap op at_ u, b, ⟨g, b', h1, h2, _, _, h3, h4, h5, h6, h7, h8⟩ => ⟨g, b', h1, h2, h3, h4, h5, h6, h7, AtT.at h8⟩
  | .both x y, b, ⟨g, b1, b2, h1, h2, _, _, h3, h4, h5, h6, h7⟩ => ⟨g, b1, b2, h1, h2, h3, h4, h5, AtT.at h6, AtT.at h7⟩
theorem AtT.keep {w w' : World} {B : Nat} (hk : ∀ k t, k < B → Typ w k t → t = 71 ∨ t = 69 ∨ t = 74 → w'.heap[k]? = w.heap[k]?) : ∀ {t : T} {b : Nat}, AtT w B b t → AtT w' B b t
  | .leaf op at_ c, b, ⟨g, h1, h2, t1, t2, h3, h4, h5, h6, h7⟩ => by
    have e1 := hk b _ h1 t1 (.inl rfl)
    have e2 := hk g _ h2 t2 (.inr (.inl rfl))
    exact ⟨g, h1, h2, t1.keep e1, t2.keep e2, (World.cell?_of_block e1).trans h3, (World.cell?_of_block e2).trans h4, (World.cell?_of_block e2).trans h5, (World.cell?_of_block e2).trans h6, (World.cell?_of_block e2).trans h7⟩
  | .wrap op at_ u, b, ⟨g, b', h1, h2, t1, t2, h3, h4, h5, h6, h7, h8⟩ => by
    have e1 := hk b _ h1 t1 (.inl rfl)
    have e2 := hk g _ h2 t2 (.inr (.inl rfl))
    exact ⟨g, b', h1, h2, t1.keep e1, t2.keep e2, (World.cell?_of_block e1).trans h3, (World.cell?_of_block e2).trans h4, (World.cell?_of_block e2).trans h5, (World.cell?_of_block e2).trans h6, (World.cell?_of_block e2).trans h7, AtT.keep hk h8⟩
  | .both x y, b, ⟨g, b1, b2, h1, h2, t1, t2, h3, h4, h5, h6, h7⟩ => by
    have e1 := hk b _ h1 t1 (.inl rfl)
    have e2 := hk g _ h2 t2 (.inr (.inr rfl))
    exact ⟨g, b1, b2, h1, h2, t1.keep e1, t2.keep e2, (World.cell?_of_block e1).trans h3, (World.cell?_of_block e2).trans h4, (World.cell?_of_block e2).trans h5, AtT.keep hk h6, AtT.keep hk h7⟩
theorem AtT.more {w : World} {B B' : Nat} (hB : B ≤ B') : ∀ {t : T} {b : Nat}, AtT w B b t → AtT w B' b t
  | .leaf op at_ c, b, ⟨g, h1, h2, h⟩ => ⟨g, by omega, by omega, h⟩
  | .wrap op at_ u, b, ⟨g, b', h1, h2, t1, t2, h3, h4, h5, h6, h7, h8⟩ => ⟨g, b', by omega, by omega, t1, t2, h3, h4, h5, h6, h7, AtT.more hB h8⟩
  | .both x y, b, ⟨g, b1, b2, h1, h2, t1, t2, h3, h4, h5, h6, h7⟩ => ⟨g, b1, b2, by omega, by omega, t1, t2, h3, h4, h5, AtT.more hB h6, AtT.more hB h7⟩
theorem AtT.up {w w' : World} {t : T} {b : Nat} (h : AtT w w.heap.size b t) (hb : Below w.heap.size w w') : AtT w' w'.heap.size b t :=
  (h.keep fun k _ hk _ _ => hb.block k hk).more hb.size
def FltT (w : World) (v : Value) (o : Option (Nat × T)) : Prop := v = ptV o ∧ ∀ x, o = some x → AtT w w.heap.size x.1 x.2

theorem New_mk (op : List UInt8) (at_ c : Int) (w : World) (hc : c ≠ 0) :
    Calls Tryd.prog 16 #[.string ⟨op.toArray⟩, .int .i64 at_, .int .i64 c] w fun e w' => (∃ b, e = .returned (.pointer (some ⟨b, 0, none⟩)) ∧ AtT w' w'.heap.size b (.leaf op at_ c)) ∧ Below w.heap.size w w' := by
  have hcb : (c == 0) = false := by simpa using hc
  go_enter Tryd.func16, Tryd.ntmps16
  go_wp2
  go_ret
  exact ⟨⟨w.heap.size + 1, rfl, w.heap.size, by simp, by simp; omega, typ_new1 _ _ _ _, typ_new0 _ _ _ _, by go_simp, by go_simp, by go_simp, by go_simp, by go_simp⟩, below_a2 _ _ _⟩
theorem Wrap_mk (op : List UInt8) (at_ : Int) (b : Nat) (u : T) (w : World) (h : AtT w w.heap.size b u) :
    Calls Tryd.prog 15 #[.string ⟨op.toArray⟩, .int .i64 at_, .pointer (some ⟨b, 0, none⟩)] w fun e w' => (∃ b', e = .returned (.pointer (some ⟨b', 0, none⟩)) ∧ AtT w' w'.heap.size b' (.wrap op at_ u)) ∧ Below w.heap.size w w' := by
  have H := Lib.hid h
  clear h
  go_enter Tryd.func15, Tryd.ntmps15
  go_wp2
  go_ret
  exact ⟨⟨w.heap.size + 1, rfl, w.heap.size, b, by simp, by simp; omega, typ_new1 _ _ _ _, typ_new0 _ _ _ _, by go_simp, by go_simp, by go_simp, by go_simp, by go_simp, H.out.up (below_a2 _ _ _)⟩, below_a2 _ _ _⟩
theorem Both_mk (b c : Nat) (x y : T) (w : World) (hx : AtT w w.heap.size b x) (hy : AtT w w.heap.size c y) :
    Calls Tryd.prog 25 #[.pointer (some ⟨b, 0, none⟩), .pointer (some ⟨c, 0, none⟩)] w fun e w' => (∃ b', e = .returned (.pointer (some ⟨b', 0, none⟩)) ∧ AtT w' w'.heap.size b' (.both x y)) ∧ Below w.heap.size w w' := by
  have HX := Lib.hid hx
  have HY := Lib.hid hy
  clear hx hy
  go_enter Tryd.func25, Tryd.ntmps25
  go_wp2
  go_ret
  exact ⟨⟨w.heap.size + 1, rfl, w.heap.size, b, c, by simp, by simp; omega, typ_new1 _ _ _ _, typ_new0 _ _ _ _, by go_simp, by go_simp, by go_simp, HX.out.up (below_a2 _ _ _), HY.out.up (below_a2 _ _ _)⟩, below_a2 _ _ _⟩
theorem Both_nil (u : Value) (w : World) :
    Calls Tryd.prog 25 #[.pointer none, u] w fun e w' => e = .returned u ∧ Below w.heap.size w w' := by
  go_enter Tryd.func25, Tryd.ntmps25
  go_wp2
  go_ret
  exact ⟨rfl, Below.refl _ _⟩
theorem Both_one (b : Nat) (w : World) :
    Calls Tryd.prog 25 #[.pointer (some ⟨b, 0, none⟩), .pointer none] w fun e w' => e = .returned (.pointer (some ⟨b, 0, none⟩)) ∧ Below w.heap.size w w' := by
  go_enter Tryd.func25, Tryd.ntmps25
  go_wp2
  go_ret
  exact ⟨rfl, Below.refl _ _⟩

/-! ### The rows -/
theorem own_typ {w : World} {base : Nat} {e : TypeId} {size n : Nat} {v : Value} {xs : List Value} (h : w.ownsRow base e size v n xs) : ∀ g, v.ownBlock = some g → Typ w g e ∧ base ≤ g ∧ g < w.heap.size := by
  intro g hg
  rcases h.2 with ⟨hv, _⟩ | ⟨g', cap, cur, hv, hb, hc, hr⟩
  · subst hv; simp [Value.ownBlock] at hg
  · subst hv
    obtain rfl : g' = g := by simpa [Value.ownBlock] using hg
    refine ⟨⟨_, _, hc⟩, hb, ?_⟩
    rcases Nat.lt_or_ge g' w.heap.size with h' | h'
    · exact h'
    · rw [Array.getElem?_eq_none h'] at hc; cases hc
theorem own_keep {w w' : World} {base : Nat} {e : TypeId} {size n : Nat} {v : Value} {xs : List Value} (h : w.ownsRow base e size v n xs) (hk : ∀ k, k < w.heap.size → Typ w k e → w'.heap[k]? = w.heap[k]?) : w'.ownsRow base e size v n xs := by
  refine ⟨h.1, ?_⟩
  rcases h.2 with h0 | ⟨g, cap, cur, hv, hg, hc, hr⟩
  · exact .inl h0
  · refine .inr ⟨g, cap, cur, hv, hg, ?_, hr⟩
    rw [← hc]
    obtain ⟨h1, _, h2⟩ := own_typ h g (by rw [hv]; rfl)
    exact hk g h2 h1
theorem own_below {w w' : World} {base : Nat} {e : TypeId} {size n : Nat} {v : Value} {xs : List Value} (h : w.ownsRow base e size v n xs) (hb : Below w.heap.size w w') : w'.ownsRow base e size v n xs :=
  own_keep h fun k hk _ => hb.block k hk
/-- a row that grows leaves blocks of other types alone -/
theorem grown_keep {w w' : World} {base : Nat} {e e' : TypeId} {size n : Nat} {v : Value} {xs : List Value} (h : w.ownsRow base e size v n xs) (hg : w.grownBy w' v.ownBlock) (hne : e' ≠ e) {k : Nat} (hk : k < w.heap.size) (ht : Typ w k e') : w'.heap[k]? = w.heap[k]? :=
  hg.block k hk fun he => hne (ht.eq (own_typ h k he.symm).1)
structure St (w : World) (base : Nat) (made nodes place : Value) (ms : List (Nat × T)) (ns : List Nd) (pl : List Int) : Prop where
  r1 : w.ownsRow base 34 1 made ms.length (ms.flatMap ptC)
  r2 : w.ownsRow base 60 6 nodes ns.length (ns.flatMap ndC)
  r3 : w.ownsRow base 3 1 place pl.length (pl.flatMap inC)
  tr : ∀ x ∈ ms, AtT w w.heap.size x.1 x.2
section
variable {w w' : World} {base : Nat} {A A' : Option Addr} {n cap cap' : Nat} {made nodes place : Value} {ms : List (Nat × T)} {ns : List Nd} {pl : List Int}
theorem St.start (w : World) : St w base (.slice none 0 0) (.slice none 0 0) (.slice none 0 0) [] [] [] := ⟨World.ownsRow_nil _ _ _ _, World.ownsRow_nil _ _ _ _, World.ownsRow_nil _ _ _ _, by simp⟩
theorem St.below (h : St w base made nodes place ms ns pl) (hb : Below w.heap.size w w') : St w' base made nodes place ms ns pl :=
  ⟨own_below h.r1 hb, own_below h.r2 hb, own_below h.r3 hb, fun x hx => (h.tr x hx).up hb⟩
theorem St.addP (h : St w base made nodes (.slice A n cap) ms ns pl) (hn : pl.length = n) {p : Int} (happ : App w w' base 3 1 A n cap A' (n + 1) cap' (pl.flatMap inC ++ (#[Value.int .i64 p] : Array Value).toList)) :
    St w' base made nodes (.slice A' (n + 1) cap') ms ns (pl ++ [p]) := by
  have hg := happ.grown
  refine ⟨own_keep h.r1 fun k hk ht => grown_keep h.r3 hg (by decide) hk ht, own_keep h.r2 fun k hk ht => grown_keep h.r3 hg (by decide) hk ht, ?_, fun x hx => ((h.tr x hx).keep ?_).more hg.size⟩
  · rw [List.length_append, List.flatMap_append, hn]; exact happ.own
  · intro k t hk ht hor
    exact grown_keep h.r3 hg (by rcases hor with rfl | rfl | rfl <;> decide) hk ht
theorem St.addM (h : St w base (.slice A n cap) nodes place ms ns pl) (hn : ms.length = n) {b : Nat} {t : T} (ht : AtT w w.heap.size b t) (happ : App w w' base 34 1 A n cap A' (n + 1) cap' (ms.flatMap ptC ++ (#[Value.pointer (some ⟨b, 0, none⟩)] : Array Value).toList)) :
    St w' base (.slice A' (n + 1) cap') nodes place (ms ++ [(b, t)]) ns pl := by
  have hg := happ.grown
  have hkeep : ∀ k u, k < w.heap.size → Typ w k u → u = 71 ∨ u = 69 ∨ u = 74 → w'.heap[k]? = w.heap[k]? := fun k u hk ht hor =>
    grown_keep h.r1 hg (by rcases hor with rfl | rfl | rfl <;> decide) hk ht
  refine ⟨?_, own_keep h.r2 fun k hk ht => grown_keep h.r1 hg (by decide) hk ht, own_keep h.r3 fun k hk ht => grown_keep h.r1 hg (by decide) hk ht, ?_⟩
  · rw [List.length_append, List.flatMap_append, hn]; exact happ.own
  · intro x hx
    rcases List.mem_append.1 hx with hx | hx
    · exact ((h.tr x hx).keep hkeep).more hg.size
    · obtain rfl := List.mem_singleton.1 hx
      exact (ht.keep hkeep).more hg.size
theorem St.addN (h : St w base made (.slice A n cap) place ms ns pl) (hn : ns.length = n) {x : Nd} (happ : App w w' base 60 6 A n cap A' (n + 1) cap' (ns.flatMap ndC ++ (ndC x).toArray.toList)) :
    St w' base made (.slice A' (n + 1) cap') place ms (ns ++ [x]) pl := by
  have hg := happ.grown
  refine ⟨own_keep h.r1 fun k hk ht => grown_keep h.r2 hg (by decide) hk ht, ?_, own_keep h.r3 fun k hk ht => grown_keep h.r2 hg (by decide) hk ht, fun x hx => ((h.tr x hx).keep ?_).more hg.size⟩
  · rw [List.length_append, List.flatMap_append, hn]; simpa using happ.own
  · intro k t hk ht hor
    exact grown_keep h.r2 hg (by rcases hor with rfl | rfl | rfl <;> decide) hk ht
end
theorem fltT_at {w : World} {base : Nat} {made nodes place : Value} {ms : List (Nat × T)} {ns : List Nd} {pl : List Int} (h : St w base made nodes place ms ns pl) {i : Int} {x : Nat × T} (hx : atO ms i = some x) : AtT w w.heap.size x.1 x.2 := by
  unfold atO at hx
  split at hx
  · cases hx
  · exact h.tr x (List.mem_of_getElem? hx)

/-! ### What holds of the lists -/
structure Inv (k : Nat) (ms : List (Nat × T)) (ns : List Nd) (pl : List Int) : Prop where
  len : ns.length = ms.length
  few : ns.length ≤ k
  pll : pl.length = k
  plr : ∀ p ∈ pl, -1 ≤ p ∧ p < (ns.length : Int)
  rep : ∀ (i : Nat) (x : Nat × T), ms[i]? = some x → Rep ns i x.2
  fit : ∀ x ∈ ms, x.2.fits ∧ x.2.text.length + 3 ≤ 256 * 2 ^ k
theorem Inv.start : Inv 0 [] [] [] := ⟨rfl, Nat.le_refl _, rfl, by simp, by simp, by simp⟩
theorem pow_up {a k : Nat} (h : a ≤ 256 * 2 ^ k) : a ≤ 256 * 2 ^ (k + 1) := by rw [Nat.pow_succ]; omega
section
variable {k : Nat} {ms : List (Nat × T)} {ns : List Nd} {pl : List Int}
theorem Inv.old (h : Inv k ms ns pl) {p : Int} (h1 : -1 ≤ p) (h2 : p < (ns.length : Int)) : Inv (k + 1) ms ns (pl ++ [p]) := by
  refine ⟨h.len, Nat.le_succ_of_le h.few, by rw [List.length_append, h.pll]; rfl, fun q hq => ?_, h.rep, fun x hx => ⟨(h.fit x hx).1, pow_up (h.fit x hx).2⟩⟩
  rcases List.mem_append.1 hq with hq | hq
  · exact h.plr q hq
  · obtain rfl := List.mem_singleton.1 hq; exact ⟨h1, h2⟩
theorem Inv.new (h : Inv k ms ns pl) {b : Nat} {t : T} {x : Nd} {p : Int} (hp : p = ns.length) (hr : Rep (ns ++ [x]) ns.length t) (hf : t.fits) (hl : t.text.length + 3 ≤ 256 * 2 ^ (k + 1)) : Inv (k + 1) (ms ++ [(b, t)]) (ns ++ [x]) (pl ++ [p]) := by
  subst hp
  have hlen : (ns ++ [x]).length = ns.length + 1 := by simp
  refine ⟨by simp [h.len], by rw [hlen]; have := h.few; omega, by rw [List.length_append, h.pll]; rfl, fun q hq => ?_, ?_, ?_⟩
  · rw [hlen]
    rcases List.mem_append.1 hq with hq | hq
    · have := h.plr q hq; omega
    · obtain rfl := List.mem_singleton.1 hq; omega
  · intro i y hy
    rcases Nat.lt_or_ge i ms.length with hi | hi
    · rw [List.getElem?_append_left hi] at hy; exact (h.rep i y hy).app _
    · rw [List.getElem?_append_right hi] at hy
      have h0 : i - ms.length = 0 := by
        rcases Nat.eq_zero_or_pos (i - ms.length) with h' | h'
        · exact h'
        · rw [List.getElem?_eq_none (by simp; omega)] at hy; cases hy
      rw [h0] at hy
      obtain rfl : (b, t) = y := by simpa using hy
      obtain rfl : i = ns.length := by have := h.len; omega
      exact hr
  · intro y hy
    rcases List.mem_append.1 hy with hy | hy
    · exact ⟨(h.fit y hy).1, pow_up (h.fit y hy).2⟩
    · obtain rfl := List.mem_singleton.1 hy; exact ⟨hf, hl⟩
theorem low_rng (h : Inv k ms ns pl) (i : Int) : -1 ≤ lowV pl i ∧ lowV pl i < (ns.length : Int) := by
  unfold lowV
  split
  · omega
  · rename_i hn
    have hi : i.toNat < pl.length := by omega
    rw [List.getElem?_eq_getElem hi]
    exact h.plr _ (List.getElem_mem hi)
theorem at_some (h : Inv k ms ns pl) {i : Int} (h1 : 0 ≤ i) (h2 : i < (ns.length : Int)) : ∃ x, atO ms i = some x ∧ ms[i.toNat]? = some x := by
  have hi : i.toNat < ms.length := by have := h.len; omega
  refine ⟨ms[i.toNat], ?_, List.getElem?_eq_getElem hi⟩
  unfold atO
  rw [if_neg (by have := h.len; omega)]
  exact List.getElem?_eq_getElem hi
theorem at_none (ms : List (Nat × T)) {i : Int} (h1 : i < 0) : atO ms i = none := by unfold atO; rw [if_pos (.inl h1)]
theorem head_len (op : List UInt8) (at_ : Int) (h : op.length ≤ 100) (ha : Num at_) : (headT op at_).length ≤ 122 := by
  unfold headT
  have := itoa_len at_ ha
  split
  · rw [List.length_append, List.length_cons]; omega
  · omega
theorem pow_one (k : Nat) : 256 * 1 ≤ 256 * 2 ^ k := Nat.mul_le_mul_left _ (Nat.one_le_two_pow)
theorem Inv.leaf (h : Inv k ms ns pl) {b : Nat} {x : Nd} {p : Int} (hp : p = ns.length) (hd : x.do_ = 0) (h1 : x.op.length ≤ 100) (h2 : Num x.at_) (h3 : Num x.code) (hc : x.code ≠ 0) : Inv (k + 1) (ms ++ [(b, .leaf x.op x.at_ x.code)]) (ns ++ [x]) (pl ++ [p]) := by
  refine h.new hp ⟨x.a, x.b, ?_⟩ ⟨h1, h2, h3, hc⟩ ?_
  · rw [List.getElem?_append_right (Nat.le_refl _), Nat.sub_self, ← hd]; rfl
  · have := head_len x.op x.at_ h1 h2
    have := itoa_len x.code h3
    have := pow_one (k + 1)
    simp only [T.text, List.length_append, List.length_cons]
    omega
theorem Inv.wrap (h : Inv k ms ns pl) {b : Nat} {x : Nd} {y : Nat × T} {p : Int} (hp : p = ns.length) (hd : x.do_ = 1) (h1 : x.op.length ≤ 100) (h2 : Num x.at_) (ha : 0 ≤ x.a) (hy : ms[x.a.toNat]? = some y) : Inv (k + 1) (ms ++ [(b, .wrap x.op x.at_ y.2)]) (ns ++ [x]) (pl ++ [p]) := by
  obtain ⟨hf, hl⟩ := h.fit y (List.mem_of_getElem? hy)
  refine h.new hp ⟨x.code, x.a.toNat, x.b, ?_, (h.rep _ _ hy).app _⟩ ⟨h1, h2, hf⟩ ?_
  · rw [List.getElem?_append_right (Nat.le_refl _), Nat.sub_self, ← hd, Int.toNat_of_nonneg ha]; rfl
  · have := head_len x.op x.at_ h1 h2
    have := pow_one k
    simp only [T.text, List.length_append, List.length_cons, Nat.pow_succ]
    omega
theorem Inv.both (h : Inv k ms ns pl) {b : Nat} {x : Nd} {y z : Nat × T} {p : Int} (hp : p = ns.length) (hd0 : x.do_ ≠ 0) (hd1 : x.do_ ≠ 1) (ha : 0 ≤ x.a) (hb : 0 ≤ x.b) (hy : ms[x.a.toNat]? = some y) (hz : ms[x.b.toNat]? = some z) :
    Inv (k + 1) (ms ++ [(b, .both y.2 z.2)]) (ns ++ [x]) (pl ++ [p]) := by
  obtain ⟨hf, hl⟩ := h.fit y (List.mem_of_getElem? hy)
  obtain ⟨hf', hl'⟩ := h.fit z (List.mem_of_getElem? hz)
  refine h.new hp ⟨x.do_, x.op, x.at_, x.code, x.a.toNat, x.b.toNat, hd0, hd1, ?_, (h.rep _ _ hy).app _, (h.rep _ _ hz).app _⟩ ⟨hf, hf'⟩ ?_
  · rw [List.getElem?_append_right (Nat.le_refl _), Nat.sub_self, Int.toNat_of_nonneg ha, Int.toNat_of_nonneg hb]; rfl
  · simp only [T.text, List.length_append, List.length_cons, List.length_nil, Nat.pow_succ]
    omega
end
end Go.Proofs.YthinjoldbjcifaaDoor.PlayM
