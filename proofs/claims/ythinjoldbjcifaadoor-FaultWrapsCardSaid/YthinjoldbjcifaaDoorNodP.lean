/- What play leaves, in the words that the walks behind it use. -/
import Derived.Test.YthinjoldbjcifaaDoorPlayW
import Derived.Test.YthinjoldbjcifaaDoorNodT
namespace Go.Proofs.YthinjoldbjcifaaDoor.NodP
set_option linter.unusedVariables false
open Go.RowKit Go.WideElems Base FltM FltW FltX FltI FltH FltC FltT FltS NodM PlayM

theorem steps_le : ∀ t : T, t.steps.length ≤ t.text.length
  | .leaf op at_ c => by simp [T.steps, T.text]; omega
  | .wrap op at_ u => by have := steps_le u; simp [T.steps, T.text]; omega
  | .both x y => by have := steps_le x; simp [T.steps, T.text]; omega
theorem codes_le : ∀ t : T, t.codes.length ≤ t.text.length
  | .leaf op at_ c => by simp [T.codes, T.text]; omega
  | .wrap op at_ u => by have := codes_le u; simp [T.codes, T.text]; omega
  | .both x y => by have := codes_le x; have := codes_le y; simp [T.codes, T.text]; omega
/-- made faults and nodes, as they lie behind play -/
structure Pl (w : World) (lo : Nat) (made nodes : Value) (ms : List (Nat × T)) (ns : List Nd) : Prop where
  sm : Seq 1 ptC w lo w.heap.size made ms
  sn : Seq 6 ndC w lo w.heap.size nodes ns
  tr : ∀ x ∈ ms, At w w.heap.size x.1 x.2
  len : ns.length = ms.length
  few : ms.length ≤ 12
  rep : ∀ (i : Nat) (x : Nat × T), ms[i]? = some x → Rep ns i x.2
  fit : ∀ x ∈ ms, x.2.fits ∧ x.2.text.length ≤ 1048576
theorem Pl.up {w w' : World} {lo : Nat} {made nodes : Value} {ms : List (Nat × T)} {ns : List Nd} (h : Pl w lo made nodes ms ns) (hb : Below w.heap.size w w') : Pl w' lo made nodes ms ns :=
  ⟨h.sm.up hb, h.sn.up hb, fun x hx => (h.tr x hx).up hb, h.len, h.few, h.rep, h.fit⟩
theorem Pl.of {w : World} {lo : Nat} {made nodes place : Value} {ms : List (Nat × T)} {ns : List Nd} {pl : List Int} {k : Nat} (h : St w lo made nodes place ms ns pl) (hi : Inv k ms ns pl) (hk : k ≤ 12) : Pl w lo made nodes ms ns := by
  refine ⟨Seq.of_own h.r1, Seq.of_own h.r2, fun x hx => (h.tr x hx).at, hi.len, by have := hi.few; have := hi.len; omega, hi.rep, fun x hx => ⟨(hi.fit x hx).1, ?_⟩⟩
  have h1 := (hi.fit x hx).2
  have h2 : 2 ^ k ≤ 2 ^ 12 := Nat.pow_le_pow_right (by omega) hk
  omega
/-- a place of the made faults -/
theorem Pl.get {w : World} {lo : Nat} {made nodes : Value} {ms : List (Nat × T)} {ns : List Nd} (h : Pl w lo made nodes ms ns) {k : Nat} (hk : k < ms.length) :
    ∃ (ad : Addr) (x : Nat × T) (cap : Nat), made = .slice (some ad) ms.length cap ∧ ms.length ≤ cap ∧ cap ≤ maxLen ∧ ms[k]? = some x ∧ w.cell? (ad.add k) = some (.pointer (some ⟨x.1, 0, none⟩)) ∧ ad.block < w.heap.size ∧ At w w.heap.size x.1 x.2 ∧ Rep ns k x.2 ∧ x.2.fits ∧ x.2.text.length ≤ 1048576 := by
  obtain ⟨A, cap, e, h1, h2, h3, _⟩ := h.sm
  obtain ⟨ad, x, rfl, _, hb, hx, hc⟩ := rdk ptC_len h3 hk
  exact ⟨ad, x, cap, e, h1, h2, hx, by simpa using hc 0 _ rfl, hb, h.tr x (List.mem_of_getElem? hx), h.rep k x hx, h.fit x (List.mem_of_getElem? hx)⟩
/-- play, whole -/
theorem play_pl (v : Value) (l : List Nd) (lo : Nat) (w : World) (h : Seq 6 ndC w lo w.heap.size v l) (hf : PlayW.Fits l) (hm : l.length ≤ 12) :
    Calls Tryd.prog 9 #[v] w fun e w' => (∃ made nodes ms ns, e = .returned (.tuple #[made, nodes, .bool true]) ∧ Pl w' w.heap.size made nodes ms ns) ∧ Below w.heap.size w w' :=
  (PlayW.play_any v l lo w h hf hm).mono fun e w' ⟨⟨made, nodes, place, ms, ns, pl, he, hs, hi⟩, hb⟩ => ⟨⟨made, nodes, ms, ns, he, Pl.of hs hi hm⟩, hb⟩
/-- what the arguments must be: numbers of the machine's size, whatever the texts -/
def Nums (l : List Nd) : Prop := ∀ x ∈ l, Num x.do_ ∧ Num x.at_ ∧ Num x.code ∧ Num x.a ∧ Num x.b
theorem small_fits {l : List Nd} (h : smallB l = true) (hn : Nums l) : PlayW.Fits l ∧ l.length ≤ 12 := by
  unfold smallB at h
  rw [Bool.and_eq_true, List.all_eq_true] at h
  exact ⟨fun x hx => ⟨by simpa using h.1 x hx, hn x hx⟩, by simpa using h.2⟩
end Go.Proofs.YthinjoldbjcifaaDoor.NodP
