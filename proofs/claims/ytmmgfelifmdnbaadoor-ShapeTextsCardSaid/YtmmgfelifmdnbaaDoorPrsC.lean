/- A tree's text is read as it was: plainly. -/
import Derived.Test.YtmmgfelifmdnbaaDoorPrsM
namespace Go.Proofs.YtmmgfelifmdnbaaDoor.PrsC
set_option linter.unusedVariables false
open Go.RowKit Go.Lib ShpM TxtM GlbS WrtM RdrW PrsM

/-- what may stand behind a number -/
def Stop (r : List UInt8) : Prop := r = [] ∨ ∃ c t, r = c :: t ∧ isD c = false
theorem digP_app : ∀ (l r : List UInt8), l.all isD = true → Stop r → digP (l ++ r) = l
  | [], r, _, h => by
    rcases h with rfl | ⟨c, t, rfl, hc⟩
    · rfl
    · show (if isD c = true then c :: digP t else []) = []
      rw [if_neg (by rw [hc]; decide)]
  | x :: l, r, hl, h => by
    simp only [List.all_cons, Bool.and_eq_true] at hl
    show (if isD x = true then x :: digP (l ++ r) else []) = x :: l
    rw [if_pos hl.1, digP_app l r hl.2 h]
theorem numP_app (n : Int) (r : List UInt8) (h : Stop r) : numP (itoa n ++ r) = itoa n := by
  unfold itoa
  split
  · show (if (45 : UInt8) = 45 then 45 :: digP (decDigits n.natAbs ++ r) else digP (45 :: (decDigits n.natAbs ++ r))) = _
    rw [if_pos rfl, digP_app (decDigits n.natAbs) r (dec_dig _).2 h]
  · obtain ⟨c, t, e, h1, h2⟩ := dec_head n.toNat
    have hd := (dec_dig n.toNat).2
    rw [e] at hd ⊢
    show (if c = 45 then 45 :: digP (t ++ r) else digP (c :: (t ++ r))) = c :: t
    rw [if_neg (fun hc => by subst hc; revert h1; decide)]
    exact digP_app (c :: t) r hd h
theorem num_take (n : Int) (r : List UInt8) (ok : Bool) (h : Stop r) (h1 : -9223372036854775808 ≤ n) (h2 : n ≤ 9223372036854775807) : numM (itoa n ++ r) ok = (n, r, ok) := by
  have hp := numP_app n r h
  rw [numM_yes (v := n) (by rw [hp]; exact atoi_itoa n h1 h2) hp.symm, hp]
  simp
theorem byte_take (c : UInt8) (r : List UInt8) : byteM c (c :: r) true = (r, true) := by
  show (if c = c then (r, true) else (c :: r, false)) = _
  rw [if_pos rfl]
theorem stop_of {c : UInt8} (t : List UInt8) (h : isD c = false) : Stop (c :: t) := .inr ⟨c, t, rfl, h⟩
theorem coef_take : ∀ (c acc : List Int) (r : List UInt8), (∀ x ∈ c, -9223372036854775808 ≤ x ∧ x ≤ 9223372036854775807) → coefM c.length acc (coefT c ++ r) true = (acc ++ c, r, true)
  | [], acc, r, _ => by simp [coefM, coefT]
  | x :: c, acc, r, h => by
    have hx := h x (by simp)
    have e : coefT (x :: c) ++ r = itoa x ++ (32 :: (coefT c ++ r)) := by simp [coefT]
    rw [List.length_cons, coefM, e, num_take x _ true (stop_of _ (by decide)) hx.1 hx.2]
    dsimp only
    rw [byte_take]
    dsimp only
    rw [coef_take c _ r (fun y hy => h y (by simp [hy]))]
    simp
theorem head_take (c : List Int) (a : Int) (r : List UInt8) (hc : ∀ x ∈ c, -9223372036854775808 ≤ x ∧ x ≤ 9223372036854775807) (ha : -9223372036854775808 ≤ a ∧ a ≤ 9223372036854775807) :
    headM c.length (40 :: (coefT c ++ ([60, 32] ++ (itoa a ++ (32 :: r))))) true = (c, a, r, true) := by
  simp only [headM]
  rw [byte_take]
  dsimp only
  rw [coef_take c [] _ hc]
  dsimp only
  rw [show [60, 32] ++ (itoa a ++ (32 :: r)) = (60 : UInt8) :: (32 :: (itoa a ++ (32 :: r))) from rfl, byte_take]
  dsimp only
  rw [byte_take]
  dsimp only
  rw [num_take a _ true (stop_of _ (by decide)) ha.1 ha.2]
  dsimp only
  rw [byte_take]
  rfl
theorem nodes_first : ∀ (b : B) (k : Nat), ∃ x t, b.nodes k = x :: t ∧ x.size = b.size
  | .leaf n, k => ⟨_, _, rfl, rfl⟩
  | .fork c a l r, k => ⟨_, _, rfl, rfl⟩
theorem itoa_head (n : Int) (r : List UInt8) (h : 1 ≤ n) : (itoa n ++ r).head? ≠ some 40 := by
  unfold itoa
  rw [if_neg (by omega)]
  obtain ⟨c, t, e, h1, h2⟩ := dec_head n.toNat
  rw [e]
  intro hh
  have : c = 40 := by simpa using hh
  subst this
  revert h1
  decide
theorem nodeM_leaf {dn k : Nat} {s : List UInt8} {out : List Nd} (h : s.head? ≠ some 40) : nodeM dn (k + 1) s true out = ((numM s true).2.1, (numM s true).2.2, out ++ [⟨[], 0, 0, 0, clamp (numM s true).1 0 65⟩]) := by
  simp only [nodeM]; rw [if_neg h]
theorem nodeM_fork {dn k : Nat} {t : List UInt8} {out : List Nd} {c : List Int} {a : Int} {s1 : List UInt8} {ok1 : Bool} (h : headM dn (40 :: t) true = (c, a, s1, ok1)) {s2 s3 : List UInt8} {out2 out3 : List Nd} (h2 : nodeM dn k s1 ok1 (out ++ [⟨c, a, (out.length : Int) + 1, 0, 0⟩]) = (32 :: s2, true, out2))
    (h3 : nodeM dn k s2 true out2 = (41 :: s3, true, out3)) : nodeM dn (k + 1) (40 :: t) true out = (s3, true, endM out3 out.length out2.length) := by
  simp only [nodeM]
  rw [if_pos (show ((40 : UInt8) :: t).head? = some 40 from rfl), h]
  dsimp only
  rw [h2]
  dsimp only
  rw [byte_take]
  dsimp only
  rw [h3]
  dsimp only
  rw [byte_take]
  rfl
theorem node_take {dim : Int} : ∀ (b : B) (k : Nat) (r : List UInt8) (out : List Nd), b.ok dim → b.size ≤ 64 → b.high + 1 ≤ k → Stop r → nodeM dim.toNat k (txt b ++ r) true out = (r, true, out ++ b.nodes out.length)
  | .leaf n, k, r, out, h, hs, hk, hr => by
    have h : 1 ≤ n := h
    have hs : n ≤ 64 := hs
    obtain ⟨k, rfl⟩ : ∃ j, k = j + 1 := ⟨k - 1, by omega⟩
    show nodeM dim.toNat (k + 1) (itoa n ++ r) true out = _
    rw [nodeM_leaf (itoa_head n r h), num_take n r true hr (by omega) (by omega)]
    dsimp only
    rw [show clamp n 0 65 = n by unfold clamp; rw [if_neg (by omega), if_neg (by omega)]]
    rfl
  | .fork c a l q, k, r, out, h, hs, hk, hr => by
    obtain ⟨⟨⟨k1, k2, k3, k4, _⟩, ka, kb⟩, hl, hq⟩ := id h
    have pl := size_pos hl
    have pq := size_pos hq
    simp only [B.size] at hs
    simp only [B.high] at hk
    obtain ⟨k, rfl⟩ : ∃ j, k = j + 1 := ⟨k - 1, by omega⟩
    have e : txt (.fork c a l q) ++ r = 40 :: (coefT c ++ ([60, 32] ++ (itoa a ++ (32 :: (txt l ++ (32 :: (txt q ++ (41 :: r)))))))) := by simp [txt]
    have hd : dim.toNat = c.length := by omega
    have hH := head_take c a (txt l ++ (32 :: (txt q ++ (41 :: r)))) (fun x hx => by have := k4 x hx; omega) (by omega)
    rw [e]
    have hlen1 : (out ++ [(⟨c, a, (out.length : Int) + 1, 0, 0⟩ : Nd)]).length = out.length + 1 := by simp
    have hlen2 : (out ++ [(⟨c, a, (out.length : Int) + 1, 0, 0⟩ : Nd)] ++ l.nodes (out.length + 1)).length = out.length + 1 + l.count := by simp [nodes_len]; omega
    have i1 := node_take l k (32 :: (txt q ++ (41 :: r))) (out ++ [(⟨c, a, (out.length : Int) + 1, 0, 0⟩ : Nd)]) hl (by omega) (by omega) (stop_of _ (by decide))
    rw [hlen1] at i1
    have i2 := node_take q k (41 :: r) (out ++ [(⟨c, a, (out.length : Int) + 1, 0, 0⟩ : Nd)] ++ l.nodes (out.length + 1)) hq (by omega) (by omega) (stop_of _ (by decide))
    rw [hlen2] at i2
    rw [hd] at i1 i2 ⊢
    rw [nodeM_fork hH i1 i2, hlen2]
    obtain ⟨xl, tl, el, sl⟩ := nodes_first l (out.length + 1)
    obtain ⟨xq, tq, eq, sq⟩ := nodes_first q (out.length + 1 + l.count)
    have hall : out ++ [(⟨c, a, (out.length : Int) + 1, 0, 0⟩ : Nd)] ++ l.nodes (out.length + 1) ++ q.nodes (out.length + 1 + l.count) = out ++ (⟨c, a, (out.length : Int) + 1, 0, 0⟩ :: (l.nodes (out.length + 1) ++ q.nodes (out.length + 1 + l.count))) := by simp
    rw [hall]
    have g0 : (out ++ ((⟨c, a, (out.length : Int) + 1, 0, 0⟩ : Nd) :: (l.nodes (out.length + 1) ++ q.nodes (out.length + 1 + l.count))))[out.length]? = some ⟨c, a, (out.length : Int) + 1, 0, 0⟩ := by
      rw [List.getElem?_append_right (Nat.le_refl _), Nat.sub_self]; rfl
    have g1 : (out ++ ((⟨c, a, (out.length : Int) + 1, 0, 0⟩ : Nd) :: (l.nodes (out.length + 1) ++ q.nodes (out.length + 1 + l.count))))[out.length + 1]? = some xl := by
      rw [List.getElem?_append_right (by omega), show out.length + 1 - out.length = 1 by omega, List.getElem?_cons_succ, el]; rfl
    have g2 : (out ++ ((⟨c, a, (out.length : Int) + 1, 0, 0⟩ : Nd) :: (l.nodes (out.length + 1) ++ q.nodes (out.length + 1 + l.count))))[out.length + 1 + l.count]? = some xq := by
      rw [List.getElem?_append_right (by omega), show out.length + 1 + l.count - out.length = l.count + 1 by omega, List.getElem?_cons_succ, List.getElem?_append_right (by rw [nodes_len]; omega), nodes_len, Nat.sub_self, eq]; rfl
    have hE : endM (out ++ ((⟨c, a, (out.length : Int) + 1, 0, 0⟩ : Nd) :: (l.nodes (out.length + 1) ++ q.nodes (out.length + 1 + l.count)))) out.length (out.length + 1 + l.count) = out ++ (B.fork c a l q).nodes out.length := by
      unfold endM
      rw [g0, g1, g2]
      dsimp only
      rw [List.set_append_right _ _ (Nat.le_refl _), Nat.sub_self, List.set_cons_zero, sl, sq, show wrap64 (l.size + q.size) = l.size + q.size by unfold wrap64; omega]
      simp [B.nodes]
    rw [hE]
end Go.Proofs.YtmmgfelifmdnbaaDoor.PrsC
