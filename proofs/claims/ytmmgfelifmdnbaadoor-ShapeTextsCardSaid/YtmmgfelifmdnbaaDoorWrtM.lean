/- The text of a tree, plainly. -/
import Derived.Test.YtmmgfelifmdnbaaDoorTxtM
import Derived.Test.YtmmgfelifmdnbaaDoorShpM
import Derived.Lib.ItoaNum
namespace Go.Proofs.YtmmgfelifmdnbaaDoor.WrtM
set_option linter.unusedVariables false
open Go.Lib ShpM TxtM

def coefT (c : List Int) : List UInt8 := c.flatMap fun x => itoa x ++ [32]
def txt : B → List UInt8
  | .leaf n => itoa n
  | .fork c a l r => 40 :: (coefT c ++ ([60, 32] ++ (itoa a ++ (32 :: (txt l ++ (32 :: (txt r ++ [41])))))))
def text (dim : Int) (b : B) : List UInt8 := itoa dim ++ (58 :: txt b)
theorem itoa_len (n : Int) (h1 : -9223372036854775808 ≤ n) (h2 : n ≤ 9223372036854775807) : (itoa n).length ≤ 21 := by
  unfold itoa
  split
  · rw [List.length_cons, decDigits_length]
    have := nDigits_le20 n.natAbs (by omega)
    omega
  · rw [decDigits_length]
    have := nDigits_le20 n.toNat (by omega)
    omega
theorem coef_len : ∀ (c : List Int), (∀ x ∈ c, -4 ≤ x ∧ x ≤ 4) → (coefT c).length ≤ 22 * c.length
  | [], _ => by simp [coefT]
  | x :: r, h => by
    have h1 := itoa_len x (by have := h x (by simp); omega) (by have := h x (by simp); omega)
    have h2 := coef_len r (fun y hy => h y (by simp [hy]))
    simp only [coefT, List.flatMap_cons, List.length_append, List.length_cons, List.length_nil] at h2 ⊢
    omega
theorem txt_len {dim : Int} : ∀ (b : B), b.ok dim → b.size ≤ 64 → (txt b).length ≤ 250 * b.count
  | .leaf n, h, hs => by
    have h : 1 ≤ n := h
    simp only [B.size] at hs
    have := itoa_len n (by omega) (by omega)
    simp only [txt, B.count]
    omega
  | .fork c a l r, h, hs => by
    obtain ⟨⟨⟨k1, k2, k3, k4, _⟩, ka, kb⟩, hl, hr⟩ := h
    have pl := size_pos hl
    have pr := size_pos hr
    simp only [B.size] at hs
    have h1 := coef_len c k4
    have h2 := itoa_len a (by omega) (by omega)
    have h3 := txt_len l hl (by omega)
    have h4 := txt_len r hr (by omega)
    simp only [txt, B.count, List.length_cons, List.length_append, List.length_nil]
    omega
theorem coefT_next {c : List Int} {k : Nat} {x : Int} (h : c[k]? = some x) : coefT (c.take (k + 1)) = coefT (c.take k) ++ itoa x ++ [32] := by
  have e : c.take (k + 1) = c.take k ++ [x] := by
    rw [List.take_add_one, h]; rfl
  rw [e]
  simp [coefT]
end Go.Proofs.YtmmgfelifmdnbaaDoor.WrtM
