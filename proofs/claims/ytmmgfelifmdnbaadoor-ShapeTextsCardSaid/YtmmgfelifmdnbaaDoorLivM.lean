/- What lives() is to tell, plainly. -/
import Derived.Test.YtmmgfelifmdnbaaDoorPrsD
import Derived.Test.YtmmgfelifmdnbaaDoorUpM
import Derived.Test.YtmmgfelifmdnbaaDoorRouM
import Derived.Test.YtmmgfelifmdnbaaDoorTexW
namespace Go.Proofs.YtmmgfelifmdnbaaDoor.LivM
set_option linter.unusedVariables false
open Go.RowKit Go.Lib ShpM ShpD TxtM GlbS WrtM RdrW PrsM PrsC PrsD ParW PruM LefM RouM UpM ItrD ItrK ItrF ItrG TexW KeeW ShpI ShpV ShpW

def t0 : B := .fork [1] 3 (.fork [1] 2 (.leaf 1) (.leaf 1)) (.leaf 1)
def p0 : B := .fork [1] 3 (.leaf 2) (.leaf 1)
def s0 : List UInt8 := [49, 58, 40, 49, 32, 60, 32, 51, 32, 40, 49, 32, 60, 32, 50, 32, 49, 32, 49, 41, 32, 49, 41]
def s1 : List UInt8 := [49, 58, 40, 49, 32, 60, 32, 51, 32, 50, 41]
def s2 : List UInt8 := [49, 58, 40, 49, 32, 60, 32, 51, 32, 50, 32, 49, 41]
theorem itoa_dig (u : Nat) (h : u < 10) : itoa (u : Int) = [UInt8.ofNat (48 + u)] := by rw [itoa_nonneg, decDigits, dif_pos h]
theorem i1 : itoa 1 = [49] := itoa_dig 1 (by omega)
theorem i2 : itoa 2 = [50] := itoa_dig 2 (by omega)
theorem i3 : itoa 3 = [51] := itoa_dig 3 (by omega)
theorem cut_ok (a : Int) (h : a = 2 ∨ a = 3) : cutOk [1] a 1 := ⟨⟨by omega, by omega, rfl, by simp, 1, by simp, by omega⟩, by omega, by omega⟩
theorem t0_ok : t0.ok 1 := ⟨cut_ok 3 (.inr rfl), ⟨cut_ok 2 (.inl rfl), by show (1 : Int) ≤ 1; omega, by show (1 : Int) ≤ 1; omega⟩, by show (1 : Int) ≤ 1; omega⟩
theorem p0_ok : p0.ok 1 := ⟨cut_ok 3 (.inr rfl), by show (1 : Int) ≤ 2; omega, by show (1 : Int) ≤ 1; omega⟩
theorem t0_is : IsT 1 (t0.nodes 0) := isT_nodes (by omega) (by omega) t0_ok (by decide) (by decide)
theorem p0_is : IsT 1 (p0.nodes 0) := isT_nodes (by omega) (by omega) p0_ok (by decide) (by decide)
theorem text_t0 : text 1 t0 = s0 := by
  simp only [text, t0, txt, coefT, List.flatMap_cons, List.flatMap_nil, i1, i2, i3]; rfl
theorem text_p0 : text 1 p0 = s2 := by
  simp only [text, p0, txt, coefT, List.flatMap_cons, List.flatMap_nil, i1, i2, i3]; rfl
theorem read_t0 : parseR s0 = (1, t0.nodes 0, 0) := by
  rw [← text_t0]
  exact parse_text (by omega) (by omega) t0_ok (by decide) (by decide)
theorem read_s1 : parseR s1 = (0, [], 20) := by
  have e : s1 = itoa 1 ++ (58 :: (40 :: (coefT [1] ++ ([60, 32] ++ (itoa 3 ++ (32 :: (itoa 2 ++ [41]))))))) := by
    simp only [coefT, List.flatMap_cons, List.flatMap_nil, i1, i2, i3]; rfl
  have h1 := num_take 1 (58 :: (40 :: (coefT [1] ++ ([60, 32] ++ (itoa 3 ++ (32 :: (itoa 2 ++ [41]))))))) true (stop_of _ (by decide)) (by omega) (by omega)
  have h2 := head_take [1] 3 (itoa 2 ++ [41]) (by simp) (by omega)
  have h3 := num_take 2 [41] true (stop_of _ (by decide)) (by omega) (by omega)
  have h4 : nodeM 1 6 (itoa 2 ++ [41]) true ([] ++ [⟨[1], 3, (([] : List Nd).length : Int) + 1, 0, 0⟩]) = ([41], true, [] ++ [⟨[1], 3, (([] : List Nd).length : Int) + 1, 0, 0⟩] ++ [⟨[], 0, 0, 0, clamp 2 0 65⟩]) := by
    rw [nodeM_leaf (itoa_head 2 [41] (by omega)), h3]
  unfold parseR
  rw [e, h1]
  dsimp only
  rw [byte_take]
  dsimp only
  rw [if_pos ⟨rfl, by omega, by omega⟩]
  have h5 : (nodeM (1 : Int).toNat 7 (40 :: (coefT [1] ++ ([60, 32] ++ (itoa 3 ++ (32 :: (itoa 2 ++ [41])))))) true []).2.1 = false := by
    show (nodeM 1 (6 + 1) (40 :: (coefT [1] ++ ([60, 32] ++ (itoa 3 ++ (32 :: (itoa 2 ++ [41])))))) true []).2.1 = false
    simp only [nodeM]
    rw [if_pos (show ((40 : UInt8) :: (coefT [1] ++ ([60, 32] ++ (itoa 3 ++ (32 :: (itoa 2 ++ [41])))))).head? = some 40 from rfl), show (1 : Nat) = ([1] : List Int).length from rfl, h2]
    dsimp only
    rw [show ([1] : List Int).length = 1 from rfl, h4]
    dsimp only
    rw [show byteM 32 [41] true = ([41], false) from rfl]
    dsimp only
    rw [nodeM_no]
    rfl
  rw [if_neg (by rw [h5]; simp)]
theorem pru_t0 : pru t0 1 = p0 := rfl
theorem prune_t0 : ItrP.pruneR 1 (t0.nodes 0) 1 = (1, p0.nodes 0, 0) := prune_nodes t0_is (at_nodes t0) (by omega)
theorem vs_t0 : vsOf 1 (t0.nodes 0) = [(0, -1, 0), (1, 0, 1), (2, 1, 2), (3, 1, 2), (4, 0, 1)] := by
  rw [vsOf_tree t0_is (at_nodes t0)]; rfl
theorem dep_t0 : colDepths (vsOf 1 (t0.nodes 0)) = [0, 1, 2, 2, 1] := by rw [vs_t0]; rfl
theorem par_t0 : colParents (vsOf 1 (t0.nodes 0)) = [-1, 0, 1, 1, 0] := by rw [vs_t0]; rfl
theorem most_t0 : mostOf (vsOf 1 (t0.nodes 0)) = 2 := by rw [vs_t0]; decide
theorem leaf_t0 : colL (t0.nodes 0) (vsOf 1 (t0.nodes 0)) = [2, 3, 4] := by rw [vs_t0]; decide
theorem text_prune : textOf 1 (p0.nodes 0) = s2 := by rw [textOf_tree p0_is (at_nodes p0), text_p0]
theorem left_one (a v : Int) (h : a = 2 ∨ a = 3) (hv : v = 2 ∨ v = 9) : (leftR [1] a [v]).1 = decide (v < a) := by
  have hc : cutB [1] a ([1] : List Int).length = true := cutB_iff.2 (cut_ok a h)
  have hp : partsB [1] ([1] : List Int).length = true := partsB_iff.2 (cut_ok a h).1
  have hvv : vecB [v] ([1] : List Int).length = true := by
    unfold vecB
    rcases hv with rfl | rfl <;> decide
  have hd : dotR [1] [v] = (v, 0) := by
    unfold dotR
    rw [hp, hvv]
    rw [if_pos (show (true && true) = true from rfl)]
    rcases hv with rfl | rfl <;> rfl
  unfold leftR
  rw [hc, hd]
  rfl
theorem way_2 : wayOf t0 0 [2] = [0, 1, 3] := by
  simp only [t0, wayOf, left_one 3 2 (.inr rfl) (.inl rfl), left_one 2 2 (.inl rfl) (.inl rfl)]
  rfl
theorem way_9 : wayOf t0 0 [9] = [0, 4] := by
  simp only [t0, wayOf, left_one 3 9 (.inr rfl) (.inr rfl)]
  rfl
theorem route_t0 : thruL t0 5 [[2], [9]] = [2, 1, 0, 1, 1] := by
  unfold thruL thru
  simp only [List.countP_cons, List.countP_nil, way_2, way_9]
  rfl
theorem vecs_t0 : ([[2], [9]] : List (List Int)).all (vecB · 1) = true := by decide
end Go.Proofs.YtmmgfelifmdnbaaDoor.LivM
