/- How many scores have a level of so many hundreds: what both answer; counts in the memory. -/
import Derived.Test.YtodiipkedhfncaaGreatDoorScoX
import Derived.Test.YtodiipkedhfncaaGreatDoorRptO
namespace Go.Proofs.YtodiipkedhfncaaGreatDoor.LevM
set_option linter.unusedVariables false
set_option linter.unusedSimpArgs false
open Go.RowKit Base BigZ RptM RptO ScoX SeqM HarmM

def scC (x : Int × Int) : List Value := [.int .i64 x.1, .int .i64 x.2]
theorem scC_len (x : Int × Int) : (scC x).length = 2 := rfl
def Fits2 (l : List (Int × Int)) : Prop := ∀ x ∈ l, Fit x.1 x.2
theorem lvl_bd {p q n : Int} (h : isS p q = true) (h1 : 2 ≤ n) (h2 : n ≤ 64) : 0 ≤ lvl p q n ∧ lvl p q n ≤ 1000 := by
  obtain ⟨s1, s2, s3, s4, _⟩ := isS_true h
  have hcb := c_bd (norm_pos (n := n) (by omega) (by omega)) s1 s2
  unfold lvl
  generalize norm n * q = C at *
  exact ⟨Int.ediv_nonneg (by omega) (by omega), by
    have := Int.ediv_le_of_le_mul (a := C * 1000) (b := 1000) (c := C + p) (by omega) (by omega)
    omega⟩
def hund (n p q : Int) : Nat := (lvl p q n / 100).toNat
theorem hund_lt {p q n : Int} (h : isS p q = true) (h1 : 2 ≤ n) (h2 : n ≤ 64) : hund n p q < 11 := by
  have := lvl_bd h h1 h2
  unfold hund; omega
def zeros : List Int := List.replicate 11 0
def levV (l : List (Int × Int)) (n : Int) : Option (List Int) := if 2 ≤ n ∧ n ≤ 64 then lev isS (hund n) zeros l else none
def levL (l : List (Int × Int)) (n : Int) : List Int := (levV l n).getD []
def levE (l : List (Int × Int)) (n : Int) : Int := if 2 ≤ n ∧ n ≤ 64 then (if (lev isS (hund n) zeros l).isSome then 0 else 130) else 1
theorem lev_arg {l : List (Int × Int)} {n : Int} (h : ¬ (2 ≤ n ∧ n ≤ 64)) : levL l n = [] ∧ levE l n = 1 := by unfold levL levE levV; rw [if_neg h, if_neg h]; exact ⟨rfl, rfl⟩
theorem lev_no {l : List (Int × Int)} {n : Int} (h : 2 ≤ n ∧ n ≤ 64) (hl : lev isS (hund n) zeros l = none) : levL l n = [] ∧ levE l n = 130 := by unfold levL levE levV; rw [if_pos h, if_pos h, hl]; exact ⟨rfl, rfl⟩
theorem lev_yes {l : List (Int × Int)} {n : Int} {o : List Int} (h : 2 ≤ n ∧ n ≤ 64) (hl : lev isS (hund n) zeros l = some o) : levL l n = o ∧ levE l n = 0 := by unfold levL levE levV; rw [if_pos h, if_pos h, hl]; exact ⟨rfl, rfl⟩
theorem lev_cut {l : List (Int × Int)} {n : Int} {k : Nat} (h : lev isS (hund n) zeros (l.take k) = none) : lev isS (hund n) zeros l = none := by
  rw [← List.take_append_drop k l]; exact lev_take_none h
/-- counts in a block of one's own -/
structure Cnt (w : World) (b : Nat) (l : List Int) : Prop where
  len : l.length = 11
  lt : b < w.heap.size
  cell : ∀ j x, l[j]? = some x → w.cell? ⟨b, j, none⟩ = some (.int .i64 x)
  free : ∀ j, j < 11 → w.frozen? ⟨b, j, none⟩ = false
theorem Cnt.below {w w' : World} {b : Nat} {l : List Int} (h : Cnt w b l) (hb : Below w.heap.size w w') : Cnt w' b l :=
  ⟨h.len, Nat.lt_of_lt_of_le h.lt hb.size, fun j x hx => cell_at_below hb _ _ _ (h.cell j x hx), fun j hj => free_at_below hb _ _ (h.free j hj) h.lt⟩
theorem Cnt.bump {w : World} {b k : Nat} {l : List Int} {x : Int} (h : Cnt w b l) (hk : l[k]? = some x) : Cnt (w.setCell ⟨b, k, none⟩ (.int .i64 (x + 1))) b (bump l k) := by
  have hlt : k < l.length := (List.getElem?_eq_some_iff.1 hk).1
  have he : RptO.bump l k = l.set k (x + 1) := by unfold RptO.bump; rw [List.getD_eq_getElem?_getD, hk]; rfl
  refine ⟨by rw [bump_length]; exact h.len, by simpa using h.lt, fun j y hy => ?_, fun j hj => by rw [World.frozen?_setCell]; exact h.free j hj⟩
  rw [he] at hy
  by_cases hjk : j = k
  · subst hjk
    rw [List.getElem?_set_self hlt] at hy
    cases hy
    exact World.cell?_setCell_same' _ _ _ (by rw [h.cell j x hk]; rfl)
  · rw [List.getElem?_set_ne (fun e => hjk e.symm)] at hy
    rw [World.cell?_setCell_other (h := fun e => hjk (by injection e with _ e2; exact e2.symm))]
    exact h.cell j y hy
theorem Cnt.seq {w : World} {b : Nat} {l : List Int} (h : Cnt w b l) (lo : Nat) (hlo : lo ≤ b) : Seq 1 inC w lo w.heap.size (.slice (some ⟨b, 0, none⟩) 11 11) l := by
  refine ⟨some ⟨b, 0, none⟩, 11, by rw [h.len], by rw [h.len]; omega, by unfold maxLen; omega, ⟨by rw [flat_len inC_len], fun _ => ⟨⟨b, 0, none⟩, rfl, hlo, h.lt, fun j u hu => ?_⟩⟩, fun e => by cases e⟩
  obtain ⟨x, hx, hu'⟩ := flat_get inC_len (by omega) l j u hu
  rw [Nat.div_one] at hx
  have : u = .int .i64 x := by
    rw [Nat.mod_one] at hu'
    simp [inC] at hu'
    exact hu'.symm
  rw [this]
  have := h.cell j x hx
  unfold Addr.add
  split
  · rename_i hj; subst hj; exact this
  · simpa using this
end Go.Proofs.YtodiipkedhfncaaGreatDoor.LevM
