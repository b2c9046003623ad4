/- The walks of ratio.Text, part and Parse. -/
import Derived.Test.YtdpmijmofeechaaDoorRat3
import Derived.Lib.ItoaLen
import Derived.Lib.AtoiAllCases
namespace Go.Proofs.YtdpmijmofeechaaDoor.TextW
set_option linter.unusedVariables false
open Go.RowKit Base BigM BigZ GcdM RatM RatW RefRat Glob WideM WideW Rat2

/-- a ratio as a text -/
def textR (p q : Int) : List UInt8 := if isR p q = true then (if q = 1 then Lib.itoa p else Lib.itoa p ++ 47 :: Lib.itoa q) else []
theorem textR_no {p q : Int} (h : isR p q = false) : textR p q = [] := by unfold textR; rw [h]; rfl
theorem textR_one {p : Int} (h : isR p 1 = true) : textR p 1 = Lib.itoa p := by unfold textR; rw [if_pos h, if_pos rfl]
theorem textR_two {p q : Int} (h : isR p q = true) (h1 : q ≠ 1) : textR p q = Lib.itoa p ++ 47 :: Lib.itoa q := by unfold textR; rw [if_pos h, if_neg h1]
theorem ret_str {a b : List UInt8} (h : a = b) : Ending.returned (.string ⟨a.toArray⟩) = .returned (.string ⟨b.toArray⟩) := by rw [h]
theorem ret_str3 (a b : List UInt8) : Ending.returned (.string ((⟨a.toArray⟩ : ByteArray) ++ ⟨#[47]⟩ ++ ⟨b.toArray⟩)) = .returned (.string ⟨(a ++ 47 :: b).toArray⟩) := by
  congr 2
  apply ByteArray.ext
  simp
set_option maxHeartbeats 1000000 in
theorem Text_any (p q : Int) (w : World) (hG : G w) (hf : Fit p q) :
    Calls Tryd.prog 21 #[.agg #[.int .i64 p, .int .i64 q]] w fun e w' => e = .returned (.string ⟨(textR p q).toArray⟩) ∧ Below w.heap.size w w' := by
  cases h : isR p q
  · have F := Lib.hid (textR_no h)
    go_enter Tryd.func21, Tryd.ntmps21
    go_wp2_with fail
    refine (RatW.Is_any p q _ hf.1.1 hf.1.2 hf.2.1 hf.2.2).mono ?_
    rintro e w1 ⟨rfl, hb1⟩
    go_wp2
    go_ret
    exact ⟨by rw [F.out]; rfl, (below_alloc1 _ _).trans (hb1.mono (below_alloc1 _ _).size)⟩
  · have hG1 := Lib.hid (hG.below (below_alloc1 w (.cells #[.int .i64 p, .int .i64 q] 23)))
    obtain ⟨x1, x2, x3, x4, _⟩ := isR_true h
    by_cases h1 : q = 1
    · subst h1
      have F := Lib.hid (textR_one h)
      go_enter Tryd.func21, Tryd.ntmps21
      go_wp2_with fail
      refine (RatW.Is_any p 1 _ hf.1.1 hf.1.2 hf.2.1 hf.2.2).mono ?_
      rintro e w1 ⟨rfl, hb1⟩
      obtain ⟨hc, hfz⟩ := bcell hb1
      go_wp2_with fail
      refine (Itoa_any p _ (hG1.out.below hb1) hf.1.1 hf.1.2).mono ?_
      rintro e w2 ⟨rfl, hb2⟩
      go_wp2
      go_ret
      exact ⟨by rw [F.out]; rfl, (below_alloc1 _ _).trans ((hb1.trans (hb2.mono hb1.size)).mono (below_alloc1 _ _).size)⟩
    · have F := Lib.hid (textR_two h h1)
      have hq1 : (q == 1) = false := by simpa using h1
      clear h1
      have l1 := Lib.itoa_length_le p hf.1.1 hf.1.2
      have l2 := Lib.itoa_length_le q hf.2.1 hf.2.2
      have n1 : ¬ 9223372036854775807 < (Lib.itoa p).length + 1 := by omega
      have n2 : ¬ 9223372036854775807 < (Lib.itoa p).length + 1 + (Lib.itoa q).length := by omega
      have n3 : ¬ 9223372036854775807 < (⟨(Lib.itoa p).toArray⟩ : ByteArray).size + 1 := by show ¬ 9223372036854775807 < (Lib.itoa p).toArray.size + 1; rw [List.size_toArray]; omega
      have n4 : ¬ 9223372036854775807 < (⟨(Lib.itoa p).toArray⟩ : ByteArray).size + 1 + (⟨(Lib.itoa q).toArray⟩ : ByteArray).size := by show ¬ 9223372036854775807 < (Lib.itoa p).toArray.size + 1 + (Lib.itoa q).toArray.size; rw [List.size_toArray, List.size_toArray]; omega
      clear l1 l2
      go_enter Tryd.func21, Tryd.ntmps21
      go_wp2_with fail
      refine (RatW.Is_any p q _ hf.1.1 hf.1.2 hf.2.1 hf.2.2).mono ?_
      rintro e w1 ⟨rfl, hb1⟩
      have hG2 := Lib.hid (hG1.out.below hb1)
      have c1 := cell_at_below hb1 w.heap.size 0 (.int .i64 p) (by go_simp)
      have c2 := cell_at_below hb1 w.heap.size 1 (.int .i64 q) (by go_simp)
      have hbz := (below_alloc1 w (.cells #[.int .i64 p, .int .i64 q] 23)).trans (hb1.mono (below_alloc1 _ _).size)
      clear hb1
      go_wp2_with fail
      go_region_held3 (fun w' => w'.cell? ⟨w.heap.size, 0, none⟩ = some (.int .i64 p) ∧ w'.cell? ⟨w.heap.size, 1, none⟩ = some (.int .i64 q))
        (first | (go_keep; done) | (exact ⟨cell_at_below hb3 _ _ _ (cell_at_below hb2 _ _ _ c1), cell_at_below hb3 _ _ _ (cell_at_below hb2 _ _ _ c2)⟩) | (exact ⟨cell_at_below hb2 _ _ _ c1, cell_at_below hb2 _ _ _ c2⟩))
        ((first | (go_at_call_of 66 (Value.int IntKind.i64 p); refine (Itoa_any p _ (by exact (hG2.out.below (Below.refl _ _).drew)) hf.1.1 hf.1.2).mono ?_; rintro e w2 ⟨rfl, hb2⟩) | (go_at_call_of 66 (Value.int IntKind.i64 q); refine (Itoa_any q _ (by exact (hG2.out.below (Below.refl _ _).drew).below hb2) hf.2.1 hf.2.2).mono ?_; rintro e w3 ⟨rfl, hb3⟩)))
      go_wp2
      go_ret
      refine ⟨?_, (hbz.drew.trans (hb2.mono hbz.size)).trans (hb3.mono ?_)⟩
      · rw [F.out]; exact ret_str3 _ _
      · exact Nat.le_trans hbz.size hb2.size

theorem ret_ib {a b : Int} {x y : Bool} (h : a = b) (h2 : x = y) : Ending.returned (.tuple #[.int .i64 a, .bool x]) = .returned (.tuple #[.int .i64 b, .bool y]) := by rw [h, h2]
/-- part of a text -/
def partOk (l : List UInt8) : Bool := atoiOk l && (Lib.itoa (atoiV l) == l)
theorem partOk_no {l : List UInt8} (h : atoiOk l = false) : partOk l = false := by unfold partOk; rw [h]; rfl
theorem partOk_yes {l : List UInt8} (h : atoiOk l = true) : partOk l = (Lib.itoa (atoiV l) == l) := by unfold partOk; rw [h]; rfl
theorem atoiV_bounds (l : List UInt8) : -9223372036854775808 ≤ atoiV l ∧ atoiV l ≤ 9223372036854775807 := by
  unfold atoiV
  match h : Lib.atoiAll l with
  | .ok v => exact Lib.atoiAll_bounds h
  | Lib.NumEnd.syntax => exact ⟨by show (-9223372036854775808 : Int) ≤ 0; omega, by show (0 : Int) ≤ 9223372036854775807; omega⟩
  | .range => exact Lib.atoiSat_bounds l
theorem part_any (l : List UInt8) (w : World) (hG : G w) (hl : l.length ≤ 1073741824) :
    Calls Tryd.prog 68 #[.string ⟨l.toArray⟩] w fun e w' => e = .returned (.tuple #[.int .i64 (atoiV l), .bool (partOk l)]) ∧ Below w.heap.size w w' := by
  have hb := atoiV_bounds l
  cases h : atoiOk l
  · have F := Lib.hid (partOk_no h)
    go_enter Tryd.func68, Tryd.ntmps68
    go_wp2_with fail
    refine (Atoi_no ⟨l.toArray⟩ _ hG (by simpa [ByteArray.size] using hl) h).mono ?_
    rintro e w1 ⟨p, rfl, hb1⟩
    go_wp2
    refine bodyPost_ret (v := .tuple #[.int .i64 (atoiV l), .bool false]) (by simp [results, Tryd.results68, go_sem]) rfl ?_
    exact ⟨ret_ib rfl F.out.symm, hb1⟩
  · have F := Lib.hid (partOk_yes h)
    go_enter Tryd.func68, Tryd.ntmps68
    go_wp2_with fail
    refine (Atoi_yes ⟨l.toArray⟩ _ hG (by simpa [ByteArray.size] using hl) h).mono ?_
    rintro e w1 ⟨rfl, hb1⟩
    go_wp2_with fail
    refine (Itoa_any (atoiV l) _ (hG.below hb1) hb.1 hb.2).mono ?_
    rintro e w2 ⟨rfl, hb2⟩
    go_wp2
    refine bodyPost_ret (v := .tuple #[.int .i64 (atoiV l), .bool (Lib.itoa (atoiV l) == l)]) (by simp [results, Tryd.results68, go_sem]) rfl ?_
    exact ⟨ret_ib rfl F.out.symm, hb1.trans (hb2.mono hb1.size)⟩

def cutT (l : List UInt8) : List UInt8 := (Lib.cut l [47]).1
def cutL (l : List UInt8) : List UInt8 := (Lib.cut l [47]).2.1
def cutB (l : List UInt8) : Bool := (Lib.cut l [47]).2.2
theorem cutT_le (l : List UInt8) : (cutT l).length ≤ l.length := by
  unfold cutT Lib.cut; split
  · simp; omega
  · simp
theorem cutL_le (l : List UInt8) : (cutL l).length ≤ l.length := by
  unfold cutL Lib.cut; split
  · simp
  · simp
def parP (l : List UInt8) : Int := atoiV (cutT l)
def parQ (l : List UInt8) : Int := if cutB l = true then atoiV (cutL l) else 1
def parOk (l : List UInt8) : Bool := partOk (cutT l) && (!cutB l || (partOk (cutL l) && !(atoiV (cutL l) == 1))) && isR (parP l) (parQ l)
def parseR (l : List UInt8) : Int × Int × Int := if parOk l = true then (parP l, parQ l, 0) else (0, 0, 30)
theorem parseR_one {l : List UInt8} (h : cutB l = false) (h1 : partOk (cutT l) = true) (h2 : isR (parP l) 1 = true) : parseR l = (parP l, 1, 0) := by
  have hq : parQ l = 1 := by unfold parQ; rw [h]; rfl
  unfold parseR parOk; rw [h, h1, hq, h2]; rfl
theorem parseR_two {l : List UInt8} (h : cutB l = true) (h1 : partOk (cutT l) = true) (h3 : partOk (cutL l) = true) (h4 : (atoiV (cutL l) == 1) = false) (h2 : isR (parP l) (atoiV (cutL l)) = true) : parseR l = (parP l, atoiV (cutL l), 0) := by
  have hq : parQ l = atoiV (cutL l) := by unfold parQ; rw [h]; rfl
  unfold parseR parOk; rw [h, h1, h3, h4, hq, h2]; rfl
theorem parseR_no {l : List UInt8} (h : parOk l = false) : parseR l = (0, 0, 30) := by
  unfold parseR; rw [h]; rfl
theorem Cut47_any (l : List UInt8) (w : World) (hG : G w) (hl : l.length ≤ 1073741824) :
    Calls Tryd.prog 67 #[.string ⟨l.toArray⟩, .string ⟨#[47]⟩] w fun e w' => e = .returned (.tuple #[.string ⟨(cutT l).toArray⟩, .string ⟨(cutL l).toArray⟩, .bool (cutB l)]) ∧ Below w.heap.size w w' :=
  Cut_any ⟨l.toArray⟩ ⟨#[47]⟩ w hG (by simpa [ByteArray.size] using hl)
set_option maxHeartbeats 4000000 in
theorem Parse_any (l : List UInt8) (w : World) (hG : G w) (hl : l.length ≤ 1073741824) :
    Calls Tryd.prog 22 #[.string ⟨l.toArray⟩] w fun e w' => e = .returned (.tuple #[.agg #[.int .i64 (parseR l).1, .int .i64 (parseR l).2.1], .int .i64 (parseR l).2.2]) ∧ Below w.heap.size w w' := by
  have hP := atoiV_bounds (cutT l)
  have hQ := atoiV_bounds (cutL l)
  have hT := Nat.le_trans (cutT_le l) hl
  have hL := Nat.le_trans (cutL_le l) hl
  have hG0 := Lib.hid (hG.below (below_alloc1 w (.cells #[.int .i64 0, .int .i64 0] 23)))
  have hW := Lib.hid (below_alloc1 w (.cells #[.int .i64 0, .int .i64 0] 23))
  have hZ0 : (w.alloc (.cells #[.int .i64 0, .int .i64 0] 23)).heap.size = w.heap.size + 1 := by simp
  cases hB : cutB l
  · cases hk : partOk (cutT l)
    · have F := Lib.hid (parseR_no (l := l) (by unfold parOk; rw [hk]; rfl))
      go_enter Tryd.func22, Tryd.ntmps22
      go_wp2_with fail
      refine (Cut47_any l _ hG0.out hl).mono ?_
      rintro e w1 ⟨rfl, hb1⟩
      go_wp2_with fail
      refine (part_any (cutT l) _ (hG0.out.below hb1) hT).mono ?_
      rintro e w2 ⟨rfl, hb2⟩
      have hb := hb1.trans (hb2.mono hb1.size)
      obtain ⟨c0, c1, f0, f1, hz⟩ := keepR hb (r := w.heap.size) (c0 := .int .i64 0) (c1 := .int .i64 0) (by go_simp) (by go_simp) (by go_simp) (by go_simp)
      have hz : w.heap.size < w2.heap.size := hz
      have hG2 := Lib.hid (hG0.out.below hb)
      have hb := hW.out.trans (hb.mono hW.out.size)
      clear hb1 hb2
      have hzs : ∀ a b c d, w.heap.size < ((w2.setCell a b).setCell c d).heap.size := fun a b c d => by simpa using hz
      go_wp2_with fail
      refine bodyPost_ret (v := .tuple #[.agg #[.int .i64 0, .int .i64 0], .int .i64 30]) (by simp [results, Tryd.results22, go_sem, World.cell?_alloc_past, hz, c0, c1]) rfl ?_
      exact ⟨ret_rat F.out.symm, ((hb.setCell (Nat.le_refl _) _).setCell (Nat.le_refl _) _).alloc (Nat.le_of_lt (hzs _ _ _ _)) _⟩
    · cases hi : isR (atoiV (cutT l)) 1
      · have F := Lib.hid (parseR_no (l := l) (by unfold parOk parP parQ; rw [hk, hB]; simp [hi]))
        go_enter Tryd.func22, Tryd.ntmps22
        go_wp2_with fail
        refine (Cut47_any l _ hG0.out hl).mono ?_
        rintro e w1 ⟨rfl, hb1⟩
        go_wp2_with fail
        refine (part_any (cutT l) _ (hG0.out.below hb1) hT).mono ?_
        rintro e w2 ⟨rfl, hb2⟩
        have hb := hb1.trans (hb2.mono hb1.size)
        obtain ⟨c0, c1, f0, f1, hz⟩ := keepR hb (r := w.heap.size) (c0 := .int .i64 0) (c1 := .int .i64 0) (by go_simp) (by go_simp) (by go_simp) (by go_simp)
        have hz : w.heap.size < w2.heap.size := hz
        have hG2 := Lib.hid (hG0.out.below hb)
        have hb := hW.out.trans (hb.mono hW.out.size)
        clear hb1 hb2
        go_wp2_with fail
        refine (Is_any (atoiV (cutT l)) (1) _ hP.1 hP.2 (by omega) (by omega)).mono ?_
        rintro e w5 ⟨rfl, hb5⟩
        obtain ⟨k0, k1, u0, u1, hz5⟩ := keepR hb5 (r := w.heap.size) (c0 := .int .i64 0) (c1 := .int .i64 0) (by go_simp) (by go_simp) (by go_simp) (by go_simp)
        obtain ⟨e0, e1, v0, v1, hz6⟩ := keepR hb5 (r := w2.heap.size) (c0 := .int .i64 (atoiV (cutT l))) (c1 := .int .i64 (1)) (by go_simp) (by go_simp) (by go_simp) (by go_simp)
        have hb7 := hb.alloc (by omega) (.cells #[.int .i64 (atoiV (cutT l)), .int .i64 1] 23)
        have hb := hb7.trans (hb5.mono hb7.size)
        clear hb5 hb7
        go_wp2_with fail
        refine bodyPost_ret (v := .tuple #[.agg #[.int .i64 0, .int .i64 0], .int .i64 30]) (by simp [results, Tryd.results22, go_sem, k0, k1]) rfl ?_
        exact ⟨ret_rat F.out.symm, (hb.setCell (Nat.le_refl _) _).setCell (Nat.le_refl _) _⟩
      · have F := Lib.hid (parseR_one hB hk hi)
        go_enter Tryd.func22, Tryd.ntmps22
        go_wp2_with fail
        refine (Cut47_any l _ hG0.out hl).mono ?_
        rintro e w1 ⟨rfl, hb1⟩
        go_wp2_with fail
        refine (part_any (cutT l) _ (hG0.out.below hb1) hT).mono ?_
        rintro e w2 ⟨rfl, hb2⟩
        have hb := hb1.trans (hb2.mono hb1.size)
        obtain ⟨c0, c1, f0, f1, hz⟩ := keepR hb (r := w.heap.size) (c0 := .int .i64 0) (c1 := .int .i64 0) (by go_simp) (by go_simp) (by go_simp) (by go_simp)
        have hz : w.heap.size < w2.heap.size := hz
        have hG2 := Lib.hid (hG0.out.below hb)
        have hb := hW.out.trans (hb.mono hW.out.size)
        clear hb1 hb2
        go_wp2_with fail
        refine (Is_any (atoiV (cutT l)) (1) _ hP.1 hP.2 (by omega) (by omega)).mono ?_
        rintro e w5 ⟨rfl, hb5⟩
        obtain ⟨k0, k1, u0, u1, hz5⟩ := keepR hb5 (r := w.heap.size) (c0 := .int .i64 0) (c1 := .int .i64 0) (by go_simp) (by go_simp) (by go_simp) (by go_simp)
        obtain ⟨e0, e1, v0, v1, hz6⟩ := keepR hb5 (r := w2.heap.size) (c0 := .int .i64 (atoiV (cutT l))) (c1 := .int .i64 (1)) (by go_simp) (by go_simp) (by go_simp) (by go_simp)
        have hb7 := hb.alloc (by omega) (.cells #[.int .i64 (atoiV (cutT l)), .int .i64 1] 23)
        have hb := hb7.trans (hb5.mono hb7.size)
        clear hb5 hb7
        go_wp2_with fail
        refine bodyPost_ret (v := .tuple #[.agg #[.int .i64 (atoiV (cutT l)), .int .i64 (1)], .int .i64 0]) (by simp [results, Tryd.results22, go_sem, k0, k1]) rfl ?_
        exact ⟨ret_rat F.out.symm, (hb.setCell (Nat.le_refl _) _).setCell (Nat.le_refl _) _⟩
  · cases hk : partOk (cutT l)
    · have F := Lib.hid (parseR_no (l := l) (by unfold parOk; rw [hk]; rfl))
      go_enter Tryd.func22, Tryd.ntmps22
      go_wp2_with fail
      refine (Cut47_any l _ hG0.out hl).mono ?_
      rintro e w1 ⟨rfl, hb1⟩
      go_wp2_with fail
      refine (part_any (cutT l) _ (hG0.out.below hb1) hT).mono ?_
      rintro e w2 ⟨rfl, hb2⟩
      have hb := hb1.trans (hb2.mono hb1.size)
      obtain ⟨c0, c1, f0, f1, hz⟩ := keepR hb (r := w.heap.size) (c0 := .int .i64 0) (c1 := .int .i64 0) (by go_simp) (by go_simp) (by go_simp) (by go_simp)
      have hz : w.heap.size < w2.heap.size := hz
      have hG2 := Lib.hid (hG0.out.below hb)
      have hb := hW.out.trans (hb.mono hW.out.size)
      clear hb1 hb2
      have hb2 := below_alloc1 w2 (.cells #[.int .i64 (atoiV (cutT l)), .int .i64 1] 23)
      have hG3 := Lib.hid (hG2.out.below hb2)
      go_wp2_with fail
      refine (part_any (cutL l) _ hG3.out hL).mono ?_
      rintro e w3 ⟨rfl, hb3⟩
      have hb4 := hb2.trans (hb3.mono hb2.size)
      have c0 := cell_at_below hb4 _ _ _ c0
      have c1 := cell_at_below hb4 _ _ _ c1
      have f0 := free_at_below hb4 _ _ f0 (by omega)
      have f1 := free_at_below hb4 _ _ f1 (by omega)
      obtain ⟨d0, d1, g0, g1, hz3⟩ := keepR hb3 (r := w2.heap.size) (c0 := .int .i64 (atoiV (cutT l))) (c1 := .int .i64 1) (by go_simp) (by go_simp) (by go_simp) (by go_simp)
      have hne : ¬ w2.heap.size = w.heap.size := by omega
      have hne2 : ¬ w.heap.size = w2.heap.size := by omega
      have hb := hb.trans (hb4.mono hb.size)
      clear hb2 hb3 hb4
      go_wp2_with fail
      refine bodyPost_ret (v := .tuple #[.agg #[.int .i64 0, .int .i64 0], .int .i64 30]) (by simp [results, Tryd.results22, go_sem, c0, c1]) rfl ?_
      exact ⟨ret_rat F.out.symm, ((hb.setCell (by show w.heap.size ≤ w2.heap.size; omega) _).setCell (Nat.le_refl _) _).setCell (Nat.le_refl _) _⟩
    · cases hm : partOk (cutL l)
      · have F := Lib.hid (parseR_no (l := l) (by unfold parOk; rw [hk, hB, hm]; rfl))
        go_enter Tryd.func22, Tryd.ntmps22
        go_wp2_with fail
        refine (Cut47_any l _ hG0.out hl).mono ?_
        rintro e w1 ⟨rfl, hb1⟩
        go_wp2_with fail
        refine (part_any (cutT l) _ (hG0.out.below hb1) hT).mono ?_
        rintro e w2 ⟨rfl, hb2⟩
        have hb := hb1.trans (hb2.mono hb1.size)
        obtain ⟨c0, c1, f0, f1, hz⟩ := keepR hb (r := w.heap.size) (c0 := .int .i64 0) (c1 := .int .i64 0) (by go_simp) (by go_simp) (by go_simp) (by go_simp)
        have hz : w.heap.size < w2.heap.size := hz
        have hG2 := Lib.hid (hG0.out.below hb)
        have hb := hW.out.trans (hb.mono hW.out.size)
        clear hb1 hb2
        have hb2 := below_alloc1 w2 (.cells #[.int .i64 (atoiV (cutT l)), .int .i64 1] 23)
        have hG3 := Lib.hid (hG2.out.below hb2)
        go_wp2_with fail
        refine (part_any (cutL l) _ hG3.out hL).mono ?_
        rintro e w3 ⟨rfl, hb3⟩
        have hb4 := hb2.trans (hb3.mono hb2.size)
        have c0 := cell_at_below hb4 _ _ _ c0
        have c1 := cell_at_below hb4 _ _ _ c1
        have f0 := free_at_below hb4 _ _ f0 (by omega)
        have f1 := free_at_below hb4 _ _ f1 (by omega)
        obtain ⟨d0, d1, g0, g1, hz3⟩ := keepR hb3 (r := w2.heap.size) (c0 := .int .i64 (atoiV (cutT l))) (c1 := .int .i64 1) (by go_simp) (by go_simp) (by go_simp) (by go_simp)
        have hne : ¬ w2.heap.size = w.heap.size := by omega
        have hne2 : ¬ w.heap.size = w2.heap.size := by omega
        have hb := hb.trans (hb4.mono hb.size)
        clear hb2 hb3 hb4
        go_wp2_with fail
        refine bodyPost_ret (v := .tuple #[.agg #[.int .i64 0, .int .i64 0], .int .i64 30]) (by simp [results, Tryd.results22, go_sem, c0, c1]) rfl ?_
        exact ⟨ret_rat F.out.symm, ((hb.setCell (by show w.heap.size ≤ w2.heap.size; omega) _).setCell (Nat.le_refl _) _).setCell (Nat.le_refl _) _⟩
      · by_cases ho : atoiV (cutL l) = 1
        · have F := Lib.hid (parseR_no (l := l) (by unfold parOk; rw [hk, hB, hm, ho]; rfl))
          go_enter Tryd.func22, Tryd.ntmps22
          go_wp2_with fail
          refine (Cut47_any l _ hG0.out hl).mono ?_
          rintro e w1 ⟨rfl, hb1⟩
          go_wp2_with fail
          refine (part_any (cutT l) _ (hG0.out.below hb1) hT).mono ?_
          rintro e w2 ⟨rfl, hb2⟩
          have hb := hb1.trans (hb2.mono hb1.size)
          obtain ⟨c0, c1, f0, f1, hz⟩ := keepR hb (r := w.heap.size) (c0 := .int .i64 0) (c1 := .int .i64 0) (by go_simp) (by go_simp) (by go_simp) (by go_simp)
          have hz : w.heap.size < w2.heap.size := hz
          have hG2 := Lib.hid (hG0.out.below hb)
          have hb := hW.out.trans (hb.mono hW.out.size)
          clear hb1 hb2
          have hb2 := below_alloc1 w2 (.cells #[.int .i64 (atoiV (cutT l)), .int .i64 1] 23)
          have hG3 := Lib.hid (hG2.out.below hb2)
          go_wp2_with fail
          refine (part_any (cutL l) _ hG3.out hL).mono ?_
          rintro e w3 ⟨rfl, hb3⟩
          have hb4 := hb2.trans (hb3.mono hb2.size)
          have c0 := cell_at_below hb4 _ _ _ c0
          have c1 := cell_at_below hb4 _ _ _ c1
          have f0 := free_at_below hb4 _ _ f0 (by omega)
          have f1 := free_at_below hb4 _ _ f1 (by omega)
          obtain ⟨d0, d1, g0, g1, hz3⟩ := keepR hb3 (r := w2.heap.size) (c0 := .int .i64 (atoiV (cutT l))) (c1 := .int .i64 1) (by go_simp) (by go_simp) (by go_simp) (by go_simp)
          have hne : ¬ w2.heap.size = w.heap.size := by omega
          have hne2 : ¬ w.heap.size = w2.heap.size := by omega
          have hb := hb.trans (hb4.mono hb.size)
          clear hb2 hb3 hb4
          go_wp2_with fail
          refine bodyPost_ret (v := .tuple #[.agg #[.int .i64 0, .int .i64 0], .int .i64 30]) (by simp [results, Tryd.results22, go_sem, c0, c1]) rfl ?_
          exact ⟨ret_rat F.out.symm, ((hb.setCell (by show w.heap.size ≤ w2.heap.size; omega) _).setCell (Nat.le_refl _) _).setCell (Nat.le_refl _) _⟩
        · have hob : (atoiV (cutL l) != 1) = true := by simpa using ho
          cases hi : isR (atoiV (cutT l)) (atoiV (cutL l))
          · have F := Lib.hid (parseR_no (l := l) (by unfold parOk parP parQ; rw [hk, hB]; simp [hi]))
            go_enter Tryd.func22, Tryd.ntmps22
            go_wp2_with fail
            refine (Cut47_any l _ hG0.out hl).mono ?_
            rintro e w1 ⟨rfl, hb1⟩
            go_wp2_with fail
            refine (part_any (cutT l) _ (hG0.out.below hb1) hT).mono ?_
            rintro e w2 ⟨rfl, hb2⟩
            have hb := hb1.trans (hb2.mono hb1.size)
            obtain ⟨c0, c1, f0, f1, hz⟩ := keepR hb (r := w.heap.size) (c0 := .int .i64 0) (c1 := .int .i64 0) (by go_simp) (by go_simp) (by go_simp) (by go_simp)
            have hz : w.heap.size < w2.heap.size := hz
            have hG2 := Lib.hid (hG0.out.below hb)
            have hb := hW.out.trans (hb.mono hW.out.size)
            clear hb1 hb2
            have hb2 := below_alloc1 w2 (.cells #[.int .i64 (atoiV (cutT l)), .int .i64 1] 23)
            have hG3 := Lib.hid (hG2.out.below hb2)
            go_wp2_with fail
            refine (part_any (cutL l) _ hG3.out hL).mono ?_
            rintro e w3 ⟨rfl, hb3⟩
            have hb4 := hb2.trans (hb3.mono hb2.size)
            have c0 := cell_at_below hb4 _ _ _ c0
            have c1 := cell_at_below hb4 _ _ _ c1
            have f0 := free_at_below hb4 _ _ f0 (by omega)
            have f1 := free_at_below hb4 _ _ f1 (by omega)
            obtain ⟨d0, d1, g0, g1, hz3⟩ := keepR hb3 (r := w2.heap.size) (c0 := .int .i64 (atoiV (cutT l))) (c1 := .int .i64 1) (by go_simp) (by go_simp) (by go_simp) (by go_simp)
            have hne : ¬ w2.heap.size = w.heap.size := by omega
            have hne2 : ¬ w.heap.size = w2.heap.size := by omega
            have hb := hb.trans (hb4.mono hb.size)
            clear hb2 hb3 hb4
            go_wp2_with fail
            refine (Is_any (atoiV (cutT l)) (atoiV (cutL l)) _ hP.1 hP.2 hQ.1 hQ.2).mono ?_
            rintro e w5 ⟨rfl, hb5⟩
            obtain ⟨k0, k1, u0, u1, hz5⟩ := keepR hb5 (r := w.heap.size) (c0 := .int .i64 0) (c1 := .int .i64 0) (by go_simp) (by go_simp) (by go_simp) (by go_simp)
            obtain ⟨e0, e1, v0, v1, hz6⟩ := keepR hb5 (r := w2.heap.size) (c0 := .int .i64 (atoiV (cutT l))) (c1 := .int .i64 (atoiV (cutL l))) (by go_simp) (by go_simp) (by go_simp) (by go_simp)
            have hb7 : Below w.heap.size w (w3.setCell ⟨w2.heap.size, 1, none⟩ (.int .i64 (atoiV (cutL l)))) := hb.setCell (by show w.heap.size ≤ w2.heap.size; omega) _
            have hb := hb7.trans (hb5.mono hb7.size)
            clear hb5 hb7
            go_wp2_with fail
            refine bodyPost_ret (v := .tuple #[.agg #[.int .i64 0, .int .i64 0], .int .i64 30]) (by simp [results, Tryd.results22, go_sem, k0, k1]) rfl ?_
            exact ⟨ret_rat F.out.symm, (hb.setCell (Nat.le_refl _) _).setCell (Nat.le_refl _) _⟩
          · have F := Lib.hid (parseR_two hB hk hm (by simpa using ho) hi)
            go_enter Tryd.func22, Tryd.ntmps22
            go_wp2_with fail
            refine (Cut47_any l _ hG0.out hl).mono ?_
            rintro e w1 ⟨rfl, hb1⟩
            go_wp2_with fail
            refine (part_any (cutT l) _ (hG0.out.below hb1) hT).mono ?_
            rintro e w2 ⟨rfl, hb2⟩
            have hb := hb1.trans (hb2.mono hb1.size)
            obtain ⟨c0, c1, f0, f1, hz⟩ := keepR hb (r := w.heap.size) (c0 := .int .i64 0) (c1 := .int .i64 0) (by go_simp) (by go_simp) (by go_simp) (by go_simp)
            have hz : w.heap.size < w2.heap.size := hz
            have hG2 := Lib.hid (hG0.out.below hb)
            have hb := hW.out.trans (hb.mono hW.out.size)
            clear hb1 hb2
            have hb2 := below_alloc1 w2 (.cells #[.int .i64 (atoiV (cutT l)), .int .i64 1] 23)
            have hG3 := Lib.hid (hG2.out.below hb2)
            go_wp2_with fail
            refine (part_any (cutL l) _ hG3.out hL).mono ?_
            rintro e w3 ⟨rfl, hb3⟩
            have hb4 := hb2.trans (hb3.mono hb2.size)
            have c0 := cell_at_below hb4 _ _ _ c0
            have c1 := cell_at_below hb4 _ _ _ c1
            have f0 := free_at_below hb4 _ _ f0 (by omega)
            have f1 := free_at_below hb4 _ _ f1 (by omega)
            obtain ⟨d0, d1, g0, g1, hz3⟩ := keepR hb3 (r := w2.heap.size) (c0 := .int .i64 (atoiV (cutT l))) (c1 := .int .i64 1) (by go_simp) (by go_simp) (by go_simp) (by go_simp)
            have hne : ¬ w2.heap.size = w.heap.size := by omega
            have hne2 : ¬ w.heap.size = w2.heap.size := by omega
            have hb := hb.trans (hb4.mono hb.size)
            clear hb2 hb3 hb4
            go_wp2_with fail
            refine (Is_any (atoiV (cutT l)) (atoiV (cutL l)) _ hP.1 hP.2 hQ.1 hQ.2).mono ?_
            rintro e w5 ⟨rfl, hb5⟩
            obtain ⟨k0, k1, u0, u1, hz5⟩ := keepR hb5 (r := w.heap.size) (c0 := .int .i64 0) (c1 := .int .i64 0) (by go_simp) (by go_simp) (by go_simp) (by go_simp)
            obtain ⟨e0, e1, v0, v1, hz6⟩ := keepR hb5 (r := w2.heap.size) (c0 := .int .i64 (atoiV (cutT l))) (c1 := .int .i64 (atoiV (cutL l))) (by go_simp) (by go_simp) (by go_simp) (by go_simp)
            have hb7 : Below w.heap.size w (w3.setCell ⟨w2.heap.size, 1, none⟩ (.int .i64 (atoiV (cutL l)))) := hb.setCell (by show w.heap.size ≤ w2.heap.size; omega) _
            have hb := hb7.trans (hb5.mono hb7.size)
            clear hb5 hb7
            go_wp2_with fail
            refine bodyPost_ret (v := .tuple #[.agg #[.int .i64 (atoiV (cutT l)), .int .i64 (atoiV (cutL l))], .int .i64 0]) (by simp [results, Tryd.results22, go_sem, k0, k1]) rfl ?_
            exact ⟨ret_rat F.out.symm, (hb.setCell (Nat.le_refl _) _).setCell (Nat.le_refl _) _⟩
end Go.Proofs.YtdpmijmofeechaaDoor.TextW
