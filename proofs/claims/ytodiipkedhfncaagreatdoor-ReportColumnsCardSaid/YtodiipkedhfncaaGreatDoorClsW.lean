/- The columns of vectors, walked (report.Columns). -/
import Derived.Test.YtodiipkedhfncaaGreatDoorColW
import Derived.Test.YtodiipkedhfncaaGreatDoorVecW
namespace Go.Proofs.YtodiipkedhfncaaGreatDoor.ClsW
set_option linter.unusedVariables false
set_option linter.unusedSimpArgs false
open Go.RowKit Base BigZ RptN RptM RptO RptC WidX SeqM DevW ColW VecW
open VisW hiding ret_bool

/-- the columns of vectors -/
def colsL (l : List (List Int)) (dim : Int) : List Col := if l.length ≤ 256 ∧ 0 < l.length ∧ allV l dim = true then (List.range dim.toNat).map (fun k => colOf (colK l k)) else []
theorem cols_long {l : List (List Int)} {dim : Int} (h : 256 < l.length) : colsL l dim = [] ∧ colsE l dim = 3 := ⟨if_neg (fun k => by omega), if_pos h⟩
theorem cols_none {l : List (List Int)} {dim : Int} (h : l.length = 0) : colsL l dim = [] ∧ colsE l dim = 4 := ⟨if_neg (fun k => by omega), by unfold colsE; rw [if_neg (by omega), if_pos h]⟩
theorem cols_vec {l : List (List Int)} {dim : Int} (h0 : ¬ 256 < l.length) (h1 : ¬ l.length = 0) (h : allV l dim = false) : colsL l dim = [] ∧ colsE l dim = 80 := ⟨if_neg (fun k => by rw [h] at k; cases k.2.2), by unfold colsE; rw [if_neg h0, if_neg h1, h]; rfl⟩
theorem cols_yes {l : List (List Int)} {dim : Int} (h0 : ¬ 256 < l.length) (h1 : ¬ l.length = 0) (h : allV l dim = true) : colsL l dim = (List.range dim.toNat).map (fun k => colOf (colK l k)) ∧ colsE l dim = 0 := ⟨if_pos ⟨by omega, by omega, h⟩, by unfold colsE; rw [if_neg h0, if_neg h1, h]; rfl⟩
def ClPost (w : World) (l : List (List Int)) (dim : Int) (e : Ending) (w' : World) : Prop := (∃ u, e = .returned (.tuple #[u, .int .i64 (colsE l dim)]) ∧ w'.ownsRow w.heap.size 35 6 u (colsL l dim).length ((colsL l dim).flatMap colC)) ∧ Below w.heap.size w w'
theorem cl_none {w w' : World} {l : List (List Int)} {dim E : Int} (h : colsL l dim = [] ∧ colsE l dim = E) (hb : Below w.heap.size w w') : ClPost w l dim (.returned (.tuple #[.slice none 0 0, .int .i64 E])) w' :=
  ⟨⟨_, by rw [h.2], by rw [h.1]; exact World.ownsRow_nil _ _ _ _⟩, hb⟩
theorem elt69 : Elt Tryz.prog 69 3 (.int .i64 0) 1 8 := elt_mk (z := .int .i64 0) Tryz.underlying69 (by kernel_rfl) rfl (by omega) (by omega)
theorem eltC : Elt Tryz.prog 25 35 (.agg #[.int .i64 0, .int .i64 0, .int .i64 0, .int .i64 0, .int .u64 0, .int .u64 0]) 6 48 := elt_mk (z := .agg #[.int .i64 0, .int .i64 0, .int .i64 0, .int .i64 0, .int .u64 0, .int .u64 0]) Tryz.underlying25 (by kernel_rfl) rfl (by omega) (by omega)
theorem colK_snoc {l : List (List Int)} {i : Nat} {x : List Int} (hx : l[i]? = some x) (k : Nat) : colK (l.take (i + 1)) k = colK (l.take i) k ++ [x.getD k 0] := by
  unfold colK; rw [SeqM.take_next hx, List.map_append]; rfl
def C1Rel (l : List (List Int)) (dim : Int) (w : World) (i : Value) (wr : World) : Prop := ∃ k : Nat, k ≤ l.length ∧ i = .int .i64 k ∧ allV (l.take k) dim = true ∧ w = wr
def C2Rel (l : List (List Int)) (d : Nat) (w : World) (i o : Value) (wr : World) : Prop := ∃ k : Nat, k ≤ d ∧ i = .int .i64 k ∧
  wr.ownsRow w.heap.size 35 6 o k (((List.range k).map (fun k => colOf (colK l k))).flatMap colC) ∧ Below w.heap.size w wr
def C3Rel (l : List (List Int)) (k : Nat) (w : World) (i r : Value) (wr : World) : Prop := ∃ j : Nat, j ≤ l.length ∧ i = .int .i64 j ∧
  wr.ownsRow w.heap.size 3 1 r j ((colK (l.take j) k).map (Value.int .i64)) ∧ Below w.heap.size w wr
set_option maxRecDepth 100000 in
set_option maxHeartbeats 8000000 in
theorem Columns_any (v : Value) (l : List (List Int)) (dim : Int) (lo : Nat) (w : World) (h : Vecs w lo w.heap.size v l) :
    Calls Tryz.prog 10 #[v, .int .i64 dim] w (ClPost w l dim) := by
  have HS := Lib.hid h
  obtain ⟨A, cap, rfl, hc1, hc2, _⟩ := h.form
  obtain ⟨n, hn⟩ : ∃ n, l.length = n := ⟨_, rfl⟩
  have HN := Lib.hid hn
  rw [hn] at HS hc1 ⊢
  clear h hn
  by_cases h1 : 256 < n
  · have F := Lib.hid (cols_long (l := l) (dim := dim) (by rw [HN.out]; exact h1))
    have hb1 : (256 : Int) < (n : Int) := by omega
    go_enter Tryz.func10, Tryz.ntmps10
    go_wp2
    go_ret2
    exact cl_none F.out (Below.refl _ _)
  have hb1 : ¬ (256 : Int) < (n : Int) := by omega
  by_cases h2 : n = 0
  · have F := Lib.hid (cols_none (l := l) (dim := dim) (by rw [HN.out]; exact h2))
    subst h2
    go_enter Tryz.func10, Tryz.ntmps10
    go_wp2
    go_ret2
    exact cl_none F.out (Below.refl _ _)
  have hb2 : ((n : Int) == 0) = false := by simpa using (by omega : (n : Int) ≠ 0)
  go_enter Tryz.func10, Tryz.ntmps10
  go_wp2
  go_loopw [23] (fun i wr => C1Rel l dim w i wr) (fun i _ => n - (intOf i).toNat)
  case atStart => exact ⟨0, Nat.zero_le _, rfl, rfl, rfl⟩
  case round =>
    obtain ⟨k, hk, rfl, ht, rfl⟩ := hrel
    rw [HN.out] at hk
    have HT := Lib.hid ht
    clear ht
    by_cases hlt : k < n
    · obtain ⟨x, hx⟩ : ∃ x, l[k]? = some x := ⟨_, List.getElem?_eq_getElem (by rw [HN.out]; exact hlt)⟩
      obtain ⟨ad, cv, rfl, hbk, d0, hcv⟩ := HS.out.get hx
      have HX := Lib.hid (all_next hx (fun x => vecB x dim))
      clear hx
      go_wp2_with fail
      refine (VIs_any _ _ _ _ _ _ hcv).mono ?_
      rintro e w2 ⟨rfl, rfl⟩
      cases hv : vecB x dim
      · have HV := Lib.hid (show allV l dim = false by unfold allV; exact all_no (k := k + 1) (by rw [HX.out, hv]; simp))
        have F := Lib.hid (cols_vec (l := l) (dim := dim) (by rw [HN.out]; exact h1) (by rw [HN.out]; exact h2) HV.out)
        go_wp2_with fail
        go_ret2
        exact cl_none F.out (Below.refl _ _)
      · have HV := Lib.hid hv
        go_wp2_with fail
        exact ⟨⟨k + 1, by rw [HN.out]; omega, by go_num, by unfold allV; rw [HX.out, HV.out]; have := HT.out; unfold allV at this; rw [this]; rfl, rfl⟩, by simp [intOf]; omega⟩
    · have hkn : k = n := by omega
      have HA := Lib.hid (show allV l dim = true by
        have := HT.out
        rw [List.take_of_length_le (by rw [HN.out]; omega)] at this
        exact this)
      clear HT
      have HYES := Lib.hid (cols_yes (l := l) (dim := dim) (by rw [HN.out]; exact h1) (by rw [HN.out]; exact h2) HA.out)
      have hdim : 1 ≤ dim ∧ dim ≤ 8 := by
        obtain ⟨x, hx⟩ : ∃ x, l[0]? = some x := ⟨_, List.getElem?_eq_getElem (by rw [HN.out]; omega)⟩
        have := (vec_nm (allV_at HA.out hx)).1
        omega
      obtain ⟨d, hd⟩ : ∃ d : Nat, dim = (d : Int) := ⟨dim.toNat, by omega⟩
      subst hd
      have HD := Lib.hid hdim
      clear hdim
      subst hkn
      have HDD := Lib.hid (show (d : Int).toNat = d by omega)
      go_wp2_with fail
      rename World => w0
      go_loopw [33, 8] (fun i o wr => C2Rel l d w0 i o wr) (fun i _ _ => d - (intOf i).toNat)
      case atStart => exact ⟨0, Nat.zero_le _, rfl, World.ownsRow_nil _ _ _ _, Below.refl _ _⟩
      case round =>
        rename World => wo
        obtain ⟨j, hj, rfl, hown, hb⟩ := hrel
        have HO := Lib.hid hown
        have HB := Lib.hid hb
        clear hown hb
        have hd8 : d ≤ 8 := by have := HD.out; omega
        by_cases hlt2 : j < d
        · go_wp2_with (at_make; refine mk0 _ rfl (.const (.int .i64 0)) (.tmp 37) _ rfl elt69 k rfl (by rfl) (by omega) (by omega) ?_; intro w1 hown1 hb1)
          have HO1 := Lib.hid hown1
          have HB1 := Lib.hid hb1
          clear hown1 hb1
          go_loopw [41, 10] (fun i r wr => C3Rel l j wo i r wr) (fun i _ _ => k - (intOf i).toNat)
          case atStart => exact ⟨0, Nat.zero_le _, rfl, HO1.out, HB1.out⟩
          case round =>
            obtain ⟨i, hi, rfl, hrow, hbi⟩ := hrel
            rw [HN.out] at hi
            have HR := Lib.hid hrow
            have HBI := Lib.hid hbi
            have HBA := Lib.hid (show Below w0.heap.size w0 wr from HB.out.trans (hbi.mono HB.out.size))
            clear hrow hbi
            by_cases hlt3 : i < k
            · obtain ⟨x, hx⟩ : ∃ x, l[i]? = some x := ⟨_, List.getElem?_eq_getElem (by rw [HN.out]; exact hlt3)⟩
              obtain ⟨ad, cv, rfl, hbk, d0, hcv⟩ := (HS.out.up HBA.out).get hx
              have hxl : j < x.length := by have := (vec_nm (allV_at HA.out hx)).1; omega
              have HX := Lib.hid (colK_snoc hx j)
              obtain ⟨AX, cx, rfl, hcx1, hcx2, hrx, _⟩ := hcv
              unfold maxLen at hcx2
              obtain ⟨ax, y, rfl, _, hbx, hy, e0⟩ := rdI hrx hxl
              have HY := Lib.hid (show x.getD j 0 = y by rw [List.getD_eq_getElem?_getD, hy]; rfl)
              clear hx hrx hy
              obtain ⟨xn, hxn⟩ : ∃ xn, x.length = xn := ⟨_, rfl⟩
              rw [hxn] at d0 hcx1 hxl
              clear hxn
              go_wp2_with (at_builtin; refine listS rfl (.tmp 45) (.tmp 50) _ rfl elt69 wo.heap.size wr.heap.size _ _ i 1 _ _ rfl (HR.out.alloc _) rfl (own_one wr #[.int .i64 y] _ 1 rfl) (by simp [Value.oneCell']) (by omega) (by omega) (by have := HBI.out.size; simp; omega) ?_; intro r' w3 hown3 hg3)
              exact ⟨⟨i + 1, by rw [HN.out]; omega, by go_num, by rw [HX.out, HY.out, List.map_append]; exact hown3, below_own (HBI.out.alloc HBI.out.size _) (HR.out.alloc _) hg3 (Nat.le_refl _) (by have := HBI.out.size; simp; omega)⟩, by simp [intOf]; omega⟩
            · obtain rfl : i = k := by omega
              have hrow := HR.out
              rw [List.take_of_length_le (by rw [HN.out]; omega)] at hrow
              have hlen : (colK l j).length = i := by rw [colK_length, HN.out]
              have HCOL := Lib.hid (column_any _ (colK l j) wo.heap.size wr (by rw [hlen]; exact hrow) (by omega) (colK_nm HA.out (by omega)) (by omega))
              have HSU := Lib.hid (show ((List.range (j + 1)).map (fun k => colOf (colK l k))).flatMap colC = ((List.range j).map (fun k => colOf (colK l k))).flatMap colC ++ colC (colOf (colK l j)) by
                rw [List.range_succ, List.map_append, List.flatMap_append]; simp)
              clear hrow hlen
              go_wp2_with fail
              refine HCOL.out.mono ?_
              rintro e w5 ⟨rfl, hb5⟩
              have HB5 := Lib.hid hb5
              have HO5 := Lib.hid (own_below (own_below HO.out HBI.out) hb5)
              have HW5 := Lib.hid (show Below w0.heap.size w0 w5 from bt hb5 HBA.out)
              clear hb5 HCOL
              generalize colOf (colK l j) = c at *
              obtain ⟨a1, a2, a3, a4, a5⟩ := c
              unfold CV
              unfold colC at HSU ⊢
              generalize hiW a5 = a6 at *
              generalize loW a5 = a7 at *
              go_wp2_with (at_builtin; refine listS rfl (.tmp 53) (.tmp 56) _ rfl eltC w0.heap.size w5.heap.size _ _ j 1 _ _ rfl (HO5.out.alloc _) rfl (own_one w5 #[.int .i64 a1, .int .i64 a2, .int .i64 a3, .int .i64 a4, .int .u64 a6, .int .u64 a7] _ 6 rfl) (by simp [Value.oneCell']) (by omega) (by have := HD.out; omega) (by have := HW5.out.size; simp; omega) ?_; intro r' w6 hown6 hg6)
              exact ⟨⟨j + 1, by omega, by go_num, by unfold colC; rw [HSU.out]; exact hown6, below_own (HW5.out.alloc HW5.out.size _) (HO5.out.alloc _) hg6 (Nat.le_refl _) (by have := HW5.out.size; simp; omega)⟩, by simp [intOf]; omega⟩
        · obtain rfl : j = d := by omega
          go_wp2
          go_ret2
          refine ⟨⟨u8, by rw [HYES.out.2]; rfl, ?_⟩, HB.out⟩
          rw [HYES.out.1, HDD.out, List.length_map, List.length_range]
          exact HO.out
end Go.Proofs.YtodiipkedhfncaaGreatDoor.ClsW
