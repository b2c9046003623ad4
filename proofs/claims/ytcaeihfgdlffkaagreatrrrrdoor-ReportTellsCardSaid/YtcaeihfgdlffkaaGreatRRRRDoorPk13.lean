/- Lists of vectors in memory; the document's Much over them (lines of ShpU). -/
import Derived.Test.YtcaeihfgdlffkaaGreatRRRRDoorPk12
import Derived.Test.YtcaeihfgdlffkaaGreatRRRRDoorPk09
import Derived.Test.YtcaeihfgdlffkaaGreatRRRRDoorPk06
import Derived.Test.YtcaeihfgdlffkaaGreatRRRRDoorPk08
namespace Go.Proofs.YtcaeihfgdlffkaaGreatRRRRDoor.VecW
set_option linter.unusedVariables false
open Go.RowKit Base SeqM RptC
open VisW hiding ret_bool

theorem any_no {α : Type} {l : List α} {k : Nat} {f : α → Bool} (h : (l.take k).any f = true) : l.any f = true := by
  rw [List.any_eq_true] at h ⊢
  obtain ⟨x, hx, hf⟩ := h
  exact ⟨x, List.mem_of_mem_take hx, hf⟩
theorem any_next {α : Type} {l : List α} {k : Nat} {x : α} (h : l[k]? = some x) (f : α → Bool) : (l.take (k + 1)).any f = ((l.take k).any f || f x) := by
  rw [SeqM.take_next h, List.any_append]; simp
def IRel (n : Nat) (p : Nat → Prop) (w : World) (i : Value) (wr : World) : Prop := ∃ k : Nat, k ≤ n ∧ i = .int .i64 k ∧ p k ∧ w = wr
/-! ### Lists of vectors -/
def vcC (r : Value × List Int) : List Value := [r.1]
theorem vcC_len (r : Value × List Int) : (vcC r).length = 1 := rfl
def Vecs (w : World) (lo B : Nat) (v : Value) (l : List (List Int)) : Prop := ∃ rs : List (Value × List Int), rs.map (·.2) = l ∧ Seq 1 vcC w lo B v rs ∧ ∀ r ∈ rs, Seq 1 inC w lo B r.1 r.2
theorem Vecs.below {w w' : World} {lo B : Nat} {v : Value} {l : List (List Int)} (h : Vecs w lo B v l) (hb : Below B w w') : Vecs w' lo B v l := by
  obtain ⟨rs, h1, h2, h3⟩ := h
  exact ⟨rs, h1, h2.below hb, fun r hr => (h3 r hr).below hb⟩
theorem Vecs.more {w : World} {lo lo' B B' : Nat} {v : Value} {l : List (List Int)} (h : Vecs w lo B v l) (hl : lo' ≤ lo) (hB : B ≤ B') : Vecs w lo' B' v l := by
  obtain ⟨rs, h1, h2, h3⟩ := h
  exact ⟨rs, h1, h2.more hl hB, fun r hr => (h3 r hr).more hl hB⟩
theorem Vecs.up {w w' : World} {lo : Nat} {v : Value} {l : List (List Int)} (h : Vecs w lo w.heap.size v l) (hb : Below w.heap.size w w') : Vecs w' lo w'.heap.size v l := (h.below hb).more (Nat.le_refl _) hb.size
theorem Vecs.form {w : World} {lo B : Nat} {v : Value} {l : List (List Int)} (h : Vecs w lo B v l) : ∃ A cap, v = .slice A l.length cap ∧ l.length ≤ cap ∧ cap ≤ 9223372036854775807 ∧ (A = none → cap = 0) := by
  obtain ⟨rs, rfl, ⟨A, cap, e, h1, h2, _, h4⟩, _⟩ := h
  unfold maxLen at h2
  exact ⟨A, cap, by simpa using e, by simpa using h1, by omega, h4⟩
theorem Vecs.get {w : World} {lo B : Nat} {A : Option Addr} {n cap : Nat} {l : List (List Int)} (h : Vecs w lo B (.slice A n cap) l) {i : Nat} {x : List Int} (hx : l[i]? = some x) :
    ∃ (ad : Addr) (cv : Value), A = some ad ∧ ad.block < B ∧ w.cell? (ad.add i) = some cv ∧ Seq 1 inC w lo B cv x := by
  obtain ⟨rs, rfl, ⟨A', cap', e, _, _, hr, _⟩, hc⟩ := h
  obtain ⟨rfl, _⟩ : A = A' ∧ True := by injection e with e1; exact ⟨e1, trivial⟩
  rw [List.getElem?_map] at hx
  obtain ⟨r, hr1, rfl⟩ := Option.map_eq_some_iff.1 hx
  obtain ⟨ad, y, rfl, _, hb, hy, hcell⟩ := rdk vcC_len hr (List.getElem?_eq_some_iff.1 hr1).1
  rw [hr1] at hy
  obtain rfl := Option.some.inj hy
  exact ⟨ad, r.1, rfl, hb, by simpa using hcell 0 _ rfl, hc r (List.mem_of_getElem? hr1)⟩
end Go.Proofs.YtcaeihfgdlffkaaGreatRRRRDoor.VecW

/- The columns of vectors, walked (report.Columns). -/
namespace Go.Proofs.YtcaeihfgdlffkaaGreatRRRRDoor.ClsW
set_option linter.unusedVariables false
set_option linter.unusedSimpArgs false
open Go.RowKit Base BigZ RptN RptM RptO RptC WidX SeqM DevW ColW VecW
open VisW hiding ret_bool

/-- the columns of vectors -/
def colsL (l : List (List Int)) (dim : Int) : List Col := if l.length ≤ 256 ∧ 0 < l.length ∧ allV l dim = true then (List.range dim.toNat).map (fun k => colOf (colK l k)) else []
theorem cols_long {l : List (List Int)} {dim : Int} (h : 256 < l.length) : colsL l dim = [] ∧ colsE l dim = 3 := ⟨if_neg (fun k => by omega), if_pos h⟩
theorem cols_none {l : List (List Int)} {dim : Int} (h : l.length = 0) : colsL l dim = [] ∧ colsE l dim = 4 := ⟨if_neg (fun k => by omega), by unfold colsE; rw [if_neg (by omega), if_pos h]⟩
theorem cols_vec {l : List (List Int)} {dim : Int} (h0 : ¬ 256 < l.length) (h1 : ¬ l.length = 0) (h : allV l dim = false) : colsL l dim = [] ∧ colsE l dim = 80 := ⟨if_neg (fun k => by rw [h] at k; cases k.2.2), by unfold colsE; rw [if_neg h0, if_neg h1, h]; rfl⟩
theorem cols_yes {l : List (List Int)} {dim : Int} (h0 : ¬ 256 < l.length) (h1 : ¬ l.length = 0) (h : allV l dim = true) : colsL l dim = (List.range dim.toNat).map (fun k => colOf (colK l k)) ∧ colsE l dim = 0 := ⟨if_pos ⟨by omega, by omega, h⟩, by unfold colsE; rw [if_neg h0, if_neg h1, h]; rfl⟩
def ClPost (w : World) (l : List (List Int)) (dim : Int) (e : Ending) (w' : World) : Prop := (∃ u, e = .returned (.tuple #[u, .int .i64 (colsE l dim)]) ∧ w'.ownsRow w.heap.size 51 6 u (colsL l dim).length ((colsL l dim).flatMap colC)) ∧ Below w.heap.size w w'
theorem cl_none {w w' : World} {l : List (List Int)} {dim E : Int} (h : colsL l dim = [] ∧ colsE l dim = E) (hb : Below w.heap.size w w') : ClPost w l dim (.returned (.tuple #[.slice none 0 0, .int .i64 E])) w' :=
  ⟨⟨_, by rw [h.2], by rw [h.1]; exact World.ownsRow_nil _ _ _ _⟩, hb⟩
theorem elt69 : Elt Tryz.prog 77 3 (.int .i64 0) 1 8 := elt_mk (z := .int .i64 0) Tryz.underlying77 (by kernel_rfl) rfl (by omega) (by omega)
theorem eltC : Elt Tryz.prog 31 51 (.agg #[.int .i64 0, .int .i64 0, .int .i64 0, .int .i64 0, .int .u64 0, .int .u64 0]) 6 48 := elt_mk (z := .agg #[.int .i64 0, .int .i64 0, .int .i64 0, .int .i64 0, .int .u64 0, .int .u64 0]) Tryz.underlying31 (by kernel_rfl) rfl (by omega) (by omega)
theorem colK_snoc {l : List (List Int)} {i : Nat} {x : List Int} (hx : l[i]? = some x) (k : Nat) : colK (l.take (i + 1)) k = colK (l.take i) k ++ [x.getD k 0] := by
  unfold colK; rw [SeqM.take_next hx, List.map_append]; rfl
def C1Rel (l : List (List Int)) (dim : Int) (w : World) (i : Value) (wr : World) : Prop := ∃ k : Nat, k ≤ l.length ∧ i = .int .i64 k ∧ allV (l.take k) dim = true ∧ w = wr
def C2Rel (l : List (List Int)) (d : Nat) (w : World) (i o : Value) (wr : World) : Prop := ∃ k : Nat, k ≤ d ∧ i = .int .i64 k ∧
  wr.ownsRow w.heap.size 51 6 o k (((List.range k).map (fun k => colOf (colK l k))).flatMap colC) ∧ Below w.heap.size w wr
def C3Rel (l : List (List Int)) (k : Nat) (w : World) (i r : Value) (wr : World) : Prop := ∃ j : Nat, j ≤ l.length ∧ i = .int .i64 j ∧
  wr.ownsRow w.heap.size 3 1 r j ((colK (l.take j) k).map (Value.int .i64)) ∧ Below w.heap.size w wr
set_option maxRecDepth 100000 in
set_option maxHeartbeats 8000000 in
theorem Columns_any (v : Value) (l : List (List Int)) (dim : Int) (lo : Nat) (w : World) (h : Vecs w lo w.heap.size v l) :
    Calls Tryz.prog 13 #[v, .int .i64 dim] w (ClPost w l dim) := by
  have HS := Lib.hid h
  obtain ⟨A, cap, rfl, hc1, hc2, _⟩ := h.form
  obtain ⟨n, hn⟩ : ∃ n, l.length = n := ⟨_, rfl⟩
  have HN := Lib.hid hn
  rw [hn] at HS hc1 ⊢
  clear h hn
  by_cases h1 : 256 < n
  · have F := Lib.hid (cols_long (l := l) (dim := dim) (by rw [HN.out]; exact h1))
    have hb1 : (256 : Int) < (n : Int) := by omega
    go_enter Tryz.func13, Tryz.ntmps13
    go_wp2
    go_ret2
    exact cl_none F.out (Below.refl _ _)
  have hb1 : ¬ (256 : Int) < (n : Int) := by omega
  by_cases h2 : n = 0
  · have F := Lib.hid (cols_none (l := l) (dim := dim) (by rw [HN.out]; exact h2))
    subst h2
    go_enter Tryz.func13, Tryz.ntmps13
    go_wp2
    go_ret2
    exact cl_none F.out (Below.refl _ _)
  have hb2 : ((n : Int) == 0) = false := by simpa using (by omega : (n : Int) ≠ 0)
  go_enter Tryz.func13, Tryz.ntmps13
  go_wp2
  go_loopw [23] (fun i wr => C1Rel l dim w i wr) (fun i _ => n - (intOf i).toNat)
  case atStart => exact ⟨0, Nat.zero_le _, rfl, rfl, rfl⟩
  case round =>
    obtain ⟨k, hk, rfl, ht, rfl⟩ := hrel
    rw [HN.out] at hk
    have HT := Lib.hid ht
    clear ht
    by_cases hlt : k < n
    · obtain ⟨x, hx⟩ : ∃ x, l[k]? = some x := ⟨_, List.getElem?_eq_getElem (by rw [HN.out]; exact hlt)⟩
      obtain ⟨ad, cv, rfl, hbk, d0, hcv⟩ := HS.out.get hx
      have HX := Lib.hid (all_next hx (fun x => vecB x dim))
      clear hx
      go_wp2_with fail
      refine (VIs_any _ _ _ _ _ _ hcv).mono ?_
      rintro e w2 ⟨rfl, rfl⟩
      cases hv : vecB x dim
      · have HV := Lib.hid (show allV l dim = false by unfold allV; exact all_no (k := k + 1) (by rw [HX.out, hv]; simp))
        have F := Lib.hid (cols_vec (l := l) (dim := dim) (by rw [HN.out]; exact h1) (by rw [HN.out]; exact h2) HV.out)
        go_wp2_with fail
        go_ret2
        exact cl_none F.out (Below.refl _ _)
      · have HV := Lib.hid hv
        go_wp2_with fail
        exact ⟨⟨k + 1, by rw [HN.out]; omega, by go_num, by unfold allV; rw [HX.out, HV.out]; have := HT.out; unfold allV at this; rw [this]; rfl, rfl⟩, by simp [intOf]; omega⟩
    · have hkn : k = n := by omega
      have HA := Lib.hid (show allV l dim = true by
        have := HT.out
        rw [List.take_of_length_le (by rw [HN.out]; omega)] at this
        exact this)
      clear HT
      have HYES := Lib.hid (cols_yes (l := l) (dim := dim) (by rw [HN.out]; exact h1) (by rw [HN.out]; exact h2) HA.out)
      have hdim : 1 ≤ dim ∧ dim ≤ 8 := by
        obtain ⟨x, hx⟩ : ∃ x, l[0]? = some x := ⟨_, List.getElem?_eq_getElem (by rw [HN.out]; omega)⟩
        have := (vec_nm (allV_at HA.out hx)).1
        omega
      obtain ⟨d, hd⟩ : ∃ d : Nat, dim = (d : Int) := ⟨dim.toNat, by omega⟩
      subst hd
      have HD := Lib.hid hdim
      clear hdim
      subst hkn
      have HDD := Lib.hid (show (d : Int).toNat = d by omega)
      go_wp2_with fail
      rename World => w0
      go_loopw [33, 8] (fun i o wr => C2Rel l d w0 i o wr) (fun i _ _ => d - (intOf i).toNat)
      case atStart => exact ⟨0, Nat.zero_le _, rfl, World.ownsRow_nil _ _ _ _, Below.refl _ _⟩
      case round =>
        rename World => wo
        obtain ⟨j, hj, rfl, hown, hb⟩ := hrel
        have HO := Lib.hid hown
        have HB := Lib.hid hb
        clear hown hb
        have hd8 : d ≤ 8 := by have := HD.out; omega
        by_cases hlt2 : j < d
        · go_wp2_with (at_make; refine mk0 _ rfl (.const (.int .i64 0)) (.tmp 37) _ rfl elt69 k rfl (by rfl) (by omega) (by omega) ?_; intro w1 hown1 hb1)
          have HO1 := Lib.hid hown1
          have HB1 := Lib.hid hb1
          clear hown1 hb1
          go_loopw [41, 10] (fun i r wr => C3Rel l j wo i r wr) (fun i _ _ => k - (intOf i).toNat)
          case atStart => exact ⟨0, Nat.zero_le _, rfl, HO1.out, HB1.out⟩
          case round =>
            obtain ⟨i, hi, rfl, hrow, hbi⟩ := hrel
            rw [HN.out] at hi
            have HR := Lib.hid hrow
            have HBI := Lib.hid hbi
            have HBA := Lib.hid (show Below w0.heap.size w0 wr from HB.out.trans (hbi.mono HB.out.size))
            clear hrow hbi
            by_cases hlt3 : i < k
            · obtain ⟨x, hx⟩ : ∃ x, l[i]? = some x := ⟨_, List.getElem?_eq_getElem (by rw [HN.out]; exact hlt3)⟩
              obtain ⟨ad, cv, rfl, hbk, d0, hcv⟩ := (HS.out.up HBA.out).get hx
              have hxl : j < x.length := by have := (vec_nm (allV_at HA.out hx)).1; omega
              have HX := Lib.hid (colK_snoc hx j)
              obtain ⟨AX, cx, rfl, hcx1, hcx2, hrx, _⟩ := hcv
              unfold maxLen at hcx2
              obtain ⟨ax, y, rfl, _, hbx, hy, e0⟩ := rdI hrx hxl
              have HY := Lib.hid (show x.getD j 0 = y by rw [List.getD_eq_getElem?_getD, hy]; rfl)
              clear hx hrx hy
              obtain ⟨xn, hxn⟩ : ∃ xn, x.length = xn := ⟨_, rfl⟩
              rw [hxn] at d0 hcx1 hxl
              clear hxn
              go_wp2_with (at_builtin; refine listS rfl (.tmp 45) (.tmp 50) _ rfl elt69 wo.heap.size wr.heap.size _ _ i 1 _ _ rfl (HR.out.alloc _) rfl (own_one wr #[.int .i64 y] _ 1 rfl) (by simp [Value.oneCell']) (by omega) (by omega) (by have := HBI.out.size; simp; omega) ?_; intro r' w3 hown3 hg3)
              exact ⟨⟨i + 1, by rw [HN.out]; omega, by go_num, by rw [HX.out, HY.out, List.map_append]; exact hown3, below_own (HBI.out.alloc HBI.out.size _) (HR.out.alloc _) hg3 (Nat.le_refl _) (by have := HBI.out.size; simp; omega)⟩, by simp [intOf]; omega⟩
            · obtain rfl : i = k := by omega
              have hrow := HR.out
              rw [List.take_of_length_le (by rw [HN.out]; omega)] at hrow
              have hlen : (colK l j).length = i := by rw [colK_length, HN.out]
              have HCOL := Lib.hid (column_any _ (colK l j) wo.heap.size wr (by rw [hlen]; exact hrow) (by omega) (colK_nm HA.out (by omega)) (by omega))
              have HSU := Lib.hid (show ((List.range (j + 1)).map (fun k => colOf (colK l k))).flatMap colC = ((List.range j).map (fun k => colOf (colK l k))).flatMap colC ++ colC (colOf (colK l j)) by
                rw [List.range_succ, List.map_append, List.flatMap_append]; simp)
              clear hrow hlen
              go_wp2_with fail
              refine HCOL.out.mono ?_
              rintro e w5 ⟨rfl, hb5⟩
              have HB5 := Lib.hid hb5
              have HO5 := Lib.hid (own_below (own_below HO.out HBI.out) hb5)
              have HW5 := Lib.hid (show Below w0.heap.size w0 w5 from bt hb5 HBA.out)
              clear hb5 HCOL
              generalize colOf (colK l j) = c at *
              obtain ⟨a1, a2, a3, a4, a5⟩ := c
              unfold CV
              unfold colC at HSU ⊢
              generalize hiW a5 = a6 at *
              generalize loW a5 = a7 at *
              go_wp2_with (at_builtin; refine listS rfl (.tmp 53) (.tmp 56) _ rfl eltC w0.heap.size w5.heap.size _ _ j 1 _ _ rfl (HO5.out.alloc _) rfl (own_one w5 #[.int .i64 a1, .int .i64 a2, .int .i64 a3, .int .i64 a4, .int .u64 a6, .int .u64 a7] _ 6 rfl) (by simp [Value.oneCell']) (by omega) (by have := HD.out; omega) (by have := HW5.out.size; simp; omega) ?_; intro r' w6 hown6 hg6)
              exact ⟨⟨j + 1, by omega, by go_num, by unfold colC; rw [HSU.out]; exact hown6, below_own (HW5.out.alloc HW5.out.size _) (HO5.out.alloc _) hg6 (Nat.le_refl _) (by have := HW5.out.size; simp; omega)⟩, by simp [intOf]; omega⟩
        · obtain rfl : j = d := by omega
          go_wp2
          go_ret2
          refine ⟨⟨u8, by rw [HYES.out.2]; rfl, ?_⟩, HB.out⟩
          rw [HYES.out.1, HDD.out, List.length_map, List.length_range]
          exact HO.out
end Go.Proofs.YtcaeihfgdlffkaaGreatRRRRDoor.ClsW

/- How many scores have a level of so many hundreds: what both answer; counts in the memory. -/
namespace Go.Proofs.YtcaeihfgdlffkaaGreatRRRRDoor.LevM
set_option linter.unusedVariables false
set_option linter.unusedSimpArgs false
open Go.RowKit Base BigZ RptM RptO ScoX SeqM HarmM

def scC (x : Int × Int) : List Value := [.int .i64 x.1, .int .i64 x.2]
theorem scC_len (x : Int × Int) : (scC x).length = 2 := rfl
def Fits2 (l : List (Int × Int)) : Prop := ∀ x ∈ l, Fit x.1 x.2
theorem lvl_bd {p q n : Int} (h : isS p q = true) (h1 : 2 ≤ n) (h2 : n ≤ 64) : 0 ≤ lvl p q n ∧ lvl p q n ≤ 1000 := by
  obtain ⟨s1, s2, s3, s4, _⟩ := isS_true h
  have hcb := c_bd (norm_pos (n := n) (by omega) (by omega)) s1 s2
  unfold lvl
  generalize norm n * q = C at *
  exact ⟨Int.ediv_nonneg (by omega) (by omega), by
    have := Int.ediv_le_of_le_mul (a := C * 1000) (b := 1000) (c := C + p) (by omega) (by omega)
    omega⟩
def hund (n p q : Int) : Nat := (lvl p q n / 100).toNat
theorem hund_lt {p q n : Int} (h : isS p q = true) (h1 : 2 ≤ n) (h2 : n ≤ 64) : hund n p q < 11 := by
  have := lvl_bd h h1 h2
  unfold hund; omega
def zeros : List Int := List.replicate 11 0
def levV (l : List (Int × Int)) (n : Int) : Option (List Int) := if 2 ≤ n ∧ n ≤ 64 then lev isS (hund n) zeros l else none
def levL (l : List (Int × Int)) (n : Int) : List Int := (levV l n).getD []
def levE (l : List (Int × Int)) (n : Int) : Int := if 2 ≤ n ∧ n ≤ 64 then (if (lev isS (hund n) zeros l).isSome then 0 else 130) else 1
theorem lev_arg {l : List (Int × Int)} {n : Int} (h : ¬ (2 ≤ n ∧ n ≤ 64)) : levL l n = [] ∧ levE l n = 1 := by unfold levL levE levV; rw [if_neg h, if_neg h]; exact ⟨rfl, rfl⟩
theorem lev_no {l : List (Int × Int)} {n : Int} (h : 2 ≤ n ∧ n ≤ 64) (hl : lev isS (hund n) zeros l = none) : levL l n = [] ∧ levE l n = 130 := by unfold levL levE levV; rw [if_pos h, if_pos h, hl]; exact ⟨rfl, rfl⟩
theorem lev_yes {l : List (Int × Int)} {n : Int} {o : List Int} (h : 2 ≤ n ∧ n ≤ 64) (hl : lev isS (hund n) zeros l = some o) : levL l n = o ∧ levE l n = 0 := by unfold levL levE levV; rw [if_pos h, if_pos h, hl]; exact ⟨rfl, rfl⟩
theorem lev_cut {l : List (Int × Int)} {n : Int} {k : Nat} (h : lev isS (hund n) zeros (l.take k) = none) : lev isS (hund n) zeros l = none := by
  rw [← List.take_append_drop k l]; exact lev_take_none h
/-- counts in a block of one's own -/
structure Cnt (w : World) (b : Nat) (l : List Int) : Prop where
  len : l.length = 11
  lt : b < w.heap.size
  cell : ∀ j x, l[j]? = some x → w.cell? ⟨b, j, none⟩ = some (.int .i64 x)
  free : ∀ j, j < 11 → w.frozen? ⟨b, j, none⟩ = false
theorem Cnt.below {w w' : World} {b : Nat} {l : List Int} (h : Cnt w b l) (hb : Below w.heap.size w w') : Cnt w' b l :=
  ⟨h.len, Nat.lt_of_lt_of_le h.lt hb.size, fun j x hx => cell_at_below hb _ _ _ (h.cell j x hx), fun j hj => free_at_below hb _ _ (h.free j hj) h.lt⟩
theorem Cnt.bump {w : World} {b k : Nat} {l : List Int} {x : Int} (h : Cnt w b l) (hk : l[k]? = some x) : Cnt (w.setCell ⟨b, k, none⟩ (.int .i64 (x + 1))) b (bump l k) := by
  have hlt : k < l.length := (List.getElem?_eq_some_iff.1 hk).1
  have he : RptO.bump l k = l.set k (x + 1) := by unfold RptO.bump; rw [List.getD_eq_getElem?_getD, hk]; rfl
  refine ⟨by rw [bump_length]; exact h.len, by simpa using h.lt, fun j y hy => ?_, fun j hj => by rw [World.frozen?_setCell]; exact h.free j hj⟩
  rw [he] at hy
  by_cases hjk : j = k
  · subst hjk
    rw [List.getElem?_set_self hlt] at hy
    cases hy
    exact World.cell?_setCell_same' _ _ _ (by rw [h.cell j x hk]; rfl)
  · rw [List.getElem?_set_ne (fun e => hjk e.symm)] at hy
    rw [World.cell?_setCell_other (h := fun e => hjk (by injection e with _ e2; exact e2.symm))]
    exact h.cell j y hy
theorem Cnt.seq {w : World} {b : Nat} {l : List Int} (h : Cnt w b l) (lo : Nat) (hlo : lo ≤ b) : Seq 1 inC w lo w.heap.size (.slice (some ⟨b, 0, none⟩) 11 11) l := by
  refine ⟨some ⟨b, 0, none⟩, 11, by rw [h.len], by rw [h.len]; omega, by unfold maxLen; omega, ⟨by rw [flat_len inC_len], fun _ => ⟨⟨b, 0, none⟩, rfl, hlo, h.lt, fun j u hu => ?_⟩⟩, fun e => by cases e⟩
  obtain ⟨x, hx, hu'⟩ := flat_get inC_len (by omega) l j u hu
  rw [Nat.div_one] at hx
  have : u = .int .i64 x := by
    rw [Nat.mod_one] at hu'
    simp [inC] at hu'
    exact hu'.symm
  rw [this]
  have := h.cell j x hx
  unfold Addr.add
  split
  · rename_i hj; subst hj; exact this
  · simpa using this
end Go.Proofs.YtcaeihfgdlffkaaGreatRRRRDoor.LevM

/- report.Levels and the document's, walked (printed by mklev.py). -/
namespace Go.Proofs.YtcaeihfgdlffkaaGreatRRRRDoor.LevW
set_option linter.unusedVariables false
set_option linter.unusedSimpArgs false
open Go.RowKit Base BigM BigW BigZ RptM RptO ScoX SeqM HarmM LevM

def LvPost (w : World) (l : List (Int × Int)) (n : Int) (e : Ending) (w' : World) : Prop := (∃ u, e = .returned (.tuple #[u, .int .i64 (levE l n)]) ∧ Seq 1 inC w' w.heap.size w'.heap.size u (levL l n)) ∧ Below w.heap.size w w'
theorem lv_none {w w' : World} {l : List (Int × Int)} {n E : Int} (h : levL l n = [] ∧ levE l n = E) (hb : Below w.heap.size w w') : LvPost w l n (.returned (.tuple #[.slice none 0 0, .int .i64 E])) w' :=
  ⟨⟨_, by rw [h.2], by rw [h.1]; exact Seq.nil_⟩, hb⟩
theorem lv_some {w w' : World} {l : List (Int × Int)} {n : Int} {o : List Int} {b : Nat} (h : levL l n = o ∧ levE l n = 0) (hc : Cnt w' b o) (hlo : w.heap.size ≤ b) (hb : Below w.heap.size w w') : LvPost w l n (.returned (.tuple #[.slice (some ⟨b, 0, none⟩) 11 11, .int .i64 0])) w' :=
  ⟨⟨_, by rw [h.2], by rw [h.1]; exact hc.seq _ hlo⟩, hb⟩
def LvRel (l : List (Int × Int)) (n : Int) (w : World) (i : Value) (wr : World) : Prop := ∃ (k : Nat) (o : List Int), k ≤ l.length ∧ i = .int .i64 (k : Int) ∧ lev isS (hund n) zeros (l.take k) = some o ∧ Cnt wr w.heap.size o ∧ Below w.heap.size w wr
theorem lv_level {p q n : Int} (h : 2 ≤ n ∧ n ≤ 64) (hs : isS p q = true) : ∃ m : Int, levelV p q n = m ∧ levelE p q n = 0 ∧ (0 ≤ m ∧ m ≤ 1000) ∧ ∃ c : Nat, c < 11 ∧ m / 100 = (c : Int) ∧ hund n p q = c := by
  have h1 := level_yes h hs
  have h2 := lvl_bd hs h.1 h.2
  refine ⟨_, h1.1, h1.2, h2, hund n p q, hund_lt hs h.1 h.2, ?_, rfl⟩
  unfold hund
  omega
theorem eltL : Elt Tryz.prog 32 3 (.int .i64 0) 1 8 := elt_mk (z := .int .i64 0) Tryz.underlying32 (by kernel_rfl) rfl (by omega) (by omega)
theorem cnt_zeros {w w' : World} (hown : w'.ownsRow w.heap.size 3 1 (.slice (some ⟨w.heap.size, 0, none⟩) 11 11) 11 (List.replicate 11 (.int .i64 0))) : Cnt w' w.heap.size zeros := by
  rcases hown.2 with ⟨h0, _⟩ | ⟨g, cap, cur, he, hb, hg, h1, h2, h3, h4⟩
  · cases h0
  · cases he
    have hs : cur.size = 11 := by omega
    have hc : cur.toList = List.replicate 11 (.int .i64 0) := by rw [← h4]; exact (List.take_of_length_le (by simp; omega)).symm
    refine ⟨rfl, (Array.getElem?_eq_some_iff.1 hg).1, fun j x hx => ?_, fun j hj => ?_⟩
    · have hj : j < 11 := (List.getElem?_eq_some_iff.1 hx).1
      have hx' : x = 0 := by
        unfold zeros at hx
        rw [List.getElem?_replicate, if_pos hj] at hx
        exact (Option.some.inj hx).symm
      subst hx'
      have : cur[j]? = some (.int .i64 0) := by
        rw [← Array.getElem?_toList, hc, List.getElem?_replicate, if_pos hj]
      simp [World.cell?, hg, this]
    · simp [World.frozen?, hg]
set_option maxHeartbeats 4000000 in
theorem Levels_any (v : Value) (l : List (Int × Int)) (n : Int) (w : World) (h : Seq 2 scC w 0 w.heap.size v l) (hf : Fits2 l) :
    Calls Tryz.prog 15 #[v, .int .i64 n] w (LvPost w l n) := by
  obtain ⟨A, cap, rfl, hc1, hc2, hr, _⟩ := h
  unfold maxLen at hc2
  have HR := Lib.hid hr
  have HF := Lib.hid hf
  obtain ⟨m, hm⟩ : ∃ m, l.length = m := ⟨_, rfl⟩
  rw [hm] at hc1 ⊢
  have HM := Lib.hid hm
  clear hr hf hm
  by_cases h1 : n < 2
  · have F := Lib.hid (lev_arg (l := l) (n := n) (by omega))
    go_enter Tryz.func15, Tryz.ntmps15
    go_wp2
    go_ret2
    exact lv_none F.out (Below.refl _ _)
  by_cases h2 : 64 < n
  · have F := Lib.hid (lev_arg (l := l) (n := n) (by omega))
    go_enter Tryz.func15, Tryz.ntmps15
    go_wp2
    go_ret2
    exact lv_none F.out (Below.refl _ _)
  have hn : 2 ≤ n ∧ n ≤ 64 := by omega
  have HN := Lib.hid hn
  go_enter Tryz.func15, Tryz.ntmps15
  go_wp2_with (at_make; refine mk1 _ rfl (.const (.int .i64 11)) (.const (.int .i64 11)) _ rfl eltL rfl 11 rfl rfl (by omega) ?_; intro w1 hown1 hb1)
  have H0 := Lib.hid (show LvRel l n w (.int .i64 0) w1 from ⟨0, zeros, Nat.zero_le _, rfl, rfl, cnt_zeros hown1, hb1⟩)
  clear hown1
  go_loopw [20] (fun i wr => LvRel l n w i wr) (fun i _ => m - (intOf i).toNat)
  case atStart => exact H0.out
  case round =>
    obtain ⟨k, o, hk, rfl, ho, hcnt, hb⟩ := hrel
    rw [HM.out] at hk
    have HO := Lib.hid ho
    have HC := Lib.hid hcnt
    have HB := Lib.hid hb
    clear ho hcnt H0
    by_cases hlt : k < m
    · obtain ⟨ad, x, rfl, _, hbk, hx, hc⟩ := rdk scC_len HR.out (i := k) (by rw [HM.out]; exact hlt)
      have HX := Lib.hid hx
      have hfx : Fit x.1 x.2 := HF.out x (List.mem_of_getElem? hx)
      obtain ⟨p, q⟩ := x
      have c0 : wr.cell? (ad.add (k * 2)) = some (.int .i64 p) := (hb.cell (by rw [Base.add_block]; exact hbk)).trans (hc 0 _ rfl)
      have c1 : wr.cell? ⟨(ad.add (k * 2)).block, (ad.add (k * 2)).off + 1, none⟩ = some (.int .i64 q) := by
        rw [add_off _ _ _ (by omega)]; exact (hb.cell (by rw [Base.add_block]; exact hbk)).trans (hc 1 _ rfl)
      have HT := Lib.hid (show l.take (k + 1) = l.take k ++ [(p, q)] from SeqM.take_next hx)
      have HLV := Lib.hid (fun W => Level_any p q n W hfx)
      clear hc hx hfx hb
      go_wp2_with fail
      refine (HLV.out _).mono ?_
      rintro e w2 ⟨rfl, hb2⟩
      have HB2 := Lib.hid (hb2)
      clear hb2 c0 c1
      cases hs : isS p q
      · have hl := level_no HN.out hs
        have F := Lib.hid (lev_no (l := l) HN.out (lev_cut (k := k + 1) (by rw [HT.out, lev_snoc HO.out, if_neg (by rw [hs]; decide)])))
        rw [hl.1, hl.2]
        clear hl
        go_wp2
        go_ret2
        exact lv_none F.out (bt HB2.out (HB.out.alloc HB.out.size _))
      · obtain ⟨lv, e1, e2, hlv, c, hc11, hcd, hcu⟩ := lv_level HN.out hs
        have HCU := Lib.hid hcu
        have HS := Lib.hid hs
        rw [e1, e2]
        have hol : o.length = 11 := HC.out.len
        obtain ⟨x, hx⟩ : ∃ x, o[c]? = some x := ⟨o[c], List.getElem?_eq_getElem (by omega)⟩
        have hC2 : Cnt w2 w.heap.size o := (HC.out.below (below_a1 _ _)).below HB2.out
        have HC2 := Lib.hid hC2
        have HX2 := Lib.hid hx
        have hxb : 0 ≤ x ∧ x ≤ (k : Int) := by
          have h9 := lev_le (B := 0) (Int.le_refl 0) (fun y hy => by have := (List.mem_replicate.1 hy).2; omega) HO.out x (List.mem_of_getElem? hx)
          rw [List.length_take] at h9
          omega
        have d0 := hC2.cell c x hx
        have d1 := hC2.free c hc11
        have htd : lv.tdiv 100 = (c : Int) := by rw [Int.tdiv_eq_ediv_of_nonneg hlv.1, hcd]
        have hlt2 := HC2.out.lt
        clear hcu hs hC2 hx e1 e2 hcd
        go_wp2
        exact ⟨⟨k + 1, RptO.bump o c, by rw [HM.out]; omega, by go_num, by rw [HT.out, lev_snoc HO.out, if_pos HS.out, HCU.out], HC2.out.bump HX2.out, (bt HB2.out (HB.out.alloc HB.out.size _)).setCell (p := ⟨w.heap.size, c, none⟩) (Nat.le_refl _) _⟩, by simp [intOf]; omega⟩
    · obtain rfl : k = m := by omega
      have F := Lib.hid (lev_yes (l := l) (n := n) HN.out (by rw [← HO.out, List.take_of_length_le (by rw [HM.out]; omega)]))
      go_wp2
      go_ret2
      exact lv_some F.out HC.out (Nat.le_refl _) HB.out
set_option maxHeartbeats 4000000 in
theorem RLevels_any (v : Value) (l : List (Int × Int)) (n : Int) (w : World) (h : Seq 2 scC w 0 w.heap.size v l) (hf : Fits2 l) :
    Calls Tryz.prog 21 #[v, .int .i64 n] w (LvPost w l n) := by
  obtain ⟨A, cap, rfl, hc1, hc2, hr, _⟩ := h
  unfold maxLen at hc2
  have HR := Lib.hid hr
  have HF := Lib.hid hf
  obtain ⟨m, hm⟩ : ∃ m, l.length = m := ⟨_, rfl⟩
  rw [hm] at hc1 ⊢
  have HM := Lib.hid hm
  clear hr hf hm
  by_cases h1 : n < 2
  · have F := Lib.hid (lev_arg (l := l) (n := n) (by omega))
    go_enter Tryz.func21, Tryz.ntmps21
    go_wp2
    go_ret2
    exact lv_none F.out (Below.refl _ _)
  by_cases h2 : 64 < n
  · have F := Lib.hid (lev_arg (l := l) (n := n) (by omega))
    go_enter Tryz.func21, Tryz.ntmps21
    go_wp2
    go_ret2
    exact lv_none F.out (Below.refl _ _)
  have hn : 2 ≤ n ∧ n ≤ 64 := by omega
  have HN := Lib.hid hn
  go_enter Tryz.func21, Tryz.ntmps21
  go_wp2_with (at_make; refine mk1 _ rfl (.const (.int .i64 11)) (.const (.int .i64 11)) _ rfl eltL rfl 11 rfl rfl (by omega) ?_; intro w1 hown1 hb1)
  have H0 := Lib.hid (show LvRel l n w (.int .i64 0) w1 from ⟨0, zeros, Nat.zero_le _, rfl, rfl, cnt_zeros hown1, hb1⟩)
  clear hown1
  go_loopw [7] (fun i wr => LvRel l n w i wr) (fun i _ => m - (intOf i).toNat)
  case atStart => exact H0.out
  case round =>
    obtain ⟨k, o, hk, rfl, ho, hcnt, hb⟩ := hrel
    rw [HM.out] at hk
    have HO := Lib.hid ho
    have HC := Lib.hid hcnt
    have HB := Lib.hid hb
    clear ho hcnt H0
    by_cases hlt : k < m
    · obtain ⟨ad, x, rfl, _, hbk, hx, hc⟩ := rdk scC_len HR.out (i := k) (by rw [HM.out]; exact hlt)
      have HX := Lib.hid hx
      have hfx : Fit x.1 x.2 := HF.out x (List.mem_of_getElem? hx)
      obtain ⟨p, q⟩ := x
      have c0 : wr.cell? (ad.add (k * 2)) = some (.int .i64 p) := (hb.cell (by rw [Base.add_block]; exact hbk)).trans (hc 0 _ rfl)
      have c1 : wr.cell? ⟨(ad.add (k * 2)).block, (ad.add (k * 2)).off + 1, none⟩ = some (.int .i64 q) := by
        rw [add_off _ _ _ (by omega)]; exact (hb.cell (by rw [Base.add_block]; exact hbk)).trans (hc 1 _ rfl)
      have HT := Lib.hid (show l.take (k + 1) = l.take k ++ [(p, q)] from SeqM.take_next hx)
      have HLV := Lib.hid (fun W => RLevel_any p q n W hfx)
      clear hc hx hfx hb
      go_wp2_with fail
      refine (HLV.out _).mono ?_
      rintro e w2 ⟨rfl, hb2⟩
      have HB2 := Lib.hid (hb2)
      clear hb2 c0 c1
      cases hs : isS p q
      · have hl := level_no HN.out hs
        have F := Lib.hid (lev_no (l := l) HN.out (lev_cut (k := k + 1) (by rw [HT.out, lev_snoc HO.out, if_neg (by rw [hs]; decide)])))
        rw [hl.1, hl.2]
        clear hl
        go_wp2
        go_ret2
        exact lv_none F.out (bt HB2.out HB.out)
      · obtain ⟨lv, e1, e2, hlv, c, hc11, hcd, hcu⟩ := lv_level HN.out hs
        have HCU := Lib.hid hcu
        have HS := Lib.hid hs
        rw [e1, e2]
        have hol : o.length = 11 := HC.out.len
        obtain ⟨x, hx⟩ : ∃ x, o[c]? = some x := ⟨o[c], List.getElem?_eq_getElem (by omega)⟩
        have hC2 : Cnt w2 w.heap.size o := HC.out.below HB2.out
        have HC2 := Lib.hid hC2
        have HX2 := Lib.hid hx
        have hxb : 0 ≤ x ∧ x ≤ (k : Int) := by
          have h9 := lev_le (B := 0) (Int.le_refl 0) (fun y hy => by have := (List.mem_replicate.1 hy).2; omega) HO.out x (List.mem_of_getElem? hx)
          rw [List.length_take] at h9
          omega
        have d0 := hC2.cell c x hx
        have d1 := hC2.free c hc11
        have htd : lv.tdiv 100 = (c : Int) := by rw [Int.tdiv_eq_ediv_of_nonneg hlv.1, hcd]
        have hlt2 := HC2.out.lt
        clear hcu hs hC2 hx e1 e2 hcd
        go_wp2
        exact ⟨⟨k + 1, RptO.bump o c, by rw [HM.out]; omega, by go_num, by rw [HT.out, lev_snoc HO.out, if_pos HS.out, HCU.out], HC2.out.bump HX2.out, (bt HB2.out HB.out).setCell (p := ⟨w.heap.size, c, none⟩) (Nat.le_refl _) _⟩, by simp [intOf]; omega⟩
    · obtain rfl : k = m := by omega
      have F := Lib.hid (lev_yes (l := l) (n := n) HN.out (by rw [← HO.out, List.take_of_length_le (by rw [HM.out]; omega)]))
      go_wp2
      go_ret2
      exact lv_some F.out HC.out (Nat.le_refl _) HB.out
end Go.Proofs.YtcaeihfgdlffkaaGreatRRRRDoor.LevW

/- report.Of at a state that took nothing (printed by mkofe.py). -/
namespace Go.Proofs.YtcaeihfgdlffkaaGreatRRRRDoor.OfeW
set_option linter.unusedVariables false
set_option linter.unusedSimpArgs false
open Go.RowKit Base SeqM CfM SchX SchY SchZ StaE StaF RptO RptC ClsW LevM LevW VecW DevW

theorem row_form {w : World} {base : Nat} {e : TypeId} {size n : Nat} {v : Value} {xs : List Value} (h : w.ownsRow base e size v n xs) : ∃ a cap, v = .slice a n cap := by
  rcases h.2 with ⟨hv, h0⟩ | ⟨g, cap, cur, hv, _⟩
  · exact ⟨none, 0, by rw [hv, h0]⟩
  · exact ⟨_, _, hv⟩
theorem seq_set {α : Type} {k : Nat} {f : α → List Value} {w : World} {lo B : Nat} {v : Value} {l : List α} (h : Seq k f w lo B v l) (p : Addr) (hp : p.block < lo) (u : Value) : Seq k f (w.setCell p u) lo B v l := by
  obtain ⟨A, cap, e, h1, h2, h3, h4⟩ := h
  exact ⟨A, cap, e, h1, h2, h3.set_ p (.inl hp) u, h4⟩
theorem vecs_nil (w : World) (lo B : Nat) : Vecs w lo B (.slice none 0 0) [] := ⟨[], rfl, Seq.nil_, fun r hr => by cases hr⟩
theorem lev0 {n : Int} (h : 2 ≤ n ∧ n ≤ 64) : levL [] n = zeros ∧ levE [] n = 0 := lev_yes h rfl
theorem cols0 (d : Int) : colsL [] d = [] ∧ colsE [] d = 4 := cols_none rfl
def OfPost (w : World) (e : Ending) (w' : World) : Prop := (∃ a cap u2, e = .returned (.tuple #[.agg #[.int .i64 0, .slice a 0 cap, u2], .int .i64 0]) ∧ Seq 1 inC w' 0 w'.heap.size u2 zeros) ∧ Below w.heap.size w w'
set_option maxHeartbeats 4000000 in
set_option maxRecDepth 100000 in
theorem Of0 (c : Cf) (hc : confOk c) (w : World) :
    Calls Tryz.prog 6 #[.agg (st0C c).toArray] w (OfPost w) := by
  have hc3 : 2 ≤ c.c3 ∧ c.c3 ≤ 64 := by unfold confOk at hc; omega
  have HR := Lib.hid (fun W => Right0 c hc W)
  have HCO := Lib.hid (fun W => Columns_any (.slice none 0 0) [] c.c0 0 W (vecs_nil _ _ _))
  have HLV := Lib.hid (fun W => Levels_any (.slice none 0 0) [] c.c3 W Seq.nil_ (fun x hx => by cases hx))
  unfold ClPost at HCO
  unfold LvPost at HLV
  rw [(cols0 c.c0).1, (cols0 c.c0).2] at HCO
  rw [(lev0 hc3).1, (lev0 hc3).2] at HLV
  clear hc hc3
  obtain ⟨c0, c1, c2, c3, c4, c5, c6, c7, c8, c9, c10⟩ := c
  unfold st0C at HR ⊢
  unfold CfM.cfC at HR ⊢
  dsimp only [List.cons_append, List.nil_append] at HR HCO HLV ⊢
  obtain ⟨W0, eW0⟩ : ∃ W, w.alloc (.cells #[.int .i64 c0, .int .i64 c1, .int .i64 c2, .int .i64 c3, .int .i64 c4, .int .i64 c5, .int .i64 c6, .int .i64 c7, .int .i64 c8, .int .i64 c9, .int .i64 c10, .int .i64 0, .int .i64 0, .int .i64 0, .slice none 0 0, .slice none 0 0, .slice none 0 0] 28) = W := ⟨_, rfl⟩
  have HB0 := Lib.hid (show Below w.heap.size w W0 by rw [← eW0]; exact below_a1 _ _)
  have HSB0 := Lib.hid (show W0.heap[w.heap.size]? = some (.cells #[.int .i64 c0, .int .i64 c1, .int .i64 c2, .int .i64 c3, .int .i64 c4, .int .i64 c5, .int .i64 c6, .int .i64 c7, .int .i64 c8, .int .i64 c9, .int .i64 c10, .int .i64 0, .int .i64 0, .int .i64 0, .slice none 0 0, .slice none 0 0, .slice none 0 0] 28 (0, 0)) by rw [← eW0]; exact heap_alloc_new w _)
  have HZ0 := Lib.hid (show W0.heap.size = w.heap.size + 1 by rw [← eW0]; simp)
  obtain ⟨W, eW⟩ : ∃ W, W0.alloc (.cells #[.int .i64 0, .slice none 0 0, .slice none 0 0] 34) = W := ⟨_, rfl⟩
  have HB := Lib.hid (show Below w.heap.size w W by rw [← eW]; exact HB0.out.alloc HB0.out.size _)
  have HSB := Lib.hid (show ∀ W', Below W.heap.size W W' → W'.heap[w.heap.size]? = some (.cells #[.int .i64 c0, .int .i64 c1, .int .i64 c2, .int .i64 c3, .int .i64 c4, .int .i64 c5, .int .i64 c6, .int .i64 c7, .int .i64 c8, .int .i64 c9, .int .i64 c10, .int .i64 0, .int .i64 0, .int .i64 0, .slice none 0 0, .slice none 0 0, .slice none 0 0] 28 (0, 0)) by
    intro W' hb
    rw [hb.block _ (by rw [← eW]; have := HZ0.out; simp; omega), ← eW, Below.heap_alloc _ _ _ (by have := HZ0.out; omega)]
    exact HSB0.out)
  have HRB := Lib.hid (show ∀ W', Below W.heap.size W W' → ((W'.cell? ⟨W0.heap.size, 0, none⟩ = some (.int .i64 0) ∧ W'.cell? ⟨W0.heap.size, 1, none⟩ = some (.slice none 0 0) ∧ W'.cell? ⟨W0.heap.size, 2, none⟩ = some (.slice none 0 0)) ∧ W'.frozen? ⟨W0.heap.size, 0, none⟩ = false ∧ W'.frozen? ⟨W0.heap.size, 1, none⟩ = false ∧ W'.frozen? ⟨W0.heap.size, 2, none⟩ = false) by
    intro W' hb
    have hz : W0.heap.size < W.heap.size := by rw [← eW]; simp
    refine ⟨⟨keepA hb ?_, keepA hb ?_, keepA hb ?_⟩, (hb.frozen (p := ⟨W0.heap.size, 0, none⟩) hz).trans ?_, (hb.frozen (p := ⟨W0.heap.size, 1, none⟩) hz).trans ?_, (hb.frozen (p := ⟨W0.heap.size, 2, none⟩) hz).trans ?_⟩ <;> (rw [← eW]; clear eW; go_simp))
  go_enter Tryz.func6, Tryz.ntmps6
  go_wp2_with (refine (id ?_ : wpList _ _ _ (⟨some 9, .load _ _, _, _, _, _⟩ :: _) _ _); refine wpList_load_row rfl 28 (.tmp 1) rfl w.heap.size (by rfl) _ _ _ _ (HSB.out W (Below.refl _ _)) Tryz.underlying28 rfl (by kernel_rfl) ?_)
  refine (HR.out _).mono ?_
  rintro e w1 ⟨rfl, hb1⟩
  have HB1 := Lib.hid hb1
  have s14 : w1.cell? ⟨w.heap.size, 14, none⟩ = some (.slice none 0 0) := by rw [cell_of_row _ _ _ _ _ _ (HSB.out w1 hb1)]; rfl
  have s0 : w1.cell? ⟨w.heap.size, 0, none⟩ = some (.int .i64 c0) := by rw [cell_of_row _ _ _ _ _ _ (HSB.out w1 hb1)]; rfl
  have hz1 : w.heap.size < w1.heap.size := (Array.getElem?_eq_some_iff.1 (HSB.out w1 hb1)).1
  have hz2 : W0.heap.size < w1.heap.size := Nat.lt_of_lt_of_le (by rw [← eW]; simp) hb1.size
  have HZ := Lib.hid (And.intro hz1 hz2)
  clear hb1
  go_wp2_with fail
  generalize eX : w1.alloc (.cells #[.int .i64 0, .slice none 0 0, .slice none 0 0] 34) = X at *
  have HBX := Lib.hid (show Below w1.heap.size w1 X by rw [← eX]; exact below_a1 _ _)
  have HXC := Lib.hid (show ∀ W', Below X.heap.size X W' → ((W'.cell? ⟨w1.heap.size, 0, none⟩ = some (.int .i64 0) ∧ W'.cell? ⟨w1.heap.size, 1, none⟩ = some (.slice none 0 0) ∧ W'.cell? ⟨w1.heap.size, 2, none⟩ = some (.slice none 0 0)) ∧ W'.frozen? ⟨w1.heap.size, 0, none⟩ = false ∧ W'.frozen? ⟨w1.heap.size, 1, none⟩ = false ∧ W'.frozen? ⟨w1.heap.size, 2, none⟩ = false) by
    intro W' hb
    have hz : w1.heap.size < X.heap.size := by rw [← eX]; simp
    refine ⟨⟨keepA hb ?_, keepA hb ?_, keepA hb ?_⟩, (hb.frozen (p := ⟨w1.heap.size, 0, none⟩) hz).trans ?_, (hb.frozen (p := ⟨w1.heap.size, 1, none⟩) hz).trans ?_, (hb.frozen (p := ⟨w1.heap.size, 2, none⟩) hz).trans ?_⟩ <;> (rw [← eX]; clear eX; go_simp))
  have x14 : X.cell? ⟨w.heap.size, 14, none⟩ = some (.slice none 0 0) := keepA HBX.out s14
  have x0 : X.cell? ⟨w.heap.size, 0, none⟩ = some (.int .i64 c0) := keepA HBX.out s0
  go_loopw [5, 6, 20] (fun p s i wr => p = .slice none 0 0 ∧ s = .slice none 0 0 ∧ i = .int .i64 0 ∧ X = wr) (fun _ _ _ _ => 0)
  case atStart => exact ⟨rfl, rfl, rfl, rfl⟩
  case round =>
    obtain ⟨rfl, rfl, rfl, rfl⟩ := hrel
    have HS0 := Lib.hid x0
    have HEX := Lib.hid eX
    clear s14 s0 x14 eX
    go_wp2_with fail
    refine (HCO.out _).mono ?_
    rintro e w2 ⟨⟨u1, rfl, hu1⟩, hb2⟩
    obtain ⟨a1, k1, rfl⟩ := row_form hu1
    have HB2 := Lib.hid hb2
    obtain ⟨⟨y0, y1, y2⟩, f0, f1, f2⟩ := HXC.out w2 hb2
    have t0 : w2.cell? ⟨w.heap.size, 0, none⟩ = some (.int .i64 c0) := keepA hb2 HS0.out
    have t3 : w2.cell? ⟨w.heap.size, 3, none⟩ = some (.int .i64 c3) := by
      rw [cell_of_row _ _ _ _ _ _ (HSB.out w2 (bt hb2 (bt HBX.out HB1.out)))]; rfl
    clear hb2 hu1 x0
    have hne : w.heap.size ≠ w1.heap.size := by omega
    go_wp2_with fail
    have HBS := Lib.hid (show Below X.heap.size X w2 from HB2.out)
    refine (HLV.out _).mono ?_
    rintro e w3 ⟨⟨u2, rfl, hu2⟩, hb3⟩
    obtain ⟨A2, k2, rfl, hk1, hk2, hr2, hn2⟩ := hu2
    have HU2 := Lib.hid (show Seq 1 inC w3 w2.heap.size w3.heap.size (.slice A2 zeros.length k2) zeros from ⟨A2, k2, rfl, hk1, hk2, by simpa using hr2, hn2⟩)
    have z0 : (w2.setCell ⟨w1.heap.size, 1, none⟩ (.slice a1 0 k1)).cell? ⟨w1.heap.size, 0, none⟩ = some (.int .i64 0) := by go_simp
    have z1 : (w2.setCell ⟨w1.heap.size, 1, none⟩ (.slice a1 0 k1)).cell? ⟨w1.heap.size, 1, none⟩ = some (.slice a1 0 k1) := by go_simp
    have z2 : (w2.setCell ⟨w1.heap.size, 1, none⟩ (.slice a1 0 k1)).cell? ⟨w1.heap.size, 2, none⟩ = some (.slice none 0 0) := by go_simp
    have g2 : (w2.setCell ⟨w1.heap.size, 1, none⟩ (.slice a1 0 k1)).frozen? ⟨w1.heap.size, 2, none⟩ = false := by rw [World.frozen?_setCell]; exact f2
    have hzz := World.block_lt_of_cell? _ _ z2
    have hbY : Below W.heap.size W (w2.setCell ⟨w1.heap.size, 1, none⟩ (.slice a1 0 k1)) := (bt HB2.out (bt HBX.out HB1.out)).setCell (p := ⟨w1.heap.size, 1, none⟩) HB1.out.size _
    have HB3 := Lib.hid (bt hb3 hbY)
    replace z0 := keepA hb3 z0
    replace z1 := keepA hb3 z1
    replace z2 := keepA hb3 z2
    replace g2 := (hb3.frozen (p := ⟨w1.heap.size, 2, none⟩) hzz).trans g2
    obtain ⟨⟨r0, r1, r2⟩, q0, q1, q2⟩ := HRB.out w3 HB3.out
    have hne2 : W0.heap.size ≠ w1.heap.size := by omega
    clear hb3 hbY hzz hk1 hk2 hr2 hn2 y0 y1 y2 f0 f1 f2 t0 t3
    have hz3 : W0.heap.size + 1 = W.heap.size := by rw [← eW]; simp
    go_wp2
    refine bodyPost_ret (v := .tuple #[.agg #[.int .i64 0, .slice a1 0 k1, .slice A2 zeros.length k2], .int .i64 0]) (by simp [results, Tryz.results6, go_sem, *]) rfl ?_
    have l1 : w1.heap.size < w2.heap.size := Nat.lt_of_lt_of_le (by rw [← HEX.out]; simp) HB2.out.size
    have l2 : w.heap.size ≤ W0.heap.size := HB0.out.size
    have st : ∀ (Y : World) (b j : Nat) (u : Value), w.heap.size ≤ b → Below w.heap.size w Y → Below w.heap.size w (Y.setCell ⟨b, j, none⟩ u) := fun Y b j u hb h => h.setCell (p := ⟨b, j, none⟩) hb u
    refine ⟨⟨a1, k1, _, rfl, ?_⟩, st _ _ _ _ l2 (st _ _ _ _ l2 (st _ _ _ _ l2 (st _ _ _ _ (by omega) (HB.out.trans (HB3.out.mono HB.out.size)))))⟩
    have h9 := seq_set (seq_set (seq_set (seq_set HU2.out ⟨w1.heap.size, 2, none⟩ l1 (.slice A2 zeros.length k2)) ⟨W0.heap.size, 0, none⟩ (by show W0.heap.size < _; omega) (.int .i64 0)) ⟨W0.heap.size, 1, none⟩ (by show W0.heap.size < _; omega) (.slice a1 0 k1)) ⟨W0.heap.size, 2, none⟩ (by show W0.heap.size < _; omega) (.slice A2 zeros.length k2)
    exact h9.more (Nat.zero_le _) (by simp)
end Go.Proofs.YtcaeihfgdlffkaaGreatRRRRDoor.OfeW
