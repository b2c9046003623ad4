/- Faults: fault.Text. -/
import Derived.Test.YthinjoldbjcifaaDoorFltC
import Derived.Lib.ItoaLen
import Derived.Deep.RegionHeld3
namespace Go.Proofs.YthinjoldbjcifaaDoor.FltT
set_option linter.unusedVariables false
open Go.RowKit Go.Sort Go.Stop Go.Extern Base FltM FltW FltX FltI FltH FltA FltC

theorem sz (l : List UInt8) : (⟨l.toArray⟩ : ByteArray).size = l.length := by show l.toArray.size = _; simp
theorem cat_eq (a b r : List UInt8) (h : a ++ b = r) : (⟨a.toArray⟩ : ByteArray) ++ ⟨b.toArray⟩ = ⟨r.toArray⟩ := by
  subst h
  apply ByteArray.ext
  simp
theorem itoa_len (n : Int) (h : Num n) : (Lib.itoa n).length ≤ 21 := Lib.itoa_length_le n h.1 h.2
set_option maxHeartbeats 2000000 in
set_option maxRecDepth 100000 in
theorem Text_leaf_at (op : List UInt8) (at_ : Int) (c : Int) (b : Nat) (w : World) (hG : G w) (h : At w w.heap.size b (.leaf op at_ c)) (hf : (T.leaf op at_ c).fits) (hat : 0 ≤ at_) :
    Calls Tryd.prog 22 #[.pointer (some ⟨b, 0, none⟩)] w fun e w' => e = .returned (.string ⟨(T.leaf op at_ c).text.toArray⟩) ∧ Below w.heap.size w w' := by
  obtain ⟨g, h1, h2, h3, h4, h5, h6, h7⟩ := h
  obtain ⟨hop, ha, hcn, hc0⟩ := hf
  have hc : (c == 0) = false := by simpa using hc0
  have IC := Lib.hid (fun W (hW : G W) => Itoa_any c W hW hcn)
  have lc0 := itoa_len c hcn
  have f1 := ta_link_no
  have f2 := ta_link
  have IA := Lib.hid (fun W (hW : G W) => Itoa_any at_ W hW ha)
  have la0 := itoa_len at_ ha
  have HG := Lib.hid hG
  have F := Lib.hid (show (T.leaf op at_ c).text = (op ++ ([32] ++ Lib.itoa at_)) ++ [61] ++ Lib.itoa c by simp only [T.text, headT]; rw [if_pos hat]; simp)
  obtain ⟨la, hla⟩ : ∃ l, Lib.itoa at_ = l := ⟨_, rfl⟩
  rw [hla] at IA la0 F
  obtain ⟨l1, hl1⟩ : ∃ l, [32] ++ la = l := ⟨_, rfl⟩
  have zl1 : l1.length = la.length + 1 := by rw [← hl1]; simp
  obtain ⟨hd, hhd⟩ : ∃ l, op ++ l1 = l := ⟨_, rfl⟩
  have zhd : hd.length = op.length + l1.length := by rw [← hhd]; simp
  rw [hl1, hhd] at F
  obtain ⟨l2, hl2⟩ : ∃ l, hd ++ [61] = l := ⟨_, rfl⟩
  have zl2 : l2.length = hd.length + 1 := by rw [← hl2]; simp
  obtain ⟨lc, hlc⟩ : ∃ l, Lib.itoa c = l := ⟨_, rfl⟩
  rw [hlc] at IC lc0 F
  rw [hl2] at F
  obtain ⟨R, hR⟩ : ∃ l, l2 ++ lc = l := ⟨_, rfl⟩
  rw [hR] at F
  have e1 : (⟨#[32]⟩ : ByteArray) ++ (⟨la.toArray⟩ : ByteArray) = ⟨l1.toArray⟩ := cat_eq [32] (la) l1 (by assumption)
  have n1 : ¬ 9223372036854775807 < 1 + la.length := by omega
  have s1 : ¬ 9223372036854775807 < 1 + (⟨la.toArray⟩ : ByteArray).size := by rw [sz]; omega
  have e2 : (⟨op.toArray⟩ : ByteArray) ++ (⟨l1.toArray⟩ : ByteArray) = ⟨hd.toArray⟩ := cat_eq (op) (l1) hd (by assumption)
  have n2 : ¬ 9223372036854775807 < op.length + l1.length := by omega
  have s2 : ¬ 9223372036854775807 < (⟨op.toArray⟩ : ByteArray).size + (⟨l1.toArray⟩ : ByteArray).size := by rw [sz, sz]; omega
  have e3 : (⟨hd.toArray⟩ : ByteArray) ++ (⟨#[61]⟩ : ByteArray) = ⟨l2.toArray⟩ := cat_eq (hd) [61] l2 (by assumption)
  have n3 : ¬ 9223372036854775807 < hd.length + 1 := by omega
  have s3 : ¬ 9223372036854775807 < (⟨hd.toArray⟩ : ByteArray).size + 1 := by rw [sz]; omega
  have e4 : (⟨l2.toArray⟩ : ByteArray) ++ (⟨lc.toArray⟩ : ByteArray) = ⟨R.toArray⟩ := cat_eq (l2) (lc) R (by assumption)
  have n4 : ¬ 9223372036854775807 < l2.length + lc.length := by omega
  have s4 : ¬ 9223372036854775807 < (⟨l2.toArray⟩ : ByteArray).size + (⟨lc.toArray⟩ : ByteArray).size := by rw [sz, sz]; omega
  clear hG hl2 hR hlc hla hl1 hhd la0 zl1 lc0 hcn hc0 ha hop
  go_enter Tryd.func22, Tryd.ntmps22
  go_wp2_with fail
  refine (IA.out _ HG.out).mono ?_
  rintro e w1 ⟨rfl, hb1⟩
  have h5 := cell_keep hb1 h5
  have h6 := cell_keep hb1 h6
  have h7 := cell_keep hb1 h7
  have X1 := Lib.hid hb1
  clear hb1
  go_wp2_with fail
  refine (IC.out _ (HG.out.below X1.out)).mono ?_
  rintro e w2 ⟨rfl, hb2⟩
  have X2 := Lib.hid (bt hb2 X1.out)
  clear hb2
  go_wp2_with fail
  go_ret
  exact ⟨by rw [F.out]; rfl, X2.out⟩
set_option maxHeartbeats 2000000 in
set_option maxRecDepth 100000 in
theorem Text_leaf_no (op : List UInt8) (at_ : Int) (c : Int) (b : Nat) (w : World) (hG : G w) (h : At w w.heap.size b (.leaf op at_ c)) (hf : (T.leaf op at_ c).fits) (hat : at_ < 0) :
    Calls Tryd.prog 22 #[.pointer (some ⟨b, 0, none⟩)] w fun e w' => e = .returned (.string ⟨(T.leaf op at_ c).text.toArray⟩) ∧ Below w.heap.size w w' := by
  obtain ⟨g, h1, h2, h3, h4, h5, h6, h7⟩ := h
  obtain ⟨hop, ha, hcn, hc0⟩ := hf
  have hc : (c == 0) = false := by simpa using hc0
  have IC := Lib.hid (fun W (hW : G W) => Itoa_any c W hW hcn)
  have lc0 := itoa_len c hcn
  have f1 := ta_link_no
  have f2 := ta_link
  have HG := Lib.hid hG
  have F := Lib.hid (show (T.leaf op at_ c).text = op ++ [61] ++ Lib.itoa c by simp only [T.text, headT]; rw [if_neg (by omega)]; simp)
  obtain ⟨l2, hl2⟩ : ∃ l, op ++ [61] = l := ⟨_, rfl⟩
  have zl2 : l2.length = op.length + 1 := by rw [← hl2]; simp
  obtain ⟨lc, hlc⟩ : ∃ l, Lib.itoa c = l := ⟨_, rfl⟩
  rw [hlc] at IC lc0 F
  rw [hl2] at F
  obtain ⟨R, hR⟩ : ∃ l, l2 ++ lc = l := ⟨_, rfl⟩
  rw [hR] at F
  have e3 : (⟨op.toArray⟩ : ByteArray) ++ (⟨#[61]⟩ : ByteArray) = ⟨l2.toArray⟩ := cat_eq (op) [61] l2 (by assumption)
  have n3 : ¬ 9223372036854775807 < op.length + 1 := by omega
  have s3 : ¬ 9223372036854775807 < (⟨op.toArray⟩ : ByteArray).size + 1 := by rw [sz]; omega
  have e4 : (⟨l2.toArray⟩ : ByteArray) ++ (⟨lc.toArray⟩ : ByteArray) = ⟨R.toArray⟩ := cat_eq (l2) (lc) R (by assumption)
  have n4 : ¬ 9223372036854775807 < l2.length + lc.length := by omega
  have s4 : ¬ 9223372036854775807 < (⟨l2.toArray⟩ : ByteArray).size + (⟨lc.toArray⟩ : ByteArray).size := by rw [sz, sz]; omega
  clear hG hl2 hR hlc lc0 hcn hc0 ha hop
  go_enter Tryd.func22, Tryd.ntmps22
  go_wp2_with fail
  refine (IC.out _ HG.out).mono ?_
  rintro e w2 ⟨rfl, hb2⟩
  have X2 := Lib.hid hb2
  clear hb2
  go_wp2_with fail
  go_ret
  exact ⟨by rw [F.out]; rfl, X2.out⟩
set_option maxHeartbeats 2000000 in
set_option maxRecDepth 100000 in
theorem Text_wrap_at (op : List UInt8) (at_ : Int) (u : T) (b : Nat) (w : World) (hG : G w) (h : At w w.heap.size b (.wrap op at_ u)) (hf : (T.wrap op at_ u).fits) (hl : (T.wrap op at_ u).text.length ≤ 1073741824)
    (ih : ∀ (b : Nat) (w : World), G w → At w w.heap.size b u → Calls Tryd.prog 22 #[.pointer (some ⟨b, 0, none⟩)] w fun e w' => e = .returned (.string ⟨u.text.toArray⟩) ∧ Below w.heap.size w w') (hat : 0 ≤ at_) :
    Calls Tryd.prog 22 #[.pointer (some ⟨b, 0, none⟩)] w fun e w' => e = .returned (.string ⟨(T.wrap op at_ u).text.toArray⟩) ∧ Below w.heap.size w w' := by
  obtain ⟨g, b', h1, h2, h3, h4, h5, h6, h7, h8⟩ := h
  obtain ⟨hop, ha, hu⟩ := hf
  have HA := Lib.hid h8
  have IH := Lib.hid ih
  clear h8 ih
  have f1 := ta_link_no
  have f2 := ta_link
  have IA := Lib.hid (fun W (hW : G W) => Itoa_any at_ W hW ha)
  have la0 := itoa_len at_ ha
  have HG := Lib.hid hG
  have F := Lib.hid (show (T.wrap op at_ u).text = (op ++ ([32] ++ Lib.itoa at_)) ++ [62] ++ u.text by simp only [T.text, headT]; rw [if_pos hat]; simp)
  rw [F.out] at hl
  obtain ⟨la, hla⟩ : ∃ l, Lib.itoa at_ = l := ⟨_, rfl⟩
  rw [hla] at IA la0 F hl
  obtain ⟨l1, hl1⟩ : ∃ l, [32] ++ la = l := ⟨_, rfl⟩
  have zl1 : l1.length = la.length + 1 := by rw [← hl1]; simp
  obtain ⟨hd, hhd⟩ : ∃ l, op ++ l1 = l := ⟨_, rfl⟩
  have zhd : hd.length = op.length + l1.length := by rw [← hhd]; simp
  rw [hl1, hhd] at F hl
  obtain ⟨l2, hl2⟩ : ∃ l, hd ++ [62] = l := ⟨_, rfl⟩
  have zl2 : l2.length = hd.length + 1 := by rw [← hl2]; simp
  obtain ⟨lc, hlc⟩ : ∃ l, u.text = l := ⟨_, rfl⟩
  rw [hlc] at IH F hl
  rw [hl2] at F hl
  rw [List.length_append] at hl
  obtain ⟨R, hR⟩ : ∃ l, l2 ++ lc = l := ⟨_, rfl⟩
  rw [hR] at F
  have e1 : (⟨#[32]⟩ : ByteArray) ++ (⟨la.toArray⟩ : ByteArray) = ⟨l1.toArray⟩ := cat_eq [32] (la) l1 (by assumption)
  have n1 : ¬ 9223372036854775807 < 1 + la.length := by omega
  have s1 : ¬ 9223372036854775807 < 1 + (⟨la.toArray⟩ : ByteArray).size := by rw [sz]; omega
  have e2 : (⟨op.toArray⟩ : ByteArray) ++ (⟨l1.toArray⟩ : ByteArray) = ⟨hd.toArray⟩ := cat_eq (op) (l1) hd (by assumption)
  have n2 : ¬ 9223372036854775807 < op.length + l1.length := by omega
  have s2 : ¬ 9223372036854775807 < (⟨op.toArray⟩ : ByteArray).size + (⟨l1.toArray⟩ : ByteArray).size := by rw [sz, sz]; omega
  have e3 : (⟨hd.toArray⟩ : ByteArray) ++ (⟨#[62]⟩ : ByteArray) = ⟨l2.toArray⟩ := cat_eq (hd) [62] l2 (by assumption)
  have n3 : ¬ 9223372036854775807 < hd.length + 1 := by omega
  have s3 : ¬ 9223372036854775807 < (⟨hd.toArray⟩ : ByteArray).size + 1 := by rw [sz]; omega
  have e4 : (⟨l2.toArray⟩ : ByteArray) ++ (⟨lc.toArray⟩ : ByteArray) = ⟨R.toArray⟩ := cat_eq (l2) (lc) R (by assumption)
  have n4 : ¬ 9223372036854775807 < l2.length + lc.length := by omega
  have s4 : ¬ 9223372036854775807 < (⟨l2.toArray⟩ : ByteArray).size + (⟨lc.toArray⟩ : ByteArray).size := by rw [sz, sz]; omega
  clear hG hl2 hR hlc hla hl1 hhd la0 zl1 hl hu ha hop
  go_enter Tryd.func22, Tryd.ntmps22
  go_wp2_with fail
  refine (IA.out _ HG.out).mono ?_
  rintro e w1 ⟨rfl, hb1⟩
  have h5 := cell_keep hb1 h5
  have h6 := cell_keep hb1 h6
  have h7 := cell_keep hb1 h7
  have X1 := Lib.hid hb1
  clear hb1
  go_wp2_with fail
  refine (IH.out b' _ (HG.out.below X1.out) (HA.out.up X1.out)).mono ?_
  rintro e w2 ⟨rfl, hb2⟩
  have X2 := Lib.hid (bt hb2 X1.out)
  clear hb2
  go_wp2_with fail
  go_ret
  exact ⟨by rw [F.out]; rfl, X2.out⟩
set_option maxHeartbeats 2000000 in
set_option maxRecDepth 100000 in
theorem Text_wrap_no (op : List UInt8) (at_ : Int) (u : T) (b : Nat) (w : World) (hG : G w) (h : At w w.heap.size b (.wrap op at_ u)) (hf : (T.wrap op at_ u).fits) (hl : (T.wrap op at_ u).text.length ≤ 1073741824)
    (ih : ∀ (b : Nat) (w : World), G w → At w w.heap.size b u → Calls Tryd.prog 22 #[.pointer (some ⟨b, 0, none⟩)] w fun e w' => e = .returned (.string ⟨u.text.toArray⟩) ∧ Below w.heap.size w w') (hat : at_ < 0) :
    Calls Tryd.prog 22 #[.pointer (some ⟨b, 0, none⟩)] w fun e w' => e = .returned (.string ⟨(T.wrap op at_ u).text.toArray⟩) ∧ Below w.heap.size w w' := by
  obtain ⟨g, b', h1, h2, h3, h4, h5, h6, h7, h8⟩ := h
  obtain ⟨hop, ha, hu⟩ := hf
  have HA := Lib.hid h8
  have IH := Lib.hid ih
  clear h8 ih
  have f1 := ta_link_no
  have f2 := ta_link
  have HG := Lib.hid hG
  have F := Lib.hid (show (T.wrap op at_ u).text = op ++ [62] ++ u.text by simp only [T.text, headT]; rw [if_neg (by omega)]; simp)
  rw [F.out] at hl
  obtain ⟨l2, hl2⟩ : ∃ l, op ++ [62] = l := ⟨_, rfl⟩
  have zl2 : l2.length = op.length + 1 := by rw [← hl2]; simp
  obtain ⟨lc, hlc⟩ : ∃ l, u.text = l := ⟨_, rfl⟩
  rw [hlc] at IH F hl
  rw [hl2] at F hl
  rw [List.length_append] at hl
  obtain ⟨R, hR⟩ : ∃ l, l2 ++ lc = l := ⟨_, rfl⟩
  rw [hR] at F
  have e3 : (⟨op.toArray⟩ : ByteArray) ++ (⟨#[62]⟩ : ByteArray) = ⟨l2.toArray⟩ := cat_eq (op) [62] l2 (by assumption)
  have n3 : ¬ 9223372036854775807 < op.length + 1 := by omega
  have s3 : ¬ 9223372036854775807 < (⟨op.toArray⟩ : ByteArray).size + 1 := by rw [sz]; omega
  have e4 : (⟨l2.toArray⟩ : ByteArray) ++ (⟨lc.toArray⟩ : ByteArray) = ⟨R.toArray⟩ := cat_eq (l2) (lc) R (by assumption)
  have n4 : ¬ 9223372036854775807 < l2.length + lc.length := by omega
  have s4 : ¬ 9223372036854775807 < (⟨l2.toArray⟩ : ByteArray).size + (⟨lc.toArray⟩ : ByteArray).size := by rw [sz, sz]; omega
  clear hG hl2 hR hlc hl hu ha hop
  go_enter Tryd.func22, Tryd.ntmps22
  go_wp2_with fail
  refine (IH.out b' _ HG.out HA.out).mono ?_
  rintro e w2 ⟨rfl, hb2⟩
  have X2 := Lib.hid hb2
  clear hb2
  go_wp2_with fail
  go_ret
  exact ⟨by rw [F.out]; rfl, X2.out⟩
set_option maxHeartbeats 2000000 in
set_option maxRecDepth 100000 in
theorem Text_both (x y : T) (b : Nat) (w : World) (hG : G w) (h : At w w.heap.size b (.both x y)) (hl : (T.both x y).text.length ≤ 1073741824)
    (ihx : ∀ (b : Nat) (w : World), G w → At w w.heap.size b x → Calls Tryd.prog 22 #[.pointer (some ⟨b, 0, none⟩)] w fun e w' => e = .returned (.string ⟨x.text.toArray⟩) ∧ Below w.heap.size w w')
    (ihy : ∀ (b : Nat) (w : World), G w → At w w.heap.size b y → Calls Tryd.prog 22 #[.pointer (some ⟨b, 0, none⟩)] w fun e w' => e = .returned (.string ⟨y.text.toArray⟩) ∧ Below w.heap.size w w') :
    Calls Tryd.prog 22 #[.pointer (some ⟨b, 0, none⟩)] w fun e w' => e = .returned (.string ⟨(T.both x y).text.toArray⟩) ∧ Below w.heap.size w w' := by
  obtain ⟨g, b1, b2, h1, h2, h3, h4, h5, h6, h7⟩ := h
  have HX := Lib.hid h6
  have HY := Lib.hid h7
  have IX := Lib.hid ihx
  have IY := Lib.hid ihy
  have HG := Lib.hid hG
  have f1 := ta_pair
  have F := Lib.hid (show (T.both x y).text = [40] ++ x.text ++ [124] ++ y.text ++ [41] by simp [T.text])
  rw [F.out] at hl
  obtain ⟨la, hla⟩ : ∃ l, x.text = l := ⟨_, rfl⟩
  obtain ⟨lb, hlb⟩ : ∃ l, y.text = l := ⟨_, rfl⟩
  rw [hla] at IX F hl
  rw [hlb] at IY F hl
  simp only [List.length_append, List.length_cons, List.length_nil] at hl
  obtain ⟨l1, hl1⟩ : ∃ l, [40] ++ la = l := ⟨_, rfl⟩
  have zl1 : l1.length = la.length + 1 := by rw [← hl1]; simp
  obtain ⟨l2, hl2⟩ : ∃ l, l1 ++ [124] = l := ⟨_, rfl⟩
  have zl2 : l2.length = l1.length + 1 := by rw [← hl2]; simp
  obtain ⟨l3, hl3⟩ : ∃ l, l2 ++ lb = l := ⟨_, rfl⟩
  have zl3 : l3.length = l2.length + lb.length := by rw [← hl3]; simp
  obtain ⟨R, hR⟩ : ∃ l, l3 ++ [41] = l := ⟨_, rfl⟩
  rw [hl1, hl2, hl3, hR] at F
  have e1 : (⟨#[40]⟩ : ByteArray) ++ (⟨la.toArray⟩ : ByteArray) = ⟨l1.toArray⟩ := cat_eq [40] (la) l1 (by assumption)
  have n1 : ¬ 9223372036854775807 < 1 + la.length := by omega
  have s1 : ¬ 9223372036854775807 < 1 + (⟨la.toArray⟩ : ByteArray).size := by rw [sz]; omega
  have e2 : (⟨l1.toArray⟩ : ByteArray) ++ (⟨#[124]⟩ : ByteArray) = ⟨l2.toArray⟩ := cat_eq (l1) [124] l2 (by assumption)
  have n2 : ¬ 9223372036854775807 < l1.length + 1 := by omega
  have s2 : ¬ 9223372036854775807 < (⟨l1.toArray⟩ : ByteArray).size + 1 := by rw [sz]; omega
  have e3 : (⟨l2.toArray⟩ : ByteArray) ++ (⟨lb.toArray⟩ : ByteArray) = ⟨l3.toArray⟩ := cat_eq (l2) (lb) l3 (by assumption)
  have n3 : ¬ 9223372036854775807 < l2.length + lb.length := by omega
  have s3 : ¬ 9223372036854775807 < (⟨l2.toArray⟩ : ByteArray).size + (⟨lb.toArray⟩ : ByteArray).size := by rw [sz, sz]; omega
  have e4 : (⟨l3.toArray⟩ : ByteArray) ++ (⟨#[41]⟩ : ByteArray) = ⟨R.toArray⟩ := cat_eq (l3) [41] R (by assumption)
  have n4 : ¬ 9223372036854775807 < l3.length + 1 := by omega
  have s4 : ¬ 9223372036854775807 < (⟨l3.toArray⟩ : ByteArray).size + 1 := by rw [sz]; omega
  clear hG h6 h7 ihx ihy hla hlb hl1 hl2 hl3 hR zl1 zl2 zl3 hl
  go_enter Tryd.func22, Tryd.ntmps22
  go_wp2_with fail
  go_region_held3 (fun w' => w'.cell? ⟨g, 0, none⟩ = some (.pointer (some ⟨b1, 0, none⟩)) ∧ w'.cell? ⟨g, 1, none⟩ = some (.pointer (some ⟨b2, 0, none⟩)))
    (first | (go_keep; done) | (exact ⟨k50, k51⟩) | (exact ⟨k60, k61⟩))
    ((first | (go_at_call_of 22 (Value.pointer (some ⟨b1, 0, none⟩)); refine (IX.out b1 _ (HG.out.below (Below.refl _ _).drew) (HX.out.up (Below.refl _ _).drew)).mono ?_; rintro e w5 ⟨rfl, hb5⟩; have k50 := cell_keep hb5 h4; have k51 := cell_keep hb5 h5; have X5 := Lib.hid (bt hb5 (Below.refl _ _).drew)) | (go_at_call_of 22 (Value.pointer (some ⟨b2, 0, none⟩)); refine (IY.out b2 _ (HG.out.below X5.out) (HY.out.up X5.out)).mono ?_; rintro e w6 ⟨rfl, hb6⟩; have k60 := cell_keep hb6 k50; have k61 := cell_keep hb6 k51; have X6 := Lib.hid (bt hb6 X5.out))))
  go_wp2_with fail
  go_ret
  exact ⟨by rw [F.out]; rfl, X6.out⟩
theorem Text_at : ∀ (t : T) (b : Nat) (w : World), G w → At w w.heap.size b t → t.fits → t.text.length ≤ 1073741824 →
    Calls Tryd.prog 22 #[.pointer (some ⟨b, 0, none⟩)] w fun e w' => e = .returned (.string ⟨t.text.toArray⟩) ∧ Below w.heap.size w w'
  | .leaf op at_ c, b, w, hG, h, hf, hl => by
    rcases Int.lt_or_le at_ 0 with ha | ha
    · exact Text_leaf_no op at_ c b w hG h hf ha
    · exact Text_leaf_at op at_ c b w hG h hf ha
  | .wrap op at_ u, b, w, hG, h, hf, hl => by
    have hlu : u.text.length ≤ 1073741824 := by simp [T.text] at hl; omega
    rcases Int.lt_or_le at_ 0 with ha | ha
    · exact Text_wrap_no op at_ u b w hG h hf hl (fun b w hG h => Text_at u b w hG h hf.2.2 hlu) ha
    · exact Text_wrap_at op at_ u b w hG h hf hl (fun b w hG h => Text_at u b w hG h hf.2.2 hlu) ha
  | .both x y, b, w, hG, h, hf, hl => by
    have hlx : x.text.length ≤ 1073741824 ∧ y.text.length ≤ 1073741824 := by simp [T.text] at hl; omega
    exact Text_both x y b w hG h hl (fun b w hG h => Text_at x b w hG h hf.1 hlx.1) (fun b w hG h => Text_at y b w hG h hf.2 hlx.2)
def textO (o : Option T) : List UInt8 := match o with | none => [] | some t => t.text
theorem Text_any (v : Value) (o : Option T) (w : World) (hG : G w) (h : Flt w w.heap.size v o) (hf : fitsO o) (hl : (textO o).length ≤ 1073741824) :
    Calls Tryd.prog 22 #[v] w fun e w' => e = .returned (.string ⟨(textO o).toArray⟩) ∧ Below w.heap.size w w' := by
  cases o with
  | none =>
    rw [show v = .pointer none from h]
    go_enter Tryd.func22, Tryd.ntmps22
    go_wp2_with fail
    go_ret
    exact ⟨rfl, Below.refl _ _⟩
  | some t => obtain ⟨b, rfl, hb⟩ := h; exact Text_at t b w hG hb hf hl
end Go.Proofs.YthinjoldbjcifaaDoor.FltT
