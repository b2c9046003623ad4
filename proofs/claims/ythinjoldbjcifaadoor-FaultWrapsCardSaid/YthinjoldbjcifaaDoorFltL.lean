/- Faults: copselaw04.lives; the walk of FaultUnder. -/
import Derived.Test.YthinjoldbjcifaaDoorFltS
namespace Go.Proofs.YthinjoldbjcifaaDoor.FltL
set_option linter.unusedVariables false
open Go.RowKit Go.Sort Go.Stop Go.Extern Base FltM FltW FltX FltI FltH FltA FltC FltT FltS

def e1 : T := .leaf [100, 114, 97, 119] (-1) 61
def eT : T := .wrap [97, 115, 107] 3 e1
def x1 : T := .leaf [120] 0 6
def fT : T := .both eT x1
theorem fits_e : eT.fits := by
  refine ⟨by decide, ⟨by decide, by decide⟩, by decide, ⟨by decide, by decide⟩, ⟨by decide, by decide⟩, by decide⟩
theorem fits_f : fT.fits := ⟨fits_e, by decide, ⟨by decide, by decide⟩, ⟨by decide, by decide⟩, by decide⟩
theorem text_e : textO (some eT) = [97, 115, 107, 32, 51, 62, 100, 114, 97, 119, 61, 54, 49] := by decide +kernel
set_option maxHeartbeats 2000000 in
set_option maxRecDepth 100000 in
theorem lives_any (w : World) (hG : G w) :
    Calls Tryd.prog 8 #[] w fun e w' => e = .returned (.bool true) ∧ Below w.heap.size w w' := by
  have HG := Lib.hid hG
  clear hG
  go_enter Tryd.func8, Tryd.ntmps8
  go_wp2_with fail
  refine (New_leaf [100, 114, 97, 119] (-1) 61 _ (by decide)).mono ?_
  rintro e w1 ⟨⟨v0, rfl, h0⟩, hb⟩
  have H0 := Lib.hid h0
  have X1 := Lib.hid hb
  clear h0 hb
  go_wp2_with fail
  refine (Wrap_any [97, 115, 107] 3 v0 _ _ H0.out).mono ?_
  rintro e w2 ⟨⟨v1, rfl, h1⟩, hb⟩
  have H1 := Lib.hid (show Flt w2 w2.heap.size v1 (some eT) from h1)
  have X2 := Lib.hid (bt hb X1.out)
  clear h1 hb H0 X1
  go_wp2_with fail
  refine (New_leaf [120] 0 6 _ (by decide)).mono ?_
  rintro e w3 ⟨⟨v2, rfl, h2⟩, hb⟩
  have H1 := Lib.hid (H1.out.up hb)
  have H2 := Lib.hid h2
  have X3 := Lib.hid (bt hb X2.out)
  clear h2 hb X2
  go_wp2_with fail
  refine (Both_any v1 v2 _ _ _ H1.out H2.out).mono ?_
  rintro e w4 ⟨⟨v3, rfl, h3⟩, hb⟩
  have H1 := Lib.hid (H1.out.up hb)
  have H3 := Lib.hid (show Flt w4 w4.heap.size v3 (some fT) from h3)
  have X4 := Lib.hid (bt hb X3.out)
  clear h3 hb X3 H2
  go_wp2_with fail
  refine (Code_any v1 _ _ (HG.out.below X4.out) H1.out fits_e).mono ?_
  rintro e w5 ⟨rfl, hb⟩
  rw [show codeO (some eT) = 61 from rfl]
  have H1 := Lib.hid (H1.out.up hb)
  have H3 := Lib.hid (H3.out.up hb)
  have X5 := Lib.hid (bt hb X4.out)
  clear hb X4
  go_wp2_with fail
  refine (Has_any v1 _ 61 _ H1.out fits_e).mono ?_
  rintro e w6 ⟨rfl, hb⟩
  rw [show hasO (some eT) 61 = true from rfl]
  have H1 := Lib.hid (H1.out.up hb)
  have H3 := Lib.hid (H3.out.up hb)
  have X6 := Lib.hid (bt hb X5.out)
  clear hb X5
  go_wp2_with fail
  refine (Has_any v1 _ 60 _ H1.out fits_e).mono ?_
  rintro e w7 ⟨rfl, hb⟩
  rw [show hasO (some eT) 60 = false from rfl]
  have H1 := Lib.hid (H1.out.up hb)
  have H3 := Lib.hid (H3.out.up hb)
  have X7 := Lib.hid (bt hb X6.out)
  clear hb X6
  go_wp2_with fail
  refine (Of_any v1 _ 2 _ H1.out fits_e).mono ?_
  rintro e w8 ⟨rfl, hb⟩
  rw [show ofO (some eT) 2 = true from rfl]
  have H1 := Lib.hid (H1.out.up hb)
  have H3 := Lib.hid (H3.out.up hb)
  have X8 := Lib.hid (bt hb X7.out)
  clear hb X7
  go_wp2_with fail
  refine (Text_any v1 _ _ (HG.out.below X8.out) H1.out fits_e (by rw [text_e]; decide)).mono ?_
  rintro e w9 ⟨rfl, hb⟩
  rw [text_e]
  have H1 := Lib.hid (H1.out.up hb)
  have H3 := Lib.hid (H3.out.up hb)
  have X9 := Lib.hid (bt hb X8.out)
  clear hb X8
  go_wp2_with fail
  refine (Steps_any v1 (some eT) _ H1.out (by decide)).mono ?_
  rintro e wA ⟨⟨va, rfl, ha⟩, hb⟩
  obtain ⟨A, cap, rfl, _⟩ := ha
  rw [show (stepsO (some eT)).length = 2 from rfl]
  have H3 := Lib.hid (H3.out.up hb)
  have XA := Lib.hid (bt hb X9.out)
  clear hb X9 H1
  go_wp2_with fail
  refine (New_zero [120] 0 _).mono ?_
  rintro e wB ⟨rfl, hb⟩
  have H3 := Lib.hid (H3.out.up hb)
  have XB := Lib.hid (bt hb XA.out)
  clear hb XA
  go_wp2_with fail
  refine (Wrap_nil [120] 0 _).mono ?_
  rintro e wC ⟨rfl, hb⟩
  have H3 := Lib.hid (H3.out.up hb)
  have XC := Lib.hid (bt hb XB.out)
  clear hb XB
  go_wp2_with fail
  refine (Code_any v3 _ _ (HG.out.below XC.out) H3.out fits_f).mono ?_
  rintro e wD ⟨rfl, hb⟩
  rw [show codeO (some fT) = 61 from rfl]
  have H3 := Lib.hid (H3.out.up hb)
  have XD := Lib.hid (bt hb XC.out)
  clear hb XC
  go_wp2_with fail
  refine (Of_any v3 _ 4 _ H3.out fits_f).mono ?_
  rintro e wE ⟨rfl, hb⟩
  rw [show ofO (some fT) 4 = true from rfl]
  have XE := Lib.hid (bt hb XD.out)
  clear hb XD H3
  go_wp2_with fail
  refine (Class_any 1 _).mono ?_
  rintro e wF ⟨rfl, rfl⟩
  rw [show classV 1 = 1 from rfl]
  go_wp2_with fail
  go_ret
  exact ⟨rfl, XE.out⟩
set_option maxHeartbeats 2000000 in
set_option maxRecDepth 100000 in
theorem FaultUnder_any (op : List UInt8) (n c : Int) (w : World) (hG : G w) :
    Calls Tryd.prog 4 #[.string ⟨op.toArray⟩, .int .i64 n, .int .i64 c] w fun e w' => e = .returned (.bool true) ∧ Below w.heap.size w w' := by
  have HG := Lib.hid hG
  clear hG
  have hsz := sz op
  obtain ⟨k, hk⟩ : ∃ k, op.length = k := ⟨_, rfl⟩
  rw [hk] at hsz
  clear hk
  by_cases hl : 100 < k
  · have hI : (100 : Int) < (k : Int) := by omega
    go_enter Tryd.func4, Tryd.ntmps4
    go_wp2_with fail
    refine (lives_any _ HG.out).mono ?_
    rintro e w1 ⟨rfl, hb⟩
    go_wp2_with fail
    go_ret
    exact ⟨rfl, hb⟩
  · have hI : ¬ (100 : Int) < (k : Int) := by omega
    by_cases hc : c = 0
    · subst hc
      go_enter Tryd.func4, Tryd.ntmps4
      go_wp2_with fail
      refine (New_zero op n _).mono ?_
      rintro e w1 ⟨rfl, hb⟩
      have X1 := Lib.hid hb
      clear hb
      go_wp2_with fail
      refine (Wrap_nil op n _).mono ?_
      rintro e w2 ⟨rfl, hb⟩
      have X2 := Lib.hid (bt hb X1.out)
      clear hb X1
      go_wp2_with fail
      refine (Unwrap_nil _).mono ?_
      rintro e w3 ⟨rfl, rfl⟩
      go_wp2_with fail
      refine (lives_any _ (HG.out.below X2.out)).mono ?_
      rintro e w4 ⟨rfl, hb⟩
      go_wp2_with fail
      go_ret
      exact ⟨rfl, bt hb X2.out⟩
    · have hcb : (c == 0) = false := by simpa using hc
      go_enter Tryd.func4, Tryd.ntmps4
      go_wp2_with fail
      refine (New_leaf op n c _ hc).mono ?_
      rintro e w1 ⟨⟨v0, rfl, b0, rfl, h0⟩, hb⟩
      have H0 := Lib.hid h0
      have X1 := Lib.hid hb
      clear h0 hb
      go_wp2_with fail
      refine (Wrap_some op n b0 _ _ H0.out).mono ?_
      rintro e w2 ⟨⟨v1, rfl, b1, rfl, h1⟩, hb⟩
      obtain ⟨g, b', k1, k2, k3, _⟩ := h1
      have X2 := Lib.hid (bt hb X1.out)
      clear hb X1 H0
      go_wp2_with fail
      refine (Unwrap_at b1 _ _ k3).mono ?_
      rintro e w3 ⟨rfl, rfl⟩
      go_wp2_with fail
      refine (lives_any _ (HG.out.below X2.out)).mono ?_
      rintro e w4 ⟨rfl, hb⟩
      go_wp2_with fail
      go_ret
      exact ⟨rfl, bt hb X2.out⟩
end Go.Proofs.YthinjoldbjcifaaDoor.FltL
