/- The reference's End and Is over trees (printed by mkend.py). -/
import Derived.Test.YtcaeihfgdlffkaaGreatRRRRDoorPk18
import Derived.Deep.QuietTactic
namespace Go.Proofs.YtcaeihfgdlffkaaGreatRRRRDoor.ShpE
set_option linter.unusedVariables false
open Go.RowKit Base SeqM ShpM ShpV ShpW ShpD ShpT ShpI ShpJ

def le64 : B → Prop
  | .leaf n => n ≤ 64
  | .fork _ _ l r => le64 l ∧ le64 r
theorem size_pow : ∀ {b : B}, le64 b → b.size ≤ 64 * 2 ^ b.high
  | .leaf n, h => by have : n ≤ 64 := h; simp only [B.size, B.high]; omega
  | .fork _ _ l r, h => by
    have h1 := size_pow h.1
    have h2 := size_pow h.2
    have p1 := pow_le2 (show l.high ≤ max l.high r.high by omega)
    have p2 := pow_le2 (show r.high ≤ max l.high r.high by omega)
    simp only [B.size, B.high]
    rw [Nat.add_comm, Int.pow_succ]
    omega
theorem size_small {b : B} (h : le64 b) (hh : b.high < 7) : b.size ≤ 4096 := by
  have h1 := size_pow h
  have h2 := pow_le2 (show b.high ≤ 6 by omega)
  have : (2 : Int) ^ 6 = 64 := by decide
  omega
def Good (dim : Int) (l : List Nd) (i m : Nat) (b : B) : Prop := At l i b ∧ b.ok dim ∧ le64 b ∧ b.high < m
open Classical in
noncomputable def endV (dim : Int) (l : List Nd) (i m : Nat) : Int := if h : ∃ b, Good dim l i m b then ((i + h.choose.count : Nat) : Int) else -1
theorem endV_yes {dim : Int} {l : List Nd} {i m : Nat} {b : B} (h : Good dim l i m b) : endV dim l i m = ((i + b.count : Nat) : Int) := by
  have hx : ∃ b, Good dim l i m b := ⟨b, h⟩
  unfold endV
  rw [dif_pos hx]
  rw [at_unique hx.choose_spec.1 h.1]
theorem endV_no {dim : Int} {l : List Nd} {i m : Nat} (h : ∀ b, ¬ Good dim l i m b) : endV dim l i m = -1 := by
  unfold endV
  rw [dif_neg (fun ⟨b, hb⟩ => h b hb)]
theorem endV_cases (dim : Int) (l : List Nd) (i m : Nat) : (∃ b, Good dim l i m b ∧ endV dim l i m = ((i + b.count : Nat) : Int)) ∨ ((∀ b, ¬ Good dim l i m b) ∧ endV dim l i m = -1) := by
  by_cases h : ∃ b, Good dim l i m b
  · obtain ⟨b, hb⟩ := h
    exact .inl ⟨b, hb, endV_yes hb⟩
  · have h' : ∀ b, ¬ Good dim l i m b := fun b hb => h ⟨b, hb⟩
    exact .inr ⟨h', endV_no h'⟩
/-- what a tree at a node is -/
theorem good_node {dim : Int} {l : List Nd} {i m : Nat} {b : B} {x : Nd} (h : Good dim l i m b) (hx : l[i]? = some x) :
    (x.left = 0 ∧ x.right = 0 ∧ x.coef = [] ∧ x.at_ = 0 ∧ 1 ≤ x.size ∧ x.size ≤ 64) ∨ (∃ p q : B, x.left = ((i + 1 : Nat) : Int) ∧ cutOk x.coef x.at_ dim ∧ Good dim l (i + 1) (m - 1) p ∧ x.right = ((i + 1 + p.count : Nat) : Int) ∧ Good dim l (i + 1 + p.count) (m - 1) q ∧ x.size = p.size + q.size) := by
  obtain ⟨h1, h2, h3, h4⟩ := h
  cases b with
  | leaf n =>
    rw [at_leaf, hx] at h1
    obtain rfl := Option.some.inj h1
    exact .inl ⟨rfl, rfl, rfl, rfl, h2, h3⟩
  | fork c a p q =>
    rw [at_fork, hx] at h1
    obtain ⟨e, hp, hq⟩ := h1
    obtain rfl := Option.some.inj e
    simp only [B.high] at h4
    exact .inr ⟨p, q, rfl, h2.1, ⟨hp, h2.2.1, h3.1, by omega⟩, rfl, ⟨hq, h2.2.2, h3.2, by omega⟩, rfl⟩
theorem good_leaf {dim : Int} {l : List Nd} {i m : Nat} {x : Nd} (hx : l[i]? = some x) (hm : 0 < m) (h : x.left = 0 ∧ x.right = 0 ∧ x.coef = [] ∧ x.at_ = 0 ∧ 1 ≤ x.size ∧ x.size ≤ 64) : Good dim l i m (.leaf x.size) := by
  obtain ⟨g1, g2, g3, g4, g5, g6⟩ := h
  refine ⟨at_leaf.2 ?_, g5, g6, hm⟩
  rw [hx]; cases x; simp only at g1 g2 g3 g4; rw [g1, g2, g3, g4]
theorem good_fork {dim : Int} {l : List Nd} {i m : Nat} {x : Nd} {p q : B} (hx : l[i]? = some x) (h1 : x.left = ((i + 1 : Nat) : Int)) (h2 : cutOk x.coef x.at_ dim) (h3 : Good dim l (i + 1) m p) (h4 : x.right = ((i + 1 + p.count : Nat) : Int)) (h5 : Good dim l (i + 1 + p.count) m q) (h6 : x.size = p.size + q.size) :
    Good dim l i (m + 1) (.fork x.coef x.at_ p q) := by
  refine ⟨at_fork.2 ⟨?_, h3.1, h5.1⟩, ⟨h2, h3.2.1, h5.2.1⟩, ⟨h3.2.2.1, h5.2.2.1⟩, ?_⟩
  · rw [hx]; cases x; simp only at h1 h4 h6; rw [h1, h4, h6]
  · have := h3.2.2.2; have := h5.2.2.2; simp only [B.high]; omega

set_option maxHeartbeats 8000000 in
set_option maxRecDepth 100000 in
theorem REnd_any (v : Value) (l : List Nd) (dim : Int) (lo : Nat) : ∀ (m : Nat), m ≤ 7 → ∀ (i : Nat) (w : World), i ≤ 1000000 → l.length ≤ 1000000 → Nds w lo w.heap.size v l →
    Calls Tryz.prog 164 #[.agg #[.int .i64 dim, v], .int .i64 (i : Int), .int .i64 ((m : Int) - 1)] w fun e w' => e = .returned (.int .i64 (endV dim l i m)) ∧ Below w.heap.size w w' := by
  intro m
  induction m with
  | zero =>
    intro _ i w hi7 hl7 h
    have F := Lib.hid (show endV dim l i 0 = -1 from endV_no (fun b hb => absurd hb.2.2.2 (by omega)))
    obtain ⟨A, cap, rfl, hc1, hc2, _⟩ := h.form
    generalize l.length = n at *
    rw [show (((0 : Nat) : Int) - 1) = -1 from rfl]
    by_cases hin : n ≤ i
    · go_enter Tryz.func164, Tryz.ntmps164
      go_wp2_with fail
      go_ret
      exact ⟨ret_int F.out.symm, below_a1 _ _⟩
    · have hin2 : i < n := by omega
      go_enter Tryz.func164, Tryz.ntmps164
      go_wp2_with fail
      go_ret
      exact ⟨ret_int F.out.symm, below_a1 _ _⟩
  | succ m ih =>
    intro hm i w hi7 hl7 h
    have HS := Lib.hid h
    have IH := Lib.hid (fun i w h1 h2 => ih (by omega) i w h1 hl7 h2)
    clear ih
    obtain ⟨A, cap, rfl, hc1, hc2, _⟩ := h.form
    obtain ⟨n, hn⟩ : ∃ n, l.length = n := ⟨_, rfl⟩
    have HN := Lib.hid hn
    rw [hn] at HS hc1 hl7 IH ⊢
    clear h hn
    rw [show (((m + 1 : Nat) : Int) - 1) = (m : Int) by omega]
    have hm0 : ¬ ((m : Int) < 0) := by omega
    have hwm : IntKind.i64.wrap ((m : Int) - 1) = (m : Int) - 1 := IntWalk.i64_in _ (by omega)
    by_cases hin : n ≤ i
    · have F := Lib.hid (show endV dim l i (m + 1) = -1 from endV_no (fun b hb => by have := at_le hb.1; have := count_pos b; rw [HN.out] at *; omega))
      go_enter Tryz.func164, Tryz.ntmps164
      go_wp2_with fail
      go_ret
      exact ⟨ret_int F.out.symm, below_a1 _ _⟩
    · have hin2 : i < n := by omega
      obtain ⟨x, hx⟩ : ∃ x, l[i]? = some x := ⟨_, List.getElem?_eq_getElem (by rw [HN.out]; exact hin2)⟩
      obtain ⟨ad, cv, rfl, hbk, d0, d1, d2, d3, d4, hcv⟩ := HS.out.get hx
      have hbk5 : (ad.add (i * 5)).block < w.heap.size := by rw [add_block]; exact hbk
      have HX := Lib.hid hx
      obtain ⟨AC, cc, rfl, hcc1, hcc2, _, _⟩ := id hcv
      have HCV := Lib.hid hcv
      unfold maxLen at hcc2
      obtain ⟨cn, hcn⟩ : ∃ cn, x.coef.length = cn := ⟨_, rfl⟩
      have HCN := Lib.hid hcn
      rw [hcn] at d0 hcc1 HCV
      clear hcv hx hcn
      have hwi : IntKind.i64.wrap ((i : Int) + 1) = (i : Int) + 1 := IntWalk.i64_in _ (by omega)
      have XB := Lib.hid (below_a2 w (.cells #[.int .i64 dim, .slice (some ad) n cap] 105) (.cells #[.slice AC cn cc, .int .i64 x.at_, .int .i64 x.left, .int .i64 x.right, .int .i64 x.size] 129))
      have FN := Lib.hid (fun b (hb : Good dim l i (m + 1) b) => good_node hb HX.out)
      by_cases hl0 : x.left = 0 ∧ x.right = 0
      · obtain ⟨l0, r0⟩ := hl0
        rw [l0] at d2 XB
        rw [r0] at d3 XB
        have NOF := Lib.hid (fun b (hb : Good dim l i (m + 1) b) => show x.coef = [] ∧ x.at_ = 0 ∧ 1 ≤ x.size ∧ x.size ≤ 64 by
          rcases FN.out b hb with h | ⟨p, q, h, _⟩
          · exact ⟨h.2.2.1, h.2.2.2.1, h.2.2.2.2.1, h.2.2.2.2.2⟩
          · omega)
        have HL0 := Lib.hid l0
        have HR0 := Lib.hid r0
        clear l0 r0
        by_cases hc0 : cn = 0
        · subst hc0
          by_cases ha0 : x.at_ = 0
          · have ha0b : (x.at_ != 0) = false := by simpa using ha0
            have HA0 := Lib.hid ha0
            clear ha0
            by_cases hs1 : x.size < 1
            · have F := Lib.hid (show endV dim l i (m + 1) = -1 from endV_no (fun b hb => by have := (NOF.out b hb).2.2.1; omega))
              go_enter Tryz.func164, Tryz.ntmps164
              go_wp2_with fail
              go_ret
              exact ⟨ret_int F.out.symm, XB.out⟩
            · by_cases hs2 : 64 < x.size
              · have F := Lib.hid (show endV dim l i (m + 1) = -1 from endV_no (fun b hb => by have := (NOF.out b hb).2.2.2; omega))
                go_enter Tryz.func164, Tryz.ntmps164
                go_wp2_with fail
                go_ret
                exact ⟨ret_int F.out.symm, XB.out⟩
              · have F := Lib.hid (show endV dim l i (m + 1) = (i : Int) + 1 by rw [endV_yes (good_leaf HX.out (by omega) ⟨HL0.out, HR0.out, List.eq_nil_of_length_eq_zero HCN.out, HA0.out, by omega, by omega⟩)]; simp [B.count])
                go_enter Tryz.func164, Tryz.ntmps164
                go_wp2_with fail
                go_ret
                exact ⟨ret_int F.out.symm, XB.out⟩
          · have ha0b : (x.at_ != 0) = true := by simpa using ha0
            have F := Lib.hid (show endV dim l i (m + 1) = -1 from endV_no (fun b hb => ha0 (NOF.out b hb).2.1))
            clear ha0
            go_enter Tryz.func164, Tryz.ntmps164
            go_wp2_with fail
            go_ret
            exact ⟨ret_int F.out.symm, XB.out⟩
        · have hcp : (0 : Int) < (cn : Int) := by omega
          have hcp2 : 0 < cn := by omega
          have F := Lib.hid (show endV dim l i (m + 1) = -1 from endV_no (fun b hb => hc0 (by have := (NOF.out b hb).1; rw [← HCN.out, this]; rfl)))
          clear hc0
          go_enter Tryz.func164, Tryz.ntmps164
          go_wp2_with fail
          go_ret
          exact ⟨ret_int F.out.symm, XB.out⟩
      · have FK := Lib.hid (fun b (hb : Good dim l i (m + 1) b) => show ∃ p q : B, x.left = ((i + 1 : Nat) : Int) ∧ cutOk x.coef x.at_ dim ∧ Good dim l (i + 1) m p ∧ x.right = ((i + 1 + p.count : Nat) : Int) ∧ Good dim l (i + 1 + p.count) m q ∧ x.size = p.size + q.size by
          rcases FN.out b hb with h | h
          · exact absurd ⟨h.1, h.2.1⟩ hl0
          · exact h)
        by_cases hle : x.left = ((i + 1 : Nat) : Int)
        · obtain ⟨j, hj⟩ : ∃ j, i + 1 = j := ⟨_, rfl⟩
          rw [hj] at hle
          rw [hle] at d2 XB
          have HLE := Lib.hid hle
          have HJ := Lib.hid hj
          have t0 : ((j : Int) == 0) = false := by rw [beq_eq_false_iff_ne]; omega
          have t1 : ((j : Int) != (i : Int) + 1) = false := by rw [bne_eq_false_iff_eq]; omega
          have ej : (i : Int) + 1 = (j : Int) := by omega
          have hwj : IntKind.i64.wrap (j : Int) = (j : Int) := IntWalk.i64_in _ (by omega)
          clear hle hl0
          have RC := Lib.hid (fun W (hb : Below w.heap.size w W) => RCIs_any (.slice AC cn cc) x.coef x.at_ dim lo W (by have := HCV.out.up hb; exact this))
          have keep : ∀ W, Below ((w.alloc (.cells #[.int .i64 dim, .slice (some ad) n cap] 105)).alloc (.cells #[.slice AC cn cc, .int .i64 x.at_, .int .i64 (j : Int), .int .i64 x.right, .int .i64 x.size] 129)).heap.size ((w.alloc (.cells #[.int .i64 dim, .slice (some ad) n cap] 105)).alloc (.cells #[.slice AC cn cc, .int .i64 x.at_, .int .i64 (j : Int), .int .i64 x.right, .int .i64 x.size] 129)) W →
              W.cell? ⟨w.heap.size, 0, none⟩ = some (.int .i64 dim) ∧ W.cell? ⟨w.heap.size, 1, none⟩ = some (.slice (some ad) n cap) ∧ W.cell? ⟨w.heap.size + 1, 2, none⟩ = some (.int .i64 (j : Int)) ∧ W.cell? ⟨w.heap.size + 1, 3, none⟩ = some (.int .i64 x.right) ∧ W.cell? ⟨w.heap.size + 1, 4, none⟩ = some (.int .i64 x.size) :=
            fun W hb => ⟨keepA hb (by go_simp), keepA hb (by go_simp), keepA hb (by go_simp), keepA hb (by go_simp), keepA hb (by go_simp)⟩
          cases hcut : cutB x.coef x.at_ dim
          · have F := Lib.hid (show endV dim l i (m + 1) = -1 from endV_no (fun b hb => by
              obtain ⟨p, q, _, hc, _⟩ := FK.out b hb
              rw [cutB_iff.2 hc] at hcut; cases hcut))
            go_enter Tryz.func164, Tryz.ntmps164
            go_wp2_with fail
            refine (RC.out _ XB.out).mono ?_
            rintro e w2 ⟨rfl, hb2⟩
            rw [hcut]
            have X2 := Lib.hid (bt hb2 XB.out)
            go_wp2_with fail
            go_ret
            exact ⟨ret_int F.out.symm, X2.out⟩
          · have HCUT := Lib.hid (cutB_iff.1 hcut)
            rcases endV_cases dim l j m with ⟨p, hp, he⟩ | ⟨hno, he⟩
            · obtain ⟨ee, hee⟩ : ∃ ee, j + p.count = ee := ⟨_, rfl⟩
              rw [hee] at he
              have HE := Lib.hid he
              have HEE := Lib.hid hee
              have HP := Lib.hid hp
              have hee7 : ee ≤ 1000000 := by have := at_le hp.1; rw [HN.out] at this; omega
              have t2 : ¬ ((ee : Int) < 0) := by omega
              clear he hp hee
              by_cases hri : x.right = (ee : Int)
              · rw [hri] at d3 XB keep
                have HRI := Lib.hid hri
                have t3 : ((ee : Int) != (ee : Int)) = false := by simp
                clear hri
                rcases endV_cases dim l ee m with ⟨q, hq, he2⟩ | ⟨hno, he2⟩
                · obtain ⟨er, her⟩ : ∃ er, ee + q.count = er := ⟨_, rfl⟩
                  rw [her] at he2
                  have HE2 := Lib.hid he2
                  have HER := Lib.hid her
                  have HQ := Lib.hid hq
                  have t4 : ¬ ((er : Int) < 0) := by omega
                  obtain ⟨xl, hxl, hsl⟩ := at_size HP.out.1
                  obtain ⟨xr, hxr, hsr⟩ := at_size hq.1
                  obtain ⟨_, _, el, _, _, _, _, _, el4, _⟩ := HS.out.get hxl
                  obtain rfl := Option.some.inj el
                  obtain ⟨_, _, er', _, _, _, _, _, er4, _⟩ := HS.out.get hxr
                  obtain rfl := Option.some.inj er'
                  rw [hsl] at el4
                  rw [hsr] at er4
                  have pl := size_pos HP.out.2.1
                  have pr := size_pos hq.2.1
                  have ql := size_small HP.out.2.2.1 (by have := HP.out.2.2.2; omega)
                  have qr := size_small hq.2.2.1 (by have := hq.2.2.2; omega)
                  obtain ⟨sl, hsl'⟩ : ∃ s, p.size = s := ⟨_, rfl⟩
                  obtain ⟨sr, hsr'⟩ : ∃ s, q.size = s := ⟨_, rfl⟩
                  rw [hsl'] at el4 pl ql
                  rw [hsr'] at er4 pr qr
                  have HSL := Lib.hid hsl'
                  have HSR := Lib.hid hsr'
                  have hw4 : IntKind.i64.wrap (sl + sr) = sl + sr := IntWalk.i64_in _ (by omega)
                  have hjn : j < n := by have := (List.getElem?_eq_some_iff.1 hxl).1; rw [HN.out] at this; exact this
                  have hen : ee < n := by have := (List.getElem?_eq_some_iff.1 hxr).1; rw [HN.out] at this; exact this
                  clear he2 hq her hxl hxr hsl hsr el er' hsl' hsr' hj
                  by_cases hss : x.size = sl + sr
                  · have t5 : (x.size != sl + sr) = false := by simpa using hss
                    have F := Lib.hid (show endV dim l i (m + 1) = (er : Int) by
                      have hg := good_fork HX.out (by rw [HJ.out]; exact HLE.out) HCUT.out (by rw [HJ.out]; exact HP.out) (by rw [HJ.out, HEE.out]; exact HRI.out) (by rw [HJ.out, HEE.out]; exact HQ.out) (by rw [HSL.out, HSR.out]; exact hss)
                      rw [endV_yes hg]; have := HJ.out; have := HEE.out; have := HER.out; simp only [B.count]; omega)
                    clear hss
                    go_enter Tryz.func164, Tryz.ntmps164
                    go_wp2_with fail
                    refine (RC.out _ XB.out).mono ?_
                    rintro e w2 ⟨rfl, hb2⟩
                    rw [hcut]
                    have X2 := Lib.hid (bt hb2 XB.out)
                    obtain ⟨k0, k1, k2, k3, k4⟩ := keep w2 hb2
                    clear hb2
                    go_wp2_with fail
                    first | rw [ej] | skip
                    refine (IH.out j _ (by omega) (HS.out.up X2.out)).mono ?_
                    rintro e w3 ⟨rfl, hb3⟩
                    rw [HE.out]
                    have X3 := Lib.hid (bt hb3 X2.out)
                    replace k0 := keepA hb3 k0
                    replace k1 := keepA hb3 k1
                    replace k2 := keepA hb3 k2
                    replace k3 := keepA hb3 k3
                    replace k4 := keepA hb3 k4
                    clear hb3
                    go_wp2_with fail
                    refine (IH.out ee _ (by omega) (HS.out.up X3.out)).mono ?_
                    rintro e w4 ⟨rfl, hb4⟩
                    rw [HE2.out]
                    have X4 := Lib.hid (bt hb4 X3.out)
                    replace k0 := keepA hb4 k0
                    replace k1 := keepA hb4 k1
                    replace k2 := keepA hb4 k2
                    replace k3 := keepA hb4 k3
                    replace k4 := keepA hb4 k4
                    clear hb4
                    replace el4 := keepA X4.out el4
                    replace er4 := keepA X4.out er4
                    go_wp2_with fail
                    go_quiet (fail)
                    go_wp2_with fail
                    go_ret
                    exact ⟨ret_int F.out.symm, below_drewN X4.out nq⟩
                  · have t5 : (x.size != sl + sr) = true := by simpa using hss
                    have F := Lib.hid (show endV dim l i (m + 1) = -1 from endV_no (fun b hb => by
                      obtain ⟨p', q', _, _, g1, g2, g3, g4⟩ := FK.out b hb
                      rw [HJ.out] at g1 g3
                      obtain rfl := at_unique HP.out.1 g1.1
                      rw [HEE.out] at g3
                      obtain rfl := at_unique HQ.out.1 g3.1
                      rw [HSL.out, HSR.out] at g4; exact hss g4))
                    clear hss
                    go_enter Tryz.func164, Tryz.ntmps164
                    go_wp2_with fail
                    refine (RC.out _ XB.out).mono ?_
                    rintro e w2 ⟨rfl, hb2⟩
                    rw [hcut]
                    have X2 := Lib.hid (bt hb2 XB.out)
                    obtain ⟨k0, k1, k2, k3, k4⟩ := keep w2 hb2
                    clear hb2
                    go_wp2_with fail
                    first | rw [ej] | skip
                    refine (IH.out j _ (by omega) (HS.out.up X2.out)).mono ?_
                    rintro e w3 ⟨rfl, hb3⟩
                    rw [HE.out]
                    have X3 := Lib.hid (bt hb3 X2.out)
                    replace k0 := keepA hb3 k0
                    replace k1 := keepA hb3 k1
                    replace k2 := keepA hb3 k2
                    replace k3 := keepA hb3 k3
                    replace k4 := keepA hb3 k4
                    clear hb3
                    go_wp2_with fail
                    refine (IH.out ee _ (by omega) (HS.out.up X3.out)).mono ?_
                    rintro e w4 ⟨rfl, hb4⟩
                    rw [HE2.out]
                    have X4 := Lib.hid (bt hb4 X3.out)
                    replace k0 := keepA hb4 k0
                    replace k1 := keepA hb4 k1
                    replace k2 := keepA hb4 k2
                    replace k3 := keepA hb4 k3
                    replace k4 := keepA hb4 k4
                    clear hb4
                    replace el4 := keepA X4.out el4
                    replace er4 := keepA X4.out er4
                    go_wp2_with fail
                    go_quiet (fail)
                    go_wp2_with fail
                    go_ret
                    exact ⟨ret_int F.out.symm, below_drewN X4.out nq⟩
                · have HE2 := Lib.hid he2
                  have F := Lib.hid (show endV dim l i (m + 1) = -1 from endV_no (fun b hb => by
                    obtain ⟨p', q', _, _, g1, g2, g3, g4⟩ := FK.out b hb
                    rw [HJ.out] at g1 g3
                    obtain rfl := at_unique HP.out.1 g1.1
                    rw [HEE.out] at g3
                    exact hno _ g3))
                  clear he2 hno hj
                  go_enter Tryz.func164, Tryz.ntmps164
                  go_wp2_with fail
                  refine (RC.out _ XB.out).mono ?_
                  rintro e w2 ⟨rfl, hb2⟩
                  rw [hcut]
                  have X2 := Lib.hid (bt hb2 XB.out)
                  obtain ⟨k0, k1, k2, k3, k4⟩ := keep w2 hb2
                  clear hb2
                  go_wp2_with fail
                  first | rw [ej] | skip
                  refine (IH.out j _ (by omega) (HS.out.up X2.out)).mono ?_
                  rintro e w3 ⟨rfl, hb3⟩
                  rw [HE.out]
                  have X3 := Lib.hid (bt hb3 X2.out)
                  replace k0 := keepA hb3 k0
                  replace k1 := keepA hb3 k1
                  replace k2 := keepA hb3 k2
                  replace k3 := keepA hb3 k3
                  replace k4 := keepA hb3 k4
                  clear hb3
                  go_wp2_with fail
                  refine (IH.out ee _ (by omega) (HS.out.up X3.out)).mono ?_
                  rintro e w4 ⟨rfl, hb4⟩
                  rw [HE2.out]
                  have X4 := Lib.hid (bt hb4 X3.out)
                  replace k0 := keepA hb4 k0
                  replace k1 := keepA hb4 k1
                  replace k2 := keepA hb4 k2
                  replace k3 := keepA hb4 k3
                  replace k4 := keepA hb4 k4
                  clear hb4
                  go_wp2_with fail
                  go_quiet (fail)
                  go_wp2_with fail
                  go_ret
                  exact ⟨ret_int F.out.symm, below_drewN X4.out nq⟩
              · have t3 : (x.right != (ee : Int)) = true := by simpa using hri
                have F := Lib.hid (show endV dim l i (m + 1) = -1 from endV_no (fun b hb => by
                  obtain ⟨p', q', _, _, g1, g2, g3, g4⟩ := FK.out b hb
                  rw [HJ.out] at g1 g2
                  obtain rfl := at_unique HP.out.1 g1.1
                  rw [HEE.out] at g2; exact hri g2))
                clear hri hj
                go_enter Tryz.func164, Tryz.ntmps164
                go_wp2_with fail
                refine (RC.out _ XB.out).mono ?_
                rintro e w2 ⟨rfl, hb2⟩
                rw [hcut]
                have X2 := Lib.hid (bt hb2 XB.out)
                obtain ⟨k0, k1, k2, k3, k4⟩ := keep w2 hb2
                clear hb2
                go_wp2_with fail
                first | rw [ej] | skip
                refine (IH.out j _ (by omega) (HS.out.up X2.out)).mono ?_
                rintro e w3 ⟨rfl, hb3⟩
                rw [HE.out]
                have X3 := Lib.hid (bt hb3 X2.out)
                replace k0 := keepA hb3 k0
                replace k1 := keepA hb3 k1
                replace k2 := keepA hb3 k2
                replace k3 := keepA hb3 k3
                replace k4 := keepA hb3 k4
                clear hb3
                go_wp2_with fail
                go_ret
                exact ⟨ret_int F.out.symm, X3.out⟩
            · have HE := Lib.hid he
              have F := Lib.hid (show endV dim l i (m + 1) = -1 from endV_no (fun b hb => by
                obtain ⟨p', q', _, _, g1, _⟩ := FK.out b hb
                rw [HJ.out] at g1; exact hno _ g1))
              clear he hno hj
              go_enter Tryz.func164, Tryz.ntmps164
              go_wp2_with fail
              refine (RC.out _ XB.out).mono ?_
              rintro e w2 ⟨rfl, hb2⟩
              rw [hcut]
              have X2 := Lib.hid (bt hb2 XB.out)
              obtain ⟨k0, k1, k2, k3, k4⟩ := keep w2 hb2
              clear hb2
              go_wp2_with fail
              first | rw [ej] | skip
              refine (IH.out j _ (by omega) (HS.out.up X2.out)).mono ?_
              rintro e w3 ⟨rfl, hb3⟩
              rw [HE.out]
              have X3 := Lib.hid (bt hb3 X2.out)
              replace k0 := keepA hb3 k0
              replace k1 := keepA hb3 k1
              replace k2 := keepA hb3 k2
              replace k3 := keepA hb3 k3
              replace k4 := keepA hb3 k4
              clear hb3
              go_wp2_with fail
              go_ret
              exact ⟨ret_int F.out.symm, X3.out⟩
        · have t1 : (x.left != (i : Int) + 1) = true := by rw [bne_iff_ne]; omega
          have F := Lib.hid (show endV dim l i (m + 1) = -1 from endV_no (fun b hb => by obtain ⟨p', q', g, _⟩ := FK.out b hb; exact hle g))
          clear hle
          by_cases h0 : x.left = 0
          · have h0b : (x.left == 0) = true := by simpa using h0
            have h1b : (x.right == 0) = false := by rw [beq_eq_false_iff_ne]; exact fun h => hl0 ⟨h0, h⟩
            clear hl0 h0
            go_enter Tryz.func164, Tryz.ntmps164
            go_wp2_with fail
            go_ret
            exact ⟨ret_int F.out.symm, XB.out⟩
          · have h0b : (x.left == 0) = false := by simpa using h0
            clear hl0 h0
            go_enter Tryz.func164, Tryz.ntmps164
            go_wp2_with fail
            go_ret
            exact ⟨ret_int F.out.symm, XB.out⟩
end Go.Proofs.YtcaeihfgdlffkaaGreatRRRRDoor.ShpE
