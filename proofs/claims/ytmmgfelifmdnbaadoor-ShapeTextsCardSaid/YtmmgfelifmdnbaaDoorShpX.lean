/- Same over trees. -/
import Derived.Test.YtmmgfelifmdnbaaDoorShpU
namespace Go.Proofs.YtmmgfelifmdnbaaDoor.ShpX
set_option linter.unusedVariables false
open Go.RowKit Base SeqM ShpM ShpV ShpW ShpD ShpT ShpR ShpU

theorem nd_eq {x y : Nd} (h1 : x.left = y.left) (h2 : x.right = y.right) (h3 : x.size = y.size) (h4 : sameC x.coef x.at_ y.coef y.at_ = true) : x = y := by
  unfold sameC at h4
  rw [Bool.and_eq_true, decide_eq_true_eq, decide_eq_true_eq] at h4
  cases x; cases y; simp only at *; rw [h1, h2, h3, h4.1, h4.2]
open Classical in
noncomputable def sameT (da : Int) (a : List Nd) (db : Int) (b : List Nd) : Bool := decide (da = db ∧ a = b)
theorem sameT_yes {da db : Int} {a b : List Nd} (h : da = db ∧ a = b) : sameT da a db b = true := by unfold sameT; simpa using h
theorem sameT_no {da db : Int} {a b : List Nd} (h : ¬ (da = db ∧ a = b)) : sameT da a db b = false := by unfold sameT; simpa using h
theorem sameT_iff {da db : Int} {a b : List Nd} : sameT da a db b = true ↔ da = db ∧ a = b := by unfold sameT; simp
theorem sameC_self (c : List Int) (a : Int) : sameC c a c a = true := by unfold sameC; simp
def TSRel (a b : List Nd) (n : Nat) (w : World) (i : Value) (wr : World) : Prop := ∃ k : Nat, k ≤ n ∧ i = .int .i64 k ∧ a.take k = b.take k ∧ Below w.heap.size w wr
theorem take_ne {a b : List Nd} {k : Nat} {x y : Nd} (hx : a[k]? = some x) (hy : b[k]? = some y) (h : x ≠ y) : a ≠ b := fun e => h (by rw [e, hy] at hx; exact (Option.some.inj hx).symm)
set_option maxHeartbeats 8000000 in
set_option maxRecDepth 100000 in
theorem RTSame_any (va vb : Value) (a b : List Nd) (da db : Int) (lo lo' : Nat) (w : World) (h : Nds w lo w.heap.size va a) (h' : Nds w lo' w.heap.size vb b) :
    Calls Tryd.prog 23 #[.agg #[.int .i64 da, va], .agg #[.int .i64 db, vb]] w fun e w' => e = .returned (.bool (sameT da a db b)) ∧ Below w.heap.size w w' := by
  have HS := Lib.hid h
  have HS' := Lib.hid h'
  obtain ⟨A, cap, rfl, hc1, hc2, _⟩ := h.form
  obtain ⟨A', cap', rfl, hd1, hd2, _⟩ := h'.form
  obtain ⟨n, hn⟩ : ∃ n, a.length = n := ⟨_, rfl⟩
  obtain ⟨n', hn'⟩ : ∃ n, b.length = n := ⟨_, rfl⟩
  have HN := Lib.hid hn
  have HN' := Lib.hid hn'
  rw [hn] at HS hc1 ⊢
  rw [hn'] at HS' hd1 ⊢
  clear h h' hn hn'
  by_cases hd : da = db
  · have hdb : (da != db) = false := by simpa using hd
    by_cases hnn : n = n'
    · subst hnn
      have HD := Lib.hid hd
      clear hd
      go_enter Tryd.func23, Tryd.ntmps23
      go_wp2_with fail
      have b1 : ((w.alloc (.cells #[.int .i64 da, .slice A n cap] 24)).alloc (.cells #[.int .i64 db, .slice A' n cap'] 24)).cell? ⟨w.heap.size, 1, none⟩ = some (.slice A n cap) := by go_simp
      have b3 : ((w.alloc (.cells #[.int .i64 da, .slice A n cap] 24)).alloc (.cells #[.int .i64 db, .slice A' n cap'] 24)).cell? ⟨w.heap.size + 1, 1, none⟩ = some (.slice A' n cap') := by go_simp
      have HB := Lib.hid (below_a2 w (.cells #[.int .i64 da, .slice A n cap] 24) (.cells #[.int .i64 db, .slice A' n cap'] 24))
      generalize (w.alloc (.cells #[.int .i64 da, .slice A n cap] 24)).alloc (.cells #[.int .i64 db, .slice A' n cap'] 24) = wb at *
      go_loopw [5] (fun i wr => TSRel a b n wb i wr) (fun i _ => n - (intOf i).toNat)
      case atStart => exact ⟨0, Nat.zero_le _, rfl, rfl, Below.refl _ _⟩
      case round =>
        obtain ⟨k, hk, rfl, ht, hbr⟩ := hrel
        have HT := Lib.hid ht
        have HW := Lib.hid (bt hbr HB.out)
        have HBR := Lib.hid hbr
        replace b1 := keepA hbr b1
        replace b3 := keepA hbr b3
        clear ht hbr
        by_cases hlt : k < n
        · obtain ⟨x, hx⟩ : ∃ x, a[k]? = some x := ⟨_, List.getElem?_eq_getElem (by rw [HN.out]; exact hlt)⟩
          obtain ⟨y, hy⟩ : ∃ y, b[k]? = some y := ⟨_, List.getElem?_eq_getElem (by rw [HN'.out]; exact hlt)⟩
          obtain ⟨ad, cv, rfl, _, d0, d1, d2, d3, d4, hcv⟩ := (HS.out.up HW.out).get hx
          obtain ⟨ad', cv', rfl, _, e0, e1, e2, e3, e4, hcv'⟩ := (HS'.out.up HW.out).get hy
          have HX := Lib.hid hx
          have HY := Lib.hid hy
          have HSC := Lib.hid (fun W (hb : Below wr.heap.size wr W) => RCSame_any cv cv' x.coef y.coef x.at_ y.at_ lo lo' W (hcv.up hb) (hcv'.up hb))
          obtain ⟨AC, cc, rfl, _, _, _, _⟩ := hcv
          obtain ⟨AC', cc', rfl, _, _, _, _⟩ := hcv'
          generalize x.coef.length = cn at *
          generalize y.coef.length = cn' at *
          clear hx hy
          go_wp2_with fail
          go_region_held3 (fun w' => w'.cell? ⟨w.heap.size, 1, none⟩ = some (.slice (some ad) n cap) ∧ w'.cell? ⟨w.heap.size + 1, 1, none⟩ = some (.slice (some ad') n cap') ∧ w'.cell? (ad.add (k * 5)) = some (.slice AC cn cc) ∧ w'.cell? ⟨(ad.add (k * 5)).block, (ad.add (k * 5)).off + 1, none⟩ = some (.int .i64 x.at_) ∧ w'.cell? ⟨(ad.add (k * 5)).block, (ad.add (k * 5)).off + 2, none⟩ = some (.int .i64 x.left) ∧ w'.cell? ⟨(ad.add (k * 5)).block, (ad.add (k * 5)).off + 3, none⟩ = some (.int .i64 x.right) ∧ w'.cell? ⟨(ad.add (k * 5)).block, (ad.add (k * 5)).off + 4, none⟩ = some (.int .i64 x.size) ∧ w'.cell? (ad'.add (k * 5)) = some (.slice AC' cn' cc') ∧ w'.cell? ⟨(ad'.add (k * 5)).block, (ad'.add (k * 5)).off + 1, none⟩ = some (.int .i64 y.at_) ∧ w'.cell? ⟨(ad'.add (k * 5)).block, (ad'.add (k * 5)).off + 2, none⟩ = some (.int .i64 y.left) ∧ w'.cell? ⟨(ad'.add (k * 5)).block, (ad'.add (k * 5)).off + 3, none⟩ = some (.int .i64 y.right) ∧ w'.cell? ⟨(ad'.add (k * 5)).block, (ad'.add (k * 5)).off + 4, none⟩ = some (.int .i64 y.size)) (go_keep) (fail)
          all_goals
            by_cases g1 : x.left = y.left
            · have t1 : (x.left != y.left) = false := by simpa using g1
              have G1 := Lib.hid g1
              clear g1
              by_cases g2 : x.right = y.right
              · have t2 : (x.right != y.right) = false := by simpa using g2
                have G2 := Lib.hid g2
                clear g2
                by_cases g3 : x.size = y.size
                · have t3 : (x.size != y.size) = false := by simpa using g3
                  have G3 := Lib.hid g3
                  clear g3
                  cases hs : sameC x.coef x.at_ y.coef y.at_
                  · have F := Lib.hid (show sameT da a db b = false from sameT_no (fun h => take_ne HX.out HY.out (fun e => by rw [e, sameC_self] at hs; cases hs) h.2))
                    go_wp2_with fail
                    refine (HSC.out _ (below_a2 _ _ _).drew).mono ?_
                    rintro e w3 ⟨rfl, hb3⟩
                    rw [hs]
                    have X3 := Lib.hid (bt (bt hb3 (below_a2 _ _ _).drew) HW.out)
                    go_wp2_with fail
                    go_ret
                    exact ⟨ret_bool F.out.symm, X3.out⟩
                  · have E := Lib.hid (nd_eq G1.out G2.out G3.out hs)
                    go_wp2_with fail
                    refine (HSC.out _ (below_a2 _ _ _).drew).mono ?_
                    rintro e w3 ⟨rfl, hb3⟩
                    rw [hs]
                    have X3 := Lib.hid (bt (bt hb3 (below_a2 _ _ _).drew) HBR.out)
                    go_wp2_with fail
                    exact ⟨⟨k + 1, by omega, by go_num, by rw [take_next HX.out, take_next HY.out, HT.out, E.out], X3.out⟩, by simp [intOf]; omega⟩
                · have t3 : (x.size != y.size) = true := by simpa using g3
                  have F := Lib.hid (show sameT da a db b = false from sameT_no (fun h => take_ne HX.out HY.out (fun e => g3 (by rw [e])) h.2))
                  clear g3
                  go_wp2_with fail
                  go_ret
                  exact ⟨ret_bool F.out.symm, (bt (below_a2 _ _ _) HW.out).drew⟩
              · have t2 : (x.right != y.right) = true := by simpa using g2
                have F := Lib.hid (show sameT da a db b = false from sameT_no (fun h => take_ne HX.out HY.out (fun e => g2 (by rw [e])) h.2))
                clear g2
                go_wp2_with fail
                go_ret
                exact ⟨ret_bool F.out.symm, (bt (below_a2 _ _ _) HW.out).drew⟩
            · have t1 : (x.left != y.left) = true := by simpa using g1
              have F := Lib.hid (show sameT da a db b = false from sameT_no (fun h => take_ne HX.out HY.out (fun e => g1 (by rw [e])) h.2))
              clear g1
              go_wp2_with fail
              go_ret
              exact ⟨ret_bool F.out.symm, (bt (below_a2 _ _ _) HW.out).drew⟩
        · have F := Lib.hid (show sameT da a db b = true from sameT_yes ⟨HD.out, by
            have := HT.out
            rw [List.take_of_length_le (by rw [HN.out]; omega), List.take_of_length_le (by rw [HN'.out]; omega)] at this
            exact this⟩)
          go_wp2_with fail
          go_ret
          exact ⟨ret_bool F.out.symm, HW.out⟩
    · have F := Lib.hid (show sameT da a db b = false from sameT_no (fun h => hnn (by rw [← HN.out, ← HN'.out, h.2])))
      have hnb : ((n : Int) != (n' : Int)) = true := by rw [bne_iff_ne]; omega
      have hnb2 : (n != n') = true := by rw [bne_iff_ne]; omega
      clear hnn hd
      go_enter Tryd.func23, Tryd.ntmps23
      go_wp2_with fail
      go_ret
      exact ⟨ret_bool F.out.symm, below_a2 _ _ _⟩
  · have F := Lib.hid (show sameT da a db b = false from sameT_no (fun h => hd h.1))
    have hdb : (da != db) = true := by simpa using hd
    clear hd
    go_enter Tryd.func23, Tryd.ntmps23
    go_wp2_with fail
    go_ret
    exact ⟨ret_bool F.out.symm, below_a2 _ _ _⟩
end Go.Proofs.YtmmgfelifmdnbaaDoor.ShpX
