/- The reference's Show and Much (printed by mkrsh.py). -/
import Derived.Test.YtchgfabgighbfaaGreatDoorRlnW
namespace Go.Proofs.YtchgfabgighbfaaGreatDoor.RshW
set_option linter.unusedVariables false
set_option linter.unusedSimpArgs false
open Go.RowKit Go.Shelf Base SeqM ScrM ScrP ScrR TxtM GlbD RdsW EqlW LinV SchW RgtW ScrB ScrL ShwW ShoW GsM RrwW RwdW HzW StpW RrgW RlnW

def R2Rel (L : List LnR) (w : World) (s i : Value) (wr : World) : Prop := ∃ k : Nat, k ≤ L.length ∧ i = .int .i64 k ∧ s = .string ⟨(textAll ((L.take k).map (·.ln))).toArray⟩ ∧ (textAll ((L.take k).map (·.ln))).length ≤ 262144 ∧ Below w.heap.size w wr
set_option maxHeartbeats 8000000 in
set_option maxRecDepth 100000 in
theorem RShow_any (v : Value) (L : List LnR) (lo : Nat) (w : World) (hv : Seq 20 lnC w lo w.heap.size v L) (he : ∀ r ∈ L, LnIn w 0 w.heap.size r) (hsm : ∀ r ∈ L, small r) :
    Calls Tryz.prog 8 #[v] w (ShwPost w (L.map (·.ln))) := by
  obtain ⟨A, cap, rfl, hc1, hc2, _⟩ := id hv
  obtain ⟨n, hn⟩ : ∃ n, L.length = n := ⟨_, rfl⟩
  have HN := Lib.hid hn
  have HV := Lib.hid (fun (W : World) (hb : Below w.heap.size w W) (k : Nat) (hlt : k < n) => by
    obtain ⟨A', cap', e', _, _, hr, _⟩ := hv.up hb
    cases e'
    exact rdL hr (i := k) (by rw [hn]; exact hlt))
  have HE := Lib.hid he
  have HSM := Lib.hid hsm
  have H0 := Lib.hid (show S1Rel L w (.int .i64 0) w from ⟨0, Nat.zero_le _, rfl, by simp, Below.refl _ _⟩)
  rw [hn] at hc1 ⊢
  unfold maxLen at hc2
  clear hv he hsm hn
  by_cases h5 : 512 < n
  · have HX := Lib.hid (show ShwPost w (L.map (·.ln)) (.returned (.tuple #[.string ⟨([] : List UInt8).toArray⟩, .int .i64 3])) w from ⟨[], 3, rfl, by unfold showR; rw [if_pos (by rw [List.length_map, HN.out]; exact h5)], Below.refl _ _⟩)
    have hd : decide ((n : Int) > 512) = true := decide_eq_true (by omega)
    clear H0 h5
    go_enter Tryz.func8, Tryz.ntmps8
    go_wp2_with fail
    go_ret2
    exact HX.out
  · have hd : decide ((n : Int) > 512) = false := decide_eq_false (by omega)
    have HL5 := Lib.hid (show ¬ 512 < (L.map (·.ln)).length by rw [List.length_map, HN.out]; exact h5)
    clear h5
    go_enter Tryz.func8, Tryz.ntmps8
    go_wp2_with fail
    go_loopw [4] (fun i wr => S1Rel L w i wr) (fun i _ => n - (RowKit.intOf i).toNat)
    case atStart => exact H0.out
    case round =>
      obtain ⟨k, hk, rfl, hr, hb⟩ := hrel
      rw [HN.out] at hk
      have HR := Lib.hid hr
      have HB := Lib.hid hb
      clear hr H0 hd
      by_cases hlt : k < n
      · obtain ⟨ad, r, rfl, _, hbk, hx, hcell⟩ := HV.out wr hb k hlt
        have HX := Lib.hid hx
        have HC := Lib.hid hcell
        have hmem := List.mem_of_getElem? hx
        have HIN := Lib.hid (LnIn.any (HE.out r hmem) hb)
        have HSR := Lib.hid (HSM.out r hmem)
        clear hx hcell hb hmem
        go_wp2_with (refine (id ?_ : wpList _ _ _ (⟨some 19, .load _ _, _, _, _, _⟩ :: _) _ _); refine wpList_load_at rfl 31 (.tmp 18) rfl (ad.add (k * 20)) (by rfl) (lnC r) _ HC.out Tryz.underlying31 rfl (by kernel_rfl) ?_)
        refine (RRight_any r 0 wr HIN.out HSR.out.2).mono ?_
        rintro e W4 ⟨rfl, hb4⟩
        have HB4 := Lib.hid (bt hb4 HB.out)
        clear hb4
        by_cases hR : Right r.ln
        · rw [right_yes hR]
          have HT := Lib.hid (show ∀ r ∈ L.take (k + 1), Right r.ln by
            rw [EqlW.take_next' HX.out]
            intro x hx
            rcases List.mem_append.1 hx with hx | hx
            · exact HR.out x hx
            · rw [List.mem_singleton.1 hx]; exact hR)
          clear hR
          go_wp2_with fail
          exact ⟨⟨k + 1, by rw [HN.out]; omega, by go_num, HT.out, HB4.out⟩, by simp [RowKit.intOf]; omega⟩
        · rw [right_no hR]
          have HP := Lib.hid (show ShwPost w (L.map (·.ln)) (.returned (.tuple #[.string ⟨([] : List UInt8).toArray⟩, .int .i64 350])) W4 from ⟨[], 350, rfl, by
            unfold showR
            rw [if_neg HL5.out, if_neg (fun h => hR (h r.ln (List.mem_map.2 ⟨r, List.mem_of_getElem? HX.out, rfl⟩)))], HB4.out⟩)
          clear hR
          go_wp2_with fail
          go_ret2
          exact HP.out
      · have HALL := Lib.hid (show ∀ r ∈ L, Right r.ln by
          have := HR.out
          rw [List.take_of_length_le (by rw [HN.out]; omega)] at this
          exact this)
        have HSH := Lib.hid (show showR (L.map (·.ln)) = if 262144 < (textAll (L.map (·.ln))).length then ([], 3) else (textAll (L.map (·.ln)), 0) by
          unfold showR
          rw [if_neg HL5.out, if_pos (fun x hx => by obtain ⟨r, hr, rfl⟩ := List.mem_map.1 hx; exact HALL.out r hr)])
        have HS0 := Lib.hid (show R2Rel L w (.string ⟨#[]⟩) (.int .i64 0) wr from ⟨0, Nat.zero_le _, rfl, by simp [textAll], by simp [textAll], HB.out⟩)
        clear hb
        go_wp2_with fail
        go_loopw [5, 6] (fun s i wq => R2Rel L w s i wq) (fun _ i _ => n - (RowKit.intOf i).toNat)
        case atStart => exact HS0.out
        case round =>
          obtain ⟨k2, hk2, rfl, rfl, hle, hb2⟩ := hrel
          rw [HN.out] at hk2
          have HB2 := Lib.hid hb2
          clear HS0
          by_cases hlt2 : k2 < n
          · obtain ⟨ad, r, rfl, _, hbk, hx, hcell⟩ := HV.out wr hb2 k2 hlt2
            have HC := Lib.hid hcell
            have hmem := List.mem_of_getElem? hx
            have HRR := Lib.hid (HALL.out r hmem)
            have HIN := Lib.hid (LnIn.any (HE.out r hmem) hb2)
            have hll := lineT_le (HALL.out r hmem)
            obtain ⟨LT, hLT⟩ : ∃ x, lineT r.ln = x := ⟨_, rfl⟩
            obtain ⟨P0, hP0⟩ : ∃ x, textAll ((L.take k2).map (·.ln)) = x := ⟨_, rfl⟩
            obtain ⟨P1, hP1⟩ : ∃ x, P0 ++ LT = x := ⟨_, rfl⟩
            have HNX := Lib.hid (show textAll ((L.take (k2 + 1)).map (·.ln)) = P1 by rw [textAll_next hx, hP0, hLT, hP1])
            have HTL := Lib.hid (textAll_le L (k2 + 1))
            rw [HNX.out] at HTL
            have HLN := Lib.hid (by have h9 := RLine_any r 0 wr HIN.out HRR.out; rw [hLT] at h9; exact h9 : Calls Tryz.prog 19 #[.agg (lnC r).toArray] wr fun e w' => e = .returned (.string ⟨LT.toArray⟩) ∧ Below wr.heap.size wr w')
            rw [hLT] at hll
            rw [hP0] at hle ⊢
            have ce1 : (⟨P0.toArray⟩ : ByteArray) ++ (⟨LT.toArray⟩ : ByteArray) = ⟨P1.toArray⟩ := cat_eq P0 LT P1 hP1
            have cn1 : ¬ 9223372036854775807 < P0.length + LT.length := by omega
            have cs1 : ¬ 9223372036854775807 < (⟨P0.toArray⟩ : ByteArray).size + (⟨LT.toArray⟩ : ByteArray).size := by rw [sz, sz]; omega
            have hsz1 : (⟨P1.toArray⟩ : ByteArray).size = P1.length := sz P1
            have z1 : P1.length = P0.length + LT.length := by rw [← hP1]; simp
            obtain ⟨pn, hpn⟩ : ∃ pn, P1.length = pn := ⟨_, rfl⟩
            have HPN := Lib.hid hpn
            rw [hpn] at z1 hsz1
            have hpn4 : pn ≤ 400000 := by omega
            clear hx hcell hmem hb2 hLT hP0 hP1 z1 hpn
            go_wp2_with (refine (id ?_ : wpList _ _ _ (⟨some 32, .load _ _, _, _, _, _⟩ :: _) _ _); refine wpList_load_at rfl 31 (.tmp 31) rfl (ad.add (k2 * 20)) (by rfl) (lnC r) _ HC.out Tryz.underlying31 rfl (by kernel_rfl) ?_)
            refine HLN.out.mono ?_
            rintro e W4 ⟨rfl, hb4⟩
            have HB4 := Lib.hid (bt hb4 HB2.out)
            clear hb4
            have hsz2 : P1.length = pn := HPN.out
            by_cases hg : 262144 < pn
            · have hd : decide ((pn : Int) > 262144) = true := decide_eq_true (by omega)
              have HP := Lib.hid (show ShwPost w (L.map (·.ln)) (.returned (.tuple #[.string ⟨([] : List UInt8).toArray⟩, .int .i64 3])) W4 from ⟨[], 3, rfl, by rw [HSH.out, if_pos (by have := HTL.out; have := HPN.out; omega)], HB4.out⟩)
              clear hg
              go_wp2_with fail
              go_ret2
              exact HP.out
            · have hd : decide ((pn : Int) > 262144) = false := decide_eq_false (by omega)
              have HF := Lib.hid (show R2Rel L w (.string ⟨P1.toArray⟩) (.int .i64 ((k2 : Int) + 1)) W4 from ⟨k2 + 1, by rw [HN.out]; omega, by go_num, by rw [HNX.out], by rw [HNX.out, HPN.out]; omega, HB4.out⟩)
              clear hg
              go_wp2_with fail
              exact ⟨HF.out, by simp [RowKit.intOf]; omega⟩
          · have HTA := Lib.hid (show L.take k2 = L from List.take_of_length_le (by rw [HN.out]; omega))
            rw [HTA.out] at hle ⊢
            have HP := Lib.hid (show ShwPost w (L.map (·.ln)) (.returned (.tuple #[.string ⟨(textAll (L.map (·.ln))).toArray⟩, .int .i64 0])) wr from ⟨_, 0, rfl, by rw [HSH.out, if_neg (by omega)], HB2.out⟩)
            clear hb2
            go_wp2_with fail
            go_ret2
            exact HP.out
def MuRel (L : List LnR) (w : World) (i : Value) (wr : World) : Prop := ∃ k : Nat, k ≤ L.length ∧ i = .int .i64 k ∧ w = wr
theorem add_off3 (a : Addr) (i j : Nat) (h : j ≠ 0) : (a.add i).add j = ⟨(a.add i).block, (a.add i).off + j, none⟩ := by
  conv => lhs; unfold Addr.add
  rw [if_neg h]
  rfl
set_option maxHeartbeats 8000000 in
set_option maxRecDepth 100000 in
theorem Much_any (v : Value) (L : List LnR) (most : Int) (lo B : Nat) (w : World) (hv : Seq 20 lnC w lo B v L) (he : ∀ r ∈ L, LnIn w 0 w.heap.size r) :
    Calls Tryz.prog 5 #[v, .int .i64 most] w fun e w' => (∃ b, e = .returned (.bool b)) ∧ w = w' := by
  obtain ⟨A, cap, rfl, hc1, hc2, hr, _⟩ := hv
  obtain ⟨n, hn⟩ : ∃ n, L.length = n := ⟨_, rfl⟩
  have HN := Lib.hid hn
  have HR := Lib.hid hr
  have HE := Lib.hid he
  have H0 := Lib.hid (show MuRel L w (.int .i64 0) w from ⟨0, Nat.zero_le _, rfl, rfl⟩)
  rw [hn] at hc1 ⊢
  unfold maxLen at hc2
  clear hr he hn
  by_cases h5 : (n : Int) > most
  · have hd : decide ((n : Int) > most) = true := decide_eq_true h5
    clear h5 H0
    go_enter Tryz.func5, Tryz.ntmps5
    go_wp2_with fail
    go_ret
    exact ⟨⟨_, rfl⟩, rfl⟩
  · have hd : decide ((n : Int) > most) = false := decide_eq_false h5
    clear h5
    go_enter Tryz.func5, Tryz.ntmps5
    go_wp2_with fail
    go_loopw [5] (fun i wr => MuRel L w i wr) (fun i _ => n - (RowKit.intOf i).toNat)
    case atStart => exact H0.out
    case round =>
      obtain ⟨k, hk, rfl, rfl⟩ := hrel
      rw [HN.out] at hk
      clear H0 hd
      by_cases hlt : k < n
      · obtain ⟨ad, r, e2, _, hbk, hx, hcell⟩ := rdL HR.out (i := k) (by rw [HN.out]; exact hlt)
        cases e2
        have hmem := List.mem_of_getElem? hx
        obtain ⟨X1, x2, ex, _⟩ := (HE.out r hmem).xs
        obtain ⟨D1, d2, ed, _⟩ := (HE.out r hmem).ds
        obtain ⟨K1, k2, ek, _⟩ := (HE.out r hmem).ks
        have c14 := hcell 14 _ rfl
        have c17 := hcell 17 _ rfl
        have c19 := hcell 19 _ rfl
        rw [ex] at c14
        rw [ed] at c17
        rw [ek] at c19
        rw [add_off3 _ _ _ (by decide)] at c14 c17 c19
        obtain ⟨a1, ha1⟩ : ∃ a, r.ln.ak.xs.length = a := ⟨_, rfl⟩
        obtain ⟨a2, ha2⟩ : ∃ a, r.ln.draws.length = a := ⟨_, rfl⟩
        obtain ⟨a3, ha3⟩ : ∃ a, r.ln.kept.length = a := ⟨_, rfl⟩
        rw [ha1] at c14
        rw [ha2] at c17
        rw [ha3] at c19
        clear hcell hx hmem ex ed ek ha1 ha2 ha3
        by_cases g1 : a1 > 20
        · have d1 : decide ((a1 : Int) > 20) = true := decide_eq_true (by omega)
          clear g1
          go_wp2_with fail
          go_ret
          exact ⟨⟨_, rfl⟩, rfl⟩
        · have d1 : decide ((a1 : Int) > 20) = false := decide_eq_false (by omega)
          clear g1
          by_cases g2 : a2 > 400
          · have d2' : decide ((a2 : Int) > 400) = true := decide_eq_true (by omega)
            clear g2
            go_wp2_with fail
            go_ret
            exact ⟨⟨_, rfl⟩, rfl⟩
          · have d2' : decide ((a2 : Int) > 400) = false := decide_eq_false (by omega)
            clear g2
            by_cases g3 : a3 > 300
            · have d3 : decide ((a3 : Int) > 300) = true := decide_eq_true (by omega)
              clear g3
              go_wp2_with fail
              go_ret
              exact ⟨⟨_, rfl⟩, rfl⟩
            · have d3 : decide ((a3 : Int) > 300) = false := decide_eq_false (by omega)
              clear g3
              go_wp2_with fail
              exact ⟨⟨k + 1, by rw [HN.out]; omega, by go_num, rfl⟩, by simp [RowKit.intOf]; omega⟩
      · go_wp2_with fail
        go_ret
        exact ⟨⟨_, rfl⟩, rfl⟩
end Go.Proofs.YtchgfabgighbfaaGreatDoor.RshW
