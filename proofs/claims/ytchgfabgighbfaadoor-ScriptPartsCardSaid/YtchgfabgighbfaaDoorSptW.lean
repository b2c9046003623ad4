/- The walk of ScriptParts (printed by mkspt.py). -/
import Derived.Test.YtchgfabgighbfaaDoorLvdW
import Derived.Maps.AppendAt
namespace Go.Proofs.YtchgfabgighbfaaDoor.SptW
set_option linter.unusedVariables false
set_option linter.unusedSimpArgs false
open Go.RowKit Go.Shelf Base SeqM ScrM ScrP EqlW LinV TxtM GlbD SchW AskW RgtW RedW ShwW ShoW SamW ParD LvdM LvdW

theorem len_of {l : List UInt8} (h : (⟨l.toArray⟩ : ByteArray).size ≤ maxLen) : l.length ≤ 9223372036854775807 := by
  have e : (⟨l.toArray⟩ : ByteArray).size = l.length := by show l.toArray.size = _; simp
  unfold maxLen at h
  omega
theorem lns_one {w : World} {base lo : Nat} {v : Value} {L : List LnR} (h : Lns w base v L) : ∀ u ∈ L.flatMap lnC, u.oneCell' = true := by
  intro u hu
  obtain ⟨r, hr, hx⟩ := List.mem_flatMap.1 hu
  exact List.all_eq_true.1 (lnC_one (h.each r hr).toIn) u hx
theorem lns_in {w : World} {base : Nat} {v : Value} {L : List LnR} (h : Lns w base v L) : ∀ r ∈ L, LnIn w 0 w.heap.size r := fun r hr => (h.each r hr).toIn.more (Nat.zero_le _) (Nat.le_refl _)
theorem lns_seq {w : World} {base : Nat} {v : Value} {L : List LnR} (h : Lns w base v L) : Seq 20 lnC w 0 w.heap.size v L := (Seq.of_own h.own).more (Nat.zero_le _) (Nat.le_refl _)
theorem cnt_le : ∀ (ps : List Wd) (p : Wd) (o ls : List Ln) (k f : Int), o.length ≤ 512 → parseL (p :: ps) o = (ls, k, f) → k ≤ 512
  | [], p, o, ls, k, f, ho, h => by
    rw [parseL] at h
    split at h
    · simp only [Prod.mk.injEq] at h; omega
    · split at h <;> simp only [Prod.mk.injEq] at h <;> omega
  | q :: ps, p, o, ls, k, f, ho, h => by
    rw [parseL] at h
    split at h
    · simp only [Prod.mk.injEq] at h; omega
    · split at h
      · simp only [Prod.mk.injEq] at h; omega
      · exact cnt_le ps q _ ls k f (by simp; omega) h
theorem parse_cnt {s : List UInt8} {ls : List Ln} {n f : Int} (h : parseR s = (ls, n, f)) : 0 ≤ n ∧ n ≤ 512 ∧ (f = 0 → (ls.length : Int) = n) := by
  by_cases hf : f = 0
  · subst hf
    obtain ⟨h1, h2, _⟩ := parse_sound h
    exact ⟨by omega, by omega, fun _ => h1.symm⟩
  · refine ⟨?_, ?_, fun e => absurd e hf⟩
    · unfold parseR at h
      split at h
      · simp only [Prod.mk.injEq] at h; omega
      · cases hs : splitC 10 s with
        | nil => exact absurd hs (split_ne 10 s)
        | cons p ps =>
          rw [hs] at h
          have := parseL_count ps p [] ls n f h
          simp at this; exact this
    · unfold parseR at h
      split at h
      · simp only [Prod.mk.injEq] at h; omega
      · cases hs : splitC 10 s with
        | nil => exact absurd hs (split_ne 10 s)
        | cons p ps =>
          rw [hs] at h
          exact cnt_le ps p [] ls n f (by simp) h
theorem run_append_of_nil {P : Program} (w : World) (base : Nat) (t ty e : TypeId) (i : TypeInfo) (size : Nat) (ht : P.underlying t = some (.slice e)) (hi : P.info? e = some i)
    (v : Value) (n : Nat) (xs : List Value) (hown : w.ownsRow base e size v n xs) (c : Nat) : (Builtin.append_ #[t, t] ty #[v, .slice none 0 c]).run P w = .ok v w := by
  rcases hown.2 with ⟨rfl, rfl⟩ | ⟨g, cap, cur, rfl, _, _, hnc, _⟩
  · simp [Builtin.append_, run_underlying ht, sizeOf, typeInfo, hi, Builtin.lenOf, Builtin.firstCells]
  · simp [Builtin.append_, run_underlying ht, sizeOf, typeInfo, hi, Builtin.lenOf, Builtin.firstCells, hnc, storeCells]
/-- 's = append(s, x...)' under a guard that says yes, both rows of one's own -/
theorem listG {P : Program} {ops : Array Oper} {rest : List Oper} {o : Oper} {a : Act} {Q : Exit → Act → World → Prop} {w : World} (hw : Region.wanted o (yielded ops a.tmps) = true) (s x : Operand) (t : TypeId)
    (ho : o.op = .call { callee := .builtin .append, args := #[s, x], argTypes := #[t, t] })
    {e : TypeId} {z : Value} {size bytes : Nat} (E : Elt P t e z size bytes) (base base2 : Nat) (v v2 : Value) (n m : Nat) (xs news : List Value) (hs : a.eval s = v)
    (hown : w.ownsRow base e size v n xs) (hx : a.eval x = v2) (hown2 : w.ownsRow base2 e size v2 m news) (h1 : ∀ u ∈ news, u.oneCell' = true)
    (hn : n + m ≤ 1073741824) (hbase : base ≤ w.heap.size)
    (h : ∀ v' w', w'.ownsRow base e size v' (n + m) (xs ++ news) → w.grownBy w' v.ownBlock → wpList P ops Q rest (a.put o.dst v') w') :
    wpList P ops Q (o :: rest) a w := by
  refine BigFrame.wpList_want hw fun K hK => ?_
  obtain ⟨ht, h0, hby, i, hi, hz, hsz, hbs, hzs⟩ := E
  have h2 : (n + m) * bytes ≤ 1073741824 * 131072 := Nat.mul_le_mul hn hby
  rcases hown2.2 with ⟨e1, e2⟩ | ⟨g, cap, cur, hv, _⟩
  · have hnil : news = [] := List.eq_nil_of_length_eq_zero (by have := hown2.1; rw [e2] at this; simpa using this)
    subst hnil
    subst e2
    unfold Oper.wp execOp
    simp only [ho, resolve, invoke, builtin, Sem.run_bind, Sem.run_pure, Result.andThen_ok, List.map_toArray, List.map_cons, List.map_nil, hs, hx, e1, run_append_of_nil w base t o.type e i size ht hi v n xs hown 0]
    exact hK _ _ (h v w (by simpa using hown) ⟨rfl, rfl, rfl, Nat.le_refl _, fun _ _ _ => rfl⟩)
  · have hc : ∀ j u, news[j]? = some u → w.cell? ((⟨g, 0, none⟩ : Addr).add j) = some u := fun j u hu => by
      have hm : 0 < m := by
        rcases Nat.eq_zero_or_pos m with h' | h'
        · have h3 := hown2.1
          rw [h', Nat.zero_mul] at h3
          have := (List.getElem?_eq_some_iff.1 hu).1
          omega
        · exact h'
      obtain ⟨ad, e3, _, _, hc⟩ := (Rd.of_own (by rw [hv] at hown2; exact hown2)).2 hm
      obtain rfl := Option.some.inj e3
      exact hc j u hu
    obtain ⟨v', w', hrun, k2, k3, _, _⟩ := run_append_own_at (P := P) w base t o.type e i z size bytes ht hi hz hsz hbs hzs h0 v n xs hown ⟨g, 0, none⟩ m cap news hown2.1 hc h1 (by unfold maxLen; omega) (by omega) hbase
    unfold Oper.wp execOp
    simp only [ho, resolve, invoke, builtin, Sem.run_bind, Sem.run_pure, Result.andThen_ok, List.map_toArray, List.map_cons, List.map_nil, hs, hx, hv, hrun]
    exact hK _ _ (h v' w' k2 k3)
set_option maxHeartbeats 8000000 in
set_option maxRecDepth 100000 in
theorem ScriptParts_any (a b : List UInt8) (ha9 : a.length ≤ 9223372036854775807) (hb9 : b.length ≤ 9223372036854775807) (w : World) (hG : G w) : Calls Tryd.prog 3 #[.string ⟨a.toArray⟩, .string ⟨b.toArray⟩] w fun e w' => e = .returned (.bool true) ∧ Below w.heap.size w w' := by
  have HG := Lib.hid hG
  obtain ⟨an, han⟩ : ∃ an, a.length = an := ⟨_, rfl⟩
  obtain ⟨bn, hbn⟩ : ∃ bn, b.length = bn := ⟨_, rfl⟩
  have sa : a.toArray.size = an := by simpa using han
  have sa2 : (⟨a.toArray⟩ : ByteArray).size = an := sa
  have sb : b.toArray.size = bn := by simpa using hbn
  have sb2 : (⟨b.toArray⟩ : ByteArray).size = bn := sb
  have HAN := Lib.hid han
  have HBN := Lib.hid hbn
  rw [han] at ha9
  rw [hbn] at hb9
  clear hG han hbn
  by_cases g1 : an ≤ 2000
  · by_cases g2 : bn ≤ 2000
    · have d1 : decide ((an : Int) > 2000) = false := decide_eq_false (by omega)
      have d2 : decide ((bn : Int) > 2000) = false := decide_eq_false (by omega)
      go_enter Tryd.func3, Tryd.ntmps3
      go_wp2_with fail
      clear d1 d2 sa sa2 sb sb2
      refine (Parse_any a (by rw [HAN.out]; omega) w HG.out).mono ?_
      rintro e W1 ⟨L1, v1, n1, f1, rfl, hp1, hl1, hb1⟩
      have HP1 := Lib.hid hp1
      have HL1 := Lib.hid hl1
      have HB1 := Lib.hid hb1
      have hc1 := parse_cnt hp1
      have HC1 := Lib.hid hc1.2.2
      obtain ⟨hn1, hn1b, hdrop⟩ := hc1
      clear hdrop
      clear hp1 hl1 hb1
      go_wp2_with fail
      refine (Parse_any b (by rw [HBN.out]; omega) W1 (HG.out.below HB1.out)).mono ?_
      rintro e W2 ⟨L2, v2, n2, f2, rfl, hp2, hl2, hb2⟩
      have HP2 := Lib.hid hp2
      have HL2 := Lib.hid hl2
      have HL1b := Lib.hid (HL1.out.below hb2)
      have HB2 := Lib.hid (bt hb2 HB1.out)
      have hc2 := parse_cnt hp2
      have HC2 := Lib.hid hc2.2.2
      obtain ⟨hn2, hn2b, hdrop⟩ := hc2
      clear hdrop
      clear hp2 hl2 hb2
      have hcat : (⟨a.toArray⟩ : ByteArray) ++ ⟨b.toArray⟩ = ⟨(a ++ b).toArray⟩ := by apply ByteArray.ext; simp
      have hq1 : ¬ 9223372036854775807 < a.length + b.length := by have := HAN.out; have := HBN.out; omega
      have hq2 : ¬ 9223372036854775807 < (⟨a.toArray⟩ : ByteArray).size + (⟨b.toArray⟩ : ByteArray).size := by show ¬ 9223372036854775807 < a.toArray.size + b.toArray.size; simpa using hq1
      have hq3 : ¬ 9223372036854775807 < a.toArray.size + b.toArray.size := by simpa using hq1
      go_wp2_with fail
      clear hq1 hq2 hq3 hcat
      refine (Parse_any (a ++ b) (by rw [List.length_append, HAN.out, HBN.out]; omega) W2 (HG.out.below HB2.out)).mono ?_
      rintro e W3 ⟨L3, v3, n3, f3, rfl, hp3, hl3, hb3⟩
      have HP3 := Lib.hid hp3
      have HL3 := Lib.hid hl3
      have HL2c := Lib.hid (HL2.out.below hb3)
      have HL1c := Lib.hid (HL1b.out.below hb3)
      have HB3 := Lib.hid (bt hb3 HB2.out)
      clear hp3 hl3 hb3
      by_cases e1 : f1 = 0
      · subst e1
        by_cases e2 : n1 + n2 < 512
        · have q2 : decide (n1 + n2 < 512) = true := decide_eq_true e2
          have HPP := Lib.hid (parse_parts HP1.out HP2.out e2 (by rw [HAN.out, HBN.out]; omega) (by rw [HBN.out]; omega))
          obtain ⟨hm, rfl, rfl⟩ : L3.map (·.ln) = (if f2 = 0 then L1.map (·.ln) ++ L2.map (·.ln) else []) ∧ n3 = n1 + n2 ∧ f3 = f2 := by have := HPP.out; rw [HP3.out] at this; simpa using this
          have HM := Lib.hid hm
          clear hm e2
          by_cases e3 : f3 = 0
          · subst e3
            have HM2 := Lib.hid (show L3.map (·.ln) = L1.map (·.ln) ++ L2.map (·.ln) by have := HM.out; rwa [if_pos rfl] at this)
            have hl1 : (L1.length : Int) = n1 := by have := HC1.out rfl; simpa using this
            have hl2 : (L2.length : Int) = n2 := by have := HC2.out rfl; simpa using this
            have hk1b : L1.length ≤ 512 := by omega
            have hk2b : L2.length ≤ 512 := by omega
            obtain ⟨A1, c1, rfl⟩ := slice_of HL1c.out.own
            obtain ⟨A2, c2, rfl⟩ := slice_of HL2c.out.own
            obtain ⟨A3, c3, rfl⟩ := slice_of HL3.out.own
            have HO1 := Lib.hid (fun W (hb : Below W3.heap.size W3 W) => (HL1c.out.below hb).own)
            have HO2 := Lib.hid (fun W (hb : Below W3.heap.size W3 W) => (HL2c.out.below hb).own)
            have HOC1 := Lib.hid (lns_one (lo := 0) HL1c.out)
            have HOC2 := Lib.hid (lns_one (lo := 0) HL2c.out)
            have HE0 := Lib.hid (show (W3.alloc (.cells #[] 38)).ownsRow W3.heap.size 38 20 (.slice (some ⟨W3.heap.size, 0, none⟩) 0 0) 0 [] from ⟨rfl, .inr ⟨W3.heap.size, 0, #[], rfl, Nat.le_refl _, heap_alloc_new W3 _, Nat.le_refl _, by unfold maxLen; omega, rfl, rfl⟩⟩)
            have HS3 := Lib.hid (fun W (hb : Below W3.heap.size W3 W) => HL3.out.below hb)
            have HI1 := Lib.hid (fun W (hb : Below W3.heap.size W3 W) => lns_in (HL1c.out.below hb))
            have HI2 := Lib.hid (fun W (hb : Below W3.heap.size W3 W) => lns_in (HL2c.out.below hb))
            obtain ⟨k1, hk1⟩ : ∃ k, L1.length = k := ⟨_, rfl⟩
            obtain ⟨k2, hk2⟩ : ∃ k, L2.length = k := ⟨_, rfl⟩
            obtain ⟨k3, hk3⟩ : ∃ k, L3.length = k := ⟨_, rfl⟩
            have HK1 := Lib.hid hk1
            have HK2 := Lib.hid hk2
            have HK3 := Lib.hid hk3
            rw [hk1] at HO1 hk1b ⊢
            rw [hk2] at HO2 hk2b ⊢
            rw [hk3] at HS3 ⊢
            clear hk1 hk2 hk3 hl1 hl2
            have HL12 := Lib.hid (show (L1 ++ L2).length = 0 + k1 + k2 by rw [List.length_append, HK1.out, HK2.out]; omega)
            go_wp2_with (first
                | (refine (id ?_ : wpList _ _ _ (⟨some 68, _, _, _, _, _⟩ :: _) _ _)
                   refine listG (by rfl) (.tmp 66) (.tmp 67) 23 (by rfl) eltL W3.heap.size w.heap.size _ _ 0 k1 _ _ (by rfl) HE0.out (by rfl) (HO1.out _ (below_a1 _ _)) HOC1.out (by omega) (by first | exact Nat.le_refl _ | (simp; done) | exact (below_a1 W3 _).size) ?_
                   intro x5 Y5 ho5 hg5
                   have HA5 := Lib.hid ho5
                   have HW5 := Lib.hid (show Below W3.heap.size W3 Y5 from below_own (below_a1 W3 _) HE0.out hg5 (Nat.le_refl _) (below_a1 W3 _).size)
                   clear ho5 hg5)
                | (refine (id ?_ : wpList _ _ _ (⟨some 70, _, _, _, _, _⟩ :: _) _ _)
                   refine listG (by rfl) (.tmp 68) (.tmp 69) 23 (by rfl) eltL W3.heap.size W1.heap.size _ _ (0 + k1) k2 _ _ (by rfl) HA5.out (by rfl) (HO2.out _ HW5.out) HOC2.out (by omega) (by first | exact Nat.le_refl _ | (simp; done) | exact HW5.out.size) ?_
                   intro x6 Y6 ho6 hg6
                   have HA6 := Lib.hid ho6
                   have HW6 := Lib.hid (show Below W3.heap.size W3 Y6 from below_own HW5.out HA5.out hg6 (Nat.le_refl _) HW5.out.size)
                   clear ho6 hg6))
            refine (SameAll_any _ _ L3 (L1 ++ L2) 0 0 Y6 (lns_seq (HS3.out _ HW6.out)) (show Seq 20 lnC Y6 0 Y6.heap.size _ (L1 ++ L2) from by have h9 := HA6.out; rw [← HL12.out] at h9; exact (Seq.of_own (by simpa using h9)).more (Nat.zero_le _) (Nat.le_refl _)) (lns_in (HS3.out _ HW6.out)) (fun r hr => (List.mem_append.1 hr).elim (HI1.out _ HW6.out r) (HI2.out _ HW6.out r))).mono ?_
            rintro e W8 ⟨rfl, hb8⟩
            rw [all_yes (show L3.map (·.ln) = (L1 ++ L2).map (·.ln) by rw [HM2.out]; simp [List.map_append])]
            have HB8 := Lib.hid (bt hb8 (bt HW6.out HB3.out))
            clear hb8
            go_wp2_with fail
            refine (lives_any _ (HG.out.below HB8.out)).mono ?_
            rintro e W9 ⟨rfl, hb9⟩
            have HB9 := Lib.hid (bt hb9 HB8.out)
            clear hb9
            go_wp2_with fail
            go_ret
            exact ⟨rfl, HB9.out⟩
          · have q3 : (f3 == 0) = false := beq_eq_false_iff_ne.2 e3
            have q4 : (f3 != 0) = true := by simpa using e3
            clear e3
            go_wp2_with fail
            refine (lives_any _ (HG.out.below HB3.out)).mono ?_
            rintro e W9 ⟨rfl, hb9⟩
            have HB9 := Lib.hid (bt hb9 HB3.out)
            clear hb9
            go_wp2_with fail
            go_ret
            exact ⟨rfl, HB9.out⟩
        · have q2 : decide (n1 + n2 < 512) = false := decide_eq_false e2
          clear e2
          go_wp2_with fail
          refine (lives_any _ (HG.out.below HB3.out)).mono ?_
          rintro e W9 ⟨rfl, hb9⟩
          have HB9 := Lib.hid (bt hb9 HB3.out)
          clear hb9
          go_wp2_with fail
          go_ret
          exact ⟨rfl, HB9.out⟩
      · have q1 : (f1 == 0) = false := beq_eq_false_iff_ne.2 e1
        clear e1
        go_wp2_with fail
        refine (lives_any _ (HG.out.below HB3.out)).mono ?_
        rintro e W9 ⟨rfl, hb9⟩
        have HB9 := Lib.hid (bt hb9 HB3.out)
        clear hb9
        go_wp2_with fail
        go_ret
        exact ⟨rfl, HB9.out⟩
    · have d1 : decide ((an : Int) > 2000) = false := decide_eq_false (by omega)
      have d2 : decide ((bn : Int) > 2000) = true := decide_eq_true (by omega)
      go_enter Tryd.func3, Tryd.ntmps3
      go_wp2_with fail
      refine (lives_any _ (HG.out.below (Below.refl _ _))).mono ?_
      rintro e W9 ⟨rfl, hb9⟩
      have HB9 := Lib.hid (bt hb9 (Below.refl _ _))
      clear hb9
      go_wp2_with fail
      go_ret
      exact ⟨rfl, HB9.out⟩
  · have d1 : decide ((an : Int) > 2000) = true := decide_eq_true (by omega)
    go_enter Tryd.func3, Tryd.ntmps3
    go_wp2_with fail
    refine (lives_any _ (HG.out.below (Below.refl _ _))).mono ?_
    rintro e W9 ⟨rfl, hb9⟩
    have HB9 := Lib.hid (bt hb9 (Below.refl _ _))
    clear hb9
    go_wp2_with fail
    go_ret
    exact ⟨rfl, HB9.out⟩
end Go.Proofs.YtchgfabgighbfaaDoor.SptW
