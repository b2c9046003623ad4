/- The reference's Parse (printed by mkrpa.py). -/
import Derived.Test.YtchgfabgighbfaaGreatDoorGueW
import Derived.Test.YtchgfabgighbfaaGreatDoorRshW
import Derived.Test.YtchgfabgighbfaaGreatDoorParD
namespace Go.Proofs.YtchgfabgighbfaaGreatDoor.RpaW
set_option linter.unusedVariables false
set_option linter.unusedSimpArgs false
open Go.RowKit Go.Shelf Base SeqM ScrM ScrP ScrR TxtM GlbD RdsW EqlW LinV SchW AskW RgtW ScrB ScrL ShwW ShoW ParD GsM RrwW RwdW HzW StpW PtlW RrgW RlnW GueW RshW

def RpRel (w : World) (s : List UInt8) (t5 t6 t7 : Value) (wr : World) : Prop := ∃ (k f : Nat) (L : List LnR) (A : Option Addr) (n cap : Nat), k ≤ s.length ∧ f ≤ k ∧ t5 = .slice A n cap ∧ t6 = .int .i64 f ∧ t7 = .int .i64 k ∧ n = L.length ∧ n ≤ 512 ∧
  Lns wr w.heap.size (.slice A n cap) L ∧ Below w.heap.size w wr ∧ (10 : UInt8) ∉ (s.take k).drop f ∧ parseL (splitC 10 s) [] = parseL (splitC 10 (s.drop f)) (L.map (·.ln)) ∧ ∀ r ∈ L, small r
def RpPost (w : World) (s : List UInt8) (e : Ending) (w' : World) : Prop := ∃ (L : List LnR) (v : Value) (k f : Int), e = .returned (.tuple #[v, .int .i64 k, .int .i64 f]) ∧ parseR s = (L.map (·.ln), k, f) ∧ Lns w' w.heap.size v L ∧ Below w.heap.size w w'
theorem num_i64 (s : Wd) : numF s ≤ 9223372036854775807 := by have := num_le s; omega
def smallL (l : Ln) : Prop := l.cf.c7 ≤ 9223372036854775807 ∧ ∀ x ∈ l.draws, x < 18446744073709551616
theorem small0 {l : Ln} (h1 : l.cf = cf0) (h2 : l.draws = []) : smallL l := ⟨by rw [h1]; decide, by rw [h2]; simp⟩
theorem guess_small (ws : List Wd) : smallL (guessF ws) := by
  cases ws with
  | nil => exact small0 rfl rfl
  | cons w r =>
    show smallL (guessR w r)
    unfold guessR
    split
    · refine ⟨?_, fun x hx => by cases hx⟩
      show at0 (r.map numF) 7 ≤ _
      unfold at0
      rw [List.getD_eq_getElem?_getD, List.getElem?_append]
      split
      · rename_i h
        rw [List.getElem?_eq_getElem h, List.getElem_map]
        exact num_i64 _
      · rw [List.getElem?_replicate]
        split <;> decide
    · split
      · refine ⟨by show (0 : Int) ≤ _; decide, fun x hx => ?_⟩
        obtain ⟨y, _, rfl⟩ := List.mem_map.1 hx
        exact big_lt y
      · repeat' split
        all_goals exact small0 rfl rfl
theorem split_lens' (c : UInt8) : ∀ (s : List UInt8), (∀ x ∈ splitC c s, x.length ≤ s.length) ∧ (splitC c s).length ≤ s.length + 1
  | [] => by simp [splitC]
  | x :: s => by
    obtain ⟨h1, h2⟩ := split_lens' c s
    rw [splitC]
    split
    · refine ⟨fun y hy => ?_, by simp; omega⟩
      rcases List.mem_cons.1 hy with rfl | hy
      · simp
      · have := h1 y hy; simp; omega
    · cases hs : splitC c s with
      | nil => exact absurd hs (split_ne c s)
      | cons a r =>
        rw [hs] at h1 h2
        refine ⟨fun y hy => ?_, by simp at h2 ⊢; omega⟩
        rcases List.mem_cons.1 hy with rfl | hy
        · have := h1 a (by simp); simp; omega
        · have := h1 y (by simp [hy]); simp; omega
set_option maxHeartbeats 16000000 in
set_option maxRecDepth 100000 in
theorem RParse_any (s : List UInt8) (hs9 : s.length ≤ 1000000000) (w : World) : Calls Tryz.prog 15 #[.string ⟨s.toArray⟩] w (RpPost w s) := by
  obtain ⟨m, hm⟩ : ∃ m, s.length = m := ⟨_, rfl⟩
  have hss : s.toArray.size = m := by simpa using hm
  have hss2 : (⟨s.toArray⟩ : ByteArray).size = m := hss
  have HM := Lib.hid hm
  have HIX := Lib.hid (fun (k : Nat) (c : UInt8) (hc : s[k]? = some c) (hh : k < (⟨s.toArray⟩ : ByteArray).size) => at_byte hc hh)
  have HGL := Lib.hid (fun (k : Nat) (hk : k < m) => (⟨_, List.getElem?_eq_getElem (by rw [hm]; exact hk)⟩ : ∃ c, s[k]? = some c))
  rw [hm] at hs9
  clear hm
  by_cases h26 : 262144 < m
  · have HX := Lib.hid (show RpPost w s (.returned (.tuple #[.slice none 0 0, .int .i64 0, .int .i64 3])) w from ⟨[], _, 0, 3, rfl, by unfold parseR; rw [if_pos (by rw [HM.out]; exact h26)]; rfl, Lns.nil_ _ _, Below.refl _ _⟩)
    have hd : decide ((m : Int) > 262144) = true := decide_eq_true (by omega)
    clear h26
    go_enter Tryz.func15, Tryz.ntmps15
    go_wp2_with fail
    refine bodyPost_ret (v := .tuple #[.slice none 0 0, .int .i64 0, .int .i64 3]) (by simp only [results]; go_simp) rfl ?_
    exact HX.out
  · have hd : decide ((m : Int) > 262144) = false := decide_eq_false (by omega)
    have hm26 : m ≤ 262144 := by omega
    have HPR := Lib.hid (show parseR s = parseL (splitC 10 s) [] by unfold parseR; rw [if_neg (by rw [HM.out]; exact h26)])
    have H0 := Lib.hid (show RpRel w s (.slice none 0 0) (.int .i64 0) (.int .i64 0) w from ⟨0, 0, [], none, 0, 0, Nat.zero_le _, Nat.le_refl _, rfl, rfl, rfl, rfl, by omega, Lns.nil_ _ _, Below.refl _ _, by simp, by rw [List.drop_zero]; rfl, by simp⟩)
    clear h26
    go_enter Tryz.func15, Tryz.ntmps15
    go_wp2_with fail
    clear hd
    go_loopw [5, 6, 7] (fun t5 t6 t7 wr => RpRel w s t5 t6 t7 wr) (fun _ _ t7 _ => m - (RowKit.intOf t7).toNat)
    case atStart => exact H0.out
    case round =>
      obtain ⟨k, f, L, A, n, cap, hk, hf, rfl, rfl, rfl, hn, hn5, hL, hb, hno, hp, hsm⟩ := hrel
      rw [HM.out] at hk
      have HN := Lib.hid hn
      have HL := Lib.hid hL
      have HB := Lib.hid hb
      have HNO := Lib.hid hno
      have HP := Lib.hid hp
      have HSM := Lib.hid hsm
      have hzw := hb.size
      clear hn hL hb hno hp hsm H0
      by_cases hlt : k < m
      · obtain ⟨c, hc⟩ := HGL.out k hlt
        have hix := HIX.out k c hc
        have HC := Lib.hid hc
        clear hc
        by_cases h10 : c = 10
        · subst h10
          have d1 : (((10 : UInt8).toNat : Int) != 10) = false := by decide
          have HNE := Lib.hid (show s.drop f ≠ [] by rw [drop_hit HC.out hf]; simp)
          by_cases h5 : n = 512
          · subst h5
            have HX := Lib.hid (show RpPost w s (.returned (.tuple #[.slice none 0 0, .int .i64 512, .int .i64 3])) wr from ⟨[], _, 512, 3, rfl, by rw [HPR.out, HP.out, pl_full HNE.out (by rw [List.length_map]; exact HN.out.symm)]; rfl, Lns.nil_ _ _, HB.out⟩)
            go_wp2_with fail
            refine bodyPost_ret (v := .tuple #[.slice none 0 0, .int .i64 512, .int .i64 3]) (by simp only [results]; go_simp) rfl ?_
            exact HX.out
          · have h5b : ((n : Int) == 512) = false := beq_eq_false_iff_ne.2 (by omega)
            have HO := Lib.hid (show ¬ (L.map (·.ln)).length = 512 by rw [List.length_map, ← HN.out]; exact h5)
            have hn4 : n < 512 := by omega
            clear h5
            obtain ⟨p, hpp⟩ : ∃ p, (s.take k).drop f = p := ⟨_, rfl⟩
            have HPP := Lib.hid hpp
            have hex : (⟨s.toArray⟩ : ByteArray).extract f k = ⟨p.toArray⟩ := by rw [cut_mid, hpp]
            have HP10 := Lib.hid (show (10 : UInt8) ∉ p by rw [← hpp]; exact HNO.out)
            have HDR := Lib.hid (show s.drop f = p ++ 10 :: s.drop (k + 1) by rw [← hpp]; exact drop_hit HC.out hf)
            have hpl : p.length ≤ 262144 := by rw [← hpp, List.length_drop, List.length_take]; omega
            have HPL := Lib.hid hpl
            obtain ⟨Q, hQ⟩ : ∃ Q, p ++ [10] = Q := ⟨_, rfl⟩
            have HQ := Lib.hid hQ
            have hex2 : (⟨s.toArray⟩ : ByteArray).extract f (k + 1) = ⟨Q.toArray⟩ := by rw [cut_mid, take_next HC.out, List.drop_append_of_le_length (by rw [List.length_take, HM.out]; omega), hpp, hQ]
            have HEX2 := Lib.hid hex2
            clear hpp hpl hQ hex2
            go_wp2_with fail
            clear hix hex
            refine (words_any p (by have := HPL.out; omega) wr).mono ?_
            rintro e W1 ⟨A1, n1, c1, rfl, hn1, ho1, hb1⟩
            have HB1 := Lib.hid (bt hb1 HB.out)
            have HL1 := Lib.hid (HL.out.below hb1)
            obtain ⟨x, r, hxr⟩ : ∃ x r, splitC 32 p = x :: r := by
              cases hh : splitC 32 p with
              | nil => exact absurd hh (split_ne 32 p)
              | cons x r => exact ⟨x, r, rfl⟩
            have HXR := Lib.hid hxr
            have hsl := split_lens' 32 p
            rw [hxr] at ho1 hn1 hsl
            have HSL := Lib.hid hsl
            have HS1 := Lib.hid (show Seq 1 wdC W1 wr.heap.size W1.heap.size (.slice A1 n1 c1) (x :: r) from Seq.of_own (by rw [← hn1]; exact ho1))
            clear hn1 ho1 hb1 hxr hsl
            go_wp2_with fail
            refine (guess_any x r _ wr.heap.size W1 HS1.out (by have h9 := HSL.out.2; have := HPL.out; simp at h9; omega) (fun z hz => by have h9 := HSL.out.1 z hz; have := HPL.out; omega)).mono ?_
            rintro e W2 ⟨rr, rfl, hrr, hor, hb2⟩
            have HB2 := Lib.hid (bt hb2 HB1.out)
            have HL2 := Lib.hid (HL1.out.below hb2)
            have HOR := Lib.hid (hor.more HB1.out.size)
            have HRR := Lib.hid (show rr.ln = guessF (splitC 32 p) by rw [hrr, HXR.out])
            have H1C := Lib.hid (lnC_one1 hor.toIn)
            have hgs := guess_small (splitC 32 p)
            have HGS := Lib.hid (show small rr from by unfold small; rw [HRR.out]; exact hgs)
            have hz2 : w.heap.size ≤ W2.heap.size := HB2.out.size
            clear hrr hor hb2 hgs HS1
            go_wp2_with (refine (id ?_ : wpList _ _ _ (⟨none, .store _ _ _, _, _, _, _⟩ :: _) _ _); refine wpList_store_row rfl 31 (.tmp 8) (.tmp 30) rfl W2.heap.size (lnC rr).toArray (by rfl) (by rfl) 31 _ (heap_alloc_new W2 _) (by kernel_rfl) (by rfl) (by simpa using H1C.out) ?_; generalize hW3 : World.setRow _ _ _ = W3; have h3c : W3.heap[W2.heap.size]? = some (.cells (lnC rr).toArray 31 (0, 0)) := (by rw [← hW3]; exact row_heap (heap_alloc_new W2 _)); have hb3 : Below W2.heap.size W2 W3 := (by rw [← hW3]; exact below_row (below_a1 W2 _) (Nat.le_refl _)); have H3C := Lib.hid h3c; have HL3 := Lib.hid (HL2.out.below hb3); have HOR3 := Lib.hid (HOR.out.below hb3); have HB3 := Lib.hid (bt hb3 HB2.out); have hz3 : W2.heap.size < W3.heap.size := (Array.getElem?_eq_some_iff.1 h3c).1; clear h3c hb3 hW3)
            have HRG := Lib.hid (fun W (h : Below W3.heap.size W3 W) => (fun j v hj => by rw [Nat.zero_add]; exact cell_of ((h.block _ hz3).trans H3C.out) (by simpa using hj) : W.rangeAt W2.heap.size 0 (lnC rr)))
            have HIN3 := Lib.hid (fun (W : World) (h : Below W3.heap.size W3 W) => (HOR3.out.below h).toIn.more (Nat.zero_le _) (Nat.le_refl _))
            refine regionZ 12 (fun w' => w'.rangeAt W2.heap.size 0 (lnC rr)) (by kernel_rfl) (HRG.out _ (show Below W3.heap.size W3 W3.drew from (Below.refl _ _).drew)) (fun hH => ?_)
            refine takeZ 0 (v := .agg (lnC rr).toArray) (gi rfl) (by kernel_rfl) (fun _ _ _ h => h) hH (by exact yieldsIf_load_mid (by rfl) 31 (.tmp 8) rfl W2.heap.size 0 (by rfl) (lnC rr) _ (fun w h => h) Tryz.underlying31 rfl (by kernel_rfl)) ?_
            try simp only [Act.put, List.setIfInBounds_toArray, List.set_cons_zero, List.set_cons_succ]
            refine oneZ 1 (by kernel_rfl) (gi rfl) (fun K hK => ?_)
            try simp only [Act.put, List.setIfInBounds_toArray, List.set_cons_zero, List.set_cons_succ]
            go_simp
            refine (RRight_any rr 0 _ (HIN3.out _ (show Below W3.heap.size W3 W3.drew from (Below.refl _ _).drew)) HGS.out.2).mono ?_
            rintro e W4 ⟨rfl, hb4⟩
            have HW4 := Lib.hid (show Below W3.heap.size W3 W4 from (show Below W3.heap.size W3 W3.drew from (Below.refl _ _).drew).trans hb4)
            clear hb4
            by_cases hR : Right rr.ln
            · rw [right_yes hR]
              have HRT := Lib.hid hR
              clear hR
              refine hK.out _ _ (fun _ => HRG.out _ HW4.out) (fun hH => ?_)
              replace hH := hH (by decide)
              clear hK K
              try simp only [Act.put, List.setIfInBounds_toArray, List.set_cons_zero, List.set_cons_succ]
              obtain ⟨LT, hLT⟩ : ∃ x, lineT rr.ln = x := ⟨_, rfl⟩
              have HLT := Lib.hid hLT
              have HLN := Lib.hid (by have h9 := RLine_any rr 0 W4 (HIN3.out _ HW4.out) HRT.out; rw [hLT] at h9; exact h9 : Calls Tryz.prog 19 #[.agg (lnC rr).toArray] W4 fun e w' => e = .returned (.string ⟨LT.toArray⟩) ∧ Below W4.heap.size W4 w')
              clear hLT
              have hex3 := HEX2.out
              have hwk : IntKind.i64.wrap ((k : Int) + 1) = (k : Int) + 1 := by rw [IntKind.wrap_i64]; omega
              have hwt : ((k : Int) + 1).toNat = k + 1 := by omega
              have hw1 : (0 : Int) ≤ (k : Int) + 1 := by omega
              have hw2 : (k : Int) + 1 ≤ (m : Int) := by omega
              have hw3 : (f : Int) ≤ (k : Int) + 1 := by omega
              refine takeZ 2 (v := ?_) (gi rfl) (by kernel_rfl) (fun _ _ _ h => h) hH (.inl ⟨rfl, fun w hW => ?_⟩) ?_
              rotate_left
              · (go_simp; try with_reducible rfl)
              try simp only [Act.put, List.setIfInBounds_toArray, List.set_cons_zero, List.set_cons_succ]
              refine takeZ 3 (v := ?_) (gi rfl) (by kernel_rfl) (fun _ _ _ h => h) hH (.inl ⟨rfl, fun w hW => ?_⟩) ?_
              rotate_left
              · (go_simp; try with_reducible rfl)
              try simp only [Act.put, List.setIfInBounds_toArray, List.set_cons_zero, List.set_cons_succ]
              refine takeZ 4 (v := .agg (lnC rr).toArray) (gi rfl) (by kernel_rfl) (fun _ _ _ h => h) hH (by exact yieldsIf_load_mid (by rfl) 31 (.tmp 8) rfl W2.heap.size 0 (by rfl) (lnC rr) _ (fun w h => h) Tryz.underlying31 rfl (by kernel_rfl)) ?_
              try simp only [Act.put, List.setIfInBounds_toArray, List.set_cons_zero, List.set_cons_succ]
              refine takeZ 6 (v := ?_) (gi rfl) (by kernel_rfl) (fun _ _ _ h => h) hH (.inl ⟨rfl, fun w hW => ?_⟩) ?_
              rotate_left
              · (go_simp; try with_reducible rfl)
              try simp only [Act.put, List.setIfInBounds_toArray, List.set_cons_zero, List.set_cons_succ]
              refine takeZ 7 (v := ?_) (gi rfl) (by kernel_rfl) (fun _ _ _ h => h) hH (.inl ⟨rfl, fun w hW => ?_⟩) ?_
              rotate_left
              · (go_simp; try with_reducible rfl)
              try simp only [Act.put, List.setIfInBounds_toArray, List.set_cons_zero, List.set_cons_succ]
              refine takeZ 8 (v := ?_) (gi rfl) (by kernel_rfl) (fun _ _ _ h => h) hH (.inl ⟨rfl, fun w hW => ?_⟩) ?_
              rotate_left
              · (go_simp; try with_reducible rfl)
              try simp only [Act.put, List.setIfInBounds_toArray, List.set_cons_zero, List.set_cons_succ]
              refine takeZ 9 (v := ?_) (gi rfl) (by kernel_rfl) (fun _ _ _ h => h) hH (.inl ⟨rfl, fun w hW => ?_⟩) ?_
              rotate_left
              · (go_simp; try with_reducible rfl)
              try simp only [Act.put, List.setIfInBounds_toArray, List.set_cons_zero, List.set_cons_succ]
              refine takeZ 10 (v := ?_) (gi rfl) (by kernel_rfl) (fun _ _ _ h => h) hH (.inl ⟨rfl, fun w hW => ?_⟩) ?_
              rotate_left
              · (go_simp; try with_reducible rfl)
              try simp only [Act.put, List.setIfInBounds_toArray, List.set_cons_zero, List.set_cons_succ]
              refine oneZ 5 (by kernel_rfl) (gi rfl) (fun K hK => ?_)
              try simp only [Act.put, List.setIfInBounds_toArray, List.set_cons_zero, List.set_cons_succ]
              go_simp
              refine HLN.out.mono ?_
              rintro e W5 ⟨rfl, hb5⟩
              have HW5 := Lib.hid (bt hb5 HW4.out)
              clear hb5
              refine hK.out _ _ (fun _ => HRG.out _ HW5.out) (fun hH => ?_)
              replace hH := hH (by decide)
              clear hK K
              try simp only [Act.put, List.setIfInBounds_toArray, List.set_cons_zero, List.set_cons_succ]
              by_cases heq : LT = Q
              · have q1 : (LT == Q) = true := beq_iff_eq.2 heq
                refine takeZ 11 (v := ?_) (gi rfl) (by kernel_rfl) (fun _ _ _ h => h) hH (.inl ⟨rfl, fun w hW => ?_⟩) ?_
                rotate_left
                · (go_simp; try with_reducible rfl)
                try simp only [Act.put, List.setIfInBounds_toArray, List.set_cons_zero, List.set_cons_succ]
                refine yieldZ 12 (v := ?_) (by kernel_rfl) (gi rfl) hH (.inl ⟨rfl, fun w hW => ?_⟩) ?_
                rotate_left
                · (go_simp; try with_reducible rfl)
                try simp only [Act.put, List.setIfInBounds_toArray, List.set_cons_zero, List.set_cons_succ]
                refine doneZ (by kernel_rfl) ?_ _
                clear hH q1
                have HRD := Lib.hid (read_yes' (p := p) (by rw [← HRR.out]; exact HRT.out) (by rw [← HRR.out, HLT.out, HQ.out]; exact heq))
                rw [← HRR.out] at HRD
                clear heq
                have HOW5 := Lib.hid (show W5.ownsRow w.heap.size 31 20 (.slice A n cap) n (L.flatMap lnC) by have h9 := (HL3.out.below HW5.out).own; rw [← HN.out] at h9; exact h9)
                have HL5 := Lib.hid (HL3.out.below HW5.out)
                have HOR5 := Lib.hid (HOR3.out.below HW5.out)
                have HB5 := Lib.hid (bt HW5.out HB3.out)
                have H5C := Lib.hid (show W5.heap[W2.heap.size]? = _ from (HW5.out.block _ hz3).trans H3C.out)
                have hz5 : w.heap.size ≤ W5.heap.size := HB5.out.size
                go_wp2_with (first | (refine (id ?_ : wpList _ _ _ (⟨some 47, .load _ _, _, _, _, _⟩ :: _) _ _); refine wpList_load_row rfl 31 (.tmp 8) rfl W2.heap.size (by rfl) _ _ _ _ H5C.out Tryz.underlying31 rfl (by kernel_rfl) ?_) | (refine (id ?_ : wpList _ _ _ (⟨some 48, .buildSlice _ _ _, _, _, _, _⟩ :: _) _ _); refine wpList_buildLine rfl (.tmp 47) rfl rr (by rfl) ?_) | (at_builtin; refine app1 W5 _ rfl (.tmp 46) (.tmp 48) _ rfl eltL w.heap.size A n cap _ rfl HOW5.out rfl rfl (fun u hu => List.all_eq_true.1 H1C.out u (by simpa using hu)) (by omega) hz5 ?_; intro A' cap' W6 hA))
                have HF := Lib.hid (show RpRel w s (.slice A' (n + 1) cap') (.int .i64 ((k : Int) + 1)) (.int .i64 ((k : Int) + 1)) W6 from by
                  refine ⟨k + 1, k + 1, L ++ [rr], A', n + 1, cap', by rw [HM.out]; omega, Nat.le_refl _, rfl, by go_num, by go_num, by rw [HN.out]; simp, by omega, ⟨?_, ?_⟩, HB5.out.trans hA.below, mid_empty s (k + 1) 10, ?_, ?_⟩
                  · have := hA.own
                    rw [List.flatMap_append]
                    rw [show (L ++ [rr]).length = n + 1 by rw [HN.out]; simp]
                    simpa using this
                  · intro x hx
                    have hgr : ∀ x, LnOw W5 w.heap.size x → LnOw W6 w.heap.size x := fun x h => h.grown HL5.out.own (by exact hA.grown)
                    rcases List.mem_append.1 hx with hx | hx
                    · exact hgr x (HL5.out.each x hx)
                    · rw [List.mem_singleton.1 hx]; exact hgr _ HOR5.out
                  · rw [HP.out, HDR.out, pl_next HP10.out HO.out HRD.out, List.map_append]; rfl
                  · intro x hx
                    rcases List.mem_append.1 hx with hx | hx
                    · exact HSM.out x hx
                    · rw [List.mem_singleton.1 hx]; exact HGS.out)
                clear hA
                go_wp2_with fail
                exact ⟨HF.out, by simp [RowKit.intOf]; omega⟩
              · have q1 : (LT == Q) = false := beq_eq_false_iff_ne.2 heq
                have HNR := Lib.hid (show ¬ (Right (guessF (splitC 32 p)) ∧ lineT (guessF (splitC 32 p)) = p ++ [10]) from fun h => heq (by rw [← HLT.out, HRR.out, h.2, HQ.out]))
                refine takeZ 11 (v := ?_) (gi rfl) (by kernel_rfl) (fun _ _ _ h => h) hH (.inl ⟨rfl, fun w hW => ?_⟩) ?_
                rotate_left
                · (go_simp; try with_reducible rfl)
                try simp only [Act.put, List.setIfInBounds_toArray, List.set_cons_zero, List.set_cons_succ]
                refine yieldZ 12 (v := ?_) (by kernel_rfl) (gi rfl) hH (.inl ⟨rfl, fun w hW => ?_⟩) ?_
                rotate_left
                · (go_simp; try with_reducible rfl)
                try simp only [Act.put, List.setIfInBounds_toArray, List.set_cons_zero, List.set_cons_succ]
                refine doneZ (by kernel_rfl) ?_ _
                clear hH
                have HX := Lib.hid (fun W (hb : Below w.heap.size w W) => show RpPost w s (.returned (.tuple #[.slice none 0 0, .int .i64 n, .int .i64 350])) W from ⟨[], _, n, 350, rfl, by rw [HPR.out, HP.out, HDR.out, pl_bad HP10.out HO.out (read_no' HNR.out), HN.out]; simp, Lns.nil_ _ _, hb⟩)
                go_wp2_with fail
                refine bodyPost_ret (v := .tuple #[.slice none 0 0, .int .i64 n, .int .i64 350]) (by simp only [results]; go_simp) rfl ?_
                exact HX.out _ (bt HW5.out HB3.out)
            · rw [right_no hR]
              have HNR := Lib.hid (show ¬ (Right (guessF (splitC 32 p)) ∧ lineT (guessF (splitC 32 p)) = p ++ [10]) from fun h => hR (by rw [HRR.out]; exact h.1))
              clear hR
              refine hK.out _ _ (fun _ => HRG.out _ HW4.out) (fun hH => ?_)
              replace hH := hH (by decide)
              clear hK K
              try simp only [Act.put, List.setIfInBounds_toArray, List.set_cons_zero, List.set_cons_succ]
              refine takeZ 2 (v := ?_) (gi rfl) (by kernel_rfl) (fun _ _ _ h => h) hH (.inl ⟨rfl, fun w hW => ?_⟩) ?_
              rotate_left
              · (go_simp; try with_reducible rfl)
              try simp only [Act.put, List.setIfInBounds_toArray, List.set_cons_zero, List.set_cons_succ]
              refine takeZ 3 (v := ?_) (gi rfl) (by kernel_rfl) (fun _ _ _ h => h) hH (.inl ⟨rfl, fun w hW => ?_⟩) ?_
              rotate_left
              · (go_simp; try with_reducible rfl)
              try simp only [Act.put, List.setIfInBounds_toArray, List.set_cons_zero, List.set_cons_succ]
              refine takeZ 4 (gi rfl) (by kernel_rfl) (fun _ _ _ h => h) hH (.inr ⟨rfl, rfl⟩) ?_
              try simp only [Act.put, List.setIfInBounds_toArray, List.set_cons_zero, List.set_cons_succ]
              refine takeZ 6 (gi rfl) (by kernel_rfl) (fun _ _ _ h => h) hH (.inr ⟨rfl, rfl⟩) ?_
              try simp only [Act.put, List.setIfInBounds_toArray, List.set_cons_zero, List.set_cons_succ]
              refine takeZ 7 (gi rfl) (by kernel_rfl) (fun _ _ _ h => h) hH (.inr ⟨rfl, rfl⟩) ?_
              try simp only [Act.put, List.setIfInBounds_toArray, List.set_cons_zero, List.set_cons_succ]
              refine takeZ 8 (gi rfl) (by kernel_rfl) (fun _ _ _ h => h) hH (.inr ⟨rfl, rfl⟩) ?_
              try simp only [Act.put, List.setIfInBounds_toArray, List.set_cons_zero, List.set_cons_succ]
              refine takeZ 9 (gi rfl) (by kernel_rfl) (fun _ _ _ h => h) hH (.inr ⟨rfl, rfl⟩) ?_
              try simp only [Act.put, List.setIfInBounds_toArray, List.set_cons_zero, List.set_cons_succ]
              refine takeZ 10 (gi rfl) (by kernel_rfl) (fun _ _ _ h => h) hH (.inr ⟨rfl, rfl⟩) ?_
              try simp only [Act.put, List.setIfInBounds_toArray, List.set_cons_zero, List.set_cons_succ]
              refine takeZ 5 (gi rfl) (by kernel_rfl) (fun _ _ _ h => h) hH (.inr ⟨rfl, rfl⟩) ?_
              try simp only [Act.put, List.setIfInBounds_toArray, List.set_cons_zero, List.set_cons_succ]
              refine takeZ 11 (gi rfl) (by kernel_rfl) (fun _ _ _ h => h) hH (.inr ⟨rfl, rfl⟩) ?_
              try simp only [Act.put, List.setIfInBounds_toArray, List.set_cons_zero, List.set_cons_succ]
              refine yieldZ 12 (v := ?_) (by kernel_rfl) (gi rfl) hH (.inl ⟨rfl, fun w hW => ?_⟩) ?_
              rotate_left
              · (go_simp; try with_reducible rfl)
              try simp only [Act.put, List.setIfInBounds_toArray, List.set_cons_zero, List.set_cons_succ]
              refine doneZ (by kernel_rfl) ?_ _
              clear hH
              have HX := Lib.hid (fun W (hb : Below w.heap.size w W) => show RpPost w s (.returned (.tuple #[.slice none 0 0, .int .i64 n, .int .i64 350])) W from ⟨[], _, n, 350, rfl, by rw [HPR.out, HP.out, HDR.out, pl_bad HP10.out HO.out (read_no' HNR.out), HN.out]; simp, Lns.nil_ _ _, hb⟩)
              go_wp2_with fail
              refine bodyPost_ret (v := .tuple #[.slice none 0 0, .int .i64 n, .int .i64 350]) (by simp only [results]; go_simp) rfl ?_
              exact HX.out _ (bt HW4.out HB3.out)
        · have d1 : ((c.toNat : Int) != 10) = true := bne_iff_ne.2 (fun h => h10 (by apply UInt8.toNat.inj; show c.toNat = 10; omega))
          have HF := Lib.hid (show RpRel w s (.slice A n cap) (.int .i64 f) (.int .i64 ((k : Int) + 1)) wr from ⟨k + 1, f, L, A, n, cap, by rw [HM.out]; omega, by omega, rfl, rfl, by go_num, HN.out, hn5, HL.out, HB.out, mid_next HC.out hf HNO.out h10, HP.out, HSM.out⟩)
          clear h10
          go_wp2_with fail
          exact ⟨HF.out, by simp [RowKit.intOf]; omega⟩
      · obtain ⟨q, hq⟩ : ∃ q, s.drop f = q := ⟨_, rfl⟩
        have HQ10 := Lib.hid (show (10 : UInt8) ∉ q by rw [← hq]; have h9 := HNO.out; rwa [List.take_of_length_le (by rw [HM.out]; omega)] at h9)
        rw [hq] at HP
        have hql : q.length = m - f := by rw [← hq, List.length_drop, HM.out]
        have HQL := Lib.hid hql
        clear hq hql
        by_cases hfm : f < m
        · have HQN := Lib.hid (show q ≠ [] from fun h => by have h9 := HQL.out; rw [h] at h9; simp at h9; omega)
          by_cases h5 : n = 512
          · subst h5
            have HX := Lib.hid (show RpPost w s (.returned (.tuple #[.slice none 0 0, .int .i64 512, .int .i64 3])) wr from ⟨[], _, 512, 3, rfl, by rw [HPR.out, HP.out, pl_full HQN.out (by rw [List.length_map]; exact HN.out.symm)]; rfl, Lns.nil_ _ _, HB.out⟩)
            go_wp2_with fail
            refine bodyPost_ret (v := .tuple #[.slice none 0 0, .int .i64 512, .int .i64 3]) (by simp only [results]; go_simp) rfl ?_
            exact HX.out
          · have h5b : ((n : Int) == 512) = false := beq_eq_false_iff_ne.2 (by omega)
            have HX := Lib.hid (show RpPost w s (.returned (.tuple #[.slice none 0 0, .int .i64 n, .int .i64 350])) wr from ⟨[], _, n, 350, rfl, by rw [HPR.out, HP.out, pl_part HQN.out HQ10.out (by rw [List.length_map, ← HN.out]; exact h5), HN.out]; simp, Lns.nil_ _ _, HB.out⟩)
            clear h5
            go_wp2_with fail
            refine bodyPost_ret (v := .tuple #[.slice none 0 0, .int .i64 n, .int .i64 350]) (by simp only [results]; go_simp) rfl ?_
            exact HX.out
        · have HX := Lib.hid (show RpPost w s (.returned (.tuple #[.slice A n cap, .int .i64 n, .int .i64 0])) wr from ⟨L, _, n, 0, rfl, by rw [HPR.out, HP.out, List.eq_nil_of_length_eq_zero (by rw [HQL.out]; omega : q.length = 0), pl_end, List.length_map, ← HN.out], HL.out, HB.out⟩)
          go_wp2_with fail
          refine bodyPost_ret (v := .tuple #[.slice A n cap, .int .i64 n, .int .i64 0]) (by simp only [results]; go_simp) rfl ?_
          exact HX.out
end Go.Proofs.YtchgfabgighbfaaGreatDoor.RpaW
