/- script.Parse. -/
import Derived.Test.YtchgfabgighbfaaGreatDoorRedY
import Derived.Great.BuildSlice
namespace Go.Proofs.YtchgfabgighbfaaGreatDoor.ParD
set_option linter.unusedVariables false
open Go.RowKit Base SeqM ScrM ScrP ScrR ScrS TxtM GlbD FmtW RdsW RdkW EqlW LinV SchW AskW RgtW RedW RedY

theorem eltL : Elt Tryz.prog 22 31 (.agg #[.int .i64 0, .int .i64 0, .int .i64 0, .int .i64 0, .int .i64 0, .int .i64 0, .int .i64 0, .int .i64 0, .int .i64 0, .int .i64 0, .int .i64 0, .int .i64 0, .int .i64 0, .int .i64 0, .slice none 0 0, .int .i64 0, .int .i64 0, .slice none 0 0, .int .i64 0, .slice none 0 0]) 20 208 :=
  elt_mk (z := .agg #[.int .i64 0, .int .i64 0, .int .i64 0, .int .i64 0, .int .i64 0, .int .i64 0, .int .i64 0, .int .i64 0, .int .i64 0, .int .i64 0, .int .i64 0, .int .i64 0, .int .i64 0, .int .i64 0, .slice none 0 0, .int .i64 0, .int .i64 0, .slice none 0 0, .int .i64 0, .slice none 0 0]) Tryz.underlying22 (by kernel_rfl) rfl (by omega) (by omega)
def zLine : Value := .agg #[.int .i64 0, .int .i64 0, .int .i64 0, .int .i64 0, .int .i64 0, .int .i64 0, .int .i64 0, .int .i64 0, .int .i64 0, .int .i64 0, .int .i64 0, .int .i64 0, .int .i64 0, .int .i64 0, .slice none 0 0, .int .i64 0, .int .i64 0, .slice none 0 0, .int .i64 0, .slice none 0 0]
theorem fill_line (rr : LnR) : Instr.fill (fun i => some (i * 20, 20)) ((Array.range (1 * 20)).map (zLine.cells[· % zLine.cells.size]!)) [(0, .agg (lnC rr).toArray)] = some (lnC rr).toArray := by
  obtain ⟨xv, dv, kv, k1, ⟨c0, c1, c2, c3, c4, c5, c6, c7, c8, c9, c10⟩, ⟨a1, a2, a3, a4, a5⟩, dr, n1, kp⟩ := rr
  kernel_rfl
theorem infoL : (Tryz.prog.info? 31).map (fun i => (i.zero, i.size, i.bytes)) = some (some zLine, 20, 208) := by kernel_rfl
theorem wpList_buildLine {ops : Array Oper} {rest : List Oper} {o : Oper} {a : Act} {w : World} {Q : Exit → Act → World → Prop} (hg : o.guard = none) (x : Operand) (ho : o.op = .buildSlice 22 1 #[(0, x)]) (rr : LnR) (hx : a.eval x = .agg (lnC rr).toArray)
    (h : wpList Tryz.prog ops Q rest (a.put o.dst (.slice (some ⟨w.heap.size, 0, none⟩) 1 1)) (w.alloc (.cells (lnC rr).toArray 31))) : wpList Tryz.prog ops Q (o :: rest) a w := by
  obtain ⟨il, hil, hz0, hz1, hz4⟩ := info_parts infoL
  refine wpList_buildSlice hg 22 31 1 _ ho (lnC rr).toArray il zLine Tryz.underlying22 hil hz0 (by rw [hz1]; decide) (by rw [hz1]; decide) ?_ h
  rw [hz1]
  simp only [List.map_toArray, List.map_cons, List.map_nil, hx]
  exact fill_line rr
def strLen : Value → Nat
  | .string s => s.size
  | _ => 0
/-- rows of lines, one's own -/
structure Lns (w : World) (base : Nat) (v : Value) (L : List LnR) : Prop where
  own : w.ownsRow base 31 20 v L.length (L.flatMap lnC)
  each : ∀ r ∈ L, LnOw w base r
theorem Lns.below {w w' : World} {base : Nat} {v : Value} {L : List LnR} (h : Lns w base v L) (hb : Below w.heap.size w w') : Lns w' base v L := ⟨own_below h.own hb, fun r hr => (h.each r hr).below hb⟩
theorem Lns.more {w : World} {base base' : Nat} {v : Value} {L : List LnR} (h : Lns w base v L) (hb : base' ≤ base) : Lns w base' v L := ⟨own_more h.own hb, fun r hr => (h.each r hr).more hb⟩
theorem Lns.nil_ (w : World) (base : Nat) : Lns w base (.slice none 0 0) [] := ⟨World.ownsRow_nil _ _ _ _, by simp⟩
def PaRel (w : World) (s : List UInt8) (t0 t5 : Value) (wr : World) : Prop := ∃ (rest : List UInt8) (L : List LnR) (A : Option Addr) (n cap : Nat), t0 = .string ⟨rest.toArray⟩ ∧ t5 = .slice A n cap ∧ n = L.length ∧ Lns wr w.heap.size (.slice A n cap) L ∧ Below w.heap.size w wr ∧ parseL (splitC 10 s) [] = parseL (splitC 10 rest) (L.map (·.ln)) ∧ rest.length ≤ 262144 ∧ n ≤ 512
def ParPost (w : World) (s : List UInt8) (e : Ending) (w' : World) : Prop := ∃ (L : List LnR) (v : Value) (k f : Int), e = .returned (.tuple #[v, .int .i64 k, .int .i64 f]) ∧ parseR s = (L.map (·.ln), k, f) ∧ Lns w' w.heap.size v L ∧ Below w.heap.size w w'
theorem pl_end (o : List Ln) : parseL (splitC 10 []) o = (o, (o.length : Int), 0) := by simp [splitC, parseL]
theorem pl_full {rest : List UInt8} (h : rest ≠ []) {o : List Ln} (ho : o.length = 512) : parseL (splitC 10 rest) o = ([], 512, 3) := by
  cases hs : splitC 10 rest with
  | nil => exact absurd hs (split_ne 10 rest)
  | cons p ps =>
    cases ps with
    | nil =>
      have hp : p ≠ [] := by
        intro e
        have := join10 rest p [] hs
        rw [e] at this
        exact h (by simpa using this)
      rw [parseL, if_neg hp, if_pos ho]
    | cons q r => rw [parseL, if_pos ho]
theorem pl_part {rest : List UInt8} (h : rest ≠ []) (h10 : (10 : UInt8) ∉ rest) {o : List Ln} (ho : ¬ o.length = 512) : parseL (splitC 10 rest) o = ([], (o.length : Int), 350) := by
  rw [split_word 10 rest h10, parseL, if_neg h, if_neg ho]
theorem pl_bad {a r : List UInt8} (ha : (10 : UInt8) ∉ a) {o : List Ln} (ho : ¬ o.length = 512) (hr : readW (splitC 32 a) = none) : parseL (splitC 10 (a ++ 10 :: r)) o = ([], (o.length : Int), 350) := by
  rw [splitC_hit ha]
  cases hs : splitC 10 r with
  | nil => exact absurd hs (split_ne 10 r)
  | cons q ps => rw [parseL, if_neg ho, hr]
theorem pl_next {a r : List UInt8} (ha : (10 : UInt8) ∉ a) {o : List Ln} (ho : ¬ o.length = 512) {l : Ln} (hr : readW (splitC 32 a) = some l) : parseL (splitC 10 (a ++ 10 :: r)) o = parseL (splitC 10 r) (o ++ [l]) := by
  rw [splitC_hit ha]
  cases hs : splitC 10 r with
  | nil => exact absurd hs (split_ne 10 r)
  | cons q ps => rw [parseL, if_neg ho, hr]
set_option maxHeartbeats 8000000 in
set_option maxRecDepth 100000 in
theorem Parse_any (s : List UInt8) (hs9 : s.length ≤ 1000000000) (w : World) (hG : G w) : Calls Tryz.prog 13 #[.string ⟨s.toArray⟩] w (ParPost w s) := by
  obtain ⟨sl, hsl⟩ : ∃ sl, s.length = sl := ⟨_, rfl⟩
  have hss : s.toArray.size = sl := by simpa using hsl
  have hss2 : (⟨s.toArray⟩ : ByteArray).size = sl := hss
  by_cases hlen : 262144 < sl
  · have HP := Lib.hid (show ParPost w s (.returned (.tuple #[.slice none 0 0, .int .i64 0, .int .i64 3])) w from ⟨[], _, 0, 3, rfl, by unfold parseR; rw [hsl, if_pos hlen]; rfl, Lns.nil_ _ _, Below.refl _ _⟩)
    have hd : decide ((sl : Int) > 262144) = true := decide_eq_true (by omega)
    rw [hsl] at hs9
    clear hsl
    go_enter Tryz.func13, Tryz.ntmps13
    go_wp2_with fail
    refine bodyPost_ret (v := .tuple #[.slice none 0 0, .int .i64 0, .int .i64 3]) (by simp only [results]; go_simp) rfl ?_
    exact HP.out
  · have HPR := Lib.hid (show parseR s = parseL (splitC 10 s) [] by unfold parseR; rw [hsl, if_neg hlen])
    have hd : decide ((sl : Int) > 262144) = false := decide_eq_false (by omega)
    have H0 := Lib.hid (show PaRel w s (.string ⟨s.toArray⟩) (.slice none 0 0) w from ⟨s, [], none, 0, 0, rfl, rfl, rfl, Lns.nil_ _ _, Below.refl _ _, rfl, by omega, by omega⟩)
    have HG := Lib.hid hG
    rw [hsl] at hs9
    clear hsl hG
    go_enter Tryz.func13, Tryz.ntmps13
    go_wp2_with fail
    go_loopw [0, 5] (fun t0 t5 wr => PaRel w s t0 t5 wr) (fun t0 _ _ => strLen t0)
    case atStart => exact H0.out
    case round =>
      obtain ⟨rest, L, A, n, cap, rfl, rfl, hn, hL, hb, hp, hr, hn5⟩ := hrel
      have HN := Lib.hid hn
      have HL := Lib.hid hL
      have HB := Lib.hid hb
      have HP := Lib.hid hp
      have hzw := hb.size
      clear hn hL hb hp H0 hss hss2 hd
      cases rest with
      | nil =>
        have HX := Lib.hid (show ParPost w s (.returned (.tuple #[.slice A n cap, .int .i64 n, .int .i64 0])) wr from ⟨L, _, n, 0, rfl, by rw [HPR.out, HP.out, pl_end, HN.out]; simp, HL.out, HB.out⟩)
        go_wp2_with fail
        refine bodyPost_ret (v := .tuple #[.slice A n cap, .int .i64 n, .int .i64 0]) (by simp only [results]; go_simp) rfl ?_
        exact HX.out
      | cons c0 r0 =>
        have hne : ((⟨(c0 :: r0).toArray⟩ : ByteArray) == ⟨#[]⟩) = false := by
          rw [show (⟨#[]⟩ : ByteArray) = ⟨([] : List UInt8).toArray⟩ from rfl, beq_bytes]; simp
        have hne2 : ((⟨(c0 :: r0).toArray⟩ : ByteArray) != ⟨#[]⟩) = true := by unfold bne; rw [hne]; rfl
        have HNE := Lib.hid (show (c0 :: r0 : List UInt8) ≠ [] by simp)
        obtain ⟨rest, hrest⟩ : ∃ rest, c0 :: r0 = rest := ⟨_, rfl⟩
        rw [hrest] at hne hne2 HNE HP hr ⊢
        clear hrest c0 r0
        have hq1 : (rest == ([] : List UInt8)) = false := beq_eq_false_iff_ne.2 HNE.out
        by_cases h5 : n = 512
        · subst h5
          have HX := Lib.hid (show ParPost w s (.returned (.tuple #[.slice none 0 0, .int .i64 512, .int .i64 3])) wr from ⟨[], _, 512, 3, rfl, by rw [HPR.out, HP.out, pl_full HNE.out (by rw [List.length_map]; exact HN.out.symm)]; rfl, Lns.nil_ _ _, HB.out⟩)
          go_wp2_with fail
          refine bodyPost_ret (v := .tuple #[.slice none 0 0, .int .i64 512, .int .i64 3]) (by simp only [results]; go_simp) rfl ?_
          exact HX.out
        · have h5b : ((n : Int) == 512) = false := beq_eq_false_iff_ne.2 (by omega)
          have HO := Lib.hid (show ¬ (L.map (·.ln)).length = 512 by rw [List.length_map, ← HN.out]; exact h5)
          have hn4 : n < 512 := by omega
          obtain ⟨m, hm⟩ := (HG.out.below HB.out).mx
          have HM := Lib.hid hm
          clear h5 hm
          go_wp2_with fail
          refine (Tryz.strings_Cut ⟨rest.toArray⟩ ⟨#[10]⟩ m wr (by show rest.toArray.size < _; simp; omega) HM.out).mono ?_
          rintro e W1 ⟨rfl, q, rfl⟩
          rw [toL, show (⟨#[10]⟩ : ByteArray).data.toList = [10] from rfl]
          have HB1 := Lib.hid (show Below w.heap.size w (wr.drewN q) from below_drewN HB.out q)
          have HL1 := Lib.hid (show Lns (wr.drewN q) w.heap.size (.slice A n cap) L from HL.out.below (below_drewN (Below.refl _ _) q))
          clear HM hne hne2 hq1
          by_cases h10 : (10 : UInt8) ∈ rest
          · obtain ⟨a, r, rfl, ha⟩ : ∃ a r, rest = a ++ 10 :: r ∧ (10 : UInt8) ∉ a := by
              rcases idx_one 10 rest with ⟨_, h⟩ | ⟨a, r, e, h, _⟩
              · exact absurd h10 h
              · exact ⟨a, r, e, h⟩
            rw [cut_one_yes ha]
            have hal : a.length + 1 + r.length ≤ 262144 := by simp at hr; omega
            have HA := Lib.hid ha
            have hms : (⟨(a ++ 10 :: r).toArray⟩ : ByteArray).size = a.length + 1 + r.length := by show (a ++ 10 :: r).toArray.size = _; simp; omega
            have HMS := Lib.hid hms
            clear ha h10 hr hms
            dsimp only
            go_wp2_with fail
            refine (read_any a (by omega) (wr.drewN q) (HG.out.below HB1.out)).mono ?_
            rintro e W2 ⟨rr, b, rfl, hb2, h1c, hyes, hno⟩
            have HB2 := Lib.hid (bt hb2 HB1.out)
            have HL2 := Lib.hid (HL1.out.below hb2)
            have H1C := Lib.hid h1c
            have HYES := Lib.hid hyes
            have HNO := Lib.hid hno
            have hz2 : w.heap.size ≤ W2.heap.size := (bt hb2 HB1.out).size
            clear hb2 h1c hyes hno
            cases b with
            | false =>
              have HX := Lib.hid (fun W (hb : Below w.heap.size w W) => show ParPost w s (.returned (.tuple #[.slice none 0 0, .int .i64 n, .int .i64 350])) W from ⟨[], _, n, 350, rfl, by rw [HPR.out, HP.out, pl_bad HA.out HO.out (HNO.out rfl), HN.out]; simp, Lns.nil_ _ _, hb⟩)
              go_wp2_with (refine (id ?_ : wpList _ _ _ (⟨none, .store _ (.tmp 9) _, _, _, _, _⟩ :: _) _ _); refine wpList_store_row rfl 31 (.tmp 9) (.tmp 30) rfl W2.heap.size (lnC rr).toArray (by rfl) (by rfl) 31 _ (heap_alloc_new W2 _) (by kernel_rfl) (by rfl) (by simpa using H1C.out) ?_)
              refine bodyPost_ret (v := .tuple #[.slice none 0 0, .int .i64 n, .int .i64 350]) (by simp only [results]; go_simp) rfl ?_
              exact HX.out _ (below_setRow (HB2.out.trans ((below_a1 W2 _).mono hz2)) hz2 _)
            | true =>
              have HLR := Lib.hid (HYES.out rfl).1
              have HRD := Lib.hid (HYES.out rfl).2
              go_wp2_with (first
                | (refine (id ?_ : wpList _ _ _ (⟨none, .store _ (.tmp 9) _, _, _, _, _⟩ :: _) _ _)
                   refine wpList_store_row rfl 31 (.tmp 9) (.tmp 30) rfl W2.heap.size (lnC rr).toArray (by rfl) (by rfl) 31 _ (heap_alloc_new W2 _) (by kernel_rfl) (by rfl) (by simpa using H1C.out) ?_
                   generalize hW3 : World.setRow _ _ _ = W3
                   have h3c : W3.heap[W2.heap.size]? = some (.cells (lnC rr).toArray 31 (0, 0)) := by rw [← hW3]; exact setRow_heap _ _ _ _ _ _ (heap_alloc_new W2 _)
                   have hb3 : Below W2.heap.size W2 W3 := by rw [← hW3]; exact below_setRow (below_a1 W2 _) (Nat.le_refl _) _
                   have H3C := Lib.hid h3c
                   have HL3 := Lib.hid (HL2.out.below hb3)
                   have HOW3 := Lib.hid (show W3.ownsRow w.heap.size 31 20 (.slice A n cap) n (L.flatMap lnC) by have h9 := HL3.out.own; rw [← HN.out] at h9; exact h9)
                   have HLR3 := Lib.hid ((HLR.out.below hb3).more (show w.heap.size ≤ (wr.drewN q).heap.size from hzw))
                   have HB3 := Lib.hid (bt hb3 HB2.out)
                   have hz3 : w.heap.size ≤ W3.heap.size := (bt hb3 HB2.out).size
                   have hlt3 : W2.heap.size < W3.heap.size := (Array.getElem?_eq_some_iff.1 h3c).1
                   clear h3c hb3 hW3)
                | (refine (id ?_ : wpList _ _ _ (⟨some 41, .load _ _, _, _, _, _⟩ :: _) _ _)
                   refine wpList_load_row rfl 31 (.tmp 9) rfl W2.heap.size (by rfl) _ _ _ _ H3C.out Tryz.underlying31 rfl (by kernel_rfl) ?_)
                | (refine (id ?_ : wpList _ _ _ (⟨some 42, .buildSlice _ _ _, _, _, _, _⟩ :: _) _ _)
                   refine wpList_buildLine rfl (.tmp 41) rfl rr (by rfl) ?_)
                | (at_builtin
                   refine app1 W3 _ rfl (.tmp 40) (.tmp 42) _ rfl eltL w.heap.size A n cap _ rfl HOW3.out rfl rfl (fun u hu => List.all_eq_true.1 H1C.out u (by simpa using hu)) (by omega) hz3 ?_
                   intro A' cap' W4 hA))
              have HF := Lib.hid (show PaRel w s (.string ⟨r.toArray⟩) (.slice A' (n + 1) cap') W4 from by
                refine ⟨r, L ++ [rr], A', n + 1, cap', rfl, rfl, by rw [HN.out]; simp, ⟨?_, ?_⟩, HB3.out.trans hA.below, ?_, by omega, by omega⟩
                · have := hA.own
                  rw [List.flatMap_append]
                  rw [show (L ++ [rr]).length = n + 1 by rw [HN.out]; simp]
                  simpa using this
                · intro x hx
                  have hgr : ∀ x, LnOw W3 w.heap.size x → LnOw W4 w.heap.size x := fun x h => h.grown HL3.out.own (by exact hA.grown)
                  rcases List.mem_append.1 hx with hx | hx
                  · exact hgr x (HL3.out.each x hx)
                  · rw [List.mem_singleton.1 hx]; exact hgr _ HLR3.out
                · rw [HP.out, pl_next HA.out HO.out HRD.out, List.map_append]; rfl)
              clear hA
              go_wp2_with fail
              refine ⟨HF.out, ?_⟩
              simp only [strLen]
              rw [HMS.out]
              show r.toArray.size < _
              simp <;> omega
          · rw [cut_one_no h10]
            have HX := Lib.hid (fun W (hb : Below w.heap.size w W) => show ParPost w s (.returned (.tuple #[.slice none 0 0, .int .i64 n, .int .i64 350])) W from ⟨[], _, n, 350, rfl, by rw [HPR.out, HP.out, pl_part HNE.out h10 HO.out, HN.out]; simp, Lns.nil_ _ _, hb⟩)
            have HRL := Lib.hid hr
            clear h10 hr
            dsimp only
            go_wp2_with fail
            refine (read_any rest (by have := HRL.out; omega) (wr.drewN q) (HG.out.below HB1.out)).mono ?_
            rintro e W2 ⟨rr, b, rfl, hb2, h1c, hyes, hno⟩
            have HB2 := Lib.hid (bt hb2 HB1.out)
            have H1C := Lib.hid h1c
            have hz2 : w.heap.size ≤ W2.heap.size := (bt hb2 HB1.out).size
            clear hb2 h1c hyes hno
            cases b
            all_goals
              go_wp2_with (refine (id ?_ : wpList _ _ _ (⟨none, .store _ (.tmp 9) _, _, _, _, _⟩ :: _) _ _); refine wpList_store_row rfl 31 (.tmp 9) (.tmp 30) rfl W2.heap.size (lnC rr).toArray (by rfl) (by rfl) 31 _ (heap_alloc_new W2 _) (by kernel_rfl) (by rfl) (by simpa using H1C.out) ?_)
              refine bodyPost_ret (v := .tuple #[.slice none 0 0, .int .i64 n, .int .i64 350]) (by simp only [results]; go_simp) rfl ?_
              exact HX.out _ (below_setRow (HB2.out.trans ((below_a1 W2 _).mono hz2)) hz2 _)
end Go.Proofs.YtchgfabgighbfaaGreatDoor.ParD
