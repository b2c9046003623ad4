/- The walk of the law ShapeRoutes. -/
import Derived.Test.YtmmgfelifmdnbaaDoorLivW
import Derived.Test.YtmmgfelifmdnbaaDoorRouW
import Derived.Test.YtmmgfelifmdnbaaDoorRRoW
namespace Go.Proofs.YtmmgfelifmdnbaaDoor.RtsW
set_option linter.unusedVariables false
open Go.RowKit Go.Shelf Base SeqM ShpM ShpV ShpW ShpD ShpT ShpI ShpJ ShpR ShpU ItrD ItrK ItrF ItrG GlbS LivW LefM RouM RouW RRoW

/-- what both Routes tell: the counts, and the error's number -/
def BPost (w : World) (L : List Int) (E : Int) (e : Ending) (w' : World) : Prop := (∃ v, e = .returned (.tuple #[v, .int .i64 E]) ∧ Seq 1 inC w' 0 w'.heap.size v L) ∧ Below w.heap.size w w'
noncomputable def rtE (dim : Int) (ls : List Nd) (l : List (List Int)) : Int := if isTB dim ls = true then (if l.all (vecB · dim) = true then 0 else 80) else 100
theorem rt_both {n0 : Nat} {L : List Int} {ok : Bool} {w w' : World} {e : Ending} (h : RtPost n0 L ok e w' ∧ Below w.heap.size w w') : BPost w (if ok = true then L else []) (if ok = true then 0 else 80) e w' := by
  obtain ⟨h, hb⟩ := h
  unfold RtPost at h
  cases ok with
  | true =>
    rw [if_pos rfl] at h
    obtain ⟨v, rfl, hs⟩ := h
    exact ⟨⟨v, rfl, hs.more (Nat.zero_le _) (Nat.le_refl _)⟩, hb⟩
  | false =>
    rw [if_neg (by decide)] at h
    subst h
    exact ⟨⟨_, rfl, Seq.nil_⟩, hb⟩
/-- the list and the error's number of any tree and any vectors, for both -/
theorem both_any (dim : Int) (nv lv : Value) (ls : List Nd) (l : List (List Int)) (hl7 : ls.length ≤ 1000000) : ∃ (L : List Int) (E : Int),
    (∀ W : World, Nds W 0 W.heap.size nv ls → Vecs W 0 W.heap.size lv l → Calls Tryd.prog 19 #[.agg #[.int .i64 dim, nv], lv] W (BPost W L E)) ∧
    (∀ W : World, Nds W 0 W.heap.size nv ls → Vecs W 0 W.heap.size lv l → Calls Tryd.prog 20 #[.agg #[.int .i64 dim, nv], lv] W (BPost W L E)) ∧
    ((L = [] ∧ E ≠ 0) ∨ (E = 0 ∧ IsT dim ls ∧ ∃ b, At ls 0 b ∧ b.count = ls.length ∧ L = thruL b ls.length l)) := by
  by_cases hT : IsT dim ls
  · obtain ⟨_, _, b, hat, hct, hok, hsz, hhi⟩ := id hT
    have h6 : b.high ≤ 6 := Nat.le_trans hhi (ShpT.lg_cases (size_pos hok) hsz).2.2
    refine ⟨if l.all (vecB · dim) = true then thruL b ls.length l else [], if l.all (vecB · dim) = true then 0 else 80, fun W h h' => (Route_in nv lv ls l dim 0 0 W h h' hT b hat hct hok h6).mono fun e w' hh => rt_both hh,
      fun W h h' => (RRoute_in nv lv ls l dim 0 0 W h h' hT b hat hct).mono fun e w' hh => rt_both hh, ?_⟩
    by_cases hv : l.all (vecB · dim) = true
    · rw [if_pos hv, if_pos hv]
      exact .inr ⟨rfl, hT, b, hat, hct, rfl⟩
    · rw [if_neg hv, if_neg hv]
      exact .inl ⟨rfl, by decide⟩
  · refine ⟨[], 100, fun W h h' => (Route_no nv lv ls dim 0 W h hT).mono ?_, fun W h h' => (RRoute_no nv lv ls dim 0 W h hl7 hT).mono ?_, .inl ⟨rfl, by decide⟩⟩
    · rintro e w' ⟨rfl, hb⟩; exact ⟨⟨_, rfl, Seq.nil_⟩, hb⟩
    · rintro e w' ⟨rfl, hb⟩; exact ⟨⟨_, rfl, Seq.nil_⟩, hb⟩
theorem muchV_len {l : List (List Int)} (h : muchV l 40 = false) : l.length ≤ 40 := by
  unfold muchV at h
  rw [Bool.or_eq_false_iff] at h
  have := of_decide_eq_false h.1
  omega
theorem much_len {ls : List Nd} (h : muchB ls = false) : ls.length ≤ 1000000 := by
  unfold muchB at h
  rw [Bool.or_eq_false_iff] at h
  have := of_decide_eq_false h.1
  omega
def RtRel (w : World) (b : Nat) (dim : Int) (A : Option Addr) (n c : Nat) (ls : List Nd) (v : Value) (L : List Int) (i : Value) (wr : World) : Prop := ∃ k : Nat, k ≤ L.length ∧ i = .int .i64 k ∧ LV w b dim A n c ls wr ∧ Seq 1 inC wr 0 wr.heap.size v L
set_option maxHeartbeats 8000000 in
set_option maxRecDepth 100000 in
theorem ShapeRoutes_any (dim : Int) (nv lv : Value) (ls : List Nd) (l : List (List Int)) (w : World) (h : Nds w 0 w.heap.size nv ls) (h' : Vecs w 0 w.heap.size lv l) (hG : G w) :
    Calls Tryd.prog 4 #[.agg #[.int .i64 dim, nv], lv] w fun e w' => e = .returned (.bool true) ∧ Below w.heap.size w w' := by
  obtain ⟨A, c, rfl, _, _, _⟩ := h.form
  obtain ⟨LA, lc, rfl, lc1, lc2, _⟩ := h'.form
  obtain ⟨n, hn⟩ : ∃ n, ls.length = n := ⟨_, rfl⟩
  obtain ⟨m, hm0⟩ : ∃ m, l.length = m := ⟨_, rfl⟩
  have X0 := Lib.hid (show LV w w.heap.size dim A ls.length c ls (w.alloc (.cells #[.int .i64 dim, .slice A ls.length c] 24)) from ⟨heap_alloc_new w _, h.up (below_a1 _ _), below_a1 _ _⟩)
  have HG := Lib.hid hG
  have HL7 := Lib.hid (fun h => much_len (ls := ls) h)
  have HV := Lib.hid (fun (W : World) (hb : Below w.heap.size w W) => h'.up hb)
  have HBO := Lib.hid (fun h7 => both_any dim (.slice A ls.length c) (.slice LA l.length lc) ls l h7)
  have HML := Lib.hid (fun h => muchV_len (l := l) h)
  have HM0 := Lib.hid hm0
  rw [hm0] at HV HBO HML lc1 ⊢
  rw [hn] at X0 HBO HL7 ⊢
  clear h h' hG hm0
  go_enter Tryd.func4, Tryd.ntmps4
  go_wp2_with fail
  refine (Much_any _ _ _ 0 _ X0.out.nds).mono ?_
  rintro e w1 ⟨rfl, hb⟩
  have X1 := Lib.hid (X0.out.below hb)
  clear hb
  obtain ⟨t0, t1⟩ := X1.out.cells
  have lz := X1.out.lt
  cases hm : muchB ls with
  | true =>
    go_wp2_with fail
    refine (lives_any _ (HG.out.below X1.out.low)).mono ?_
    rintro e w2 ⟨rfl, hb⟩
    have X2 := Lib.hid (X1.out.below hb)
    clear hb
    go_wp2_with fail
    go_ret
    exact ⟨rfl, X2.out.low⟩
  | false =>
    obtain ⟨L, E, H1, H2, H3⟩ := HBO.out (HL7.out hm)
    have H1 := Lib.hid H1
    have H2 := Lib.hid H2
    have H3 := Lib.hid H3
    go_wp2_with fail
    refine (MuchV_any _ _ _ 0 _ (HV.out _ X1.out.low)).mono ?_
    rintro e w2 ⟨rfl, rfl⟩
    cases hv : muchV l 40 with
    | true =>
      go_wp2_with fail
      refine (lives_any _ (HG.out.below X1.out.low)).mono ?_
      rintro e w2 ⟨rfl, hb⟩
      have X2 := Lib.hid (X1.out.below hb)
      clear hb
      go_wp2_with fail
      go_ret
      exact ⟨rfl, X2.out.low⟩
    | false =>
      have HM4 := Lib.hid (HML.out hv)
      go_wp2_with fail
      refine (H1.out _ X1.out.nds (HV.out _ X1.out.low)).mono ?_
      rintro e w2 ⟨⟨v2, rfl, hS2⟩, hb⟩
      have X2 := Lib.hid (X1.out.below hb)
      have S2 := Lib.hid hS2
      clear hb hS2 t0 t1 lz
      obtain ⟨t0, t1⟩ := X2.out.cells
      have lz := X2.out.lt
      go_wp2_with fail
      refine (H2.out _ X2.out.nds (HV.out _ X2.out.low)).mono ?_
      rintro e w3 ⟨⟨v3, rfl, hS3⟩, hb⟩
      have X3 := Lib.hid (X2.out.below hb)
      have S3 := Lib.hid (S2.out.up hb)
      have S3b := Lib.hid hS3
      clear hb hS3 t0 t1 lz
      obtain ⟨t0, t1⟩ := X3.out.cells
      have lz := X3.out.lt
      go_wp2_with fail
      refine (RSame_any _ _ L L _ _ _ _ _ S3.out S3b.out).mono ?_
      rintro e wd ⟨rfl, nq, rfl⟩
      rw [decide_eq_true rfl]
      have X4 := Lib.hid (X3.out.below (below_drewN (Below.refl _ _) nq))
      have S4 := Lib.hid (S3.out.up (below_drewN (Below.refl _ _) nq))
      obtain ⟨VA, vc, ev, vc1, vc2, _⟩ := id S4.out
      subst ev
      obtain ⟨w4, hw4⟩ : ∃ W, w3.drewN nq = W := ⟨_, rfl⟩
      rw [hw4] at X4 S4 ⊢
      have hEE : (E != E) = false := by simp
      clear t0 t1 lz hw4
      go_wp2_with fail
      have hLl : L.length ≤ 9223372036854775807 := by unfold maxLen at vc2; omega
      go_loopw [9] (fun i wr => RtRel w w.heap.size dim A n c ls (.slice VA L.length vc) L i wr) (fun i _ => L.length - (intOf i).toNat)
      case atStart => exact ⟨0, Nat.zero_le _, rfl, X4.out, S4.out⟩
      case round =>
        obtain ⟨k, hk, rfl, hX, hS⟩ := hrel
        have HX := Lib.hid hX
        have HS := Lib.hid hS
        obtain ⟨t0, t1⟩ := hX.cells
        have lz := hX.lt
        obtain ⟨_, _, eS, _, _, hrow, _⟩ := id hS
        injection eS with eA _ eC
        subst eA eC
        by_cases hkL : k = L.length
        · subst hkL
          rcases H3.out with ⟨hL0, hE⟩ | ⟨rfl, hT, b, hat, hct, hLe⟩
          · have hE1 : (E != 0) = true := by simpa using hE
            clear hX hS hrow
            go_wp2_with fail
            refine (lives_any _ (HG.out.below HX.out.low)).mono ?_
            rintro e w5 ⟨rfl, hb⟩
            have X5 := Lib.hid (HX.out.below hb)
            clear hb
            go_wp2_with fail
            go_ret
            exact ⟨rfl, X5.out.low⟩
          · obtain ⟨_, _, b2, hat2, hct2, hok2, _, _⟩ := id hT
            have hne : 0 < L.length := by rw [hLe]; unfold thruL; simp; have := count_pos b; omega
            obtain ⟨ad, z, e1, _, l1, hz, hc0⟩ := rdI hrow hne
            subst e1
            rw [hLe] at hz
            unfold thruL at hz
            rw [range_get _ (by have := count_pos b; omega), thru_root, HM0.out] at hz
            obtain rfl := Option.some.inj hz
            have hc0 : wr.cell? ad = some (.int .i64 (m : Int)) := hc0
            have hgt : decide ((L.length : Int) > 0) = true := decide_eq_true (by omega)
            have h00 : (0 : Int) ≠ 0 ↔ False := by simp
            obtain ⟨N, hN⟩ : ∃ N, L.length = N := ⟨_, rfl⟩
            rw [hN] at hgt hLl hne ⊢
            clear hX hS hrow hLe HS S4 HBO
            go_wp2_with fail
            refine (lives_any _ (HG.out.below HX.out.low)).mono ?_
            rintro e w5 ⟨rfl, hb⟩
            have X5 := Lib.hid (HX.out.below hb)
            clear hb
            go_wp2_with fail
            go_ret
            exact ⟨rfl, X5.out.low⟩
        · rcases H3.out with ⟨hL0, hE⟩ | ⟨rfl, hT, b, hat, hct, hLe⟩
          · subst hL0; simp at hk hkL; exact absurd hk hkL
          · obtain ⟨_, _, b2, hat2, hct2, hok2, _, _⟩ := id hT
            obtain rfl := at_unique hat2 hat
            have hlen : L.length = n := by rw [hLe]; unfold thruL; simp
            have getL : ∀ j, j < n → L[j]? = some (thru b2 l j : Int) := fun j hj => by rw [hLe]; unfold thruL; exact range_get _ hj
            obtain ⟨b', hat', hok', _, _, hle'⟩ := sub_at (j := k) hat2 hok2 (Nat.zero_le _) (by omega)
            have hkn : k < n := by omega
            cases b' with
            | leaf sz =>
              have h0 := at_leaf.1 hat'
              obtain ⟨ad, cv, e1, hbk, d0, d1, d2, d3, d4, hcv⟩ := hX.nds.get h0
              subst e1
              obtain ⟨AC, cc, rfl, _, _, _, _⟩ := id hcv
              dsimp only [List.length_nil] at d0 d1 d2 d3 d4
              have HP := Lib.hid (fun nq => show RtRel w w.heap.size dim (some ad) n c ls (.slice VA L.length vc) L (.int .i64 ((k + 1 : Nat) : Int)) ((wr.alloc (.cells #[.slice AC 0 cc, .int .i64 0, .int .i64 0, .int .i64 0, .int .i64 sz] 39)).drewN nq) from ⟨k + 1, by omega, rfl, hX.below (below_drewN (below_a1 _ _) nq), hS.up (below_drewN (below_a1 _ _) nq)⟩)
              have l1 : ad.block < _ := hbk
              have hkl : k < L.length := by omega
              have hk9 : k < 9223372036854775807 := by omega
              clear hX hS hrow hLe HS S4 HBO H3 getL hlen
              go_wp2_with fail
              go_quiet (fail)
              go_wp2_with fail
              exact ⟨HP.out nq, by simp [intOf] <;> omega⟩
            | fork cf af p q =>
              obtain ⟨h0, hp, hq⟩ := at_fork.1 hat'
              obtain ⟨ad, cv, e1, hbk, d0, d1, d2, d3, d4, hcv⟩ := hX.nds.get h0
              subst e1
              obtain ⟨AC, cc, rfl, _, _, _, _⟩ := id hcv
              dsimp only at d0 d1 d2 d3 d4
              simp only [B.count] at hle'
              have cq := count_pos q
              have cp := count_pos p
              have hfork := thru_fork l hat2 (show k < b2.count by omega) hat'
              have hbd := thru_le b2 l k
              rw [HM0.out] at hbd
              have hm40 := HM4.out
              obtain ⟨a0, z0, e0, _, l0, hz0, r0⟩ := rdI hrow (i := k) (by omega)
              obtain ⟨a1, z1, e1, _, _, hz1, r1⟩ := rdI hrow (i := k + 1) (by omega)
              obtain ⟨a2, z2, e2, _, _, hz2, r2⟩ := rdI hrow (i := k + 1 + p.count) (by omega)
              subst e0
              obtain rfl := Option.some.inj e1
              obtain rfl := Option.some.inj e2
              rw [getL _ (by omega)] at hz0 hz1 hz2
              obtain rfl := Option.some.inj hz0
              obtain rfl := Option.some.inj hz1
              obtain rfl := Option.some.inj hz2
              obtain ⟨cn, hcn⟩ : ∃ cn, cf.length = cn := ⟨_, rfl⟩
              rw [hcn] at d0
              have HP := Lib.hid (fun nq => show RtRel w w.heap.size dim (some ad) n c ls (.slice (some a0) L.length vc) L (.int .i64 ((k + 1 : Nat) : Int)) ((wr.alloc (.cells #[.slice AC cn cc, .int .i64 af, .int .i64 ((k + 1 : Nat) : Int), .int .i64 ((k + 1 + p.count : Nat) : Int), .int .i64 (p.size + q.size)] 39)).drewN nq) from ⟨k + 1, by omega, rfl, hX.below (below_drewN (below_a1 _ _) nq), hS.up (below_drewN (below_a1 _ _) nq)⟩)
              obtain ⟨T0, hT0⟩ : ∃ T, thru b2 l k = T := ⟨_, rfl⟩
              obtain ⟨T1, hT1⟩ : ∃ T, thru b2 l (k + 1) = T := ⟨_, rfl⟩
              obtain ⟨T2, hT2⟩ : ∃ T, thru b2 l (k + 1 + p.count) = T := ⟨_, rfl⟩
              rw [hT0, hT1, hT2] at hfork
              rw [hT0] at r0 hbd
              rw [hT1] at r1
              rw [hT2] at r2
              obtain ⟨pc, hpc⟩ : ∃ pc, p.count = pc := ⟨_, rfl⟩
              rw [hpc] at r2 d3 hle' HP
              obtain ⟨Ln, hLn⟩ : ∃ Ln, k + 1 = Ln := ⟨_, rfl⟩
              obtain ⟨Rn, hRn⟩ : ∃ Rn, k + 1 + pc = Rn := ⟨_, rfl⟩
              have HLn := Lib.hid hLn
              have bL : Ln < L.length := by omega
              have bR : Rn < L.length := by omega
              have bI : k < L.length := by omega
              have bLp : 0 < Ln := by omega
              have bLq : (0 : Int) < (Ln : Int) := by omega
              rw [hRn] at r2 d3 HP
              rw [hLn] at r1 d2
              have hwS : IntKind.i64.wrap ((T1 : Int) + (T2 : Int)) = (T0 : Int) := by rw [IntWalk.i64_in _ (by omega)]; omega
              have l1 : ad.block < _ := hbk
              have hk9 : k < 9223372036854775807 := by omega
              have m0 : (a0.add k).block < wr.heap.size := by rw [add_block]; exact l0
              have m1 : (a0.add Ln).block < wr.heap.size := by rw [add_block]; exact l0
              have m2 : (a0.add Rn).block < wr.heap.size := by rw [add_block]; exact l0
              clear hX hS hrow hLe HS S4 HBO H3 getL hlen hcv hat' hp hq hLn hRn hct2 hle' hfork hz0 hz1 hz2 hcn hT0 hT1 hT2 hbd hm40
              go_wp2_with fail
              go_quiet (fail)
              go_wp2_with fail
              refine ⟨?_, by simp [intOf] <;> omega⟩
              have hp9 := HP.out nq
              rw [show (((k + 1 : Nat) : Int)) = (k : Int) + 1 by omega] at hp9
              rw [show ((Ln : Nat) : Int) = (k : Int) + 1 by have := HLn.out; omega]
              exact hp9
end Go.Proofs.YtmmgfelifmdnbaaDoor.RtsW
