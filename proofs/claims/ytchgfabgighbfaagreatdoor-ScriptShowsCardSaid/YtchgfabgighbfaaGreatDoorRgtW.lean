/- script.keeps, script.Right (printed by mkright.py). -/
import Derived.Test.YtchgfabgighbfaaGreatDoorSchW
import Derived.Deep.Cut
namespace Go.Proofs.YtchgfabgighbfaaGreatDoor.RgtW
set_option linter.unusedVariables false
open Go.RowKit Base SeqM ScrM ScrA EqlW LinV RigW SchW

open Classical in
noncomputable def rightB (l : Ln) : Bool := decide (Right l)
open Classical in
theorem right_yes {l : Ln} (h : Right l) : rightB l = true := by unfold rightB; exact decide_eq_true h
open Classical in
theorem right_no {l : Ln} (h : ¬ Right l) : rightB l = false := by unfold rightB; exact decide_eq_false h
open Classical in
noncomputable def keptB (l : List (Int × Int)) : Bool := decide (keptOk l ∧ l.length ≤ 256)
open Classical in
theorem kept_yes {l : List (Int × Int)} (h : keptOk l ∧ l.length ≤ 256) : keptB l = true := by unfold keptB; exact decide_eq_true h
open Classical in
theorem kept_no {l : List (Int × Int)} (h : ¬ (keptOk l ∧ l.length ≤ 256)) : keptB l = false := by unfold keptB; exact decide_eq_false h
theorem right_conf {l : Ln} (hk : l.kind = 1) : Right l ↔ l = onlyCf l.cf ∧ confOk l.cf := by
  constructor
  · intro h
    cases h with
    | conf c h => exact ⟨rfl, h⟩
    | ask a d _ _ _ _ => exact absurd hk (by simp [onlyAk, ln0])
    | stop n _ _ => exact absurd hk (by simp [onlyN, ln0])
    | crash k _ _ => exact absurd hk (by simp [onlyKept, ln0])
    | opens => exact absurd hk (by simp [ln0])
  · rintro ⟨h1, h2⟩
    rw [h1]; exact .conf _ h2
theorem right_ask {l : Ln} (hk : l.kind = 2) (hd : ∀ x ∈ l.draws, x < 18446744073709551616) : Right l ↔ l = onlyAk l.ak l.draws ∧ askOk l.ak ∧ l.draws.length ≤ 2048 ∧ (l.ak.kind = 1 ∨ l.draws = []) := by
  constructor
  · intro h
    cases h with
    | conf c h => exact absurd hk (by simp [onlyCf, ln0])
    | ask a d h1 h2 h3 h4 => exact ⟨rfl, h1, h2, h3⟩
    | stop n _ _ => exact absurd hk (by simp [onlyN, ln0])
    | crash k _ _ => exact absurd hk (by simp [onlyKept, ln0])
    | opens => exact absurd hk (by simp [ln0])
  · rintro ⟨h1, h2, h3, h4⟩
    rw [h1]; exact .ask _ _ h2 h3 h4 hd
theorem right_stop {l : Ln} (hk : l.kind = 3) : Right l ↔ l = onlyN l.n ∧ -1 ≤ l.n ∧ l.n ≤ 1099511627776 := by
  constructor
  · intro h
    cases h with
    | conf c h => exact absurd hk (by simp [onlyCf, ln0])
    | ask a d _ _ _ _ => exact absurd hk (by simp [onlyAk, ln0])
    | stop n h1 h2 => exact ⟨rfl, h1, h2⟩
    | crash k _ _ => exact absurd hk (by simp [onlyKept, ln0])
    | opens => exact absurd hk (by simp [ln0])
  · rintro ⟨h1, h2, h3⟩
    rw [h1]; exact .stop _ h2 h3
theorem right_crash {l : Ln} (hk : l.kind = 4) : Right l ↔ l = onlyKept l.kept ∧ keptOk l.kept ∧ l.kept.length ≤ 256 := by
  constructor
  · intro h
    cases h with
    | conf c h => exact absurd hk (by simp [onlyCf, ln0])
    | ask a d _ _ _ _ => exact absurd hk (by simp [onlyAk, ln0])
    | stop n _ _ => exact absurd hk (by simp [onlyN, ln0])
    | crash k h1 h2 => exact ⟨rfl, h1, h2⟩
    | opens => exact absurd hk (by simp [ln0])
  · rintro ⟨h1, h2, h3⟩
    rw [h1]; exact .crash _ h2 h3
theorem right_open {l : Ln} (hk : l.kind = 5) : Right l ↔ l = ln0 5 := by
  constructor
  · intro h
    cases h with
    | conf c h => exact absurd hk (by simp [onlyCf, ln0])
    | ask a d _ _ _ _ => exact absurd hk (by simp [onlyAk, ln0])
    | stop n _ _ => exact absurd hk (by simp [onlyN, ln0])
    | crash k _ _ => exact absurd hk (by simp [onlyKept, ln0])
    | opens => rfl
  · intro h1
    rw [h1]; exact .opens
theorem right_kind {l : Ln} (h : Right l) : l.kind = 1 ∨ l.kind = 2 ∨ l.kind = 3 ∨ l.kind = 4 ∨ l.kind = 5 := by
  cases h <;> simp [onlyCf, onlyAk, onlyN, onlyKept, ln0]
def KRel (l : List (Int × Int)) (w : World) (i : Value) (wr : World) : Prop := ∃ k : Nat, k ≤ l.length ∧ i = .int .i64 k ∧ keptOk (l.take k) ∧ Below w.heap.size w wr
theorem keptOk_next {l : List (Int × Int)} {k : Nat} {x : Int × Int} (h : l[k]? = some x) (hk : keptOk (l.take k)) (hx : (0 ≤ x.1 ∧ x.1 ≤ 4096) ∧ (0 ≤ x.2 ∧ x.2 ≤ 64)) : keptOk (l.take (k + 1)) := by
  rw [EqlW.take_next' h]
  intro y hy
  rcases List.mem_append.1 hy with hy | hy
  · exact hk y hy
  · rw [List.mem_singleton.1 hy]; exact hx
set_option maxHeartbeats 4000000 in
set_option maxRecDepth 100000 in
theorem keeps_any (v : Value) (l : List (Int × Int)) (lo : Nat) (w : World) (h : Seq 2 kpC w lo w.heap.size v l) :
    Calls Tryz.prog 23 #[v] w fun e w' => e = .returned (.bool (keptB l)) ∧ Below w.heap.size w w' := by
  obtain ⟨A, cap, rfl, hc1, hc2, _⟩ := id h
  obtain ⟨n, hn⟩ : ∃ n, l.length = n := ⟨_, rfl⟩
  have HN := Lib.hid hn
  have HV := Lib.hid (fun (W : World) (hb : Below w.heap.size w W) (k : Nat) (hlt : k < n) => by
    obtain ⟨A', cap', e', _, _, hr, _⟩ := h.up hb
    cases e'
    exact rdP hr (i := k) (by rw [hn]; exact hlt))
  have H0 := Lib.hid (show KRel l w (.int .i64 0) w from ⟨0, Nat.zero_le _, rfl, by simp [keptOk], Below.refl _ _⟩)
  have HNO := Lib.hid (fun (k : Nat) (x : Int × Int) (hx : l[k]? = some x) (hn : ¬ ((0 ≤ x.1 ∧ x.1 ≤ 4096) ∧ (0 ≤ x.2 ∧ x.2 ≤ 64))) => kept_no (l := l) (fun h => hn (h.1 x (List.mem_of_getElem? hx))))
  rw [hn] at hc1 ⊢
  unfold maxLen at hc2
  clear h hn
  go_enter Tryz.func23, Tryz.ntmps23
  go_wp2_with fail
  go_loopw [7] (fun i wr => KRel l w i wr) (fun i _ => n - (intOf i).toNat)
  case atStart => exact H0.out
  case round =>
    obtain ⟨k, hk, rfl, hr, hb⟩ := hrel
    rw [HN.out] at hk
    have HR := Lib.hid hr
    have HB := Lib.hid hb
    clear hr H0
    by_cases hlt : k < n
    · obtain ⟨ad, ⟨x1, x2⟩, rfl, _, hbk, hx, e0, e1⟩ := HV.out wr hb k hlt
      have hb2 : (ad.add (k * 2)).block < wr.heap.size := by rw [Base.add_block]; exact hbk
      dsimp only at e0 e1
      have HX := Lib.hid hx
      have HBX := Lib.hid (hb.trans ((below_a1 wr (.cells #[.int .i64 x1, .int .i64 x2] 46)).mono hb.size))
      clear hx hb
      go_wp2_with fail
      refine (between_any x1 0 4096 _).mono ?_
      rintro e w1 ⟨rfl, rfl⟩
      by_cases h1 : 0 ≤ x1 ∧ x1 ≤ 4096
      · rw [decide_eq_true h1]
        have H1 := Lib.hid h1
        clear h1
        go_wp2_with fail
        refine (between_any x2 0 64 _).mono ?_
        rintro e w1 ⟨rfl, rfl⟩
        by_cases h2 : 0 ≤ x2 ∧ x2 ≤ 64
        · rw [decide_eq_true h2]
          have HT := Lib.hid (keptOk_next HX.out HR.out ⟨H1.out, h2⟩)
          clear h2
          go_wp2_with fail
          exact ⟨⟨k + 1, by rw [HN.out]; omega, by go_num, HT.out, HBX.out⟩, by simp [intOf]; omega⟩
        · rw [decide_eq_false h2]
          have F := Lib.hid (HNO.out k _ HX.out (fun h => h2 h.2))
          clear h2
          go_wp2_with fail
          go_ret
          exact ⟨by rw [F.out]; rfl, HBX.out⟩
      · rw [decide_eq_false h1]
        have F := Lib.hid (HNO.out k _ HX.out (fun h => h1 h.1))
        clear h1
        go_wp2_with fail
        go_ret
        exact ⟨by rw [F.out]; rfl, HBX.out⟩
    · have HA := Lib.hid (show keptOk l by
        have := HR.out
        rw [List.take_of_length_le (by rw [HN.out]; omega)] at this
        exact this)
      clear hb
      by_cases h6 : n ≤ 256
      · have F := Lib.hid (kept_yes (l := l) ⟨HA.out, by rw [HN.out]; exact h6⟩)
        have hd : decide ((n : Int) ≤ 256) = true := decide_eq_true (by omega)
        clear h6
        go_wp2_with fail
        go_ret
        exact ⟨by rw [F.out]; rfl, HB.out⟩
      · have F := Lib.hid (kept_no (l := l) (fun h => h6 (by have := h.2; rw [HN.out] at this; exact this)))
        have hd : decide ((n : Int) ≤ 256) = false := decide_eq_false (by omega)
        clear h6
        go_wp2_with fail
        go_ret
        exact ⟨by rw [F.out]; rfl, HB.out⟩
theorem nil_in (w : World) (l : Ln) (h : l.ak.xs = [] ∧ l.draws = [] ∧ l.kept = []) : LnIn w 0 w.heap.size ⟨.slice none 0 0, .slice none 0 0, .slice none 0 0, l⟩ :=
  ⟨by rw [show (LnR.mk _ _ _ l).ln.ak.xs = [] from h.1]; exact Seq.nil_, by rw [show (LnR.mk _ _ _ l).ln.draws = [] from h.2.1]; exact Seq.nil_, by rw [show (LnR.mk _ _ _ l).ln.kept = [] from h.2.2]; exact Seq.nil_⟩
open Classical in
theorem askB_yes {a : Ak} (h : askOk a) : askB a = true := by unfold askB; exact decide_eq_true h
open Classical in
theorem askB_no {a : Ak} (h : ¬ askOk a) : askB a = false := by unfold askB; exact decide_eq_false h
theorem RightAsk_any (xv : Value) (a : Ak) (w : World) (h : Seq 1 inC w 0 w.heap.size xv a.xs) :
    Calls Tryz.prog 21 #[.agg #[.int .i64 a.kind, .int .i64 a.id, xv, .int .i64 a.n, .int .i64 a.m]] w fun e w' => e = .returned (.bool (askB a)) ∧ Below w.heap.size w w' := by
  obtain ⟨k, i, xs, n, m⟩ := a
  dsimp only at h ⊢
  by_cases hk : k = 1 ∨ k = 2 ∨ k = 7 ∨ k = 3 ∨ k = 4 ∨ k = 5 ∨ k = 6
  · rcases hk with rfl | rfl | rfl | rfl | rfl | rfl | rfl
    · exact RightAsk_1 xv i xs n m w h
    · exact RightAsk_2 xv i xs n m w h
    · exact RightAsk_7 xv i xs n m w h
    · exact RightAsk_3 xv i xs n m w h
    · exact RightAsk_4 xv i xs n m w h
    · exact RightAsk_5 xv i xs n m w h
    · exact RightAsk_6 xv i xs n m w h
  · have F := Lib.hid (askB_no (a := ⟨k, i, xs, n, m⟩) (fun h => by have := h.1; dsimp only at this; omega))
    have F2 := Lib.hid (show namesV k = (0, false) by
      unfold namesV
      rw [if_neg (fun e => hk (by simp [e])), if_neg (fun e => hk (by simp [e])), if_neg (fun e => hk (by simp [e])), if_neg (fun e => hk (by simp [e])), if_neg (fun e => hk (by simp [e])), if_neg (fun e => hk (by simp [e])), if_neg (fun e => hk (by simp [e]))])
    clear h hk
    go_enter Tryz.func21, Tryz.ntmps21
    go_wp2_with fail
    refine (names_any k _).mono ?_
    rintro e w1 ⟨rfl, rfl⟩
    rw [F2.out]
    go_wp2_with fail
    go_ret
    exact ⟨by rw [F.out]; rfl, below_a1 _ _⟩
set_option maxHeartbeats 8000000 in
set_option maxRecDepth 100000 in
theorem Right_0 (k1 : Int) (c0 c1 c2 c3 c4 c5 c6 c7 c8 c9 c10 a1 a2 : Int) (a3 : List Int) (a4 a5 : Int) (dr : List Nat) (n1 : Int) (kp : List (Int × Int)) (xv dv kv : Value) (lo : Nat) (w : World) (hk : k1 ≠ 1 ∧ k1 ≠ 2 ∧ k1 ≠ 3 ∧ k1 ≠ 4 ∧ k1 ≠ 5) (h : LnIn w lo w.heap.size ⟨xv, dv, kv, ⟨k1, ⟨c0, c1, c2, c3, c4, c5, c6, c7, c8, c9, c10⟩, ⟨a1, a2, a3, a4, a5⟩, dr, n1, kp⟩⟩)
    (h7 : c7 ≤ 9223372036854775807) (hd64 : ∀ x ∈ dr, x < 18446744073709551616) :
    Calls Tryz.prog 9 #[.agg #[.int .i64 k1, .int .i64 c0, .int .i64 c1, .int .i64 c2, .int .i64 c3, .int .i64 c4, .int .i64 c5, .int .i64 c6, .int .i64 c7, .int .i64 c8, .int .i64 c9, .int .i64 c10, .int .i64 a1, .int .i64 a2, xv, .int .i64 a4, .int .i64 a5, dv, .int .i64 n1, kv]] w fun e w' => e = .returned (.bool (rightB ⟨k1, ⟨c0, c1, c2, c3, c4, c5, c6, c7, c8, c9, c10⟩, ⟨a1, a2, a3, a4, a5⟩, dr, n1, kp⟩)) ∧ Below w.heap.size w w' := by
  have HIN := Lib.hid (fun (W : World) (hb : Below w.heap.size w W) => h.up hb)
  obtain ⟨h1, h2, h3, h4, h5⟩ := hk
  have q1 : (k1 == 1) = false := beq_eq_false_iff_ne.2 h1
  have q2 : (k1 == 2) = false := beq_eq_false_iff_ne.2 h2
  have q3 : (k1 == 3) = false := beq_eq_false_iff_ne.2 h3
  have q4 : (k1 == 4) = false := beq_eq_false_iff_ne.2 h4
  have q5 : (k1 == 5) = false := beq_eq_false_iff_ne.2 h5
  have F := Lib.hid (right_no (l := ⟨k1, ⟨c0, c1, c2, c3, c4, c5, c6, c7, c8, c9, c10⟩, ⟨a1, a2, a3, a4, a5⟩, dr, n1, kp⟩) (fun h => by have := right_kind h; dsimp only at this; omega))
  clear h h1 h2 h3 h4 h5 h7 hd64
  go_enter Tryz.func9, Tryz.ntmps9
  go_wp2_with fail
  go_ret
  exact ⟨by rw [F.out]; rfl, below_a1 _ _⟩
set_option maxHeartbeats 8000000 in
set_option maxRecDepth 100000 in
theorem Right_1 (c0 c1 c2 c3 c4 c5 c6 c7 c8 c9 c10 a1 a2 : Int) (a3 : List Int) (a4 a5 : Int) (dr : List Nat) (n1 : Int) (kp : List (Int × Int)) (xv dv kv : Value) (lo : Nat) (w : World) (h : LnIn w lo w.heap.size ⟨xv, dv, kv, ⟨1, ⟨c0, c1, c2, c3, c4, c5, c6, c7, c8, c9, c10⟩, ⟨a1, a2, a3, a4, a5⟩, dr, n1, kp⟩⟩)
    (h7 : c7 ≤ 9223372036854775807) (hd64 : ∀ x ∈ dr, x < 18446744073709551616) :
    Calls Tryz.prog 9 #[.agg #[.int .i64 1, .int .i64 c0, .int .i64 c1, .int .i64 c2, .int .i64 c3, .int .i64 c4, .int .i64 c5, .int .i64 c6, .int .i64 c7, .int .i64 c8, .int .i64 c9, .int .i64 c10, .int .i64 a1, .int .i64 a2, xv, .int .i64 a4, .int .i64 a5, dv, .int .i64 n1, kv]] w fun e w' => e = .returned (.bool (rightB ⟨1, ⟨c0, c1, c2, c3, c4, c5, c6, c7, c8, c9, c10⟩, ⟨a1, a2, a3, a4, a5⟩, dr, n1, kp⟩)) ∧ Below w.heap.size w w' := by
  have HIN := Lib.hid (fun (W : World) (hb : Below w.heap.size w W) => h.up hb)
  have HIFF := Lib.hid (right_conf (l := (⟨1, ⟨c0, c1, c2, c3, c4, c5, c6, c7, c8, c9, c10⟩, ⟨a1, a2, a3, a4, a5⟩, dr, n1, kp⟩ : Ln)) rfl)
  (try dsimp only at HIFF)
  have HSM := Lib.hid (fun (W : World) (hb : Below w.heap.size w W) => show Calls Tryz.prog 11 #[.agg #[.int .i64 1, .int .i64 c0, .int .i64 c1, .int .i64 c2, .int .i64 c3, .int .i64 c4, .int .i64 c5, .int .i64 c6, .int .i64 c7, .int .i64 c8, .int .i64 c9, .int .i64 c10, .int .i64 a1, .int .i64 a2, xv, .int .i64 a4, .int .i64 a5, dv, .int .i64 n1, kv], .agg #[.int .i64 1, .int .i64 c0, .int .i64 c1, .int .i64 c2, .int .i64 c3, .int .i64 c4, .int .i64 c5, .int .i64 c6, .int .i64 c7, .int .i64 c8, .int .i64 c9, .int .i64 c10, .int .i64 0, .int .i64 0, .slice none 0 0, .int .i64 0, .int .i64 0, .slice none 0 0, .int .i64 0, .slice none 0 0]] W fun e w' => e = .returned (.bool (sameLB ⟨1, ⟨c0, c1, c2, c3, c4, c5, c6, c7, c8, c9, c10⟩, ⟨a1, a2, a3, a4, a5⟩, dr, n1, kp⟩ (onlyCf ⟨c0, c1, c2, c3, c4, c5, c6, c7, c8, c9, c10⟩))) ∧ Below W.heap.size W w' from Same_any ⟨xv, dv, kv, ⟨1, ⟨c0, c1, c2, c3, c4, c5, c6, c7, c8, c9, c10⟩, ⟨a1, a2, a3, a4, a5⟩, dr, n1, kp⟩⟩ ⟨.slice none 0 0, .slice none 0 0, .slice none 0 0, onlyCf ⟨c0, c1, c2, c3, c4, c5, c6, c7, c8, c9, c10⟩⟩ lo 0 W (HIN.out W hb) (nil_in _ _ ⟨rfl, rfl, rfl⟩))
  have H7 := Lib.hid h7
  clear h h7 hd64
  go_enter Tryz.func9, Tryz.ntmps9
  go_wp2_with (refine (id ?_ : wpList _ _ _ (⟨some 7, .load _ _, _, _, _, _⟩ :: _) _ _); refine wpList_load_row rfl 31 (.tmp 1) rfl w.heap.size (by rfl) _ _ _ _ (heap_alloc_new w _) Tryz.underlying31 rfl (by kernel_rfl) ?_)
  refine (HSM.out _ (below_a1 _ _)).mono ?_
  rintro e w1 ⟨rfl, hb⟩
  have HB := Lib.hid (bt hb (below_a1 w _))
  by_cases hs : (⟨1, ⟨c0, c1, c2, c3, c4, c5, c6, c7, c8, c9, c10⟩, ⟨a1, a2, a3, a4, a5⟩, dr, n1, kp⟩ : Ln) = onlyCf ⟨c0, c1, c2, c3, c4, c5, c6, c7, c8, c9, c10⟩
  · rw [sameL_yes hs]
    have HS := Lib.hid hs
    have nb : w1.heap[w.heap.size]? = some (.cells #[.int .i64 1, .int .i64 c0, .int .i64 c1, .int .i64 c2, .int .i64 c3, .int .i64 c4, .int .i64 c5, .int .i64 c6, .int .i64 c7, .int .i64 c8, .int .i64 c9, .int .i64 c10, .int .i64 a1, .int .i64 a2, xv, .int .i64 a4, .int .i64 a5, dv, .int .i64 n1, kv] 31 (0, 0)) := (hb.block _ (by simp)).trans (heap_alloc_new w _)
    have b1 := cell_of nb (o := 1) rfl
    have b2 := cell_of nb (o := 2) rfl
    have b3 := cell_of nb (o := 3) rfl
    have b4 := cell_of nb (o := 4) rfl
    have b5 := cell_of nb (o := 5) rfl
    have b6 := cell_of nb (o := 6) rfl
    have b7 := cell_of nb (o := 7) rfl
    have b8 := cell_of nb (o := 8) rfl
    have b9 := cell_of nb (o := 9) rfl
    have b10 := cell_of nb (o := 10) rfl
    have b11 := cell_of nb (o := 11) rfl
    have zb := (Array.getElem?_eq_some_iff.1 nb).1
    clear nb
    clear hs hb
    go_wp2_with fail
    refine (show Calls Tryz.prog 20 #[.agg #[.int .i64 c0, .int .i64 c1, .int .i64 c2, .int .i64 c3, .int .i64 c4, .int .i64 c5, .int .i64 c6, .int .i64 c7, .int .i64 c8, .int .i64 c9, .int .i64 c10]] w1 _ from SRight_any ⟨c0, c1, c2, c3, c4, c5, c6, c7, c8, c9, c10⟩ H7.out w1).mono ?_
    rintro e w2 ⟨rfl, hb2⟩
    have HB2 := Lib.hid (bt hb2 HB.out)
    clear hb2
    by_cases hc : confOk ⟨c0, c1, c2, c3, c4, c5, c6, c7, c8, c9, c10⟩
    · rw [conf_yes hc]
      have F := Lib.hid (right_yes (HIFF.out.2 ⟨HS.out, hc⟩))
      clear hc
      go_wp2_with fail
      go_ret
      exact ⟨by rw [F.out]; rfl, HB2.out⟩
    · rw [conf_no hc]
      have F := Lib.hid (right_no (fun h => hc (HIFF.out.1 h).2))
      clear hc
      go_wp2_with fail
      go_ret
      exact ⟨by rw [F.out]; rfl, HB2.out⟩
  · rw [sameL_no hs]
    have F := Lib.hid (right_no (fun h => hs (HIFF.out.1 h).1))
    clear hs hb
    go_wp2_with fail
    go_ret
    exact ⟨by rw [F.out]; rfl, HB.out⟩
set_option maxHeartbeats 8000000 in
set_option maxRecDepth 100000 in
theorem Right_2 (c0 c1 c2 c3 c4 c5 c6 c7 c8 c9 c10 a1 a2 : Int) (a3 : List Int) (a4 a5 : Int) (dr : List Nat) (n1 : Int) (kp : List (Int × Int)) (xv dv kv : Value) (lo : Nat) (w : World) (h : LnIn w lo w.heap.size ⟨xv, dv, kv, ⟨2, ⟨c0, c1, c2, c3, c4, c5, c6, c7, c8, c9, c10⟩, ⟨a1, a2, a3, a4, a5⟩, dr, n1, kp⟩⟩)
    (h7 : c7 ≤ 9223372036854775807) (hd64 : ∀ x ∈ dr, x < 18446744073709551616) :
    Calls Tryz.prog 9 #[.agg #[.int .i64 2, .int .i64 c0, .int .i64 c1, .int .i64 c2, .int .i64 c3, .int .i64 c4, .int .i64 c5, .int .i64 c6, .int .i64 c7, .int .i64 c8, .int .i64 c9, .int .i64 c10, .int .i64 a1, .int .i64 a2, xv, .int .i64 a4, .int .i64 a5, dv, .int .i64 n1, kv]] w fun e w' => e = .returned (.bool (rightB ⟨2, ⟨c0, c1, c2, c3, c4, c5, c6, c7, c8, c9, c10⟩, ⟨a1, a2, a3, a4, a5⟩, dr, n1, kp⟩)) ∧ Below w.heap.size w w' := by
  have HIN := Lib.hid (fun (W : World) (hb : Below w.heap.size w W) => h.up hb)
  have HIFF := Lib.hid (right_ask (l := (⟨2, ⟨c0, c1, c2, c3, c4, c5, c6, c7, c8, c9, c10⟩, ⟨a1, a2, a3, a4, a5⟩, dr, n1, kp⟩ : Ln)) rfl hd64)
  (try dsimp only at HIFF)
  have HSM := Lib.hid (fun (W : World) (hb : Below w.heap.size w W) => show Calls Tryz.prog 11 #[.agg #[.int .i64 2, .int .i64 c0, .int .i64 c1, .int .i64 c2, .int .i64 c3, .int .i64 c4, .int .i64 c5, .int .i64 c6, .int .i64 c7, .int .i64 c8, .int .i64 c9, .int .i64 c10, .int .i64 a1, .int .i64 a2, xv, .int .i64 a4, .int .i64 a5, dv, .int .i64 n1, kv], .agg #[.int .i64 2, .int .i64 0, .int .i64 0, .int .i64 0, .int .i64 0, .int .i64 0, .int .i64 0, .int .i64 0, .int .i64 0, .int .i64 0, .int .i64 0, .int .i64 0, .int .i64 a1, .int .i64 a2, xv, .int .i64 a4, .int .i64 a5, dv, .int .i64 0, .slice none 0 0]] W fun e w' => e = .returned (.bool (sameLB ⟨2, ⟨c0, c1, c2, c3, c4, c5, c6, c7, c8, c9, c10⟩, ⟨a1, a2, a3, a4, a5⟩, dr, n1, kp⟩ (onlyAk ⟨a1, a2, a3, a4, a5⟩ dr))) ∧ Below W.heap.size W w' from Same_any ⟨xv, dv, kv, ⟨2, ⟨c0, c1, c2, c3, c4, c5, c6, c7, c8, c9, c10⟩, ⟨a1, a2, a3, a4, a5⟩, dr, n1, kp⟩⟩ ⟨xv, dv, .slice none 0 0, onlyAk ⟨a1, a2, a3, a4, a5⟩ dr⟩ lo 0 W (HIN.out W hb) (⟨((HIN.out W hb).xs).more (Nat.zero_le _) (Nat.le_refl _), ((HIN.out W hb).ds).more (Nat.zero_le _) (Nat.le_refl _), Seq.nil_⟩))
  have HRA := Lib.hid (fun (W : World) (hb : Below w.heap.size w W) => RightAsk_any xv ⟨a1, a2, a3, a4, a5⟩ W ((HIN.out W hb).xs.more (Nat.zero_le _) (Nat.le_refl _)))
  obtain ⟨DA, dc, rfl, hd1, hd2, _⟩ := (show Seq 1 u6C w lo w.heap.size dv dr from h.ds)
  obtain ⟨dn, hdn⟩ : ∃ dn, dr.length = dn := ⟨_, rfl⟩
  have HDN := Lib.hid hdn
  rw [hdn] at hd1 HSM HIN ⊢
  unfold maxLen at hd2
  clear h h7 hd64 hdn
  by_cases g1 : dn ≤ 2048
  · have d1 : decide ((dn : Int) > 2048) = false := decide_eq_false (by omega)
    by_cases g2 : dn = 0
    · subst g2
      have H2 := Lib.hid (show dr.length ≤ 2048 ∧ (a1 = 1 ∨ dr = []) from ⟨by rw [HDN.out]; omega, .inr (List.eq_nil_of_length_eq_zero HDN.out)⟩)
      clear g1
      go_enter Tryz.func9, Tryz.ntmps9
      go_upto_region 7 with (fail)
      all_goals try (exfalso; omega)
      go_wp2_with (refine (id ?_ : wpList _ _ _ (⟨some 37, .load _ _, _, _, _, _⟩ :: _) _ _); refine wpList_load_row rfl 31 (.tmp 1) rfl w.heap.size (by rfl) _ _ _ _ (heap_alloc_new w _) Tryz.underlying31 rfl (by kernel_rfl) ?_)
      refine (HSM.out _ (below_a1 _ _)).mono ?_
      rintro e w1 ⟨rfl, hb⟩
      have HB := Lib.hid (bt hb (below_a1 w _))
      by_cases hs : (⟨2, ⟨c0, c1, c2, c3, c4, c5, c6, c7, c8, c9, c10⟩, ⟨a1, a2, a3, a4, a5⟩, dr, n1, kp⟩ : Ln) = onlyAk ⟨a1, a2, a3, a4, a5⟩ dr
      · rw [sameL_yes hs]
        have HS := Lib.hid hs
        have nb : w1.heap[w.heap.size]? = some (.cells #[.int .i64 2, .int .i64 c0, .int .i64 c1, .int .i64 c2, .int .i64 c3, .int .i64 c4, .int .i64 c5, .int .i64 c6, .int .i64 c7, .int .i64 c8, .int .i64 c9, .int .i64 c10, .int .i64 a1, .int .i64 a2, xv, .int .i64 a4, .int .i64 a5, .slice DA 0 dc, .int .i64 n1, kv] 31 (0, 0)) := (hb.block _ (by simp)).trans (heap_alloc_new w _)
        have b12 := cell_of nb (o := 12) rfl
        have b13 := cell_of nb (o := 13) rfl
        have b14 := cell_of nb (o := 14) rfl
        have b15 := cell_of nb (o := 15) rfl
        have b16 := cell_of nb (o := 16) rfl
        have zb := (Array.getElem?_eq_some_iff.1 nb).1
        clear nb
        clear hs hb
        go_wp2_with fail
        refine (HRA.out w1 HB.out).mono ?_
        rintro e w2 ⟨rfl, hb2⟩
        have HB2 := Lib.hid (bt hb2 HB.out)
        clear hb2
        by_cases hc : askOk ⟨a1, a2, a3, a4, a5⟩
        · rw [askB_yes hc]
          have F := Lib.hid (right_yes (HIFF.out.2 ⟨HS.out, hc, H2.out.1, H2.out.2⟩))
          clear hc
          go_wp2_with fail
          go_ret
          exact ⟨by rw [F.out]; rfl, HB2.out⟩
        · rw [askB_no hc]
          have F := Lib.hid (right_no (fun h => hc (HIFF.out.1 h).2.1))
          clear hc
          go_wp2_with fail
          go_ret
          exact ⟨by rw [F.out]; rfl, HB2.out⟩
      · rw [sameL_no hs]
        have F := Lib.hid (right_no (fun h => hs (HIFF.out.1 h).1))
        clear hs hb
        go_wp2_with fail
        go_ret
        exact ⟨by rw [F.out]; rfl, HB.out⟩
    · have d2 : decide ((dn : Int) > 0) = true := decide_eq_true (by omega)
      have d2b : 0 < dn := by omega
      by_cases g3 : a1 = 1
      · subst g3
        have H2 := Lib.hid (show dr.length ≤ 2048 ∧ ((1 : Int) = 1 ∨ dr = []) from ⟨by rw [HDN.out]; omega, .inl rfl⟩)
        clear g1 g2
        go_enter Tryz.func9, Tryz.ntmps9
        go_upto_region 7 with (fail)
        all_goals try (exfalso; omega)
        go_wp2_with (refine (id ?_ : wpList _ _ _ (⟨some 37, .load _ _, _, _, _, _⟩ :: _) _ _); refine wpList_load_row rfl 31 (.tmp 1) rfl w.heap.size (by rfl) _ _ _ _ (heap_alloc_new w _) Tryz.underlying31 rfl (by kernel_rfl) ?_)
        refine (HSM.out _ (below_a1 _ _)).mono ?_
        rintro e w1 ⟨rfl, hb⟩
        have HB := Lib.hid (bt hb (below_a1 w _))
        by_cases hs : (⟨2, ⟨c0, c1, c2, c3, c4, c5, c6, c7, c8, c9, c10⟩, ⟨1, a2, a3, a4, a5⟩, dr, n1, kp⟩ : Ln) = onlyAk ⟨1, a2, a3, a4, a5⟩ dr
        · rw [sameL_yes hs]
          have HS := Lib.hid hs
          have nb : w1.heap[w.heap.size]? = some (.cells #[.int .i64 2, .int .i64 c0, .int .i64 c1, .int .i64 c2, .int .i64 c3, .int .i64 c4, .int .i64 c5, .int .i64 c6, .int .i64 c7, .int .i64 c8, .int .i64 c9, .int .i64 c10, .int .i64 1, .int .i64 a2, xv, .int .i64 a4, .int .i64 a5, .slice DA dn dc, .int .i64 n1, kv] 31 (0, 0)) := (hb.block _ (by simp)).trans (heap_alloc_new w _)
          have b12 := cell_of nb (o := 12) rfl
          have b13 := cell_of nb (o := 13) rfl
          have b14 := cell_of nb (o := 14) rfl
          have b15 := cell_of nb (o := 15) rfl
          have b16 := cell_of nb (o := 16) rfl
          have zb := (Array.getElem?_eq_some_iff.1 nb).1
          clear nb
          clear hs hb
          go_wp2_with fail
          refine (HRA.out w1 HB.out).mono ?_
          rintro e w2 ⟨rfl, hb2⟩
          have HB2 := Lib.hid (bt hb2 HB.out)
          clear hb2
          by_cases hc : askOk ⟨1, a2, a3, a4, a5⟩
          · rw [askB_yes hc]
            have F := Lib.hid (right_yes (HIFF.out.2 ⟨HS.out, hc, H2.out.1, H2.out.2⟩))
            clear hc
            go_wp2_with fail
            go_ret
            exact ⟨by rw [F.out]; rfl, HB2.out⟩
          · rw [askB_no hc]
            have F := Lib.hid (right_no (fun h => hc (HIFF.out.1 h).2.1))
            clear hc
            go_wp2_with fail
            go_ret
            exact ⟨by rw [F.out]; rfl, HB2.out⟩
        · rw [sameL_no hs]
          have F := Lib.hid (right_no (fun h => hs (HIFF.out.1 h).1))
          clear hs hb
          go_wp2_with fail
          go_ret
          exact ⟨by rw [F.out]; rfl, HB.out⟩
      · have F := Lib.hid (right_no (fun h => by have := (HIFF.out.1 h).2.2.2; rcases this with e | e; exact g3 e; rw [e] at HDN; exact g2 HDN.out.symm))
        have d3 : (a1 != 1) = true := by simpa using g3
        clear g1 g2 g3
        go_enter Tryz.func9, Tryz.ntmps9
        go_wp2_with fail
        go_ret
        exact ⟨by rw [F.out]; rfl, below_a1 _ _⟩
  · have F := Lib.hid (right_no (fun h => g1 (by have := (HIFF.out.1 h).2.2.1; rw [HDN.out] at this; exact this)))
    have d1 : decide ((dn : Int) > 2048) = true := decide_eq_true (by omega)
    clear g1
    go_enter Tryz.func9, Tryz.ntmps9
    go_wp2_with fail
    go_ret
    exact ⟨by rw [F.out]; rfl, below_a1 _ _⟩
set_option maxHeartbeats 8000000 in
set_option maxRecDepth 100000 in
theorem Right_3 (c0 c1 c2 c3 c4 c5 c6 c7 c8 c9 c10 a1 a2 : Int) (a3 : List Int) (a4 a5 : Int) (dr : List Nat) (n1 : Int) (kp : List (Int × Int)) (xv dv kv : Value) (lo : Nat) (w : World) (h : LnIn w lo w.heap.size ⟨xv, dv, kv, ⟨3, ⟨c0, c1, c2, c3, c4, c5, c6, c7, c8, c9, c10⟩, ⟨a1, a2, a3, a4, a5⟩, dr, n1, kp⟩⟩)
    (h7 : c7 ≤ 9223372036854775807) (hd64 : ∀ x ∈ dr, x < 18446744073709551616) :
    Calls Tryz.prog 9 #[.agg #[.int .i64 3, .int .i64 c0, .int .i64 c1, .int .i64 c2, .int .i64 c3, .int .i64 c4, .int .i64 c5, .int .i64 c6, .int .i64 c7, .int .i64 c8, .int .i64 c9, .int .i64 c10, .int .i64 a1, .int .i64 a2, xv, .int .i64 a4, .int .i64 a5, dv, .int .i64 n1, kv]] w fun e w' => e = .returned (.bool (rightB ⟨3, ⟨c0, c1, c2, c3, c4, c5, c6, c7, c8, c9, c10⟩, ⟨a1, a2, a3, a4, a5⟩, dr, n1, kp⟩)) ∧ Below w.heap.size w w' := by
  have HIN := Lib.hid (fun (W : World) (hb : Below w.heap.size w W) => h.up hb)
  have HIFF := Lib.hid (right_stop (l := (⟨3, ⟨c0, c1, c2, c3, c4, c5, c6, c7, c8, c9, c10⟩, ⟨a1, a2, a3, a4, a5⟩, dr, n1, kp⟩ : Ln)) rfl)
  (try dsimp only at HIFF)
  have HSM := Lib.hid (fun (W : World) (hb : Below w.heap.size w W) => show Calls Tryz.prog 11 #[.agg #[.int .i64 3, .int .i64 c0, .int .i64 c1, .int .i64 c2, .int .i64 c3, .int .i64 c4, .int .i64 c5, .int .i64 c6, .int .i64 c7, .int .i64 c8, .int .i64 c9, .int .i64 c10, .int .i64 a1, .int .i64 a2, xv, .int .i64 a4, .int .i64 a5, dv, .int .i64 n1, kv], .agg #[.int .i64 3, .int .i64 0, .int .i64 0, .int .i64 0, .int .i64 0, .int .i64 0, .int .i64 0, .int .i64 0, .int .i64 0, .int .i64 0, .int .i64 0, .int .i64 0, .int .i64 0, .int .i64 0, .slice none 0 0, .int .i64 0, .int .i64 0, .slice none 0 0, .int .i64 n1, .slice none 0 0]] W fun e w' => e = .returned (.bool (sameLB ⟨3, ⟨c0, c1, c2, c3, c4, c5, c6, c7, c8, c9, c10⟩, ⟨a1, a2, a3, a4, a5⟩, dr, n1, kp⟩ (onlyN n1))) ∧ Below W.heap.size W w' from Same_any ⟨xv, dv, kv, ⟨3, ⟨c0, c1, c2, c3, c4, c5, c6, c7, c8, c9, c10⟩, ⟨a1, a2, a3, a4, a5⟩, dr, n1, kp⟩⟩ ⟨.slice none 0 0, .slice none 0 0, .slice none 0 0, onlyN n1⟩ lo 0 W (HIN.out W hb) (nil_in _ _ ⟨rfl, rfl, rfl⟩))
  clear h h7 hd64
  go_enter Tryz.func9, Tryz.ntmps9
  go_wp2_with (refine (id ?_ : wpList _ _ _ (⟨some 53, .load _ _, _, _, _, _⟩ :: _) _ _); refine wpList_load_row rfl 31 (.tmp 1) rfl w.heap.size (by rfl) _ _ _ _ (heap_alloc_new w _) Tryz.underlying31 rfl (by kernel_rfl) ?_)
  refine (HSM.out _ (below_a1 _ _)).mono ?_
  rintro e w1 ⟨rfl, hb⟩
  have HB := Lib.hid (bt hb (below_a1 w _))
  by_cases hs : (⟨3, ⟨c0, c1, c2, c3, c4, c5, c6, c7, c8, c9, c10⟩, ⟨a1, a2, a3, a4, a5⟩, dr, n1, kp⟩ : Ln) = onlyN n1
  · rw [sameL_yes hs]
    have HS := Lib.hid hs
    have nb : w1.heap[w.heap.size]? = some (.cells #[.int .i64 3, .int .i64 c0, .int .i64 c1, .int .i64 c2, .int .i64 c3, .int .i64 c4, .int .i64 c5, .int .i64 c6, .int .i64 c7, .int .i64 c8, .int .i64 c9, .int .i64 c10, .int .i64 a1, .int .i64 a2, xv, .int .i64 a4, .int .i64 a5, dv, .int .i64 n1, kv] 31 (0, 0)) := (hb.block _ (by simp)).trans (heap_alloc_new w _)
    have b18 := cell_of nb (o := 18) rfl
    have zb := (Array.getElem?_eq_some_iff.1 nb).1
    clear nb
    clear hs hb
    go_wp2_with fail
    refine (between_any n1 (-1) 1099511627776 _).mono ?_
    rintro e w2 ⟨rfl, rfl⟩
    by_cases hc : -1 ≤ n1 ∧ n1 ≤ 1099511627776
    · rw [decide_eq_true hc]
      have F := Lib.hid (right_yes (HIFF.out.2 ⟨HS.out, hc⟩))
      clear hc
      go_wp2_with fail
      go_ret
      exact ⟨by rw [F.out]; rfl, HB.out⟩
    · rw [decide_eq_false hc]
      have F := Lib.hid (right_no (fun h => hc (HIFF.out.1 h).2))
      clear hc
      go_wp2_with fail
      go_ret
      exact ⟨by rw [F.out]; rfl, HB.out⟩
  · rw [sameL_no hs]
    have F := Lib.hid (right_no (fun h => hs (HIFF.out.1 h).1))
    clear hs hb
    go_wp2_with fail
    go_ret
    exact ⟨by rw [F.out]; rfl, HB.out⟩
set_option maxHeartbeats 8000000 in
set_option maxRecDepth 100000 in
theorem Right_4 (c0 c1 c2 c3 c4 c5 c6 c7 c8 c9 c10 a1 a2 : Int) (a3 : List Int) (a4 a5 : Int) (dr : List Nat) (n1 : Int) (kp : List (Int × Int)) (xv dv kv : Value) (lo : Nat) (w : World) (h : LnIn w lo w.heap.size ⟨xv, dv, kv, ⟨4, ⟨c0, c1, c2, c3, c4, c5, c6, c7, c8, c9, c10⟩, ⟨a1, a2, a3, a4, a5⟩, dr, n1, kp⟩⟩)
    (h7 : c7 ≤ 9223372036854775807) (hd64 : ∀ x ∈ dr, x < 18446744073709551616) :
    Calls Tryz.prog 9 #[.agg #[.int .i64 4, .int .i64 c0, .int .i64 c1, .int .i64 c2, .int .i64 c3, .int .i64 c4, .int .i64 c5, .int .i64 c6, .int .i64 c7, .int .i64 c8, .int .i64 c9, .int .i64 c10, .int .i64 a1, .int .i64 a2, xv, .int .i64 a4, .int .i64 a5, dv, .int .i64 n1, kv]] w fun e w' => e = .returned (.bool (rightB ⟨4, ⟨c0, c1, c2, c3, c4, c5, c6, c7, c8, c9, c10⟩, ⟨a1, a2, a3, a4, a5⟩, dr, n1, kp⟩)) ∧ Below w.heap.size w w' := by
  have HIN := Lib.hid (fun (W : World) (hb : Below w.heap.size w W) => h.up hb)
  have HIFF := Lib.hid (right_crash (l := (⟨4, ⟨c0, c1, c2, c3, c4, c5, c6, c7, c8, c9, c10⟩, ⟨a1, a2, a3, a4, a5⟩, dr, n1, kp⟩ : Ln)) rfl)
  (try dsimp only at HIFF)
  have HSM := Lib.hid (fun (W : World) (hb : Below w.heap.size w W) => show Calls Tryz.prog 11 #[.agg #[.int .i64 4, .int .i64 c0, .int .i64 c1, .int .i64 c2, .int .i64 c3, .int .i64 c4, .int .i64 c5, .int .i64 c6, .int .i64 c7, .int .i64 c8, .int .i64 c9, .int .i64 c10, .int .i64 a1, .int .i64 a2, xv, .int .i64 a4, .int .i64 a5, dv, .int .i64 n1, kv], .agg #[.int .i64 4, .int .i64 0, .int .i64 0, .int .i64 0, .int .i64 0, .int .i64 0, .int .i64 0, .int .i64 0, .int .i64 0, .int .i64 0, .int .i64 0, .int .i64 0, .int .i64 0, .int .i64 0, .slice none 0 0, .int .i64 0, .int .i64 0, .slice none 0 0, .int .i64 0, kv]] W fun e w' => e = .returned (.bool (sameLB ⟨4, ⟨c0, c1, c2, c3, c4, c5, c6, c7, c8, c9, c10⟩, ⟨a1, a2, a3, a4, a5⟩, dr, n1, kp⟩ (onlyKept kp))) ∧ Below W.heap.size W w' from Same_any ⟨xv, dv, kv, ⟨4, ⟨c0, c1, c2, c3, c4, c5, c6, c7, c8, c9, c10⟩, ⟨a1, a2, a3, a4, a5⟩, dr, n1, kp⟩⟩ ⟨.slice none 0 0, .slice none 0 0, kv, onlyKept kp⟩ lo 0 W (HIN.out W hb) (⟨Seq.nil_, Seq.nil_, ((HIN.out W hb).ks).more (Nat.zero_le _) (Nat.le_refl _)⟩))
  have HKE := Lib.hid (fun (W : World) (hb : Below w.heap.size w W) => keeps_any kv kp lo W (HIN.out W hb).ks)
  obtain ⟨KA, kc, rfl, _, _, _⟩ := (show Seq 2 kpC w lo w.heap.size kv kp from h.ks)
  obtain ⟨kn, hkn⟩ : ∃ kn, kp.length = kn := ⟨_, rfl⟩
  rw [hkn] at HSM HIN HKE ⊢
  have HKN := Lib.hid hkn
  clear h h7 hd64 hkn
  go_enter Tryz.func9, Tryz.ntmps9
  go_wp2_with (refine (id ?_ : wpList _ _ _ (⟨some 67, .load _ _, _, _, _, _⟩ :: _) _ _); refine wpList_load_row rfl 31 (.tmp 1) rfl w.heap.size (by rfl) _ _ _ _ (heap_alloc_new w _) Tryz.underlying31 rfl (by kernel_rfl) ?_)
  refine (HSM.out _ (below_a1 _ _)).mono ?_
  rintro e w1 ⟨rfl, hb⟩
  have HB := Lib.hid (bt hb (below_a1 w _))
  by_cases hs : (⟨4, ⟨c0, c1, c2, c3, c4, c5, c6, c7, c8, c9, c10⟩, ⟨a1, a2, a3, a4, a5⟩, dr, n1, kp⟩ : Ln) = onlyKept kp
  · rw [sameL_yes hs]
    have HS := Lib.hid hs
    have nb : w1.heap[w.heap.size]? = some (.cells #[.int .i64 4, .int .i64 c0, .int .i64 c1, .int .i64 c2, .int .i64 c3, .int .i64 c4, .int .i64 c5, .int .i64 c6, .int .i64 c7, .int .i64 c8, .int .i64 c9, .int .i64 c10, .int .i64 a1, .int .i64 a2, xv, .int .i64 a4, .int .i64 a5, dv, .int .i64 n1, .slice KA kn kc] 31 (0, 0)) := (hb.block _ (by simp)).trans (heap_alloc_new w _)
    have b19 := cell_of nb (o := 19) rfl
    have zb := (Array.getElem?_eq_some_iff.1 nb).1
    clear nb
    clear hs hb
    go_wp2_with fail
    refine (HKE.out w1 HB.out).mono ?_
    rintro e w2 ⟨rfl, hb2⟩
    have HB2 := Lib.hid (bt hb2 HB.out)
    clear hb2
    by_cases hc : keptOk kp ∧ kp.length ≤ 256
    · rw [kept_yes hc]
      have F := Lib.hid (right_yes (HIFF.out.2 ⟨HS.out, hc⟩))
      clear hc
      go_wp2_with fail
      go_ret
      exact ⟨by rw [F.out]; rfl, HB2.out⟩
    · rw [kept_no hc]
      have F := Lib.hid (right_no (fun h => hc (HIFF.out.1 h).2))
      clear hc
      go_wp2_with fail
      go_ret
      exact ⟨by rw [F.out]; rfl, HB2.out⟩
  · rw [sameL_no hs]
    have F := Lib.hid (right_no (fun h => hs (HIFF.out.1 h).1))
    clear hs hb
    go_wp2_with fail
    go_ret
    exact ⟨by rw [F.out]; rfl, HB.out⟩
set_option maxHeartbeats 8000000 in
set_option maxRecDepth 100000 in
theorem Right_5 (c0 c1 c2 c3 c4 c5 c6 c7 c8 c9 c10 a1 a2 : Int) (a3 : List Int) (a4 a5 : Int) (dr : List Nat) (n1 : Int) (kp : List (Int × Int)) (xv dv kv : Value) (lo : Nat) (w : World) (h : LnIn w lo w.heap.size ⟨xv, dv, kv, ⟨5, ⟨c0, c1, c2, c3, c4, c5, c6, c7, c8, c9, c10⟩, ⟨a1, a2, a3, a4, a5⟩, dr, n1, kp⟩⟩)
    (h7 : c7 ≤ 9223372036854775807) (hd64 : ∀ x ∈ dr, x < 18446744073709551616) :
    Calls Tryz.prog 9 #[.agg #[.int .i64 5, .int .i64 c0, .int .i64 c1, .int .i64 c2, .int .i64 c3, .int .i64 c4, .int .i64 c5, .int .i64 c6, .int .i64 c7, .int .i64 c8, .int .i64 c9, .int .i64 c10, .int .i64 a1, .int .i64 a2, xv, .int .i64 a4, .int .i64 a5, dv, .int .i64 n1, kv]] w fun e w' => e = .returned (.bool (rightB ⟨5, ⟨c0, c1, c2, c3, c4, c5, c6, c7, c8, c9, c10⟩, ⟨a1, a2, a3, a4, a5⟩, dr, n1, kp⟩)) ∧ Below w.heap.size w w' := by
  have HIN := Lib.hid (fun (W : World) (hb : Below w.heap.size w W) => h.up hb)
  have HIFF := Lib.hid (right_open (l := (⟨5, ⟨c0, c1, c2, c3, c4, c5, c6, c7, c8, c9, c10⟩, ⟨a1, a2, a3, a4, a5⟩, dr, n1, kp⟩ : Ln)) rfl)
  (try dsimp only at HIFF)
  have HSM := Lib.hid (fun (W : World) (hb : Below w.heap.size w W) => show Calls Tryz.prog 11 #[.agg #[.int .i64 5, .int .i64 c0, .int .i64 c1, .int .i64 c2, .int .i64 c3, .int .i64 c4, .int .i64 c5, .int .i64 c6, .int .i64 c7, .int .i64 c8, .int .i64 c9, .int .i64 c10, .int .i64 a1, .int .i64 a2, xv, .int .i64 a4, .int .i64 a5, dv, .int .i64 n1, kv], .agg #[.int .i64 5, .int .i64 0, .int .i64 0, .int .i64 0, .int .i64 0, .int .i64 0, .int .i64 0, .int .i64 0, .int .i64 0, .int .i64 0, .int .i64 0, .int .i64 0, .int .i64 0, .int .i64 0, .slice none 0 0, .int .i64 0, .int .i64 0, .slice none 0 0, .int .i64 0, .slice none 0 0]] W fun e w' => e = .returned (.bool (sameLB ⟨5, ⟨c0, c1, c2, c3, c4, c5, c6, c7, c8, c9, c10⟩, ⟨a1, a2, a3, a4, a5⟩, dr, n1, kp⟩ (ln0 5))) ∧ Below W.heap.size W w' from Same_any ⟨xv, dv, kv, ⟨5, ⟨c0, c1, c2, c3, c4, c5, c6, c7, c8, c9, c10⟩, ⟨a1, a2, a3, a4, a5⟩, dr, n1, kp⟩⟩ ⟨.slice none 0 0, .slice none 0 0, .slice none 0 0, ln0 5⟩ lo 0 W (HIN.out W hb) (nil_in _ _ ⟨rfl, rfl, rfl⟩))
  clear h h7 hd64
  go_enter Tryz.func9, Tryz.ntmps9
  go_wp2_with (refine (id ?_ : wpList _ _ _ (⟨some 81, .load _ _, _, _, _, _⟩ :: _) _ _); refine wpList_load_row rfl 31 (.tmp 1) rfl w.heap.size (by rfl) _ _ _ _ (heap_alloc_new w _) Tryz.underlying31 rfl (by kernel_rfl) ?_)
  refine (HSM.out _ (below_a1 _ _)).mono ?_
  rintro e w1 ⟨rfl, hb⟩
  have HB := Lib.hid (bt hb (below_a1 w _))
  by_cases hs : (⟨5, ⟨c0, c1, c2, c3, c4, c5, c6, c7, c8, c9, c10⟩, ⟨a1, a2, a3, a4, a5⟩, dr, n1, kp⟩ : Ln) = ln0 5
  · rw [sameL_yes hs]
    have HS := Lib.hid hs
    have F := Lib.hid (right_yes (HIFF.out.2 hs))
    clear hs hb
    go_wp2_with fail
    go_ret
    exact ⟨by rw [F.out]; rfl, HB.out⟩
  · rw [sameL_no hs]
    have F := Lib.hid (right_no (fun h => hs (HIFF.out.1 h)))
    clear hs hb
    go_wp2_with fail
    go_ret
    exact ⟨by rw [F.out]; rfl, HB.out⟩
theorem Right_any (r : LnR) (lo : Nat) (w : World) (h : LnIn w lo w.heap.size r) (h7 : r.ln.cf.c7 ≤ 9223372036854775807) (hd64 : ∀ x ∈ r.ln.draws, x < 18446744073709551616) :
    Calls Tryz.prog 9 #[.agg (lnC r).toArray] w fun e w' => e = .returned (.bool (rightB r.ln)) ∧ Below w.heap.size w w' := by
  obtain ⟨xv, dv, kv, k1, ⟨c0, c1, c2, c3, c4, c5, c6, c7, c8, c9, c10⟩, ⟨a1, a2, a3, a4, a5⟩, dr, n1, kp⟩ := r
  dsimp only at h7 hd64
  by_cases hk : k1 = 1 ∨ k1 = 2 ∨ k1 = 3 ∨ k1 = 4 ∨ k1 = 5
  · rcases hk with rfl | rfl | rfl | rfl | rfl
    · exact Right_1 c0 c1 c2 c3 c4 c5 c6 c7 c8 c9 c10 a1 a2 a3 a4 a5 dr n1 kp xv dv kv lo w h h7 hd64
    · exact Right_2 c0 c1 c2 c3 c4 c5 c6 c7 c8 c9 c10 a1 a2 a3 a4 a5 dr n1 kp xv dv kv lo w h h7 hd64
    · exact Right_3 c0 c1 c2 c3 c4 c5 c6 c7 c8 c9 c10 a1 a2 a3 a4 a5 dr n1 kp xv dv kv lo w h h7 hd64
    · exact Right_4 c0 c1 c2 c3 c4 c5 c6 c7 c8 c9 c10 a1 a2 a3 a4 a5 dr n1 kp xv dv kv lo w h h7 hd64
    · exact Right_5 c0 c1 c2 c3 c4 c5 c6 c7 c8 c9 c10 a1 a2 a3 a4 a5 dr n1 kp xv dv kv lo w h h7 hd64
  · exact Right_0 k1 c0 c1 c2 c3 c4 c5 c6 c7 c8 c9 c10 a1 a2 a3 a4 a5 dr n1 kp xv dv kv lo w (by omega) h h7 hd64
end Go.Proofs.YtchgfabgighbfaaGreatDoor.RgtW
