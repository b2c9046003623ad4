/- The walk of play (printed by mkplay.py). -/
import Derived.Test.YthinjoldbjcifaaDoorPlayM
import Derived.OwnWalk
import Derived.BigRegion
import Derived.Deep.RegionLaw
import Derived.Deep.DeepMust
import Derived.Deep.QuietTactic
namespace Go.Proofs.YthinjoldbjcifaaDoor.PlayW
set_option linter.unusedVariables false
open Go.RowKit Go.WideElems Base FltM FltW FltX FltI FltH FltC FltT FltS NodM PlayM

theorem eltF : Elt Tryd.prog 25 34 (.pointer none) 1 8 := elt_mk (z := .pointer none) Tryd.underlying25 (by kernel_rfl) rfl (by omega) (by omega)
theorem eltN : Elt Tryd.prog 26 60 (.agg #[.int .i64 0, .string ⟨#[]⟩, .int .i64 0, .int .i64 0, .int .i64 0, .int .i64 0]) 6 56 := elt_mk (z := .agg #[.int .i64 0, .string ⟨#[]⟩, .int .i64 0, .int .i64 0, .int .i64 0, .int .i64 0]) Tryd.underlying26 (by kernel_rfl) rfl (by omega) (by omega)
theorem eltI : Elt Tryd.prog 57 3 (.int .i64 0) 1 8 := elt_mk (z := .int .i64 0) Tryd.underlying57 (by kernel_rfl) rfl (by omega) (by omega)
/-- a block that came behind the row's is left alone as the row grows -/
theorem past {wr w4 w5 : World} {base : Nat} {e : TypeId} {size n : Nat} {v : Value} {xs : List Value} (h : wr.ownsRow base e size v n xs) (hg : w4.grownBy w5 v.ownBlock) {j : Nat} (h1 : wr.heap.size ≤ j) (h2 : j < w4.heap.size) (i : Nat) (u : Value)
    (hc : w4.cell? ⟨j, i, none⟩ = some u) : w5.cell? ⟨j, i, none⟩ = some u :=
  (World.cell?_of_block (a := ⟨j, i, none⟩) (hg.block j h2 fun he => by have := (own_typ h j he.symm).2.2; omega)).trans hc
theorem grownT {w w' : World} {base : Nat} {e : TypeId} {size n : Nat} {v : Value} {xs : List Value} (h : w.ownsRow base e size v n xs) (hg : w.grownBy w' v.ownBlock) (he : 71 ≠ e ∧ 69 ≠ e ∧ 74 ≠ e) {b : Nat} {t : T} (ht : AtT w w.heap.size b t) :
    AtT w' w'.heap.size b t := by
  refine (ht.keep fun k u hk hu hor => grown_keep h hg ?_ hk hu).more hg.size
  rcases hor with rfl | rfl | rfl
  · exact he.1
  · exact he.2.1
  · exact he.2.2
theorem cell_at_below {w w' : World} (hb : Below w.heap.size w w') (j i : Nat) (u : Value) (h : w.cell? ⟨j, i, none⟩ = some u) : w'.cell? ⟨j, i, none⟩ = some u := cell_keep hb h
def PRel (l : List Nd) (w : World) (made nodes place i : Value) (wr : World) : Prop :=
  ∃ (k : Nat) (ms : List (Nat × T)) (ns : List Nd) (pl : List Int) (A1 A2 A3 : Option Addr) (c1 c2 c3 : Nat), made = .slice A1 ms.length c1 ∧ nodes = .slice A2 ns.length c2 ∧ place = .slice A3 k c3 ∧ i = .int .i64 k ∧ k ≤ l.length ∧
    St wr w.heap.size made nodes place ms ns pl ∧ Inv k ms ns pl ∧ Below w.heap.size w wr
def Fits (l : List Nd) : Prop := ∀ x ∈ l, x.op.length ≤ 100 ∧ Num x.do_ ∧ Num x.at_ ∧ Num x.code ∧ Num x.a ∧ Num x.b
theorem rel_old {l : List Nd} {w wr : World} {k n : Nat} {ms : List (Nat × T)} {ns : List Nd} {pl : List Int} {p i : Int} {A1 A2 A3 : Option Addr} {q1 q2 c1 c2 c3 : Nat} (h1 : ms.length = q1) (h2 : ns.length = q2) (hk : k < n) (hn : l.length = n) (hi : i = ((k + 1 : Nat) : Int))
    (hst : St wr w.heap.size (.slice A1 ms.length c1) (.slice A2 ns.length c2) (.slice A3 (k + 1) c3) ms ns (pl ++ [p])) (hiv : Inv k ms ns pl) (hp : -1 ≤ p) (hp2 : p < (q2 : Int)) (hb : Below w.heap.size w wr) :
    PRel l w (.slice A1 q1 c1) (.slice A2 q2 c2) (.slice A3 (k + 1) c3) (.int .i64 i) wr := by
  subst h1; subst h2; subst hi
  exact ⟨k + 1, ms, ns, pl ++ [p], A1, A2, A3, c1, c2, c3, rfl, rfl, rfl, rfl, by omega, hst, hiv.old hp hp2, hb⟩
theorem rel_new {l : List Nd} {w wr : World} {k n : Nat} {ms : List (Nat × T)} {ns : List Nd} {pl : List Int} {i p : Int} {A1 A2 A3 : Option Addr} {q1 q2 c1 c2 c3 : Nat} {y : Nat × T} {x : Nd} (h1 : ms.length = q1) (h2 : ns.length = q2) (hk : k < n) (hn : l.length = n) (hi : i = ((k + 1 : Nat) : Int))
    (hst : St wr w.heap.size (.slice A1 (q1 + 1) c1) (.slice A2 (q2 + 1) c2) (.slice A3 (k + 1) c3) (ms ++ [y]) (ns ++ [x]) (pl ++ [p])) (hiv : Inv (k + 1) (ms ++ [y]) (ns ++ [x]) (pl ++ [p])) (hb : Below w.heap.size w wr) :
    PRel l w (.slice A1 (q1 + 1) c1) (.slice A2 (q2 + 1) c2) (.slice A3 (k + 1) c3) (.int .i64 i) wr := by
  subst h1; subst h2; subst hi
  exact ⟨k + 1, ms ++ [y], ns ++ [x], pl ++ [p], A1, A2, A3, c1, c2, c3, by simp, by simp, rfl, rfl, by omega, hst, hiv, hb⟩
set_option maxHeartbeats 8000000 in
set_option maxRecDepth 100000 in
theorem play_any (v : Value) (l : List Nd) (lo : Nat) (w : World) (h : Seq 6 ndC w lo w.heap.size v l) (hf : Fits l) (hm : l.length ≤ 12) :
    Calls Tryd.prog 9 #[v] w fun e w' => (∃ made nodes place ms ns pl, e = .returned (.tuple #[made, nodes, .bool true]) ∧ St w' w.heap.size made nodes place ms ns pl ∧ Inv l.length ms ns pl) ∧ Below w.heap.size w w' := by
  obtain ⟨A, cap, rfl, hc1, hc2, hr, _⟩ := h
  unfold maxLen at hc2
  have HR := Lib.hid hr
  have HF := Lib.hid hf
  have H0 := Lib.hid (show PRel l w (.slice none 0 0) (.slice none 0 0) (.slice none 0 0) (.int .i64 0) w from ⟨0, [], [], [], none, none, none, 0, 0, 0, rfl, rfl, rfl, rfl, Nat.zero_le _, St.start w, Inv.start, Below.refl _ _⟩)
  obtain ⟨n, hn⟩ : ∃ n, l.length = n := ⟨_, rfl⟩
  rw [hn] at hc1 hm ⊢
  have HN := Lib.hid hn
  clear hr hn hf
  go_enter Tryd.func9, Tryd.ntmps9
  go_wp2_with fail
  go_loopw [5, 6, 7, 8] (fun made nodes place i wr => PRel l w made nodes place i wr) (fun _ _ _ i _ => n - (NodM.intOf i).toNat)
  case atStart => exact H0.out
  case round =>
    clear H0
    obtain ⟨k, ms, ns, pl, A1, A2, A3, m1, m2, m3, rfl, rfl, rfl, rfl, hk, hst, hiv, hbel⟩ := hrel
    rw [HN.out] at hk
    have HST := Lib.hid hst
    have HIV := Lib.hid hiv
    have HB := Lib.hid hbel
    have hsz := hbel.size
    have hfew := hiv.few
    have hlen := hiv.len
    clear hst hiv hbel
    obtain ⟨q1, hq1⟩ : ∃ q, ms.length = q := ⟨_, rfl⟩
    obtain ⟨q2, hq2⟩ : ∃ q, ns.length = q := ⟨_, rfl⟩
    have HQ1 := Lib.hid hq1
    have HQ2 := Lib.hid hq2
    rw [hq1, hq2]
    rw [hq2] at hfew
    rw [hq1, hq2] at hlen
    have hq1b : q1 ≤ 12 := by omega
    have HLEN := Lib.hid hlen
    clear hq1 hq2 hlen
    by_cases hlt : k < n
    · obtain ⟨ad, x, rfl, hlo, hb, hx, c0, c1, c2, c3, c4, c5⟩ := rd6 (HR.out.below HB.out) (i := k) (by rw [HN.out]; exact hlt)
      have HFX := Lib.hid (HF.out x (List.mem_of_getElem? hx))
      clear hx
      go_wp2_with fail
      have HO := Lib.hid (below_a1 wr (.cells #[.int .i64 x.do_, .string ⟨x.op.toArray⟩, .int .i64 x.at_, .int .i64 x.code, .int .i64 x.a, .int .i64 x.b] 55))
      have hz : wr.heap.size < (wr.alloc (.cells #[.int .i64 x.do_, .string ⟨x.op.toArray⟩, .int .i64 x.at_, .int .i64 x.code, .int .i64 x.a, .int .i64 x.b] 55)).heap.size := by simp
      have e0 : (wr.alloc (.cells #[.int .i64 x.do_, .string ⟨x.op.toArray⟩, .int .i64 x.at_, .int .i64 x.code, .int .i64 x.a, .int .i64 x.b] 55)).cell? ⟨wr.heap.size, 0, none⟩ = some (.int .i64 x.do_) := by go_simp
      have e1 : (wr.alloc (.cells #[.int .i64 x.do_, .string ⟨x.op.toArray⟩, .int .i64 x.at_, .int .i64 x.code, .int .i64 x.a, .int .i64 x.b] 55)).cell? ⟨wr.heap.size, 1, none⟩ = some (.string ⟨x.op.toArray⟩) := by go_simp
      have e2 : (wr.alloc (.cells #[.int .i64 x.do_, .string ⟨x.op.toArray⟩, .int .i64 x.at_, .int .i64 x.code, .int .i64 x.a, .int .i64 x.b] 55)).cell? ⟨wr.heap.size, 2, none⟩ = some (.int .i64 x.at_) := by go_simp
      have e3 : (wr.alloc (.cells #[.int .i64 x.do_, .string ⟨x.op.toArray⟩, .int .i64 x.at_, .int .i64 x.code, .int .i64 x.a, .int .i64 x.b] 55)).cell? ⟨wr.heap.size, 3, none⟩ = some (.int .i64 x.code) := by go_simp
      have e4 : (wr.alloc (.cells #[.int .i64 x.do_, .string ⟨x.op.toArray⟩, .int .i64 x.at_, .int .i64 x.code, .int .i64 x.a, .int .i64 x.b] 55)).cell? ⟨wr.heap.size, 4, none⟩ = some (.int .i64 x.a) := by go_simp
      have e5 : (wr.alloc (.cells #[.int .i64 x.do_, .string ⟨x.op.toArray⟩, .int .i64 x.at_, .int .i64 x.code, .int .i64 x.a, .int .i64 x.b] 55)).cell? ⟨wr.heap.size, 5, none⟩ = some (.int .i64 x.b) := by go_simp
      generalize wr.alloc (.cells #[.int .i64 x.do_, .string ⟨x.op.toArray⟩, .int .i64 x.at_, .int .i64 x.code, .int .i64 x.a, .int .i64 x.b] 55) = wo at *
      clear c0 c1 c2 c3 c4 c5
      have HP := Lib.hid (show Seq 1 inC wo w.heap.size wo.heap.size (.slice A3 k m3) pl from (Seq.of_own (by have := (HST.out.below HO.out).r3; exact this)))
      have ra := low_rng HIV.out x.a
      have rb := low_rng HIV.out x.b
      obtain ⟨a, ha⟩ : ∃ a, lowV pl x.a = a := ⟨_, rfl⟩
      obtain ⟨b, hb'⟩ : ∃ b, lowV pl x.b = b := ⟨_, rfl⟩
      have HA := Lib.hid ha
      have HBV := Lib.hid hb'
      rw [ha, HQ2.out] at ra
      rw [hb', HQ2.out] at rb
      clear ha hb'
      go_quiet ((go_at_call 26; go_must (exact Calls.quiet_of_same (quiet_of_left (low_any _ pl _ w.heap.size wo.heap.size _ HP.out)))))
      rw [HA.out, HBV.out]
      replace hz : wr.heap.size < (wo.drewN nq).heap.size := hz
      replace e0 : (wo.drewN nq).cell? ⟨wr.heap.size, 0, none⟩ = some (.int .i64 x.do_) := e0
      replace e1 : (wo.drewN nq).cell? ⟨wr.heap.size, 1, none⟩ = some (.string ⟨x.op.toArray⟩) := e1
      replace e2 : (wo.drewN nq).cell? ⟨wr.heap.size, 2, none⟩ = some (.int .i64 x.at_) := e2
      replace e3 : (wo.drewN nq).cell? ⟨wr.heap.size, 3, none⟩ = some (.int .i64 x.code) := e3
      replace e4 : (wo.drewN nq).cell? ⟨wr.heap.size, 4, none⟩ = some (.int .i64 x.a) := e4
      replace e5 : (wo.drewN nq).cell? ⟨wr.heap.size, 5, none⟩ = some (.int .i64 x.b) := e5
      replace HO := Lib.hid (below_drewN HO.out nq)
      clear HP HA HBV
      generalize wo.drewN nq = wp at *
      have n1 : (a == (q2 : Int)) = false := by rw [beq_eq_false_iff_ne]; omega
      have n2 : (b == (q2 : Int)) = false := by rw [beq_eq_false_iff_ne]; omega
      have n3 : ((-1 : Int) == (q2 : Int)) = false := by rw [beq_eq_false_iff_ne]; omega
      have n4 : ((q2 : Int) == (q2 : Int)) = true := by simp
      have n5 : ¬ ((q2 : Int) < 0) := by omega
      have n6 : decide ((q2 : Int) < 0) = false := by simp
      by_cases hd : x.do_ = 0
      · have hdb : (x.do_ == 0) = true := by simpa using hd
        have HD := Lib.hid hd
        clear hd
        by_cases hcode : x.code = 0
        · have hcb : (x.code == 0) = true := by simpa using hcode
          have HC := Lib.hid hcode
          clear hcode
          go_wp2_with fail
          rw [HC.out]
          refine (New_zero x.op x.at_ _).mono ?_
          rintro e w4 ⟨rfl, hb4⟩
          have HN4 := Lib.hid (below_a1 wp (.cells #[.int .i64 x.do_, .string ⟨x.op.toArray⟩, .int .i64 x.at_, .int .i64 0, .int .i64 a, .int .i64 b] 60))
          have hzn : wp.heap.size < w4.heap.size := Nat.lt_of_lt_of_le (by simp) hb4.size
          have f3 : w4.cell? ⟨wr.heap.size, 3, none⟩ = some (.int .i64 x.code) := cell_keep (bt hb4 HN4.out) e3
          have HW4 := Lib.hid (bt hb4 (bt HN4.out HO.out))
          clear hb4 HN4
          have S4 := Lib.hid (HST.out.below HW4.out)
          have O3 := Lib.hid (show w4.ownsRow w.heap.size 3 1 (.slice A3 k m3) k (pl.flatMap inC) by have := S4.out.r3; rw [HIV.out.pll] at this; exact this)
          have hs4 : w.heap.size ≤ w4.heap.size := Nat.le_trans hsz HW4.out.size
          have HB4 := Lib.hid (HB.out.trans (HW4.out.mono hsz))
          go_wp2_with (at_builtin; refine app1 _ _ rfl (.tmp 90) (.tmp 92) _ rfl eltI w.heap.size A3 k m3 (pl.flatMap inC) rfl O3.out rfl rfl (by simp [Value.oneCell']) (by omega) hs4 ?_; intro A3' m3' w5 hap3)
          go_roundw
          case rel => exact rel_old HQ1.out HQ2.out hlt HN.out (by go_num) (S4.out.addP HIV.out.pll hap3) HIV.out (by omega) (by omega) (HB4.out.trans hap3.below)
          case measure => simp [NodM.intOf]; omega
        · have hcb : (x.code == 0) = false := by simpa using hcode
          have HC := Lib.hid hcode
          clear hcode
          go_wp2_with fail
          refine (New_mk x.op x.at_ x.code _ HC.out).mono ?_
          rintro e w4 ⟨⟨fb, rfl, hft⟩, hb4⟩
          have HN4 := Lib.hid (below_a1 wp (.cells #[.int .i64 x.do_, .string ⟨x.op.toArray⟩, .int .i64 x.at_, .int .i64 x.code, .int .i64 a, .int .i64 b] 60))
          have hzn : wp.heap.size < w4.heap.size := Nat.lt_of_lt_of_le (by simp) hb4.size
          have z0 : w4.cell? ⟨wp.heap.size, 0, none⟩ = some (.int .i64 x.do_) := cell_at_below hb4 _ _ _ (by go_simp)
          have z1 : w4.cell? ⟨wp.heap.size, 1, none⟩ = some (.string ⟨x.op.toArray⟩) := cell_at_below hb4 _ _ _ (by go_simp)
          have z2 : w4.cell? ⟨wp.heap.size, 2, none⟩ = some (.int .i64 x.at_) := cell_at_below hb4 _ _ _ (by go_simp)
          have z3 : w4.cell? ⟨wp.heap.size, 3, none⟩ = some (.int .i64 x.code) := cell_at_below hb4 _ _ _ (by go_simp)
          have z4 : w4.cell? ⟨wp.heap.size, 4, none⟩ = some (.int .i64 a) := cell_at_below hb4 _ _ _ (by go_simp)
          have z5 : w4.cell? ⟨wp.heap.size, 5, none⟩ = some (.int .i64 b) := cell_at_below hb4 _ _ _ (by go_simp)
          have f3 : w4.cell? ⟨wr.heap.size, 3, none⟩ = some (.int .i64 x.code) := cell_keep (bt hb4 HN4.out) e3
          have HW4 := Lib.hid (bt hb4 (bt HN4.out HO.out))
          clear hb4 HN4
          have S4 := Lib.hid (HST.out.below HW4.out)
          have O3 := Lib.hid (show w4.ownsRow w.heap.size 3 1 (.slice A3 k m3) k (pl.flatMap inC) by have := S4.out.r3; rw [HIV.out.pll] at this; exact this)
          have hs4 : w.heap.size ≤ w4.heap.size := Nat.le_trans hsz HW4.out.size
          have HB4 := Lib.hid (HB.out.trans (HW4.out.mono hsz))
          have FT := Lib.hid hft
          clear hft
          go_wp2_with (first | (at_builtin; refine app1 _ _ rfl (.tmp 90) (.tmp 92) _ rfl eltI w.heap.size A3 k m3 (pl.flatMap inC) rfl O3.out rfl rfl (by simp [Value.oneCell']) (by omega) hs4 ?_; intro A3' m3' w5 hap3; have S5 := Lib.hid (S4.out.addP HIV.out.pll hap3); have g3 := hap3.grown; have hz5 : wp.heap.size < w5.heap.size := Nat.lt_of_lt_of_le hzn g3.size; replace z0 := past HST.out.r3 g3 (Nat.le_of_lt hz) hzn 0 _ z0; replace z1 := past HST.out.r3 g3 (Nat.le_of_lt hz) hzn 1 _ z1; replace z2 := past HST.out.r3 g3 (Nat.le_of_lt hz) hzn 2 _ z2; replace z3 := past HST.out.r3 g3 (Nat.le_of_lt hz) hzn 3 _ z3; replace z4 := past HST.out.r3 g3 (Nat.le_of_lt hz) hzn 4 _ z4; replace z5 := past HST.out.r3 g3 (Nat.le_of_lt hz) hzn 5 _ z5; have FT5 := Lib.hid (grownT S4.out.r3 g3 (by decide) FT.out); have hs5 : w.heap.size ≤ w5.heap.size := Nat.le_trans hs4 g3.size; have O1 := Lib.hid (show w5.ownsRow w.heap.size 34 1 (.slice A1 q1 m1) q1 (ms.flatMap ptC) by have := S5.out.r1; rw [HQ1.out] at this; exact this); have HB5 := Lib.hid (HB4.out.trans hap3.below); clear g3 hap3) | (at_builtin; refine app1 _ _ rfl (.tmp 98) (.tmp 100) _ rfl eltF w.heap.size A1 q1 m1 (ms.flatMap ptC) rfl O1.out rfl rfl (by simp [Value.oneCell']) (by omega) hs5 ?_; intro A1' m1' w6 hap1; have S6 := Lib.hid (show St w6 w.heap.size (.slice A1' (q1 + 1) m1') (.slice A2 q2 m2) _ _ ns _ from by have := S5.out; rw [HQ1.out, HQ2.out] at this; exact this.addM HQ1.out FT5.out hap1); have g1 := hap1.grown; have hz6 : wp.heap.size < w6.heap.size := Nat.lt_of_lt_of_le hz5 g1.size; replace z0 := past (by have := HST.out.r1; rw [HQ1.out] at this; exact this) g1 (Nat.le_of_lt hz) hz5 0 _ z0; replace z1 := past (by have := HST.out.r1; rw [HQ1.out] at this; exact this) g1 (Nat.le_of_lt hz) hz5 1 _ z1; replace z2 := past (by have := HST.out.r1; rw [HQ1.out] at this; exact this) g1 (Nat.le_of_lt hz) hz5 2 _ z2; replace z3 := past (by have := HST.out.r1; rw [HQ1.out] at this; exact this) g1 (Nat.le_of_lt hz) hz5 3 _ z3; replace z4 := past (by have := HST.out.r1; rw [HQ1.out] at this; exact this) g1 (Nat.le_of_lt hz) hz5 4 _ z4; replace z5 := past (by have := HST.out.r1; rw [HQ1.out] at this; exact this) g1 (Nat.le_of_lt hz) hz5 5 _ z5; have hs6 : w.heap.size ≤ w6.heap.size := Nat.le_trans hs5 g1.size; have O2 := Lib.hid (show w6.ownsRow w.heap.size 60 6 (.slice A2 q2 m2) q2 (ns.flatMap ndC) by have := S6.out.r2; rw [HQ2.out] at this; exact this); have HB6 := Lib.hid (HB5.out.trans hap1.below); clear g1 hap1) | (at_builtin; refine app1 _ _ rfl (.tmp 102) (.tmp 104) _ rfl eltN w.heap.size A2 q2 m2 (ns.flatMap ndC) rfl O2.out rfl rfl (by simp [Value.oneCell']) (by omega) hs6 ?_; intro A2' m2' w7 hap2))
          go_roundw
          case rel =>
            have HQ2' : (q2 : Int) = ns.length := by rw [HQ2.out]
            have fx := HFX.out
            exact rel_new (x := ⟨x.do_, x.op, x.at_, x.code, a, b⟩) HQ1.out HQ2.out hlt HN.out (by go_num) (S6.out.addN HQ2.out hap2) (HIV.out.leaf (x := ⟨x.do_, x.op, x.at_, x.code, a, b⟩) HQ2' HD.out fx.1 fx.2.2.1 fx.2.2.2.1 HC.out) (HB6.out.trans hap2.below)
          case measure => simp [NodM.intOf]; omega
      · have hdb : (x.do_ == 0) = false := by simpa using hd
        by_cases hd1 : x.do_ = 1
        · have hdb1 : (x.do_ == 1) = true := by simpa using hd1
          have HD := Lib.hid hd1
          clear hd hd1
          by_cases ha0 : a < 0
          · skip
            go_wp2_with fail
            have HN4 := Lib.hid (below_a1 wp (.cells #[.int .i64 x.do_, .string ⟨x.op.toArray⟩, .int .i64 x.at_, .int .i64 x.code, .int .i64 a, .int .i64 b] 60))
            have HWN := Lib.hid (bt HN4.out HO.out)
            have hznn : wp.heap.size < (wp.alloc (.cells #[.int .i64 x.do_, .string ⟨x.op.toArray⟩, .int .i64 x.at_, .int .i64 x.code, .int .i64 a, .int .i64 b] 60)).heap.size := by simp
            have y0 : (wp.alloc (.cells #[.int .i64 x.do_, .string ⟨x.op.toArray⟩, .int .i64 x.at_, .int .i64 x.code, .int .i64 a, .int .i64 b] 60)).cell? ⟨wp.heap.size, 0, none⟩ = some (.int .i64 x.do_) := by go_simp
            have y1 : (wp.alloc (.cells #[.int .i64 x.do_, .string ⟨x.op.toArray⟩, .int .i64 x.at_, .int .i64 x.code, .int .i64 a, .int .i64 b] 60)).cell? ⟨wp.heap.size, 1, none⟩ = some (.string ⟨x.op.toArray⟩) := by go_simp
            have y2 : (wp.alloc (.cells #[.int .i64 x.do_, .string ⟨x.op.toArray⟩, .int .i64 x.at_, .int .i64 x.code, .int .i64 a, .int .i64 b] 60)).cell? ⟨wp.heap.size, 2, none⟩ = some (.int .i64 x.at_) := by go_simp
            have y3 : (wp.alloc (.cells #[.int .i64 x.do_, .string ⟨x.op.toArray⟩, .int .i64 x.at_, .int .i64 x.code, .int .i64 a, .int .i64 b] 60)).cell? ⟨wp.heap.size, 3, none⟩ = some (.int .i64 x.code) := by go_simp
            have y4 : (wp.alloc (.cells #[.int .i64 x.do_, .string ⟨x.op.toArray⟩, .int .i64 x.at_, .int .i64 x.code, .int .i64 a, .int .i64 b] 60)).cell? ⟨wp.heap.size, 4, none⟩ = some (.int .i64 a) := by go_simp
            have y5 : (wp.alloc (.cells #[.int .i64 x.do_, .string ⟨x.op.toArray⟩, .int .i64 x.at_, .int .i64 x.code, .int .i64 a, .int .i64 b] 60)).cell? ⟨wp.heap.size, 5, none⟩ = some (.int .i64 b) := by go_simp
            have d1 : (wp.alloc (.cells #[.int .i64 x.do_, .string ⟨x.op.toArray⟩, .int .i64 x.at_, .int .i64 x.code, .int .i64 a, .int .i64 b] 60)).cell? ⟨wr.heap.size, 1, none⟩ = some (.string ⟨x.op.toArray⟩) := cell_keep HN4.out e1
            have d2 : (wp.alloc (.cells #[.int .i64 x.do_, .string ⟨x.op.toArray⟩, .int .i64 x.at_, .int .i64 x.code, .int .i64 a, .int .i64 b] 60)).cell? ⟨wr.heap.size, 2, none⟩ = some (.int .i64 x.at_) := cell_keep HN4.out e2
            generalize wp.alloc (.cells #[.int .i64 x.do_, .string ⟨x.op.toArray⟩, .int .i64 x.at_, .int .i64 x.code, .int .i64 a, .int .i64 b] 60) = wn at *
            have SN := Lib.hid (HST.out.below HWN.out)
            have HM := Lib.hid (show Seq 1 ptC wn w.heap.size wn.heap.size (.slice A1 q1 m1) ms from (Seq.of_own (by have := SN.out.r1; rw [HQ1.out] at this ⊢; exact this)))
            have FA := Lib.hid (show ptV (atO ms a) = .pointer none by rw [at_none ms ha0]; rfl)
            go_region_held3 (fun w' => w'.cell? ⟨wr.heap.size, 1, none⟩ = some (.string ⟨x.op.toArray⟩) ∧ w'.cell? ⟨wr.heap.size, 2, none⟩ = some (.int .i64 x.at_))
              (first | (go_keep; done) | (exact ⟨d1, d2⟩) | (exact ⟨cell_at_below hb4 _ _ _ d1, cell_at_below hb4 _ _ _ d2⟩))
              ((first | (go_at_call 27; refine (at_any _ ms a w.heap.size wn.heap.size _ (by exact HM.out)).mono ?_; rintro e wx ⟨rfl, rfl⟩; rw [FA.out]) | (go_at_call 15; refine (Wrap_nil x.op x.at_ _).mono ?_; rintro e w4 ⟨rfl, hb4⟩)))
            have hzn : wp.heap.size < w4.heap.size := Nat.lt_of_lt_of_le hznn hb4.size
            have HW4 := Lib.hid (bt hb4 HWN.out.drew)
            clear hb4 HN4 HWN SN HM hznn y0 y1 y2 y3 y4 y5 d1 d2
            have S4 := Lib.hid (HST.out.below HW4.out)
            have O3 := Lib.hid (show w4.ownsRow w.heap.size 3 1 (.slice A3 k m3) k (pl.flatMap inC) by have := S4.out.r3; rw [HIV.out.pll] at this; exact this)
            have hs4 : w.heap.size ≤ w4.heap.size := Nat.le_trans hsz HW4.out.size
            have HB4 := Lib.hid (HB.out.trans (HW4.out.mono hsz))
            go_wp2_with (at_builtin; refine app1 _ _ rfl (.tmp 90) (.tmp 92) _ rfl eltI w.heap.size A3 k m3 (pl.flatMap inC) rfl O3.out rfl rfl (by simp [Value.oneCell']) (by omega) hs4 ?_; intro A3' m3' w5 hap3)
            go_roundw
            case rel => exact rel_old HQ1.out HQ2.out hlt HN.out (by go_num) (S4.out.addP HIV.out.pll hap3) HIV.out (by omega) (by omega) (HB4.out.trans hap3.below)
            case measure => simp [NodM.intOf]; omega
          · replace ha0 : 0 ≤ a := by omega
            have ha1 : ¬ a < 0 := by omega
            go_wp2_with fail
            have HN4 := Lib.hid (below_a1 wp (.cells #[.int .i64 x.do_, .string ⟨x.op.toArray⟩, .int .i64 x.at_, .int .i64 x.code, .int .i64 a, .int .i64 b] 60))
            have HWN := Lib.hid (bt HN4.out HO.out)
            have hznn : wp.heap.size < (wp.alloc (.cells #[.int .i64 x.do_, .string ⟨x.op.toArray⟩, .int .i64 x.at_, .int .i64 x.code, .int .i64 a, .int .i64 b] 60)).heap.size := by simp
            have y0 : (wp.alloc (.cells #[.int .i64 x.do_, .string ⟨x.op.toArray⟩, .int .i64 x.at_, .int .i64 x.code, .int .i64 a, .int .i64 b] 60)).cell? ⟨wp.heap.size, 0, none⟩ = some (.int .i64 x.do_) := by go_simp
            have y1 : (wp.alloc (.cells #[.int .i64 x.do_, .string ⟨x.op.toArray⟩, .int .i64 x.at_, .int .i64 x.code, .int .i64 a, .int .i64 b] 60)).cell? ⟨wp.heap.size, 1, none⟩ = some (.string ⟨x.op.toArray⟩) := by go_simp
            have y2 : (wp.alloc (.cells #[.int .i64 x.do_, .string ⟨x.op.toArray⟩, .int .i64 x.at_, .int .i64 x.code, .int .i64 a, .int .i64 b] 60)).cell? ⟨wp.heap.size, 2, none⟩ = some (.int .i64 x.at_) := by go_simp
            have y3 : (wp.alloc (.cells #[.int .i64 x.do_, .string ⟨x.op.toArray⟩, .int .i64 x.at_, .int .i64 x.code, .int .i64 a, .int .i64 b] 60)).cell? ⟨wp.heap.size, 3, none⟩ = some (.int .i64 x.code) := by go_simp
            have y4 : (wp.alloc (.cells #[.int .i64 x.do_, .string ⟨x.op.toArray⟩, .int .i64 x.at_, .int .i64 x.code, .int .i64 a, .int .i64 b] 60)).cell? ⟨wp.heap.size, 4, none⟩ = some (.int .i64 a) := by go_simp
            have y5 : (wp.alloc (.cells #[.int .i64 x.do_, .string ⟨x.op.toArray⟩, .int .i64 x.at_, .int .i64 x.code, .int .i64 a, .int .i64 b] 60)).cell? ⟨wp.heap.size, 5, none⟩ = some (.int .i64 b) := by go_simp
            have d1 : (wp.alloc (.cells #[.int .i64 x.do_, .string ⟨x.op.toArray⟩, .int .i64 x.at_, .int .i64 x.code, .int .i64 a, .int .i64 b] 60)).cell? ⟨wr.heap.size, 1, none⟩ = some (.string ⟨x.op.toArray⟩) := cell_keep HN4.out e1
            have d2 : (wp.alloc (.cells #[.int .i64 x.do_, .string ⟨x.op.toArray⟩, .int .i64 x.at_, .int .i64 x.code, .int .i64 a, .int .i64 b] 60)).cell? ⟨wr.heap.size, 2, none⟩ = some (.int .i64 x.at_) := cell_keep HN4.out e2
            generalize wp.alloc (.cells #[.int .i64 x.do_, .string ⟨x.op.toArray⟩, .int .i64 x.at_, .int .i64 x.code, .int .i64 a, .int .i64 b] 60) = wn at *
            have SN := Lib.hid (HST.out.below HWN.out)
            have HM := Lib.hid (show Seq 1 ptC wn w.heap.size wn.heap.size (.slice A1 q1 m1) ms from (Seq.of_own (by have := SN.out.r1; rw [HQ1.out] at this ⊢; exact this)))
            obtain ⟨y, hy1, hy2⟩ := at_some HIV.out ha0 (by rw [HQ2.out]; exact ra.2)
            have FA := Lib.hid (show ptV (atO ms a) = .pointer (some ⟨y.1, 0, none⟩) by rw [hy1]; rfl)
            have TY := Lib.hid (fltT_at SN.out hy1)
            have HY := Lib.hid hy2
            clear hy1 hy2
            go_region_held3 (fun w' => w'.cell? ⟨wr.heap.size, 1, none⟩ = some (.string ⟨x.op.toArray⟩) ∧ w'.cell? ⟨wr.heap.size, 2, none⟩ = some (.int .i64 x.at_))
              (first | (go_keep; done) | (exact ⟨d1, d2⟩) | (exact ⟨cell_at_below hb4 _ _ _ d1, cell_at_below hb4 _ _ _ d2⟩))
              ((first | (go_at_call 27; refine (at_any _ ms a w.heap.size wn.heap.size _ (by exact HM.out)).mono ?_; rintro e wx ⟨rfl, rfl⟩; rw [FA.out]) | (go_at_call 15; refine (Wrap_mk x.op x.at_ y.1 y.2 _ (TY.out.up (Below.refl _ _).drew)).mono ?_; rintro e w4 ⟨⟨fb, rfl, hft⟩, hb4⟩)))
            have hzn : wp.heap.size < w4.heap.size := Nat.lt_of_lt_of_le hznn hb4.size
            have z0 : w4.cell? ⟨wp.heap.size, 0, none⟩ = some (.int .i64 x.do_) := cell_at_below hb4 _ _ _ y0
            have z1 : w4.cell? ⟨wp.heap.size, 1, none⟩ = some (.string ⟨x.op.toArray⟩) := cell_at_below hb4 _ _ _ y1
            have z2 : w4.cell? ⟨wp.heap.size, 2, none⟩ = some (.int .i64 x.at_) := cell_at_below hb4 _ _ _ y2
            have z3 : w4.cell? ⟨wp.heap.size, 3, none⟩ = some (.int .i64 x.code) := cell_at_below hb4 _ _ _ y3
            have z4 : w4.cell? ⟨wp.heap.size, 4, none⟩ = some (.int .i64 a) := cell_at_below hb4 _ _ _ y4
            have z5 : w4.cell? ⟨wp.heap.size, 5, none⟩ = some (.int .i64 b) := cell_at_below hb4 _ _ _ y5
            have HW4 := Lib.hid (bt hb4 HWN.out.drew)
            clear hb4 HN4 HWN SN HM hznn y0 y1 y2 y3 y4 y5 d1 d2
            have S4 := Lib.hid (HST.out.below HW4.out)
            have O3 := Lib.hid (show w4.ownsRow w.heap.size 3 1 (.slice A3 k m3) k (pl.flatMap inC) by have := S4.out.r3; rw [HIV.out.pll] at this; exact this)
            have hs4 : w.heap.size ≤ w4.heap.size := Nat.le_trans hsz HW4.out.size
            have HB4 := Lib.hid (HB.out.trans (HW4.out.mono hsz))
            have FT := Lib.hid hft
            clear hft
            go_wp2_with (first | (at_builtin; refine app1 _ _ rfl (.tmp 90) (.tmp 92) _ rfl eltI w.heap.size A3 k m3 (pl.flatMap inC) rfl O3.out rfl rfl (by simp [Value.oneCell']) (by omega) hs4 ?_; intro A3' m3' w5 hap3; have S5 := Lib.hid (S4.out.addP HIV.out.pll hap3); have g3 := hap3.grown; have hz5 : wp.heap.size < w5.heap.size := Nat.lt_of_lt_of_le hzn g3.size; replace z0 := past HST.out.r3 g3 (Nat.le_of_lt hz) hzn 0 _ z0; replace z1 := past HST.out.r3 g3 (Nat.le_of_lt hz) hzn 1 _ z1; replace z2 := past HST.out.r3 g3 (Nat.le_of_lt hz) hzn 2 _ z2; replace z3 := past HST.out.r3 g3 (Nat.le_of_lt hz) hzn 3 _ z3; replace z4 := past HST.out.r3 g3 (Nat.le_of_lt hz) hzn 4 _ z4; replace z5 := past HST.out.r3 g3 (Nat.le_of_lt hz) hzn 5 _ z5; have FT5 := Lib.hid (grownT S4.out.r3 g3 (by decide) FT.out); have hs5 : w.heap.size ≤ w5.heap.size := Nat.le_trans hs4 g3.size; have O1 := Lib.hid (show w5.ownsRow w.heap.size 34 1 (.slice A1 q1 m1) q1 (ms.flatMap ptC) by have := S5.out.r1; rw [HQ1.out] at this; exact this); have HB5 := Lib.hid (HB4.out.trans hap3.below); clear g3 hap3) | (at_builtin; refine app1 _ _ rfl (.tmp 98) (.tmp 100) _ rfl eltF w.heap.size A1 q1 m1 (ms.flatMap ptC) rfl O1.out rfl rfl (by simp [Value.oneCell']) (by omega) hs5 ?_; intro A1' m1' w6 hap1; have S6 := Lib.hid (show St w6 w.heap.size (.slice A1' (q1 + 1) m1') (.slice A2 q2 m2) _ _ ns _ from by have := S5.out; rw [HQ1.out, HQ2.out] at this; exact this.addM HQ1.out FT5.out hap1); have g1 := hap1.grown; have hz6 : wp.heap.size < w6.heap.size := Nat.lt_of_lt_of_le hz5 g1.size; replace z0 := past (by have := HST.out.r1; rw [HQ1.out] at this; exact this) g1 (Nat.le_of_lt hz) hz5 0 _ z0; replace z1 := past (by have := HST.out.r1; rw [HQ1.out] at this; exact this) g1 (Nat.le_of_lt hz) hz5 1 _ z1; replace z2 := past (by have := HST.out.r1; rw [HQ1.out] at this; exact this) g1 (Nat.le_of_lt hz) hz5 2 _ z2; replace z3 := past (by have := HST.out.r1; rw [HQ1.out] at this; exact this) g1 (Nat.le_of_lt hz) hz5 3 _ z3; replace z4 := past (by have := HST.out.r1; rw [HQ1.out] at this; exact this) g1 (Nat.le_of_lt hz) hz5 4 _ z4; replace z5 := past (by have := HST.out.r1; rw [HQ1.out] at this; exact this) g1 (Nat.le_of_lt hz) hz5 5 _ z5; have hs6 : w.heap.size ≤ w6.heap.size := Nat.le_trans hs5 g1.size; have O2 := Lib.hid (show w6.ownsRow w.heap.size 60 6 (.slice A2 q2 m2) q2 (ns.flatMap ndC) by have := S6.out.r2; rw [HQ2.out] at this; exact this); have HB6 := Lib.hid (HB5.out.trans hap1.below); clear g1 hap1) | (at_builtin; refine app1 _ _ rfl (.tmp 102) (.tmp 104) _ rfl eltN w.heap.size A2 q2 m2 (ns.flatMap ndC) rfl O2.out rfl rfl (by simp [Value.oneCell']) (by omega) hs6 ?_; intro A2' m2' w7 hap2))
            go_roundw
            case rel =>
              have HQ2' : (q2 : Int) = ns.length := by rw [HQ2.out]
              have fx := HFX.out
              exact rel_new (x := ⟨x.do_, x.op, x.at_, x.code, a, b⟩) HQ1.out HQ2.out hlt HN.out (by go_num) (S6.out.addN HQ2.out hap2) (HIV.out.wrap (x := ⟨x.do_, x.op, x.at_, x.code, a, b⟩) HQ2' HD.out fx.1 fx.2.2.1 ha0 HY.out) (HB6.out.trans hap2.below)
            case measure => simp [NodM.intOf]; omega
        · have hdb1 : (x.do_ == 1) = false := by simpa using hd1
          have HD0 := Lib.hid hd
          have HD1 := Lib.hid hd1
          clear hd hd1
          by_cases ha0 : a < 0
          · by_cases hb0 : b < 0
            · skip
              go_wp2_with fail
              have HN4 := Lib.hid (below_a1 wp (.cells #[.int .i64 x.do_, .string ⟨x.op.toArray⟩, .int .i64 x.at_, .int .i64 x.code, .int .i64 a, .int .i64 b] 60))
              have HWN := Lib.hid (bt HN4.out HO.out)
              have hznn : wp.heap.size < (wp.alloc (.cells #[.int .i64 x.do_, .string ⟨x.op.toArray⟩, .int .i64 x.at_, .int .i64 x.code, .int .i64 a, .int .i64 b] 60)).heap.size := by simp
              have y0 : (wp.alloc (.cells #[.int .i64 x.do_, .string ⟨x.op.toArray⟩, .int .i64 x.at_, .int .i64 x.code, .int .i64 a, .int .i64 b] 60)).cell? ⟨wp.heap.size, 0, none⟩ = some (.int .i64 x.do_) := by go_simp
              have y1 : (wp.alloc (.cells #[.int .i64 x.do_, .string ⟨x.op.toArray⟩, .int .i64 x.at_, .int .i64 x.code, .int .i64 a, .int .i64 b] 60)).cell? ⟨wp.heap.size, 1, none⟩ = some (.string ⟨x.op.toArray⟩) := by go_simp
              have y2 : (wp.alloc (.cells #[.int .i64 x.do_, .string ⟨x.op.toArray⟩, .int .i64 x.at_, .int .i64 x.code, .int .i64 a, .int .i64 b] 60)).cell? ⟨wp.heap.size, 2, none⟩ = some (.int .i64 x.at_) := by go_simp
              have y3 : (wp.alloc (.cells #[.int .i64 x.do_, .string ⟨x.op.toArray⟩, .int .i64 x.at_, .int .i64 x.code, .int .i64 a, .int .i64 b] 60)).cell? ⟨wp.heap.size, 3, none⟩ = some (.int .i64 x.code) := by go_simp
              have y4 : (wp.alloc (.cells #[.int .i64 x.do_, .string ⟨x.op.toArray⟩, .int .i64 x.at_, .int .i64 x.code, .int .i64 a, .int .i64 b] 60)).cell? ⟨wp.heap.size, 4, none⟩ = some (.int .i64 a) := by go_simp
              have y5 : (wp.alloc (.cells #[.int .i64 x.do_, .string ⟨x.op.toArray⟩, .int .i64 x.at_, .int .i64 x.code, .int .i64 a, .int .i64 b] 60)).cell? ⟨wp.heap.size, 5, none⟩ = some (.int .i64 b) := by go_simp
              generalize wp.alloc (.cells #[.int .i64 x.do_, .string ⟨x.op.toArray⟩, .int .i64 x.at_, .int .i64 x.code, .int .i64 a, .int .i64 b] 60) = wn at *
              have SN := Lib.hid (HST.out.below HWN.out)
              have HM := Lib.hid (show Seq 1 ptC wn w.heap.size wn.heap.size (.slice A1 q1 m1) ms from (Seq.of_own (by have := SN.out.r1; rw [HQ1.out] at this ⊢; exact this)))
              have TA := Lib.hid (fun i => at_any (.slice A1 q1 m1) ms i w.heap.size wn.heap.size wn HM.out)
              have Fa := Lib.hid (show ptV (atO ms a) = .pointer none by rw [at_none ms ha0]; rfl)
              have Fb := Lib.hid (show ptV (atO ms b) = .pointer none by rw [at_none ms hb0]; rfl)
              go_wp2_with fail
              refine (TA.out a).mono ?_
              rintro e wx ⟨rfl, rfl⟩
              rw [Fa.out]
              go_wp2_with fail
              refine (TA.out b).mono ?_
              rintro e wx ⟨rfl, rfl⟩
              rw [Fb.out]
              go_wp2_with fail
              refine (Both_nil _ _).mono ?_
              rintro e w4 ⟨rfl, hb4⟩
              have hzn : wp.heap.size < w4.heap.size := Nat.lt_of_lt_of_le hznn hb4.size
              have HW4 := Lib.hid (bt hb4 HWN.out)
              clear hb4 HN4 HWN SN HM hznn y0 y1 y2 y3 y4 y5 TA
              have S4 := Lib.hid (HST.out.below HW4.out)
              have O3 := Lib.hid (show w4.ownsRow w.heap.size 3 1 (.slice A3 k m3) k (pl.flatMap inC) by have := S4.out.r3; rw [HIV.out.pll] at this; exact this)
              have hs4 : w.heap.size ≤ w4.heap.size := Nat.le_trans hsz HW4.out.size
              have HB4 := Lib.hid (HB.out.trans (HW4.out.mono hsz))
              go_wp2_with (at_builtin; refine app1 _ _ rfl (.tmp 90) (.tmp 92) _ rfl eltI w.heap.size A3 k m3 (pl.flatMap inC) rfl O3.out rfl rfl (by simp [Value.oneCell']) (by omega) hs4 ?_; intro A3' m3' w5 hap3)
              go_roundw
              case rel => exact rel_old HQ1.out HQ2.out hlt HN.out (by go_num) (S4.out.addP HIV.out.pll hap3) HIV.out (rb.1) (rb.2) (HB4.out.trans hap3.below)
              case measure => simp [NodM.intOf]; omega
            · replace hb0 : 0 ≤ b := by omega
              have hb1 : ¬ b < 0 := by omega
              go_wp2_with fail
              have HN4 := Lib.hid (below_a1 wp (.cells #[.int .i64 x.do_, .string ⟨x.op.toArray⟩, .int .i64 x.at_, .int .i64 x.code, .int .i64 a, .int .i64 b] 60))
              have HWN := Lib.hid (bt HN4.out HO.out)
              have hznn : wp.heap.size < (wp.alloc (.cells #[.int .i64 x.do_, .string ⟨x.op.toArray⟩, .int .i64 x.at_, .int .i64 x.code, .int .i64 a, .int .i64 b] 60)).heap.size := by simp
              have y0 : (wp.alloc (.cells #[.int .i64 x.do_, .string ⟨x.op.toArray⟩, .int .i64 x.at_, .int .i64 x.code, .int .i64 a, .int .i64 b] 60)).cell? ⟨wp.heap.size, 0, none⟩ = some (.int .i64 x.do_) := by go_simp
              have y1 : (wp.alloc (.cells #[.int .i64 x.do_, .string ⟨x.op.toArray⟩, .int .i64 x.at_, .int .i64 x.code, .int .i64 a, .int .i64 b] 60)).cell? ⟨wp.heap.size, 1, none⟩ = some (.string ⟨x.op.toArray⟩) := by go_simp
              have y2 : (wp.alloc (.cells #[.int .i64 x.do_, .string ⟨x.op.toArray⟩, .int .i64 x.at_, .int .i64 x.code, .int .i64 a, .int .i64 b] 60)).cell? ⟨wp.heap.size, 2, none⟩ = some (.int .i64 x.at_) := by go_simp
              have y3 : (wp.alloc (.cells #[.int .i64 x.do_, .string ⟨x.op.toArray⟩, .int .i64 x.at_, .int .i64 x.code, .int .i64 a, .int .i64 b] 60)).cell? ⟨wp.heap.size, 3, none⟩ = some (.int .i64 x.code) := by go_simp
              have y4 : (wp.alloc (.cells #[.int .i64 x.do_, .string ⟨x.op.toArray⟩, .int .i64 x.at_, .int .i64 x.code, .int .i64 a, .int .i64 b] 60)).cell? ⟨wp.heap.size, 4, none⟩ = some (.int .i64 a) := by go_simp
              have y5 : (wp.alloc (.cells #[.int .i64 x.do_, .string ⟨x.op.toArray⟩, .int .i64 x.at_, .int .i64 x.code, .int .i64 a, .int .i64 b] 60)).cell? ⟨wp.heap.size, 5, none⟩ = some (.int .i64 b) := by go_simp
              generalize wp.alloc (.cells #[.int .i64 x.do_, .string ⟨x.op.toArray⟩, .int .i64 x.at_, .int .i64 x.code, .int .i64 a, .int .i64 b] 60) = wn at *
              have SN := Lib.hid (HST.out.below HWN.out)
              have HM := Lib.hid (show Seq 1 ptC wn w.heap.size wn.heap.size (.slice A1 q1 m1) ms from (Seq.of_own (by have := SN.out.r1; rw [HQ1.out] at this ⊢; exact this)))
              have TA := Lib.hid (fun i => at_any (.slice A1 q1 m1) ms i w.heap.size wn.heap.size wn HM.out)
              have Fa := Lib.hid (show ptV (atO ms a) = .pointer none by rw [at_none ms ha0]; rfl)
              obtain ⟨z, hy1, hy2⟩ := at_some HIV.out hb0 (by rw [HQ2.out]; exact rb.2)
              have Fb := Lib.hid (show ptV (atO ms b) = .pointer (some ⟨z.1, 0, none⟩) by rw [hy1]; rfl)
              have Tz := Lib.hid (fltT_at SN.out hy1)
              have Hz := Lib.hid hy2
              clear hy1 hy2
              go_wp2_with fail
              refine (TA.out a).mono ?_
              rintro e wx ⟨rfl, rfl⟩
              rw [Fa.out]
              go_wp2_with fail
              refine (TA.out b).mono ?_
              rintro e wx ⟨rfl, rfl⟩
              rw [Fb.out]
              go_wp2_with fail
              refine (Both_nil _ _).mono ?_
              rintro e w4 ⟨rfl, hb4⟩
              have hzn : wp.heap.size < w4.heap.size := Nat.lt_of_lt_of_le hznn hb4.size
              have HW4 := Lib.hid (bt hb4 HWN.out)
              clear hb4 HN4 HWN SN HM hznn y0 y1 y2 y3 y4 y5 TA
              have S4 := Lib.hid (HST.out.below HW4.out)
              have O3 := Lib.hid (show w4.ownsRow w.heap.size 3 1 (.slice A3 k m3) k (pl.flatMap inC) by have := S4.out.r3; rw [HIV.out.pll] at this; exact this)
              have hs4 : w.heap.size ≤ w4.heap.size := Nat.le_trans hsz HW4.out.size
              have HB4 := Lib.hid (HB.out.trans (HW4.out.mono hsz))
              go_wp2_with (at_builtin; refine app1 _ _ rfl (.tmp 90) (.tmp 92) _ rfl eltI w.heap.size A3 k m3 (pl.flatMap inC) rfl O3.out rfl rfl (by simp [Value.oneCell']) (by omega) hs4 ?_; intro A3' m3' w5 hap3)
              go_roundw
              case rel => exact rel_old HQ1.out HQ2.out hlt HN.out (by go_num) (S4.out.addP HIV.out.pll hap3) HIV.out (rb.1) (rb.2) (HB4.out.trans hap3.below)
              case measure => simp [NodM.intOf]; omega
          · replace ha0 : 0 ≤ a := by omega
            have ha1 : ¬ a < 0 := by omega
            by_cases hb0 : b < 0
            · skip
              go_wp2_with fail
              have HN4 := Lib.hid (below_a1 wp (.cells #[.int .i64 x.do_, .string ⟨x.op.toArray⟩, .int .i64 x.at_, .int .i64 x.code, .int .i64 a, .int .i64 b] 60))
              have HWN := Lib.hid (bt HN4.out HO.out)
              have hznn : wp.heap.size < (wp.alloc (.cells #[.int .i64 x.do_, .string ⟨x.op.toArray⟩, .int .i64 x.at_, .int .i64 x.code, .int .i64 a, .int .i64 b] 60)).heap.size := by simp
              have y0 : (wp.alloc (.cells #[.int .i64 x.do_, .string ⟨x.op.toArray⟩, .int .i64 x.at_, .int .i64 x.code, .int .i64 a, .int .i64 b] 60)).cell? ⟨wp.heap.size, 0, none⟩ = some (.int .i64 x.do_) := by go_simp
              have y1 : (wp.alloc (.cells #[.int .i64 x.do_, .string ⟨x.op.toArray⟩, .int .i64 x.at_, .int .i64 x.code, .int .i64 a, .int .i64 b] 60)).cell? ⟨wp.heap.size, 1, none⟩ = some (.string ⟨x.op.toArray⟩) := by go_simp
              have y2 : (wp.alloc (.cells #[.int .i64 x.do_, .string ⟨x.op.toArray⟩, .int .i64 x.at_, .int .i64 x.code, .int .i64 a, .int .i64 b] 60)).cell? ⟨wp.heap.size, 2, none⟩ = some (.int .i64 x.at_) := by go_simp
              have y3 : (wp.alloc (.cells #[.int .i64 x.do_, .string ⟨x.op.toArray⟩, .int .i64 x.at_, .int .i64 x.code, .int .i64 a, .int .i64 b] 60)).cell? ⟨wp.heap.size, 3, none⟩ = some (.int .i64 x.code) := by go_simp
              have y4 : (wp.alloc (.cells #[.int .i64 x.do_, .string ⟨x.op.toArray⟩, .int .i64 x.at_, .int .i64 x.code, .int .i64 a, .int .i64 b] 60)).cell? ⟨wp.heap.size, 4, none⟩ = some (.int .i64 a) := by go_simp
              have y5 : (wp.alloc (.cells #[.int .i64 x.do_, .string ⟨x.op.toArray⟩, .int .i64 x.at_, .int .i64 x.code, .int .i64 a, .int .i64 b] 60)).cell? ⟨wp.heap.size, 5, none⟩ = some (.int .i64 b) := by go_simp
              generalize wp.alloc (.cells #[.int .i64 x.do_, .string ⟨x.op.toArray⟩, .int .i64 x.at_, .int .i64 x.code, .int .i64 a, .int .i64 b] 60) = wn at *
              have SN := Lib.hid (HST.out.below HWN.out)
              have HM := Lib.hid (show Seq 1 ptC wn w.heap.size wn.heap.size (.slice A1 q1 m1) ms from (Seq.of_own (by have := SN.out.r1; rw [HQ1.out] at this ⊢; exact this)))
              have TA := Lib.hid (fun i => at_any (.slice A1 q1 m1) ms i w.heap.size wn.heap.size wn HM.out)
              obtain ⟨y, hy1, hy2⟩ := at_some HIV.out ha0 (by rw [HQ2.out]; exact ra.2)
              have Fa := Lib.hid (show ptV (atO ms a) = .pointer (some ⟨y.1, 0, none⟩) by rw [hy1]; rfl)
              have Ty := Lib.hid (fltT_at SN.out hy1)
              have Hy := Lib.hid hy2
              clear hy1 hy2
              have Fb := Lib.hid (show ptV (atO ms b) = .pointer none by rw [at_none ms hb0]; rfl)
              go_wp2_with fail
              refine (TA.out a).mono ?_
              rintro e wx ⟨rfl, rfl⟩
              rw [Fa.out]
              go_wp2_with fail
              refine (TA.out b).mono ?_
              rintro e wx ⟨rfl, rfl⟩
              rw [Fb.out]
              go_wp2_with fail
              refine (Both_one _ _).mono ?_
              rintro e w4 ⟨rfl, hb4⟩
              have hzn : wp.heap.size < w4.heap.size := Nat.lt_of_lt_of_le hznn hb4.size
              have HW4 := Lib.hid (bt hb4 HWN.out)
              clear hb4 HN4 HWN SN HM hznn y0 y1 y2 y3 y4 y5 TA
              have S4 := Lib.hid (HST.out.below HW4.out)
              have O3 := Lib.hid (show w4.ownsRow w.heap.size 3 1 (.slice A3 k m3) k (pl.flatMap inC) by have := S4.out.r3; rw [HIV.out.pll] at this; exact this)
              have hs4 : w.heap.size ≤ w4.heap.size := Nat.le_trans hsz HW4.out.size
              have HB4 := Lib.hid (HB.out.trans (HW4.out.mono hsz))
              go_wp2_with (at_builtin; refine app1 _ _ rfl (.tmp 90) (.tmp 92) _ rfl eltI w.heap.size A3 k m3 (pl.flatMap inC) rfl O3.out rfl rfl (by simp [Value.oneCell']) (by omega) hs4 ?_; intro A3' m3' w5 hap3)
              go_roundw
              case rel => exact rel_old HQ1.out HQ2.out hlt HN.out (by go_num) (S4.out.addP HIV.out.pll hap3) HIV.out (ra.1) (ra.2) (HB4.out.trans hap3.below)
              case measure => simp [NodM.intOf]; omega
            · replace hb0 : 0 ≤ b := by omega
              have hb1 : ¬ b < 0 := by omega
              go_wp2_with fail
              have HN4 := Lib.hid (below_a1 wp (.cells #[.int .i64 x.do_, .string ⟨x.op.toArray⟩, .int .i64 x.at_, .int .i64 x.code, .int .i64 a, .int .i64 b] 60))
              have HWN := Lib.hid (bt HN4.out HO.out)
              have hznn : wp.heap.size < (wp.alloc (.cells #[.int .i64 x.do_, .string ⟨x.op.toArray⟩, .int .i64 x.at_, .int .i64 x.code, .int .i64 a, .int .i64 b] 60)).heap.size := by simp
              have y0 : (wp.alloc (.cells #[.int .i64 x.do_, .string ⟨x.op.toArray⟩, .int .i64 x.at_, .int .i64 x.code, .int .i64 a, .int .i64 b] 60)).cell? ⟨wp.heap.size, 0, none⟩ = some (.int .i64 x.do_) := by go_simp
              have y1 : (wp.alloc (.cells #[.int .i64 x.do_, .string ⟨x.op.toArray⟩, .int .i64 x.at_, .int .i64 x.code, .int .i64 a, .int .i64 b] 60)).cell? ⟨wp.heap.size, 1, none⟩ = some (.string ⟨x.op.toArray⟩) := by go_simp
              have y2 : (wp.alloc (.cells #[.int .i64 x.do_, .string ⟨x.op.toArray⟩, .int .i64 x.at_, .int .i64 x.code, .int .i64 a, .int .i64 b] 60)).cell? ⟨wp.heap.size, 2, none⟩ = some (.int .i64 x.at_) := by go_simp
              have y3 : (wp.alloc (.cells #[.int .i64 x.do_, .string ⟨x.op.toArray⟩, .int .i64 x.at_, .int .i64 x.code, .int .i64 a, .int .i64 b] 60)).cell? ⟨wp.heap.size, 3, none⟩ = some (.int .i64 x.code) := by go_simp
              have y4 : (wp.alloc (.cells #[.int .i64 x.do_, .string ⟨x.op.toArray⟩, .int .i64 x.at_, .int .i64 x.code, .int .i64 a, .int .i64 b] 60)).cell? ⟨wp.heap.size, 4, none⟩ = some (.int .i64 a) := by go_simp
              have y5 : (wp.alloc (.cells #[.int .i64 x.do_, .string ⟨x.op.toArray⟩, .int .i64 x.at_, .int .i64 x.code, .int .i64 a, .int .i64 b] 60)).cell? ⟨wp.heap.size, 5, none⟩ = some (.int .i64 b) := by go_simp
              generalize wp.alloc (.cells #[.int .i64 x.do_, .string ⟨x.op.toArray⟩, .int .i64 x.at_, .int .i64 x.code, .int .i64 a, .int .i64 b] 60) = wn at *
              have SN := Lib.hid (HST.out.below HWN.out)
              have HM := Lib.hid (show Seq 1 ptC wn w.heap.size wn.heap.size (.slice A1 q1 m1) ms from (Seq.of_own (by have := SN.out.r1; rw [HQ1.out] at this ⊢; exact this)))
              have TA := Lib.hid (fun i => at_any (.slice A1 q1 m1) ms i w.heap.size wn.heap.size wn HM.out)
              obtain ⟨y, hy1, hy2⟩ := at_some HIV.out ha0 (by rw [HQ2.out]; exact ra.2)
              have Fa := Lib.hid (show ptV (atO ms a) = .pointer (some ⟨y.1, 0, none⟩) by rw [hy1]; rfl)
              have Ty := Lib.hid (fltT_at SN.out hy1)
              have Hy := Lib.hid hy2
              clear hy1 hy2
              obtain ⟨z, hy1, hy2⟩ := at_some HIV.out hb0 (by rw [HQ2.out]; exact rb.2)
              have Fb := Lib.hid (show ptV (atO ms b) = .pointer (some ⟨z.1, 0, none⟩) by rw [hy1]; rfl)
              have Tz := Lib.hid (fltT_at SN.out hy1)
              have Hz := Lib.hid hy2
              clear hy1 hy2
              go_wp2_with fail
              refine (TA.out a).mono ?_
              rintro e wx ⟨rfl, rfl⟩
              rw [Fa.out]
              go_wp2_with fail
              refine (TA.out b).mono ?_
              rintro e wx ⟨rfl, rfl⟩
              rw [Fb.out]
              go_wp2_with fail
              refine (Both_mk y.1 z.1 y.2 z.2 _ Ty.out Tz.out).mono ?_
              rintro e w4 ⟨⟨fb, rfl, hft⟩, hb4⟩
              have hzn : wp.heap.size < w4.heap.size := Nat.lt_of_lt_of_le hznn hb4.size
              have z0 : w4.cell? ⟨wp.heap.size, 0, none⟩ = some (.int .i64 x.do_) := cell_at_below hb4 _ _ _ y0
              have z1 : w4.cell? ⟨wp.heap.size, 1, none⟩ = some (.string ⟨x.op.toArray⟩) := cell_at_below hb4 _ _ _ y1
              have z2 : w4.cell? ⟨wp.heap.size, 2, none⟩ = some (.int .i64 x.at_) := cell_at_below hb4 _ _ _ y2
              have z3 : w4.cell? ⟨wp.heap.size, 3, none⟩ = some (.int .i64 x.code) := cell_at_below hb4 _ _ _ y3
              have z4 : w4.cell? ⟨wp.heap.size, 4, none⟩ = some (.int .i64 a) := cell_at_below hb4 _ _ _ y4
              have z5 : w4.cell? ⟨wp.heap.size, 5, none⟩ = some (.int .i64 b) := cell_at_below hb4 _ _ _ y5
              have HW4 := Lib.hid (bt hb4 HWN.out)
              clear hb4 HN4 HWN SN HM hznn y0 y1 y2 y3 y4 y5 TA
              have S4 := Lib.hid (HST.out.below HW4.out)
              have O3 := Lib.hid (show w4.ownsRow w.heap.size 3 1 (.slice A3 k m3) k (pl.flatMap inC) by have := S4.out.r3; rw [HIV.out.pll] at this; exact this)
              have hs4 : w.heap.size ≤ w4.heap.size := Nat.le_trans hsz HW4.out.size
              have HB4 := Lib.hid (HB.out.trans (HW4.out.mono hsz))
              have FT := Lib.hid hft
              clear hft
              go_wp2_with (first | (at_builtin; refine app1 _ _ rfl (.tmp 90) (.tmp 92) _ rfl eltI w.heap.size A3 k m3 (pl.flatMap inC) rfl O3.out rfl rfl (by simp [Value.oneCell']) (by omega) hs4 ?_; intro A3' m3' w5 hap3; have S5 := Lib.hid (S4.out.addP HIV.out.pll hap3); have g3 := hap3.grown; have hz5 : wp.heap.size < w5.heap.size := Nat.lt_of_lt_of_le hzn g3.size; replace z0 := past HST.out.r3 g3 (Nat.le_of_lt hz) hzn 0 _ z0; replace z1 := past HST.out.r3 g3 (Nat.le_of_lt hz) hzn 1 _ z1; replace z2 := past HST.out.r3 g3 (Nat.le_of_lt hz) hzn 2 _ z2; replace z3 := past HST.out.r3 g3 (Nat.le_of_lt hz) hzn 3 _ z3; replace z4 := past HST.out.r3 g3 (Nat.le_of_lt hz) hzn 4 _ z4; replace z5 := past HST.out.r3 g3 (Nat.le_of_lt hz) hzn 5 _ z5; have FT5 := Lib.hid (grownT S4.out.r3 g3 (by decide) FT.out); have hs5 : w.heap.size ≤ w5.heap.size := Nat.le_trans hs4 g3.size; have O1 := Lib.hid (show w5.ownsRow w.heap.size 34 1 (.slice A1 q1 m1) q1 (ms.flatMap ptC) by have := S5.out.r1; rw [HQ1.out] at this; exact this); have HB5 := Lib.hid (HB4.out.trans hap3.below); clear g3 hap3) | (at_builtin; refine app1 _ _ rfl (.tmp 98) (.tmp 100) _ rfl eltF w.heap.size A1 q1 m1 (ms.flatMap ptC) rfl O1.out rfl rfl (by simp [Value.oneCell']) (by omega) hs5 ?_; intro A1' m1' w6 hap1; have S6 := Lib.hid (show St w6 w.heap.size (.slice A1' (q1 + 1) m1') (.slice A2 q2 m2) _ _ ns _ from by have := S5.out; rw [HQ1.out, HQ2.out] at this; exact this.addM HQ1.out FT5.out hap1); have g1 := hap1.grown; have hz6 : wp.heap.size < w6.heap.size := Nat.lt_of_lt_of_le hz5 g1.size; replace z0 := past (by have := HST.out.r1; rw [HQ1.out] at this; exact this) g1 (Nat.le_of_lt hz) hz5 0 _ z0; replace z1 := past (by have := HST.out.r1; rw [HQ1.out] at this; exact this) g1 (Nat.le_of_lt hz) hz5 1 _ z1; replace z2 := past (by have := HST.out.r1; rw [HQ1.out] at this; exact this) g1 (Nat.le_of_lt hz) hz5 2 _ z2; replace z3 := past (by have := HST.out.r1; rw [HQ1.out] at this; exact this) g1 (Nat.le_of_lt hz) hz5 3 _ z3; replace z4 := past (by have := HST.out.r1; rw [HQ1.out] at this; exact this) g1 (Nat.le_of_lt hz) hz5 4 _ z4; replace z5 := past (by have := HST.out.r1; rw [HQ1.out] at this; exact this) g1 (Nat.le_of_lt hz) hz5 5 _ z5; have hs6 : w.heap.size ≤ w6.heap.size := Nat.le_trans hs5 g1.size; have O2 := Lib.hid (show w6.ownsRow w.heap.size 60 6 (.slice A2 q2 m2) q2 (ns.flatMap ndC) by have := S6.out.r2; rw [HQ2.out] at this; exact this); have HB6 := Lib.hid (HB5.out.trans hap1.below); clear g1 hap1) | (at_builtin; refine app1 _ _ rfl (.tmp 102) (.tmp 104) _ rfl eltN w.heap.size A2 q2 m2 (ns.flatMap ndC) rfl O2.out rfl rfl (by simp [Value.oneCell']) (by omega) hs6 ?_; intro A2' m2' w7 hap2))
              go_roundw
              case rel =>
                have HQ2' : (q2 : Int) = ns.length := by rw [HQ2.out]
                have fx := HFX.out
                exact rel_new (x := ⟨x.do_, x.op, x.at_, x.code, a, b⟩) HQ1.out HQ2.out hlt HN.out (by go_num) (S6.out.addN HQ2.out hap2) (HIV.out.both (x := ⟨x.do_, x.op, x.at_, x.code, a, b⟩) HQ2' HD0.out HD1.out ha0 hb0 Hy.out Hz.out) (HB6.out.trans hap2.below)
              case measure => simp [NodM.intOf]; omega
    · go_wp2_with fail
      go_ret3
      obtain rfl : k = n := by omega
      refine ⟨⟨_, _, (.slice A3 k m3), ms, ns, pl, rfl, ?_, HIV.out⟩, HB.out⟩
      have := HST.out
      rw [HQ1.out, HQ2.out] at this
      exact this
end Go.Proofs.YthinjoldbjcifaaDoor.PlayW
