/- The turns of a way to work, walked: sched.next, right, Next, Turns. -/
import Derived.Test.YtodiipkedhfncaaGreatDoorSchX
namespace Go.Proofs.YtodiipkedhfncaaGreatDoor.SchY
set_option linter.unusedVariables false
set_option linter.unusedSimpArgs false
open Go.RowKit Base SeqM CfM SchX

theorem cf_in {c : Cf} (h : confOk c) : (1 ≤ c.c2 ∧ c.c2 ≤ 16) ∧ (2 ≤ c.c3 ∧ c.c3 ≤ 64) ∧ (1 ≤ c.c4 ∧ c.c4 ≤ 256) := by
  unfold confOk at h
  omega
set_option maxHeartbeats 2000000 in
set_option maxRecDepth 100000 in
theorem next_any (c : Cf) (n : Int) (hc : confOk c) (hn : cnt n) (w : World) :
    Calls Tryz.prog 104 #[.agg (cfC c).toArray, .int .i64 n] w fun e w' => e = .returned (.int .i64 (nextC c n)) ∧ Below w.heap.size w w' := by
  have hi := cf_in hc
  have hb := next_bd hc hn
  unfold cnt at hn
  unfold nextC at hb ⊢
  have hq : (if n + 1 < c.c3 then c.c3 else n + 1) = max (n + 1) c.c3 := by omega
  have hm : 0 ≤ max (n + 1) c.c3 ∧ max (n + 1) c.c3 ≤ 1099511627840 := by omega
  have HCE := Lib.hid (fun W => Ceil_any (max (n + 1) c.c3) c.c4 W hi.2.2.1 (by omega) ⟨hm.1, by omega⟩)
  have hcb := ceil_bd hm.1 hi.2.2.1
  obtain ⟨c0, c1, c2, c3, c4, c5, c6, c7, c8, c9, c10⟩ := c
  unfold CfM.cfC
  dsimp only at HCE hq hb hm hi hcb ⊢
  generalize max (n + 1) c3 = M at *
  generalize ceilC M c4 = q at *
  obtain ⟨r, hr⟩ : ∃ r, q * c4 = r := ⟨_, rfl⟩
  rw [hr] at hb hcb ⊢
  clear hc
  go_enter Tryz.func104, Tryz.ntmps104
  go_wp2_with fail
  refine (HCE.out _).mono ?_
  rintro e w1 ⟨rfl, rfl⟩
  go_wp2
  go_ret
  exact ⟨by rw [Int.mul_comm] at hr; simp [hr, Int.mul_comm], below_a1 _ _⟩
def cntB (n : Int) : Bool := decide (cnt n)
/-- may counts be asked of a way to work? -/
def rightE (c : Cf) (l : List Int) : Int := if confB c = true then (if l.all cntB = true then 0 else 1) else 200
def RRel (l : List Int) (w : World) (i : Value) (wr : World) : Prop := ∃ k : Nat, k ≤ l.length ∧ i = .int .i64 k ∧ (l.take k).all cntB = true ∧ w = wr
theorem all_next {α : Type} {l : List α} {k : Nat} {x : α} (h : l[k]? = some x) (f : α → Bool) : (l.take (k + 1)).all f = ((l.take k).all f && f x) := by
  rw [SeqM.take_next h, List.all_append]; simp
theorem all_no {α : Type} {l : List α} {k : Nat} {f : α → Bool} (h : (l.take k).all f = false) : l.all f = false := by
  rw [List.all_eq_false] at h ⊢
  obtain ⟨x, hx, hf⟩ := h
  exact ⟨x, List.mem_of_mem_take hx, hf⟩
set_option maxHeartbeats 2000000 in
set_option maxRecDepth 100000 in
theorem right_any (c : Cf) (h7 : c.c7 ≤ 9223372036854775807) (v : Value) (l : List Int) (w : World) (h : Seq 1 inC w 0 w.heap.size v l) :
    Calls Tryz.prog 103 #[.agg (cfC c).toArray, v] w fun e w' => e = .returned (.int .i64 (rightE c l)) ∧ Below w.heap.size w w' := by
  have HR0 := Lib.hid (fun W => SRight_any c h7 W)
  obtain ⟨A, cap, rfl, hc1, hc2, hr, _⟩ := h
  unfold maxLen at hc2
  have HR := Lib.hid hr
  obtain ⟨n, hn⟩ : ∃ n, l.length = n := ⟨_, rfl⟩
  rw [hn] at hc1 ⊢
  have HN := Lib.hid hn
  obtain ⟨ok, hok⟩ : ∃ b, confB c = b := ⟨_, rfl⟩
  have HO0 := Lib.hid (show ok = false → rightE c l = 200 by intro h; unfold rightE; rw [hok, if_neg (by rw [h]; decide)])
  have HO1 := Lib.hid (show ok = true → rightE c l = if l.all cntB = true then 0 else 1 by intro h; unfold rightE; rw [hok, if_pos h])
  rw [hok] at HR0
  generalize rightE c l = E at *
  clear hr hn hok h7
  obtain ⟨c0, c1, c2, c3, c4, c5, c6, c7, c8, c9, c10⟩ := c
  unfold CfM.cfC at HR0 ⊢
  dsimp only at HR0 ⊢
  go_enter Tryz.func103, Tryz.ntmps103
  go_wp2_with fail
  refine (HR0.out _).mono ?_
  rintro e w1 ⟨rfl, hb1⟩
  have HB1 := Lib.hid (bt hb1 (below_a1 w _))
  clear hb1
  cases ok
  · have F := Lib.hid (HO0.out rfl)
    go_wp2
    go_ret
    exact ⟨by rw [F.out]; rfl, HB1.out⟩
  · have HOK := Lib.hid (HO1.out rfl)
    go_wp2_with fail
    go_loopw [12] (fun i wr => RRel l w1 i wr) (fun i _ => n - (intOf i).toNat)
    case atStart => exact ⟨0, Nat.zero_le _, rfl, rfl, rfl⟩
    case round =>
      obtain ⟨k, hk, rfl, ht, rfl⟩ := hrel
      rw [HN.out] at hk
      have HT := Lib.hid ht
      clear ht
      by_cases hlt : k < n
      · obtain ⟨ad, x, rfl, _, hbx, hx, c0⟩ := rdI HR.out (i := k) (by rw [HN.out]; exact hlt)
        replace c0 := (HB1.out.cell (by rw [Base.add_block]; exact hbx)).trans c0
        have HX := Lib.hid (all_next hx cntB)
        clear hx
        by_cases hx1 : x < 0
        · have F := Lib.hid (show E = 1 by rw [HOK.out, if_neg (by rw [all_no (k := k + 1) (by rw [HX.out, show cntB x = false from decide_eq_false (fun h => by unfold cnt at h; omega)]; simp)]; decide)])
          go_wp2
          go_ret
          exact ⟨by rw [F.out]; rfl, HB1.out⟩
        · by_cases hx2 : 1099511627776 < x
          · have F := Lib.hid (show E = 1 by rw [HOK.out, if_neg (by rw [all_no (k := k + 1) (by rw [HX.out, show cntB x = false from decide_eq_false (fun h => by unfold cnt at h; omega)]; simp)]; decide)])
            go_wp2
            go_ret
            exact ⟨by rw [F.out]; rfl, HB1.out⟩
          · have F := Lib.hid (show cntB x = true from decide_eq_true (by unfold cnt; omega))
            go_wp2
            exact ⟨⟨k + 1, by rw [HN.out]; omega, by go_num, by rw [HX.out, HT.out, F.out]; rfl, rfl⟩, by simp [intOf]; omega⟩
      · have F := Lib.hid (show E = 0 by
          have := HT.out
          rw [List.take_of_length_le (by rw [HN.out]; omega)] at this
          rw [HOK.out, if_pos this])
        go_wp2
        go_ret
        exact ⟨by rw [F.out]; rfl, HB1.out⟩
theorem right_ok {c : Cf} {l : List Int} (hc : confOk c) (hl : ∀ x ∈ l, cnt x) : rightE c l = 0 := by
  unfold rightE
  rw [conf_yes hc, if_pos rfl, if_pos (show l.all cntB = true from List.all_eq_true.2 fun x hx => decide_eq_true (hl x hx))]
theorem flat_inC (l : List Int) : l.flatMap inC = l.map (Value.int .i64) := by
  induction l with
  | nil => rfl
  | cons x r ih => rw [List.flatMap_cons, List.map_cons, ih]; rfl
theorem seq_lit (w : World) (l : List Int) (hl : 0 < l.length) (hm : l.length ≤ maxLen) (t : TypeId) (cs : Array Value) (hcs : cs = (l.map (Value.int .i64)).toArray) :
    Seq 1 inC (w.alloc (.cells cs t)) 0 (w.alloc (.cells cs t)).heap.size (.slice (some ⟨w.heap.size, 0, none⟩) l.length l.length) l := by
  refine ⟨some ⟨w.heap.size, 0, none⟩, l.length, rfl, Nat.le_refl _, hm, ⟨?_, fun _ => ⟨⟨w.heap.size, 0, none⟩, rfl, Nat.zero_le _, by simp, fun j u hu => ?_⟩⟩, fun h => by cases h⟩
  · rw [flat_len inC_len]
  · rw [flat_inC] at hu
    exact World.news_of_block (heap_alloc_new w _) j u (by rw [hcs]; exact hu)
set_option maxHeartbeats 2000000 in
set_option maxRecDepth 100000 in
theorem Next_ok (c : Cf) (n : Int) (hc : confOk c) (hn : cnt n) (w : World) :
    Calls Tryz.prog 74 #[.agg (cfC c).toArray, .int .i64 n] w fun e w' => e = .returned (.tuple #[.int .i64 (nextC c n), .int .i64 0]) ∧ Below w.heap.size w w' := by
  have h7 : c.c7 ≤ 9223372036854775807 := by unfold confOk at hc; omega
  have HRI := Lib.hid (fun v W h => right_any c h7 v [n] W h)
  rw [right_ok hc (by simpa using hn)] at HRI
  have HNX := Lib.hid (fun W => next_any c n hc hn W)
  obtain ⟨q, hq⟩ : ∃ q, nextC c n = q := ⟨_, rfl⟩
  rw [hq] at HNX ⊢
  clear hc hq h7
  obtain ⟨c0, c1, c2, c3, c4, c5, c6, c7, c8, c9, c10⟩ := c
  unfold CfM.cfC at HRI HNX ⊢
  dsimp only at HRI HNX ⊢
  obtain ⟨W, eW⟩ : ∃ W, w.alloc (.cells #[.int .i64 c0, .int .i64 c1, .int .i64 c2, .int .i64 c3, .int .i64 c4, .int .i64 c5, .int .i64 c6, .int .i64 c7, .int .i64 c8, .int .i64 c9, .int .i64 c10] 53) = W := ⟨_, rfl⟩
  have HB := Lib.hid (show Below w.heap.size w W by rw [← eW]; exact below_a1 _ _)
  have HCS := Lib.hid (show ∀ W', Below W.heap.size W W' → (W'.cell? ⟨w.heap.size, 0, none⟩ = some (.int .i64 c0) ∧ W'.cell? ⟨w.heap.size, 1, none⟩ = some (.int .i64 c1) ∧ W'.cell? ⟨w.heap.size, 2, none⟩ = some (.int .i64 c2) ∧ W'.cell? ⟨w.heap.size, 3, none⟩ = some (.int .i64 c3) ∧ W'.cell? ⟨w.heap.size, 4, none⟩ = some (.int .i64 c4) ∧ W'.cell? ⟨w.heap.size, 5, none⟩ = some (.int .i64 c5) ∧ W'.cell? ⟨w.heap.size, 6, none⟩ = some (.int .i64 c6) ∧ W'.cell? ⟨w.heap.size, 7, none⟩ = some (.int .i64 c7) ∧ W'.cell? ⟨w.heap.size, 8, none⟩ = some (.int .i64 c8) ∧ W'.cell? ⟨w.heap.size, 9, none⟩ = some (.int .i64 c9) ∧ W'.cell? ⟨w.heap.size, 10, none⟩ = some (.int .i64 c10)) by
    intro W' hb
    subst eW
    refine ⟨keepA hb ?_, keepA hb ?_, keepA hb ?_, keepA hb ?_, keepA hb ?_, keepA hb ?_, keepA hb ?_, keepA hb ?_, keepA hb ?_, keepA hb ?_, keepA hb ?_⟩ <;> go_simp)
  obtain ⟨d0, d1, d2, d3, d4, d5, d6, d7, d8, d9, d10⟩ := HCS.out W (Below.refl _ _)
  go_enter Tryz.func74, Tryz.ntmps74
  go_wp2_with fail
  refine (HRI.out _ _ (seq_lit W [n] (by simp) (by simp [maxLen]) _ _ rfl)).mono ?_
  rintro e w1 ⟨rfl, hb1⟩
  have HB1 := Lib.hid (bt hb1 (below_a1 W (.cells #[.int .i64 n] 3)))
  clear d0 d1 d2 d3 d4 d5 d6 d7 d8 d9 d10 hb1
  obtain ⟨d0, d1, d2, d3, d4, d5, d6, d7, d8, d9, d10⟩ := HCS.out w1 HB1.out
  go_wp2_with fail
  refine (HNX.out _).mono ?_
  rintro e w2 ⟨rfl, hb2⟩
  go_wp2
  go_ret2
  exact ⟨rfl, bt hb2 (bt HB1.out HB.out)⟩
set_option maxHeartbeats 2000000 in
set_option maxRecDepth 100000 in
theorem upTo_ok (c : Cf) (n : Int) (hc : confOk c) (hn : cnt n) (w : World) :
    Calls Tryz.prog 157 #[.agg (cfC c).toArray, .int .i64 n] w fun e w' => e = .returned (.int .i64 (upC c n)) ∧ Below w.heap.size w w' := by
  have HNX := Lib.hid (fun W => next_any c 0 hc (by decide) W)
  have hb := next_bd hc (n := 0) (by decide)
  have hi := cf_in hc
  have hub := up_bd hc hn
  unfold cnt at hn
  have HU := Lib.hid (show upC c n = if n < nextC c 0 then 0 else (n - nextC c 0) / c.c4 + 1 from rfl)
  generalize upC c n = E at *
  generalize nextC c 0 = q at *
  obtain ⟨c0, c1, c2, c3, c4, c5, c6, c7, c8, c9, c10⟩ := c
  unfold CfM.cfC at HNX ⊢
  dsimp only at HNX hi HU hb ⊢
  clear hc
  have hc40 : (c4 == 0) = false := by simpa using (by omega : c4 ≠ 0)
  have hc4m : (c4 == -1) = false := by simpa using (by omega : c4 ≠ -1)
  obtain ⟨W, eW⟩ : ∃ W, w.alloc (.cells #[.int .i64 c0, .int .i64 c1, .int .i64 c2, .int .i64 c3, .int .i64 c4, .int .i64 c5, .int .i64 c6, .int .i64 c7, .int .i64 c8, .int .i64 c9, .int .i64 c10] 53) = W := ⟨_, rfl⟩
  have HB := Lib.hid (show Below w.heap.size w W by rw [← eW]; exact below_a1 _ _)
  have HCS := Lib.hid (show ∀ W', Below W.heap.size W W' → (W'.cell? ⟨w.heap.size, 0, none⟩ = some (.int .i64 c0) ∧ W'.cell? ⟨w.heap.size, 1, none⟩ = some (.int .i64 c1) ∧ W'.cell? ⟨w.heap.size, 2, none⟩ = some (.int .i64 c2) ∧ W'.cell? ⟨w.heap.size, 3, none⟩ = some (.int .i64 c3) ∧ W'.cell? ⟨w.heap.size, 4, none⟩ = some (.int .i64 c4) ∧ W'.cell? ⟨w.heap.size, 5, none⟩ = some (.int .i64 c5) ∧ W'.cell? ⟨w.heap.size, 6, none⟩ = some (.int .i64 c6) ∧ W'.cell? ⟨w.heap.size, 7, none⟩ = some (.int .i64 c7) ∧ W'.cell? ⟨w.heap.size, 8, none⟩ = some (.int .i64 c8) ∧ W'.cell? ⟨w.heap.size, 9, none⟩ = some (.int .i64 c9) ∧ W'.cell? ⟨w.heap.size, 10, none⟩ = some (.int .i64 c10)) by
    intro W' hb
    subst eW
    refine ⟨keepA hb ?_, keepA hb ?_, keepA hb ?_, keepA hb ?_, keepA hb ?_, keepA hb ?_, keepA hb ?_, keepA hb ?_, keepA hb ?_, keepA hb ?_, keepA hb ?_⟩ <;> go_simp)
  obtain ⟨d0, d1, d2, d3, d4, d5, d6, d7, d8, d9, d10⟩ := HCS.out W (Below.refl _ _)
  go_enter Tryz.func157, Tryz.ntmps157
  go_wp2_with fail
  refine (HNX.out _).mono ?_
  rintro e w1 ⟨rfl, hb1⟩
  have HB1 := Lib.hid hb1
  clear d0 d1 d2 d3 d4 d5 d6 d7 d8 d9 d10 hb1
  obtain ⟨d0, d1, d2, d3, d4, d5, d6, d7, d8, d9, d10⟩ := HCS.out w1 HB1.out
  by_cases h : n < q
  · have F := Lib.hid (HU.out.trans (if_pos h))
    go_wp2
    go_ret
    exact ⟨by rw [F.out]; rfl, bt HB1.out HB.out⟩
  · have hF := HU.out.trans (if_neg h)
    have e1 : (n - q).tdiv c4 = (n - q) / c4 := Int.tdiv_eq_ediv_of_nonneg (by omega)
    generalize (n - q) / c4 = r at *
    have F := Lib.hid hF
    have hr : -1 ≤ r ∧ r ≤ 1099511627776 := by omega
    clear hF hub
    go_wp2
    go_ret
    exact ⟨by rw [F.out]; rfl, bt HB1.out HB.out⟩
end Go.Proofs.YtodiipkedhfncaaGreatDoor.SchY
