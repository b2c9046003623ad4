/- The turns of a way to work, walked: sched.next, right, Next, Turns. -/
import Derived.Test.YtcaeihfgdlffkaaGreatRRRRDoorPk00
import Derived.Deep.RegionHeld
namespace Go.Proofs.YtcaeihfgdlffkaaGreatRRRRDoor.SchY
set_option linter.unusedVariables false
set_option linter.unusedSimpArgs false
open Go.RowKit Base SeqM CfM SchX

theorem cf_in {c : Cf} (h : confOk c) : (1 ≤ c.c2 ∧ c.c2 ≤ 16) ∧ (2 ≤ c.c3 ∧ c.c3 ≤ 64) ∧ (1 ≤ c.c4 ∧ c.c4 ≤ 256) := by
  unfold confOk at h
  omega
set_option maxHeartbeats 2000000 in
set_option maxRecDepth 100000 in
theorem next_any (c : Cf) (n : Int) (hc : confOk c) (hn : cnt n) (w : World) :
    Calls Tryz.prog 69 #[.agg (cfC c).toArray, .int .i64 n] w fun e w' => e = .returned (.int .i64 (nextC c n)) ∧ Below w.heap.size w w' := by
  have hi := cf_in hc
  have hb := next_bd hc hn
  unfold cnt at hn
  unfold nextC at hb ⊢
  have hq : (if n + 1 < c.c3 then c.c3 else n + 1) = max (n + 1) c.c3 := by omega
  have hm : 0 ≤ max (n + 1) c.c3 ∧ max (n + 1) c.c3 ≤ 1099511627840 := by omega
  have HCE := Lib.hid (fun W => Ceil_any (max (n + 1) c.c3) c.c4 W hi.2.2.1 (by omega) ⟨hm.1, by omega⟩)
  have hcb := ceil_bd hm.1 hi.2.2.1
  obtain ⟨c0, c1, c2, c3, c4, c5, c6, c7, c8, c9, c10⟩ := c
  unfold CfM.cfC
  dsimp only at HCE hq hb hm hi hcb ⊢
  generalize max (n + 1) c3 = M at *
  generalize ceilC M c4 = q at *
  obtain ⟨r, hr⟩ : ∃ r, q * c4 = r := ⟨_, rfl⟩
  rw [hr] at hb hcb ⊢
  clear hc
  go_enter Tryz.func69, Tryz.ntmps69
  go_wp2_with fail
  refine (HCE.out _).mono ?_
  rintro e w1 ⟨rfl, rfl⟩
  go_wp2
  go_ret
  exact ⟨by rw [Int.mul_comm] at hr; simp [hr, Int.mul_comm], below_a1 _ _⟩
def cntB (n : Int) : Bool := decide (cnt n)
/-- may counts be asked of a way to work? -/
def rightE (c : Cf) (l : List Int) : Int := if confB c = true then (if l.all cntB = true then 0 else 1) else 200
def RRel (l : List Int) (w : World) (i : Value) (wr : World) : Prop := ∃ k : Nat, k ≤ l.length ∧ i = .int .i64 k ∧ (l.take k).all cntB = true ∧ w = wr
theorem all_next {α : Type} {l : List α} {k : Nat} {x : α} (h : l[k]? = some x) (f : α → Bool) : (l.take (k + 1)).all f = ((l.take k).all f && f x) := by
  rw [SeqM.take_next h, List.all_append]; simp
theorem all_no {α : Type} {l : List α} {k : Nat} {f : α → Bool} (h : (l.take k).all f = false) : l.all f = false := by
  rw [List.all_eq_false] at h ⊢
  obtain ⟨x, hx, hf⟩ := h
  exact ⟨x, List.mem_of_mem_take hx, hf⟩
set_option maxHeartbeats 2000000 in
set_option maxRecDepth 100000 in
theorem right_any (c : Cf) (h7 : c.c7 ≤ 9223372036854775807) (v : Value) (l : List Int) (w : World) (h : Seq 1 inC w 0 w.heap.size v l) :
    Calls Tryz.prog 68 #[.agg (cfC c).toArray, v] w fun e w' => e = .returned (.int .i64 (rightE c l)) ∧ Below w.heap.size w w' := by
  have HR0 := Lib.hid (fun W => SRight_any c h7 W)
  obtain ⟨A, cap, rfl, hc1, hc2, hr, _⟩ := h
  unfold maxLen at hc2
  have HR := Lib.hid hr
  obtain ⟨n, hn⟩ : ∃ n, l.length = n := ⟨_, rfl⟩
  rw [hn] at hc1 ⊢
  have HN := Lib.hid hn
  obtain ⟨ok, hok⟩ : ∃ b, confB c = b := ⟨_, rfl⟩
  have HO0 := Lib.hid (show ok = false → rightE c l = 200 by intro h; unfold rightE; rw [hok, if_neg (by rw [h]; decide)])
  have HO1 := Lib.hid (show ok = true → rightE c l = if l.all cntB = true then 0 else 1 by intro h; unfold rightE; rw [hok, if_pos h])
  rw [hok] at HR0
  generalize rightE c l = E at *
  clear hr hn hok h7
  obtain ⟨c0, c1, c2, c3, c4, c5, c6, c7, c8, c9, c10⟩ := c
  unfold CfM.cfC at HR0 ⊢
  dsimp only at HR0 ⊢
  go_enter Tryz.func68, Tryz.ntmps68
  go_wp2_with fail
  refine (HR0.out _).mono ?_
  rintro e w1 ⟨rfl, hb1⟩
  have HB1 := Lib.hid (bt hb1 (below_a1 w _))
  clear hb1
  cases ok
  · have F := Lib.hid (HO0.out rfl)
    go_wp2
    go_ret
    exact ⟨by rw [F.out]; rfl, HB1.out⟩
  · have HOK := Lib.hid (HO1.out rfl)
    go_wp2_with fail
    go_loopw [12] (fun i wr => RRel l w1 i wr) (fun i _ => n - (intOf i).toNat)
    case atStart => exact ⟨0, Nat.zero_le _, rfl, rfl, rfl⟩
    case round =>
      obtain ⟨k, hk, rfl, ht, rfl⟩ := hrel
      rw [HN.out] at hk
      have HT := Lib.hid ht
      clear ht
      by_cases hlt : k < n
      · obtain ⟨ad, x, rfl, _, hbx, hx, c0⟩ := rdI HR.out (i := k) (by rw [HN.out]; exact hlt)
        replace c0 := (HB1.out.cell (by rw [Base.add_block]; exact hbx)).trans c0
        have HX := Lib.hid (all_next hx cntB)
        clear hx
        by_cases hx1 : x < 0
        · have F := Lib.hid (show E = 1 by rw [HOK.out, if_neg (by rw [all_no (k := k + 1) (by rw [HX.out, show cntB x = false from decide_eq_false (fun h => by unfold cnt at h; omega)]; simp)]; decide)])
          go_wp2
          go_ret
          exact ⟨by rw [F.out]; rfl, HB1.out⟩
        · by_cases hx2 : 1099511627776 < x
          · have F := Lib.hid (show E = 1 by rw [HOK.out, if_neg (by rw [all_no (k := k + 1) (by rw [HX.out, show cntB x = false from decide_eq_false (fun h => by unfold cnt at h; omega)]; simp)]; decide)])
            go_wp2
            go_ret
            exact ⟨by rw [F.out]; rfl, HB1.out⟩
          · have F := Lib.hid (show cntB x = true from decide_eq_true (by unfold cnt; omega))
            go_wp2
            exact ⟨⟨k + 1, by rw [HN.out]; omega, by go_num, by rw [HX.out, HT.out, F.out]; rfl, rfl⟩, by simp [intOf]; omega⟩
      · have F := Lib.hid (show E = 0 by
          have := HT.out
          rw [List.take_of_length_le (by rw [HN.out]; omega)] at this
          rw [HOK.out, if_pos this])
        go_wp2
        go_ret
        exact ⟨by rw [F.out]; rfl, HB1.out⟩
theorem right_ok {c : Cf} {l : List Int} (hc : confOk c) (hl : ∀ x ∈ l, cnt x) : rightE c l = 0 := by
  unfold rightE
  rw [conf_yes hc, if_pos rfl, if_pos (show l.all cntB = true from List.all_eq_true.2 fun x hx => decide_eq_true (hl x hx))]
theorem flat_inC (l : List Int) : l.flatMap inC = l.map (Value.int .i64) := by
  induction l with
  | nil => rfl
  | cons x r ih => rw [List.flatMap_cons, List.map_cons, ih]; rfl
theorem seq_lit (w : World) (l : List Int) (hl : 0 < l.length) (hm : l.length ≤ maxLen) (t : TypeId) (cs : Array Value) (hcs : cs = (l.map (Value.int .i64)).toArray) :
    Seq 1 inC (w.alloc (.cells cs t)) 0 (w.alloc (.cells cs t)).heap.size (.slice (some ⟨w.heap.size, 0, none⟩) l.length l.length) l := by
  refine ⟨some ⟨w.heap.size, 0, none⟩, l.length, rfl, Nat.le_refl _, hm, ⟨?_, fun _ => ⟨⟨w.heap.size, 0, none⟩, rfl, Nat.zero_le _, by simp, fun j u hu => ?_⟩⟩, fun h => by cases h⟩
  · rw [flat_len inC_len]
  · rw [flat_inC] at hu
    exact World.news_of_block (heap_alloc_new w _) j u (by rw [hcs]; exact hu)
set_option maxHeartbeats 2000000 in
set_option maxRecDepth 100000 in
theorem Next_ok (c : Cf) (n : Int) (hc : confOk c) (hn : cnt n) (w : World) :
    Calls Tryz.prog 38 #[.agg (cfC c).toArray, .int .i64 n] w fun e w' => e = .returned (.tuple #[.int .i64 (nextC c n), .int .i64 0]) ∧ Below w.heap.size w w' := by
  have h7 : c.c7 ≤ 9223372036854775807 := by unfold confOk at hc; omega
  have HRI := Lib.hid (fun v W h => right_any c h7 v [n] W h)
  rw [right_ok hc (by simpa using hn)] at HRI
  have HNX := Lib.hid (fun W => next_any c n hc hn W)
  obtain ⟨q, hq⟩ : ∃ q, nextC c n = q := ⟨_, rfl⟩
  rw [hq] at HNX ⊢
  clear hc hq h7
  obtain ⟨c0, c1, c2, c3, c4, c5, c6, c7, c8, c9, c10⟩ := c
  unfold CfM.cfC at HRI HNX ⊢
  dsimp only at HRI HNX ⊢
  obtain ⟨W, eW⟩ : ∃ W, w.alloc (.cells #[.int .i64 c0, .int .i64 c1, .int .i64 c2, .int .i64 c3, .int .i64 c4, .int .i64 c5, .int .i64 c6, .int .i64 c7, .int .i64 c8, .int .i64 c9, .int .i64 c10] 23) = W := ⟨_, rfl⟩
  have HB := Lib.hid (show Below w.heap.size w W by rw [← eW]; exact below_a1 _ _)
  have HCS := Lib.hid (show ∀ W', Below W.heap.size W W' → (W'.cell? ⟨w.heap.size, 0, none⟩ = some (.int .i64 c0) ∧ W'.cell? ⟨w.heap.size, 1, none⟩ = some (.int .i64 c1) ∧ W'.cell? ⟨w.heap.size, 2, none⟩ = some (.int .i64 c2) ∧ W'.cell? ⟨w.heap.size, 3, none⟩ = some (.int .i64 c3) ∧ W'.cell? ⟨w.heap.size, 4, none⟩ = some (.int .i64 c4) ∧ W'.cell? ⟨w.heap.size, 5, none⟩ = some (.int .i64 c5) ∧ W'.cell? ⟨w.heap.size, 6, none⟩ = some (.int .i64 c6) ∧ W'.cell? ⟨w.heap.size, 7, none⟩ = some (.int .i64 c7) ∧ W'.cell? ⟨w.heap.size, 8, none⟩ = some (.int .i64 c8) ∧ W'.cell? ⟨w.heap.size, 9, none⟩ = some (.int .i64 c9) ∧ W'.cell? ⟨w.heap.size, 10, none⟩ = some (.int .i64 c10)) by
    intro W' hb
    subst eW
    refine ⟨keepA hb ?_, keepA hb ?_, keepA hb ?_, keepA hb ?_, keepA hb ?_, keepA hb ?_, keepA hb ?_, keepA hb ?_, keepA hb ?_, keepA hb ?_, keepA hb ?_⟩ <;> go_simp)
  obtain ⟨d0, d1, d2, d3, d4, d5, d6, d7, d8, d9, d10⟩ := HCS.out W (Below.refl _ _)
  go_enter Tryz.func38, Tryz.ntmps38
  go_wp2_with fail
  refine (HRI.out _ _ (seq_lit W [n] (by simp) (by simp [maxLen]) _ _ rfl)).mono ?_
  rintro e w1 ⟨rfl, hb1⟩
  have HB1 := Lib.hid (bt hb1 (below_a1 W (.cells #[.int .i64 n] 3)))
  clear d0 d1 d2 d3 d4 d5 d6 d7 d8 d9 d10 hb1
  obtain ⟨d0, d1, d2, d3, d4, d5, d6, d7, d8, d9, d10⟩ := HCS.out w1 HB1.out
  go_wp2_with fail
  refine (HNX.out _).mono ?_
  rintro e w2 ⟨rfl, hb2⟩
  go_wp2
  go_ret2
  exact ⟨rfl, bt hb2 (bt HB1.out HB.out)⟩
set_option maxHeartbeats 2000000 in
set_option maxRecDepth 100000 in
theorem upTo_ok (c : Cf) (n : Int) (hc : confOk c) (hn : cnt n) (w : World) :
    Calls Tryz.prog 135 #[.agg (cfC c).toArray, .int .i64 n] w fun e w' => e = .returned (.int .i64 (upC c n)) ∧ Below w.heap.size w w' := by
  have HNX := Lib.hid (fun W => next_any c 0 hc (by decide) W)
  have hb := next_bd hc (n := 0) (by decide)
  have hi := cf_in hc
  have hub := up_bd hc hn
  unfold cnt at hn
  have HU := Lib.hid (show upC c n = if n < nextC c 0 then 0 else (n - nextC c 0) / c.c4 + 1 from rfl)
  generalize upC c n = E at *
  generalize nextC c 0 = q at *
  obtain ⟨c0, c1, c2, c3, c4, c5, c6, c7, c8, c9, c10⟩ := c
  unfold CfM.cfC at HNX ⊢
  dsimp only at HNX hi HU hb ⊢
  clear hc
  have hc40 : (c4 == 0) = false := by simpa using (by omega : c4 ≠ 0)
  have hc4m : (c4 == -1) = false := by simpa using (by omega : c4 ≠ -1)
  obtain ⟨W, eW⟩ : ∃ W, w.alloc (.cells #[.int .i64 c0, .int .i64 c1, .int .i64 c2, .int .i64 c3, .int .i64 c4, .int .i64 c5, .int .i64 c6, .int .i64 c7, .int .i64 c8, .int .i64 c9, .int .i64 c10] 23) = W := ⟨_, rfl⟩
  have HB := Lib.hid (show Below w.heap.size w W by rw [← eW]; exact below_a1 _ _)
  have HCS := Lib.hid (show ∀ W', Below W.heap.size W W' → (W'.cell? ⟨w.heap.size, 0, none⟩ = some (.int .i64 c0) ∧ W'.cell? ⟨w.heap.size, 1, none⟩ = some (.int .i64 c1) ∧ W'.cell? ⟨w.heap.size, 2, none⟩ = some (.int .i64 c2) ∧ W'.cell? ⟨w.heap.size, 3, none⟩ = some (.int .i64 c3) ∧ W'.cell? ⟨w.heap.size, 4, none⟩ = some (.int .i64 c4) ∧ W'.cell? ⟨w.heap.size, 5, none⟩ = some (.int .i64 c5) ∧ W'.cell? ⟨w.heap.size, 6, none⟩ = some (.int .i64 c6) ∧ W'.cell? ⟨w.heap.size, 7, none⟩ = some (.int .i64 c7) ∧ W'.cell? ⟨w.heap.size, 8, none⟩ = some (.int .i64 c8) ∧ W'.cell? ⟨w.heap.size, 9, none⟩ = some (.int .i64 c9) ∧ W'.cell? ⟨w.heap.size, 10, none⟩ = some (.int .i64 c10)) by
    intro W' hb
    subst eW
    refine ⟨keepA hb ?_, keepA hb ?_, keepA hb ?_, keepA hb ?_, keepA hb ?_, keepA hb ?_, keepA hb ?_, keepA hb ?_, keepA hb ?_, keepA hb ?_, keepA hb ?_⟩ <;> go_simp)
  obtain ⟨d0, d1, d2, d3, d4, d5, d6, d7, d8, d9, d10⟩ := HCS.out W (Below.refl _ _)
  go_enter Tryz.func135, Tryz.ntmps135
  go_wp2_with fail
  refine (HNX.out _).mono ?_
  rintro e w1 ⟨rfl, hb1⟩
  have HB1 := Lib.hid hb1
  clear d0 d1 d2 d3 d4 d5 d6 d7 d8 d9 d10 hb1
  obtain ⟨d0, d1, d2, d3, d4, d5, d6, d7, d8, d9, d10⟩ := HCS.out w1 HB1.out
  by_cases h : n < q
  · have F := Lib.hid (HU.out.trans (if_pos h))
    go_wp2
    go_ret
    exact ⟨by rw [F.out]; rfl, bt HB1.out HB.out⟩
  · have hF := HU.out.trans (if_neg h)
    have e1 : (n - q).tdiv c4 = (n - q) / c4 := Int.tdiv_eq_ediv_of_nonneg (by omega)
    generalize (n - q) / c4 = r at *
    have F := Lib.hid hF
    have hr : -1 ≤ r ∧ r ≤ 1099511627776 := by omega
    clear hF hub
    go_wp2
    go_ret
    exact ⟨by rw [F.out]; rfl, bt HB1.out HB.out⟩
end Go.Proofs.YtcaeihfgdlffkaaGreatRRRRDoor.SchY

/- A region that draws its order, as HzW, but S is not asked once operation z is over, whichever comes behind it; and what needs no S at all may be taken first, whether z waits for it or not (takeP). No program is in sight. -/
namespace Go.Proofs.YtcaeihfgdlffkaaGreatRRRRDoor.HyW
set_option linter.unusedVariables false
set_option linter.unusedSimpArgs false

section
variable {P : Program} {ops : Array Oper} {Q : Exit → Act → World → Prop} {md : Region.Mode} {S : World → Prop} {z : Nat}

/-- which operations wait for number i, whatever comes between -/
def marks (md : Region.Mode) (i : Nat) : List Oper → Array Bool → Array Bool
  | [], m => m
  | o :: r, m => marks md i r (m.push (o.after.any fun e => Region.binds md e && (e.on == i || m.getD e.on false)))
def closedB (md : Region.Mode) (ops : Array Oper) (listed : Array Bool) : Bool :=
  (List.range ops.size).all fun j => !listed.getD j true || match ops[j]? with
    | some o => o.after.all fun e => !Region.binds md e || listed.getD e.on false
    | none => true
def Closed (md : Region.Mode) (ops : Array Oper) (listed : Array Bool) : Prop := ∀ j o, ops[j]? = some o → listed.getD j true = true → ∀ e ∈ o.after, Region.binds md e = true → listed.getD e.on false = true
theorem closed_of {listed : Array Bool} (h : closedB md ops listed = true) : Closed md ops listed := fun j o ho hl e he hb => by
  simp only [closedB, List.all_eq_true, List.mem_range] at h
  have h1 := h j (Array.getElem?_eq_some_iff.1 ho).1
  simp only [ho, hl, Bool.not_true, Bool.false_or, Array.all_eq_true_iff_forall_mem] at h1
  have h2 := h1 e he
  rw [hb] at h2
  simpa using h2
theorem getD_push {m : Array Bool} {b : Bool} {k : Nat} (h : (m.push b).getD k false = true) : (k < m.size ∧ m.getD k false = true) ∨ (k = m.size ∧ b = true) := by
  rcases Nat.lt_trichotomy k m.size with hk | hk | hk
  · left; refine ⟨hk, ?_⟩
    simpa [Array.getElem?_push, Nat.ne_of_lt hk] using h
  · right; subst hk; exact ⟨rfl, by simpa using h⟩
  · have : (m.push b)[k]? = none := Array.getElem?_eq_none (by simp; omega)
    simp [this] at h
def MarkOk (md : Region.Mode) (ops : Array Oper) (i : Nat) (m : Array Bool) : Prop := ∀ k, m.getD k false = true → k < m.size ∧ ∃ o, ops[k]? = some o ∧ ∃ e ∈ o.after, Region.binds md e = true ∧ (e.on = i ∨ (e.on < k ∧ m.getD e.on false = true))
theorem marks_ok (i : Nat) : ∀ (l : List Oper) (m : Array Bool), MarkOk md ops i m → ops.toList.drop m.size = l → MarkOk md ops i (marks md i l m)
  | [], m, h, _ => h
  | o :: r, m, h, hl => by
    refine marks_ok i r _ ?_ ?_
    · intro k hk
      have ho : ops[m.size]? = some o := by
        have := congrArg (·[0]?) hl
        simpa [List.getElem?_drop] using this
      rcases getD_push hk with ⟨h1, h2⟩ | ⟨rfl, h2⟩
      · obtain ⟨_, o', ho', e, he, hb, hor⟩ := h k h2
        refine ⟨by simp; omega, o', ho', e, he, hb, hor.imp id fun ⟨h3, h4⟩ => ⟨h3, ?_⟩⟩
        have : e.on < m.size := by omega
        simpa [Array.getElem?_push, Nat.ne_of_lt this] using h4
      · obtain ⟨e, he, hb⟩ := Array.any_eq_true'.1 h2
        simp only [Bool.and_eq_true, Bool.or_eq_true, beq_iff_eq] at hb
        refine ⟨by simp, o, ho, e, he, hb.1, hb.2.imp id fun h3 => ?_⟩
        have h4 : e.on < m.size := by
          rcases Nat.lt_or_ge e.on m.size with h' | h'
          · exact h'
          · simp [Array.getElem?_eq_none h'] at h3
        exact ⟨h4, by simpa [Array.getElem?_push, Nat.ne_of_lt h4] using h3⟩
    · rw [Array.size_push, ← List.drop_drop, hl]; rfl
/-- z waits for i -/
def waitsB (md : Region.Mode) (ops : Array Oper) (z i : Nat) : Bool := (marks md i ops.toList #[]).getD z false
theorem getD_false_true {listed : Array Bool} {k : Nat} (h : listed.getD k false = true) : listed.getD k true = true := by
  rcases Nat.lt_or_ge k listed.size with h' | h'
  · simpa [h'] using h
  · simp [Array.getElem?_eq_none h'] at h
theorem waits_listed {i : Nat} {listed : Array Bool} (hc : Closed md ops listed) (m : Array Bool) (hm : MarkOk md ops i m) : ∀ (n k : Nat), k ≤ n → m.getD k false = true → (k ∈ Region.ready md ops listed ∨ listed.getD k true = true) → listed.getD i true = true := by
  intro n
  induction n with
  | zero =>
    intro k hk hmk hr
    obtain ⟨_, o, ho, e, he, hb, hor⟩ := hm k hmk
    have hl : listed.getD e.on false = true := by
      rcases hr with hr | hr
      · obtain ⟨_, o', ho', hall⟩ := mem_ready.1 hr
        rw [ho] at ho'
        obtain rfl := Option.some.inj ho'
        exact hall e he hb
      · exact hc k o ho hr e he hb
    rcases hor with h1 | ⟨h1, _⟩
    · rw [← h1]; exact getD_false_true hl
    · omega
  | succ n ih =>
    intro k hk hmk hr
    obtain ⟨_, o, ho, e, he, hb, hor⟩ := hm k hmk
    have hl : listed.getD e.on false = true := by
      rcases hr with hr | hr
      · obtain ⟨_, o', ho', hall⟩ := mem_ready.1 hr
        rw [ho] at ho'
        obtain rfl := Option.some.inj ho'
        exact hall e he hb
      · exact hc k o ho hr e he hb
    rcases hor with h1 | ⟨h1, h2⟩
    · rw [← h1]; exact getD_false_true hl
    · exact ih e.on (by omega) h2 (.inr (getD_false_true hl))
theorem not_ready {i : Nat} {listed : Array Bool} (hc : Closed md ops listed) (hw : waitsB md ops z i = true) (hi : i ∈ Region.ready md ops listed) : z ∉ Region.ready md ops listed := fun hz => by
  have h0 := (mem_ready.1 hi).1
  have := waits_listed hc _ (marks_ok i ops.toList #[] (fun k hk => by simp at hk) (by simp)) z z (Nat.le_refl _) hw (.inl hz)
  rw [h0] at this
  cases this
theorem closed_set {j : Nat} {listed : Array Bool} (hc : Closed md ops listed) (hj : j ∈ Region.ready md ops listed) : Closed md ops (listed.setIfInBounds j true) := fun k o ho hl e he hb => by
  refine getD_set_true ?_
  by_cases hjk : j = k
  · subst hjk
    obtain ⟨_, o', ho', hall⟩ := mem_ready.1 hj
    rw [ho] at ho'
    obtain rfl := Option.some.inj ho'
    exact hall e he hb
  · rw [getD_set_ne true hjk] at hl
    exact hc k o ho hl e he hb

def wpZ (P : Program) (md : Region.Mode) (ops : Array Oper) (Q : Exit → Act → World → Prop) (S : World → Prop) (z : Nat) : Nat → Array Bool → Act → World → Prop
  | 0, listed, a, w => Region.ready md ops listed = [] ∧ Q .normal a w
  | fuel + 1, listed, a, w =>
    (Region.ready md ops listed = [] → Q .normal a w) ∧
    ∀ i ∈ Region.ready md ops listed, wpOp P ops Q i (fun a' w' => ((listed.setIfInBounds i true).getD z true = false → S w') ∧ wpZ P md ops Q S z fuel (listed.setIfInBounds i true) a' w') a w
theorem wpAny_of_z : ∀ (fuel : Nat) (listed : Array Bool) (a : Act) (w : World), wpZ P md ops Q S z fuel listed a w → wpAny P md ops Q fuel listed a w
  | 0, _, _, _, h => h
  | fuel + 1, _, _, _, h => ⟨h.1, fun i hi => wpOp_mono (fun a' w' h' => wpAny_of_z fuel _ a' w' h'.2) (h.2 i hi)⟩
theorem wpZ_first {i : Nat} {oi : Oper} {v : Value} (hi : ops[i]? = some oi) (hsel : ∀ (j : Nat) (o : Oper) cs b, ops[j]? = some o → o.op ≠ .select cs b)
    (hQ : ∀ c a w, Q (.panic c) (a.put oi.dst v) w → Q (.panic c) a w) (hz : waitsB md ops z i = true) :
    ∀ (fuel : Nat) (listed : Array Bool) (a : Act) (w : World), Closed md ops listed →
      (∀ j oj, ops[j]? = some oj → j ≠ i → listed.getD j true = false → (∀ e ∈ oj.after, Region.binds md e = true → e.on ≠ i) → oi.apart ops oj = true) →
      i ∈ Region.ready md ops listed → YieldsIf P ops S oi v a → S w →
      wpZ P md ops Q S z fuel (listed.setIfInBounds i true) (a.put oi.dst v) w → wpZ P md ops Q S z (fuel + 1) listed a w := by
  intro fuel
  induction fuel with
  | zero =>
    intro listed a w _ _ hr hy hS H
    refine ⟨fun h => (by rw [h] at hr; cases hr), fun j hj => ?_⟩
    by_cases hji : j = i
    · subst hji; exact hy.wpOp hi hS ⟨fun _ => hS, H⟩
    · have := ready_mono hj hji
      rw [H.1] at this
      cases this
  | succ fuel ih =>
    intro listed a w hcl hfree hr hy hS H
    refine ⟨fun h => (by rw [h] at hr; cases hr), fun j hj => ?_⟩
    by_cases hji : j = i
    · subst hji; exact hy.wpOp hi hS ⟨fun _ => hS, H⟩
    · have hjz : j ≠ z := fun e => not_ready hcl hz hr (by rw [← e]; exact hj)
      have h1 := H.2 j (ready_mono hj hji)
      obtain ⟨hjun, oj, hoj, hall⟩ := mem_ready.1 hj
      have hnot : ∀ e ∈ oj.after, Region.binds md e = true → e.on ≠ i := fun e he hb heq => by
        have h1 := getD_false_true (hall e he hb)
        have h0 := (mem_ready.1 hr).1
        rw [heq, h0] at h1
        cases h1
      have h2 := wpOp_putIf hoj (hfree j oj hoj hji hjun hnot) (fun cs b => hsel i oi cs b hi) (fun cs b => hsel j oj cs b hoj) hQ hy h1
      have hfree' : ∀ k ok, ops[k]? = some ok → k ≠ i → (listed.setIfInBounds j true).getD k true = false →
          (∀ e ∈ ok.after, Region.binds md e = true → e.on ≠ i) → oi.apart ops ok = true := fun k ok hk hki hun hno => by
        refine hfree k ok hk hki ?_ hno
        by_cases hjk : j = k
        · subst hjk; exact hjun
        · rw [getD_set_ne true hjk] at hun; exact hun
      have hiz : i ≠ z := fun e => not_ready hcl hz hr (by rw [← e]; exact hr)
      have hzu : listed.getD z true = false := by
        cases hh : listed.getD z true with
        | false => rfl
        | true =>
          have := waits_listed hcl _ (marks_ok i ops.toList #[] (fun k hk => by simp at hk) (by simp)) z z (Nat.le_refl _) hz (.inr hh)
          rw [(mem_ready.1 hr).1] at this
          cases this
      have hun2 : ((listed.setIfInBounds i true).setIfInBounds j true).getD z true = false := by rw [getD_set_ne true hjz, getD_set_ne true hiz]; exact hzu
      refine wpOp_mono (fun a' w' h3 => ⟨fun _ => h3.2.1 hun2, ih (listed.setIfInBounds j true) a' w' (closed_set hcl hj) hfree' (ready_mono hr (Ne.symm hji)) h3.1 (h3.2.1 hun2) ?_⟩) h2
      rw [Array.setIfInBounds_comm _ _ hji]
      exact h3.2.2
theorem wpZ_pure {i : Nat} {oi : Oper} {v : Value} (hi : ops[i]? = some oi) (hsel : ∀ (j : Nat) (o : Oper) cs b, ops[j]? = some o → o.op ≠ .select cs b)
    (hQ : ∀ c a w, Q (.panic c) (a.put oi.dst v) w → Q (.panic c) a w) (hiz : i ≠ z) :
    ∀ (fuel : Nat) (listed : Array Bool) (a : Act) (w : World),
      (∀ j oj, ops[j]? = some oj → j ≠ i → listed.getD j true = false → (∀ e ∈ oj.after, Region.binds md e = true → e.on ≠ i) → oi.apart ops oj = true) →
      i ∈ Region.ready md ops listed → YieldsIf P ops (fun _ => True) oi v a → (listed.getD z true = false → S w) →
      wpZ P md ops Q S z fuel (listed.setIfInBounds i true) (a.put oi.dst v) w → wpZ P md ops Q S z (fuel + 1) listed a w := by
  intro fuel
  induction fuel with
  | zero =>
    intro listed a w _ hr hy hS H
    refine ⟨fun h => (by rw [h] at hr; cases hr), fun j hj => ?_⟩
    by_cases hji : j = i
    · subst hji; exact hy.wpOp hi trivial ⟨fun h => hS (by rw [getD_set_ne true hiz] at h; exact h), H⟩
    · have := ready_mono hj hji
      rw [H.1] at this
      cases this
  | succ fuel ih =>
    intro listed a w hfree hr hy hS H
    refine ⟨fun h => (by rw [h] at hr; cases hr), fun j hj => ?_⟩
    by_cases hji : j = i
    · subst hji; exact hy.wpOp hi trivial ⟨fun h => hS (by rw [getD_set_ne true hiz] at h; exact h), H⟩
    · have h1 := H.2 j (ready_mono hj hji)
      obtain ⟨hjun, oj, hoj, hall⟩ := mem_ready.1 hj
      have hnot : ∀ e ∈ oj.after, Region.binds md e = true → e.on ≠ i := fun e he hb heq => by
        have h1 := getD_false_true (hall e he hb)
        have h0 := (mem_ready.1 hr).1
        rw [heq, h0] at h1
        cases h1
      have h2 := wpOp_putIf hoj (hfree j oj hoj hji hjun hnot) (fun cs b => hsel i oi cs b hi) (fun cs b => hsel j oj cs b hoj) hQ hy h1
      have hfree' : ∀ k ok, ops[k]? = some ok → k ≠ i → (listed.setIfInBounds j true).getD k true = false →
          (∀ e ∈ ok.after, Region.binds md e = true → e.on ≠ i) → oi.apart ops ok = true := fun k ok hk hki hun hno => by
        refine hfree k ok hk hki ?_ hno
        by_cases hjk : j = k
        · subst hjk; exact hjun
        · rw [getD_set_ne true hjk] at hun; exact hun
      have hSj : ∀ w', (((listed.setIfInBounds i true).setIfInBounds j true).getD z true = false → S w') → ((listed.setIfInBounds j true).getD z true = false → S w') := fun w' h hh => h (by rw [Array.setIfInBounds_comm _ _ (Ne.symm hji), getD_set_ne true hiz]; exact hh)
      refine wpOp_mono (fun a' w' h3 => ⟨hSj w' h3.2.1, ih (listed.setIfInBounds j true) a' w' hfree' (ready_mono hr (Ne.symm hji)) h3.1 (hSj w' h3.2.1) ?_⟩) h2
      rw [Array.setIfInBounds_comm _ _ hji]
      exact h3.2.2
/-- what must be so for number i to be taken first -/
def okTake (md : Region.Mode) (ops : Array Oper) (z : Nat) (listed : Array Bool) (i : Nat) : Bool :=
  Region.noSelect ops && (Region.free md ops listed i && ((Region.ready md ops listed).contains i && (closedB md ops listed && waitsB md ops z i)))
theorem takeZ (i : Nat) {oi : Oper} {v : Value} {fuel : Nat} {listed : Array Bool} {a : Act} {w : World} (hi : ops[i]? = some oi) (hk : okTake md ops z listed i = true)
    (hQ : ∀ c a w, Q (.panic c) (a.put oi.dst v) w → Q (.panic c) a w) (hS : S w) (hy : YieldsIf P ops S oi v a)
    (h : wpZ P md ops Q S z fuel (listed.setIfInBounds i true) (a.put oi.dst v) w) : wpZ P md ops Q S z (fuel + 1) listed a w := by
  simp only [okTake, Bool.and_eq_true] at hk
  exact wpZ_first hi (Region.noSelect_spec hk.1) hQ hk.2.2.2.2 fuel listed a w (closed_of hk.2.2.2.1) (Region.free_spec hi hk.2.1) (by simpa using hk.2.2.1) hy hS h
/-- what must be so for number i, which needs nothing of the world, to be taken first -/
def okPure (md : Region.Mode) (ops : Array Oper) (z : Nat) (listed : Array Bool) (i : Nat) : Bool :=
  Region.noSelect ops && (Region.free md ops listed i && ((Region.ready md ops listed).contains i && i != z))
theorem takeP (i : Nat) {oi : Oper} {v : Value} {fuel : Nat} {listed : Array Bool} {a : Act} {w : World} (hi : ops[i]? = some oi) (hk : okPure md ops z listed i = true)
    (hQ : ∀ c a w, Q (.panic c) (a.put oi.dst v) w → Q (.panic c) a w) (hS : listed.getD z true = false → S w) (hy : YieldsIf P ops (fun _ => True) oi v a)
    (h : wpZ P md ops Q S z fuel (listed.setIfInBounds i true) (a.put oi.dst v) w) : wpZ P md ops Q S z (fuel + 1) listed a w := by
  simp only [okPure, Bool.and_eq_true, bne_iff_ne] at hk
  exact wpZ_pure hi (Region.noSelect_spec hk.1) hQ hk.2.2.2 fuel listed a w (Region.free_spec hi hk.2.1) (by simpa using hk.2.2.1) hy hS h
def ReadyZ (P : Program) (md : Region.Mode) (ops : Array Oper) (Q : Exit → Act → World → Prop) (S : World → Prop) (z fuel : Nat) (listed : Array Bool) (a : Act) (w : World) (rs : List Nat) : Prop :=
  ∀ i ∈ rs, wpOp P ops Q i (fun a' w' => ((listed.setIfInBounds i true).getD z true = false → S w') ∧ wpZ P md ops Q S z fuel (listed.setIfInBounds i true) a' w') a w
theorem ReadyZ.nil {fuel : Nat} {listed : Array Bool} {a : Act} {w : World} : ReadyZ P md ops Q S z fuel listed a w [] := fun _ h => by cases h
theorem ReadyZ.cons {fuel : Nat} {listed : Array Bool} {a : Act} {w : World} {i : Nat} {o : Oper} {rs : List Nat} (ho : ops[i]? = some o)
    (h : ∀ K' : Act → World → Prop, Shut (∀ a w, ((listed.setIfInBounds i true).getD z true = false → S w) → (((listed.setIfInBounds i true).getD z true = false → S w) → wpZ P md ops Q S z fuel (listed.setIfInBounds i true) a w) → K' a w) → if Region.wanted o (yielded ops a.tmps) = true then Oper.wp P o a w K' Q else K' (a.put o.dst undef) w)
    (hs : ReadyZ P md ops Q S z fuel listed a w rs) : ReadyZ P md ops Q S z fuel listed a w (i :: rs) := fun j hj => by
  rcases List.mem_cons.1 hj with rfl | hj
  · exact wpOp_step ho (fun K' hK => h K' (fun a w hS hW => hK a w ⟨hS, hW hS⟩))
  · exact hs j hj
theorem readyZ {rs : List Nat} {fuel : Nat} {listed : Array Bool} {a : Act} {w : World} (hr : Region.ready md ops listed = rs) (hne : rs ≠ [])
    (h : ReadyZ P md ops Q S z fuel listed a w rs) : wpZ P md ops Q S z (fuel + 1) listed a w := ⟨fun h0 => absurd (hr ▸ h0) hne, hr ▸ h⟩
/-- only number i may come up -/
theorem oneZ (i : Nat) {fuel : Nat} {listed : Array Bool} {a : Act} {w : World} {o : Oper} (hr : Region.ready md ops listed = [i]) (ho : ops[i]? = some o)
    (h : ∀ K' : Act → World → Prop, Shut (∀ a w, ((listed.setIfInBounds i true).getD z true = false → S w) → (((listed.setIfInBounds i true).getD z true = false → S w) → wpZ P md ops Q S z fuel (listed.setIfInBounds i true) a w) → K' a w) → if Region.wanted o (yielded ops a.tmps) = true then Oper.wp P o a w K' Q else K' (a.put o.dst undef) w) : wpZ P md ops Q S z (fuel + 1) listed a w :=
  readyZ hr (by simp) (.cons ho h .nil)
/-- only number i may come up, and it yields its value -/
theorem yieldZ (i : Nat) {oi : Oper} {v : Value} {fuel : Nat} {listed : Array Bool} {a : Act} {w : World} (hr : Region.ready md ops listed = [i]) (hi : ops[i]? = some oi) (hS : S w) (hy : YieldsIf P ops S oi v a)
    (h : wpZ P md ops Q S z fuel (listed.setIfInBounds i true) (a.put oi.dst v) w) : wpZ P md ops Q S z (fuel + 1) listed a w :=
  ⟨fun h0 => absurd (hr ▸ h0) (by simp), fun j hj => by
    rw [hr] at hj
    obtain rfl := List.mem_singleton.1 hj
    exact hy.wpOp hi hS ⟨fun _ => hS, h⟩⟩
theorem doneZ {listed : Array Bool} {a : Act} {w : World} (hr : Region.ready md ops listed = []) (h : Q .normal a w) : ∀ fuel, wpZ P md ops Q S z fuel listed a w
  | 0 => ⟨hr, h⟩
  | _ + 1 => ⟨fun _ => h, by rw [hr]; simp⟩
theorem regionZ (z : Nat) (S : World → Prop) {id : Nat} {a : Act} {w : World} (hm : P.follows .mixedOrders = true) (hS : S w.drew)
    (h : S w.drew → wpZ P .any ops Q S z ops.size (Array.replicate ops.size false) a w.drew) : (Code.region id ops true).wp P Q a w :=
  wp_region_any hm (wpAny_of_z _ _ _ _ (h hS))
end
end Go.Proofs.YtcaeihfgdlffkaaGreatRRRRDoor.HyW
