/- Products; cuts: Is, Left, Same; equal lists of numbers. -/
import Derived.Test.YtmmgfelifmdnbaaDoorShpW
namespace Go.Proofs.YtmmgfelifmdnbaaDoor.ShpD
set_option linter.unusedVariables false
open Go.RowKit Base SeqM ShpM ShpV ShpW

def dotP (c v : List Int) : Nat → Int
  | 0 => 0
  | k + 1 => dotP c v k + (c[k]?.getD 0) * (v[k]?.getD 0)
/-- the product and its error -/
noncomputable def dotR (c v : List Int) : Int × Int := if partsB c c.length && vecB v c.length then (dotP c v c.length, 0) else (0, 80)
theorem mul4 {c v : Int} (hc : -4 ≤ c ∧ c ≤ 4) (hv : -2147483648 ≤ v ∧ v ≤ 2147483647) : -8589934592 ≤ c * v ∧ c * v ≤ 8589934592 := by
  have : c = -4 ∨ c = -3 ∨ c = -2 ∨ c = -1 ∨ c = 0 ∨ c = 1 ∨ c = 2 ∨ c = 3 ∨ c = 4 := by omega
  rcases this with rfl | rfl | rfl | rfl | rfl | rfl | rfl | rfl | rfl <;> omega
def DRel (c v : List Int) (w : World) (s i : Value) (wr : World) : Prop := ∃ k : Nat, k ≤ c.length ∧ s = .int .i64 (dotP c v k) ∧ i = .int .i64 k ∧ (-8589934592 * (k : Int) ≤ dotP c v k ∧ dotP c v k ≤ 8589934592 * (k : Int)) ∧ ∃ q, wr = w.drewN q
theorem vecB_true {l : List Int} {dim : Int} (h : vecB l dim = true) : (l.length : Int) = dim ∧ ∀ x ∈ l, -2147483648 ≤ x ∧ x ≤ 2147483647 := by
  unfold vecB at h
  rw [Bool.and_eq_true, List.all_eq_true] at h
  exact ⟨(by simpa using h.1 : 1 ≤ dim ∧ dim ≤ 8 ∧ (l.length : Int) = dim).2.2, fun x hx => by simpa [rngB] using h.2 x hx⟩
set_option maxHeartbeats 1000000 in
set_option maxRecDepth 100000 in
theorem Dot_any (cv vv : Value) (c v : List Int) (lo B lo' B' : Nat) (w : World) (h : Seq 1 inC w lo B cv c) (h' : Seq 1 inC w lo' B' vv v) :
    Calls Tryd.prog 67 #[cv, vv] w fun e w' => e = .returned (.tuple #[.int .i64 (dotR c v).1, .int .i64 (dotR c v).2]) ∧ ∃ q, w' = w.drewN q := by
  have HS := Lib.hid h
  have HS' := Lib.hid h'
  obtain ⟨A, cap, rfl, hc1, hc2, hr, _⟩ := h
  obtain ⟨A', cap', rfl, hd1, hd2, hr', _⟩ := h'
  unfold maxLen at hc2 hd2
  have HR := Lib.hid hr
  have HR' := Lib.hid hr'
  have HP := Lib.hid (Parts_any _ c c.length lo B w HS.out)
  have HV := Lib.hid (fun q => VIs_any _ v c.length lo' B' (w.drewN q) HS'.out)
  obtain ⟨n, hn⟩ : ∃ n, c.length = n := ⟨_, rfl⟩
  rw [hn] at HP HV hc1 ⊢
  obtain ⟨n', hn'⟩ : ∃ n, v.length = n := ⟨_, rfl⟩
  rw [hn'] at HV hd1 ⊢
  have HN := Lib.hid hn
  have HN' := Lib.hid hn'
  clear hr hr' hn hn'
  cases hp : partsB c n
  · have F := Lib.hid (show dotR c v = (0, 80) by unfold dotR; rw [HN.out, hp]; rfl)
    go_enter Tryd.func67, Tryd.ntmps67
    go_wp2_with fail
    refine HP.out.mono ?_
    rintro e w1 ⟨rfl, q, rfl⟩
    rw [hp]
    go_wp2_with fail
    go_ret2
    exact ⟨by rw [F.out]; rfl, q, rfl⟩
  · cases hv : vecB v n
    · have F := Lib.hid (show dotR c v = (0, 80) by unfold dotR; rw [HN.out, hp, hv]; rfl)
      go_enter Tryd.func67, Tryd.ntmps67
      go_wp2_with fail
      refine HP.out.mono ?_
      rintro e w1 ⟨rfl, q, rfl⟩
      rw [hp]
      go_wp2_with fail
      refine (HV.out q).mono ?_
      rintro e w1 ⟨rfl, rfl⟩
      rw [hv]
      go_wp2_with fail
      go_ret2
      exact ⟨by rw [F.out]; rfl, q, rfl⟩
    · have F := Lib.hid (show dotR c v = (dotP c v n, 0) by unfold dotR; rw [HN.out, hp, hv]; rfl)
      obtain ⟨_, hn8, _, hc4, _⟩ := partsB_iff.1 hp
      have hn8 : n ≤ 8 := by omega
      obtain ⟨hvl, hvr⟩ := vecB_true hv
      obtain rfl : n' = n := by rw [HN'.out] at hvl; omega
      have HC4 := Lib.hid hc4
      have HVR := Lib.hid hvr
      have H0 := Lib.hid (fun q => show DRel c v w (.int .i64 0) (.int .i64 0) (w.drewN q) from ⟨0, Nat.zero_le _, rfl, rfl, ⟨by simp [dotP], by simp [dotP]⟩, q, rfl⟩)
      clear hc4 hvr hvl
      go_enter Tryd.func67, Tryd.ntmps67
      go_wp2_with fail
      refine HP.out.mono ?_
      rintro e w1 ⟨rfl, q, rfl⟩
      rw [hp]
      go_wp2_with fail
      refine (HV.out q).mono ?_
      rintro e w1 ⟨rfl, rfl⟩
      rw [hv]
      clear hp hv HP HV
      go_wp2_with fail
      go_loopw [6, 23] (fun s i wr => DRel c v w s i wr) (fun _ i _ => n' - (intOf i).toNat)
      case atStart => exact H0.out q
      case round =>
        obtain ⟨k, hk, rfl, rfl, hb, q, rfl⟩ := hrel
        rw [HN.out] at hk
        clear H0
        obtain ⟨S, hS⟩ : ∃ S, dotP c v k = S := ⟨_, rfl⟩
        have HSS := Lib.hid hS
        rw [hS] at hb ⊢
        clear hS
        by_cases hlt : k < n'
        · obtain ⟨ad, x, rfl, _, _, hx, c0⟩ := rdI HR.out (i := k) (by rw [HN.out]; exact hlt)
          obtain ⟨ad', y, rfl, _, _, hy, d0⟩ := rdI HR'.out (i := k) (by rw [HN'.out]; exact hlt)
          have hm := mul4 (HC4.out x (List.mem_of_getElem? hx)) (HVR.out y (List.mem_of_getElem? hy))
          have HD := Lib.hid (show dotP c v (k + 1) = S + x * y by unfold dotP; rw [HSS.out, hx, hy]; rfl)
          have hw1 : wrap64 (x * y) = x * y := IntWalk.wrap64_in _ (by omega)
          obtain ⟨m, hmm⟩ : ∃ m, x * y = m := ⟨_, rfl⟩
          rw [hmm] at hm HD
          have hw2 : wrap64 (S + m) = S + m := IntWalk.wrap64_in _ (by omega)
          rw [hmm] at hw1
          clear hx hy
          go_wp2_with fail
          exact ⟨⟨k + 1, by rw [HN.out]; omega, by rw [HD.out], by go_num, by rw [HD.out]; omega, q, rfl⟩, by simp [intOf]; omega⟩
        · go_wp2_with fail
          go_ret2
          obtain rfl : k = n' := by omega
          exact ⟨by rw [F.out, HSS.out]; rfl, q, rfl⟩
set_option maxHeartbeats 1000000 in
set_option maxRecDepth 100000 in
theorem RDot_any (cv vv : Value) (c v : List Int) (lo B lo' B' : Nat) (w : World) (h : Seq 1 inC w lo B cv c) (h' : Seq 1 inC w lo' B' vv v) :
    Calls Tryd.prog 59 #[cv, vv] w fun e w' => e = .returned (.tuple #[.int .i64 (dotR c v).1, .int .i64 (dotR c v).2]) ∧ ∃ q, w' = w.drewN q := by
  have HS := Lib.hid h
  have HS' := Lib.hid h'
  obtain ⟨A, cap, rfl, hc1, hc2, hr, _⟩ := h
  obtain ⟨A', cap', rfl, hd1, hd2, hr', _⟩ := h'
  unfold maxLen at hc2 hd2
  have HR := Lib.hid hr
  have HR' := Lib.hid hr'
  have HP := Lib.hid (RParts_any _ c c.length lo B w HS.out)
  have HV := Lib.hid (fun q => RIs_any _ v c.length lo' B' (w.drewN q) HS'.out)
  obtain ⟨n, hn⟩ : ∃ n, c.length = n := ⟨_, rfl⟩
  rw [hn] at HP HV hc1 ⊢
  obtain ⟨n', hn'⟩ : ∃ n, v.length = n := ⟨_, rfl⟩
  rw [hn'] at HV hd1 ⊢
  have HN := Lib.hid hn
  have HN' := Lib.hid hn'
  clear hr hr' hn hn'
  cases hp : partsB c n
  · have F := Lib.hid (show dotR c v = (0, 80) by unfold dotR; rw [HN.out, hp]; rfl)
    go_enter Tryd.func59, Tryd.ntmps59
    go_wp2_with fail
    refine HP.out.mono ?_
    rintro e w1 ⟨rfl, rfl⟩
    rw [hp]
    go_wp2_with fail
    go_ret2
    exact ⟨by rw [F.out]; rfl, 0, rfl⟩
  · cases hv : vecB v n
    · have F := Lib.hid (show dotR c v = (0, 80) by unfold dotR; rw [HN.out, hp, hv]; rfl)
      go_enter Tryd.func59, Tryd.ntmps59
      go_wp2_with fail
      refine HP.out.mono ?_
      rintro e w1 ⟨rfl, rfl⟩
      rw [hp]
      go_wp2_with fail
      refine (HV.out 0).mono ?_
      rintro e w1 ⟨rfl, rfl⟩
      rw [hv]
      go_wp2_with fail
      go_ret2
      exact ⟨by rw [F.out]; rfl, 0, rfl⟩
    · have F := Lib.hid (show dotR c v = (dotP c v n, 0) by unfold dotR; rw [HN.out, hp, hv]; rfl)
      obtain ⟨_, hn8, _, hc4, _⟩ := partsB_iff.1 hp
      have hn8 : n ≤ 8 := by omega
      obtain ⟨hvl, hvr⟩ := vecB_true hv
      obtain rfl : n' = n := by rw [HN'.out] at hvl; omega
      have HC4 := Lib.hid hc4
      have HVR := Lib.hid hvr
      have H0 := Lib.hid (fun q => show DRel c v w (.int .i64 0) (.int .i64 0) (w.drewN q) from ⟨0, Nat.zero_le _, rfl, rfl, ⟨by simp [dotP], by simp [dotP]⟩, q, rfl⟩)
      clear hc4 hvr hvl
      go_enter Tryd.func59, Tryd.ntmps59
      go_wp2_with fail
      refine HP.out.mono ?_
      rintro e w1 ⟨rfl, rfl⟩
      rw [hp]
      go_wp2_with fail
      refine (HV.out 0).mono ?_
      rintro e w1 ⟨rfl, rfl⟩
      rw [hv]
      clear hp hv HP HV
      go_wp2_with fail
      go_loopw [6, 7] (fun s i wr => DRel c v w s i wr) (fun _ i _ => n' - (intOf i).toNat)
      case atStart => exact H0.out 0
      case round =>
        obtain ⟨k, hk, rfl, rfl, hb, q, rfl⟩ := hrel
        rw [HN.out] at hk
        clear H0
        obtain ⟨S, hS⟩ : ∃ S, dotP c v k = S := ⟨_, rfl⟩
        have HSS := Lib.hid hS
        rw [hS] at hb ⊢
        clear hS
        by_cases hlt : k < n'
        · obtain ⟨ad, x, rfl, _, _, hx, c0⟩ := rdI HR.out (i := k) (by rw [HN.out]; exact hlt)
          obtain ⟨ad', y, rfl, _, _, hy, d0⟩ := rdI HR'.out (i := k) (by rw [HN'.out]; exact hlt)
          have hm := mul4 (HC4.out x (List.mem_of_getElem? hx)) (HVR.out y (List.mem_of_getElem? hy))
          have HD := Lib.hid (show dotP c v (k + 1) = S + x * y by unfold dotP; rw [HSS.out, hx, hy]; rfl)
          have hw1 : wrap64 (x * y) = x * y := IntWalk.wrap64_in _ (by omega)
          obtain ⟨m, hmm⟩ : ∃ m, x * y = m := ⟨_, rfl⟩
          rw [hmm] at hm HD
          have hw2 : wrap64 (S + m) = S + m := IntWalk.wrap64_in _ (by omega)
          rw [hmm] at hw1
          clear hx hy
          go_wp2_with fail
          go_quiet (fail)
          go_wp2_with fail
          exact ⟨⟨k + 1, by rw [HN.out]; omega, by rw [HD.out], by go_num, by rw [HD.out]; omega, _, rfl⟩, by simp [intOf]; omega⟩
        · go_wp2_with fail
          go_ret2
          obtain rfl : k = n' := by omega
          exact ⟨by rw [F.out, HSS.out]; rfl, q, rfl⟩

/-! ### Cuts -/
noncomputable def cutB (c : List Int) (a dim : Int) : Bool := decide (-137438953472 ≤ a ∧ a ≤ 137438953472) && partsB c dim
theorem cutB_iff {c : List Int} {a dim : Int} : cutB c a dim = true ↔ cutOk c a dim := by
  unfold cutB cutOk
  rw [Bool.and_eq_true, partsB_iff, decide_eq_true_eq]
  exact ⟨fun h => ⟨h.2, h.1⟩, fun h => ⟨h.2, h.1⟩⟩
set_option maxHeartbeats 1000000 in
set_option maxRecDepth 100000 in
theorem CIs_any (cv : Value) (c : List Int) (a dim : Int) (lo : Nat) (w : World) (h : Seq 1 inC w lo w.heap.size cv c) :
    Calls Tryd.prog 54 #[.agg #[cv, .int .i64 a], .int .i64 dim] w fun e w' => e = .returned (.bool (cutB c a dim)) ∧ Below w.heap.size w w' := by
  have HP := Lib.hid (fun w' (hb : Below w.heap.size w w') => Parts_any cv c dim lo w.heap.size w' (h.below hb))
  obtain ⟨A, cap, rfl, _, _, _, _⟩ := h
  obtain ⟨n, hn⟩ : ∃ n, c.length = n := ⟨_, rfl⟩
  rw [hn] at HP ⊢
  clear hn
  by_cases h1 : -137438953472 ≤ a
  · by_cases h2 : a ≤ 137438953472
    · have F := Lib.hid (show cutB c a dim = partsB c dim by unfold cutB; rw [decide_eq_true ⟨h1, h2⟩]; rfl)
      go_enter Tryd.func54, Tryd.ntmps54
      go_wp2_with fail
      refine (HP.out _ (below_a1 _ _)).mono ?_
      rintro e w1 ⟨rfl, q, rfl⟩
      go_wp2_with fail
      go_ret
      exact ⟨ret_bool F.out.symm, below_drewN (below_a1 _ _) q⟩
    · have F := Lib.hid (show cutB c a dim = false by unfold cutB; rw [decide_eq_false (fun h => h2 h.2)]; rfl)
      go_enter Tryd.func54, Tryd.ntmps54
      go_wp2_with fail
      go_ret
      exact ⟨ret_bool F.out.symm, below_a1 _ _⟩
  · have F := Lib.hid (show cutB c a dim = false by unfold cutB; rw [decide_eq_false (fun h => h1 h.1)]; rfl)
    go_enter Tryd.func54, Tryd.ntmps54
    go_wp2_with fail
    go_ret
    exact ⟨ret_bool F.out.symm, below_a1 _ _⟩
set_option maxHeartbeats 1000000 in
set_option maxRecDepth 100000 in
theorem RCIs_any (cv : Value) (c : List Int) (a dim : Int) (lo : Nat) (w : World) (h : Seq 1 inC w lo w.heap.size cv c) :
    Calls Tryd.prog 58 #[.agg #[cv, .int .i64 a], .int .i64 dim] w fun e w' => e = .returned (.bool (cutB c a dim)) ∧ Below w.heap.size w w' := by
  have HP := Lib.hid (fun w' (hb : Below w.heap.size w w') => RParts_any cv c dim lo w.heap.size w' (h.below hb))
  obtain ⟨A, cap, rfl, _, _, _, _⟩ := h
  obtain ⟨n, hn⟩ : ∃ n, c.length = n := ⟨_, rfl⟩
  rw [hn] at HP ⊢
  clear hn
  cases hp : partsB c dim
  · have F := Lib.hid (show cutB c a dim = false by unfold cutB; rw [hp]; simp)
    go_enter Tryd.func58, Tryd.ntmps58
    go_wp2_with fail
    refine (HP.out _ (below_a1 _ _)).mono ?_
    rintro e w1 ⟨rfl, rfl⟩
    rw [hp]
    go_wp2_with fail
    go_ret
    exact ⟨ret_bool F.out.symm, below_a1 _ _⟩
  · by_cases h1 : -137438953472 ≤ a
    · by_cases h2 : a ≤ 137438953472
      · have F := Lib.hid (show cutB c a dim = true by unfold cutB; rw [hp, decide_eq_true ⟨h1, h2⟩]; rfl)
        go_enter Tryd.func58, Tryd.ntmps58
        go_wp2_with fail
        refine (HP.out _ (below_a1 _ _)).mono ?_
        rintro e w1 ⟨rfl, rfl⟩
        rw [hp]
        go_wp2_with fail
        go_ret
        exact ⟨ret_bool F.out.symm, below_a1 _ _⟩
      · have F := Lib.hid (show cutB c a dim = false by unfold cutB; rw [decide_eq_false (fun h => h2 h.2)]; rfl)
        have HA := Lib.hid (decide_eq_false h2)
        go_enter Tryd.func58, Tryd.ntmps58
        go_wp2_with fail
        refine (HP.out _ (below_a1 _ _)).mono ?_
        rintro e w1 ⟨rfl, rfl⟩
        rw [hp]
        go_wp2_with fail
        go_ret
        exact ⟨ret_bool (by rw [F.out]; exact HA.out), below_a1 _ _⟩
    · have F := Lib.hid (show cutB c a dim = false by unfold cutB; rw [decide_eq_false (fun h => h1 h.1)]; rfl)
      go_enter Tryd.func58, Tryd.ntmps58
      go_wp2_with fail
      refine (HP.out _ (below_a1 _ _)).mono ?_
      rintro e w1 ⟨rfl, rfl⟩
      rw [hp]
      go_wp2_with fail
      go_ret
      exact ⟨ret_bool F.out.symm, below_a1 _ _⟩
/-- does a vector go to the left? and the error -/
noncomputable def leftR (c : List Int) (a : Int) (x : List Int) : Bool × Int :=
  if cutB c a c.length then (if (dotR c x).2 = 0 then (decide ((dotR c x).1 < a), 0) else (false, (dotR c x).2)) else (false, 90)
set_option maxHeartbeats 1000000 in
set_option maxRecDepth 100000 in
theorem Left_any (cv xv : Value) (c x : List Int) (a : Int) (lo lo' : Nat) (w : World) (h : Seq 1 inC w lo w.heap.size cv c) (h' : Seq 1 inC w lo' w.heap.size xv x) :
    Calls Tryd.prog 57 #[.agg #[cv, .int .i64 a], xv] w fun e w' => e = .returned (.tuple #[.bool (leftR c a x).1, .int .i64 (leftR c a x).2]) ∧ Below w.heap.size w w' := by
  have HI := Lib.hid (fun w' (hb : Below w.heap.size w w') => CIs_any cv c a c.length lo w' (h.up hb))
  have HD := Lib.hid (fun w' (hb : Below w.heap.size w w') => Dot_any cv xv c x lo w.heap.size lo' w.heap.size w' (h.below hb) (h'.below hb))
  obtain ⟨A, cap, rfl, _, _, _, _⟩ := h
  obtain ⟨n, hn⟩ : ∃ n, c.length = n := ⟨_, rfl⟩
  have HN := Lib.hid hn
  rw [hn] at HI HD ⊢
  clear hn h'
  cases hc : cutB c a n
  · have F := Lib.hid (show leftR c a x = (false, 90) by unfold leftR; rw [HN.out, hc]; rfl)
    go_enter Tryd.func57, Tryd.ntmps57
    go_wp2_with fail
    refine (HI.out _ (below_a1 _ _)).mono ?_
    rintro e w1 ⟨rfl, hb⟩
    rw [hc]
    go_wp2_with fail
    go_ret2
    exact ⟨by rw [F.out]; rfl, bt hb (below_a1 _ _)⟩
  · obtain ⟨d, e, hde⟩ : ∃ d e, dotR c x = (d, e) := ⟨_, _, rfl⟩
    have HDE := Lib.hid hde
    have keep : ∀ w1, Below (w.alloc (.cells #[.slice A n cap, .int .i64 a] 37)).heap.size (w.alloc (.cells #[.slice A n cap, .int .i64 a] 37)) w1 → w1.cell? ⟨w.heap.size, 0, none⟩ = some (.slice A n cap) ∧ w1.cell? ⟨w.heap.size, 1, none⟩ = some (.int .i64 a) := fun w1 hb => ⟨keepA hb (by go_simp), keepA hb (by go_simp)⟩
    by_cases he : e = 0
    · have F := Lib.hid (show leftR c a x = (decide (d < a), 0) by unfold leftR; rw [HN.out, hc, hde, he]; rfl)
      subst he
      go_enter Tryd.func57, Tryd.ntmps57
      go_wp2_with fail
      refine (HI.out _ (below_a1 _ _)).mono ?_
      rintro e w1 ⟨rfl, hb⟩
      rw [hc]
      obtain ⟨k0, k1⟩ := keep w1 hb
      have X1 := Lib.hid (bt hb (below_a1 w _))
      clear hb keep
      go_wp2_with fail
      refine (HD.out _ X1.out).mono ?_
      rintro e w2 ⟨rfl, q, rfl⟩
      rw [HDE.out]
      go_wp2_with fail
      go_ret2
      exact ⟨by rw [F.out]; rfl, below_drewN X1.out q⟩
    · have F := Lib.hid (show leftR c a x = (false, e) by unfold leftR; rw [HN.out, hc, hde]; simp [he])
      have heb : (e != 0) = true := by simpa using he
      go_enter Tryd.func57, Tryd.ntmps57
      go_wp2_with fail
      refine (HI.out _ (below_a1 _ _)).mono ?_
      rintro e w1 ⟨rfl, hb⟩
      rw [hc]
      obtain ⟨k0, k1⟩ := keep w1 hb
      have X1 := Lib.hid (bt hb (below_a1 w _))
      clear hb keep
      go_wp2_with fail
      refine (HD.out _ X1.out).mono ?_
      rintro e w2 ⟨rfl, q, rfl⟩
      rw [HDE.out]
      go_wp2_with fail
      go_ret2
      exact ⟨by rw [F.out]; rfl, below_drewN X1.out q⟩
set_option maxHeartbeats 1000000 in
set_option maxRecDepth 100000 in
theorem RLeft_any (cv xv : Value) (c x : List Int) (a : Int) (lo lo' : Nat) (w : World) (h : Seq 1 inC w lo w.heap.size cv c) (h' : Seq 1 inC w lo' w.heap.size xv x) :
    Calls Tryd.prog 36 #[.agg #[cv, .int .i64 a], xv] w fun e w' => e = .returned (.tuple #[.bool (leftR c a x).1, .int .i64 (leftR c a x).2]) ∧ Below w.heap.size w w' := by
  have HI := Lib.hid (fun w' (hb : Below w.heap.size w w') => RCIs_any cv c a c.length lo w' (h.up hb))
  have HD := Lib.hid (fun w' (hb : Below w.heap.size w w') => RDot_any cv xv c x lo w.heap.size lo' w.heap.size w' (h.below hb) (h'.below hb))
  obtain ⟨A, cap, rfl, _, _, _, _⟩ := h
  obtain ⟨n, hn⟩ : ∃ n, c.length = n := ⟨_, rfl⟩
  have HN := Lib.hid hn
  rw [hn] at HI HD ⊢
  clear hn h'
  cases hc : cutB c a n
  · have F := Lib.hid (show leftR c a x = (false, 90) by unfold leftR; rw [HN.out, hc]; rfl)
    go_enter Tryd.func36, Tryd.ntmps36
    go_wp2_with fail
    refine (HI.out _ (below_a1 _ _)).mono ?_
    rintro e w1 ⟨rfl, hb⟩
    rw [hc]
    go_wp2_with fail
    go_ret2
    exact ⟨by rw [F.out]; rfl, bt hb (below_a1 _ _)⟩
  · obtain ⟨d, e, hde⟩ : ∃ d e, dotR c x = (d, e) := ⟨_, _, rfl⟩
    have HDE := Lib.hid hde
    have keep : ∀ w1, Below (w.alloc (.cells #[.slice A n cap, .int .i64 a] 37)).heap.size (w.alloc (.cells #[.slice A n cap, .int .i64 a] 37)) w1 → w1.cell? ⟨w.heap.size, 0, none⟩ = some (.slice A n cap) ∧ w1.cell? ⟨w.heap.size, 1, none⟩ = some (.int .i64 a) := fun w1 hb => ⟨keepA hb (by go_simp), keepA hb (by go_simp)⟩
    by_cases he : e = 0
    · have F := Lib.hid (show leftR c a x = (decide (d < a), 0) by unfold leftR; rw [HN.out, hc, hde, he]; rfl)
      subst he
      go_enter Tryd.func36, Tryd.ntmps36
      go_wp2_with fail
      refine (HI.out _ (below_a1 _ _)).mono ?_
      rintro e w1 ⟨rfl, hb⟩
      rw [hc]
      obtain ⟨k0, k1⟩ := keep w1 hb
      have X1 := Lib.hid (bt hb (below_a1 w _))
      clear hb keep
      go_wp2_with fail
      refine (HD.out _ X1.out).mono ?_
      rintro e w2 ⟨rfl, q, rfl⟩
      rw [HDE.out]
      go_wp2_with fail
      go_ret2
      exact ⟨by rw [F.out]; rfl, below_drewN X1.out q⟩
    · have F := Lib.hid (show leftR c a x = (false, e) by unfold leftR; rw [HN.out, hc, hde]; simp [he])
      have heb : (e == 0) = false := by simpa using he
      go_enter Tryd.func36, Tryd.ntmps36
      go_wp2_with fail
      refine (HI.out _ (below_a1 _ _)).mono ?_
      rintro e w1 ⟨rfl, hb⟩
      rw [hc]
      obtain ⟨k0, k1⟩ := keep w1 hb
      have X1 := Lib.hid (bt hb (below_a1 w _))
      clear hb keep
      go_wp2_with fail
      refine (HD.out _ X1.out).mono ?_
      rintro e w2 ⟨rfl, q, rfl⟩
      rw [HDE.out]
      go_wp2_with fail
      go_ret2
      exact ⟨by rw [F.out]; rfl, below_drewN X1.out q⟩

def SRel (a b : List Int) (w : World) (i : Value) (wr : World) : Prop := ∃ k : Nat, k ≤ a.length ∧ i = .int .i64 k ∧ a.take k = b.take k ∧ ∃ q, wr = w.drewN q
set_option maxHeartbeats 1000000 in
theorem RSame_any (va vb : Value) (a b : List Int) (lo lo' B B' : Nat) (w : World) (h1 : Seq 1 inC w lo B va a) (h2 : Seq 1 inC w lo' B' vb b) :
    Calls Tryd.prog 11 #[va, vb] w fun e w' => e = .returned (.bool (decide (a = b))) ∧ ∃ q, w' = w.drewN q := by
  obtain ⟨A, ca, rfl, hc1, hc2, hr1, _⟩ := h1
  obtain ⟨A2, cb, rfl, hd1, hd2, hr2, _⟩ := h2
  unfold maxLen at hc2 hd2
  have HR := Lib.hid hr1
  have HR2 := Lib.hid hr2
  by_cases hlen : a.length = b.length
  · have H0 := Lib.hid (show SRel a b w (.int .i64 0) w from ⟨0, Nat.zero_le _, rfl, rfl, 0, rfl⟩)
    obtain ⟨n, hn⟩ : ∃ n, a.length = n := ⟨_, rfl⟩
    have hn2 : b.length = n := by omega
    rw [hn] at hc1 ⊢
    rw [hn2] at hd1 ⊢
    have HN := Lib.hid hn
    have HN2 := Lib.hid hn2
    clear hr1 hr2 hlen hn hn2
    go_enter Tryd.func11, Tryd.ntmps11
    go_wp2
    go_loopw [5] (fun i wr => SRel a b w i wr) (fun i _ => n - (intOf i).toNat)
    case atStart => exact H0.out
    case round =>
      obtain ⟨k, hk, rfl, ht, q, rfl⟩ := hrel
      rw [HN.out] at hk
      have HT := Lib.hid ht
      clear ht H0
      by_cases hlt : k < n
      · obtain ⟨ad, x, rfl, hlo, hb, hx, c1⟩ := rdI HR.out (i := k) (by rw [HN.out]; exact hlt)
        obtain ⟨ad2, y, rfl, hlo2, hb2, hy, d1⟩ := rdI HR2.out (i := k) (by rw [HN2.out]; exact hlt)
        have HX := Lib.hid hx
        have HY := Lib.hid hy
        clear hx hy
        by_cases heq : x = y
        · subst heq
          go_wp2
          go_quiet (fail)
          go_wp2
          exact ⟨⟨k + 1, by rw [HN.out]; omega, by go_num, by rw [take_next HX.out, take_next HY.out, HT.out], _, rfl⟩, by simp [intOf]; omega⟩
        · have F := Lib.hid (show decide (a = b) = false from decide_eq_false (fun e => heq (by have h1 := HX.out; rw [e, HY.out] at h1; exact (Option.some.inj h1).symm)))
          have hb1 : (x != y) = true := by simpa using heq
          clear heq
          go_wp2
          go_quiet (fail)
          go_wp2
          go_ret
          exact ⟨ret_bool F.out.symm, by simp only [World.drewN_drewN]; exact ⟨_, rfl⟩⟩
      · have F := Lib.hid (show decide (a = b) = true from decide_eq_true (by
          have := HT.out
          rw [List.take_of_length_le (by rw [HN.out]; omega), List.take_of_length_le (by rw [HN2.out]; omega)] at this
          exact this))
        go_wp2
        go_ret
        exact ⟨ret_bool F.out.symm, q, rfl⟩
  · have F := Lib.hid (show decide (a = b) = false from decide_eq_false (fun e => hlen (by rw [e])))
    have hne : (a.length == b.length) = false := by simpa using hlen
    clear hlen hr1 hr2
    go_enter Tryd.func11, Tryd.ntmps11
    go_wp2
    go_ret
    exact ⟨ret_bool F.out.symm, 0, rfl⟩
/-- equal cuts -/
def sameC (c : List Int) (a : Int) (d : List Int) (b : Int) : Bool := decide (a = b) && decide (c = d)
set_option maxHeartbeats 1000000 in
set_option maxRecDepth 100000 in
theorem RCSame_any (cv dv : Value) (c d : List Int) (a b : Int) (lo lo' : Nat) (w : World) (h : Seq 1 inC w lo w.heap.size cv c) (h' : Seq 1 inC w lo' w.heap.size dv d) :
    Calls Tryd.prog 35 #[.agg #[cv, .int .i64 a], .agg #[dv, .int .i64 b]] w fun e w' => e = .returned (.bool (sameC c a d b)) ∧ Below w.heap.size w w' := by
  have HD := Lib.hid (fun w' (hb : Below w.heap.size w w') => RSame_any cv dv c d lo lo' w.heap.size w.heap.size w' (h.below hb) (h'.below hb))
  obtain ⟨A, cap, rfl, _, _, _, _⟩ := h
  obtain ⟨A', cap', rfl, _, _, _, _⟩ := h'
  by_cases hab : a = b
  · have F := Lib.hid (show sameC c a d b = decide (c = d) by unfold sameC; rw [hab]; simp)
    have hb1 : (a == b) = true := by simpa using hab
    clear hab
    go_enter Tryd.func35, Tryd.ntmps35
    go_wp2_with fail
    refine (HD.out _ (below_a2 _ _ _)).mono ?_
    rintro e w1 ⟨rfl, q, rfl⟩
    go_wp2_with fail
    go_ret
    exact ⟨ret_bool F.out.symm, below_drewN (below_a2 _ _ _) q⟩
  · have F := Lib.hid (show sameC c a d b = false by unfold sameC; rw [decide_eq_false hab]; rfl)
    have hb1 : (a == b) = false := by simpa using hab
    clear hab
    go_enter Tryd.func35, Tryd.ntmps35
    go_wp2_with fail
    go_ret
    exact ⟨ret_bool F.out.symm, below_a2 _ _ _⟩
end Go.Proofs.YtmmgfelifmdnbaaDoor.ShpD
