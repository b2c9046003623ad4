/- What is right: vec.Is, item.RightAsk, keeps (printed by mkrig.py). -/
import Derived.Test.YtchgfabgighbfaaGreatDoorLinV
import Derived.Deep.QuietTactic
namespace Go.Proofs.YtchgfabgighbfaaGreatDoor.RigW
set_option linter.unusedVariables false
open Go.RowKit Base SeqM ScrM ScrA EqlW LinV

theorem take_next {α : Type} {l : List α} {k : Nat} {x : α} (h : l[k]? = some x) : l.take (k + 1) = l.take k ++ [x] := take_next' h
theorem ret_bool {b c : Bool} (h : b = c) : Ending.returned (.bool b) = Ending.returned (.bool c) := ret_bool' h
def rngB (x : Int) : Bool := decide (-2147483648 ≤ x ∧ x ≤ 2147483647)
def vecB (l : List Int) (dim : Int) : Bool := decide (1 ≤ dim ∧ dim ≤ 8 ∧ (l.length : Int) = dim) && l.all rngB
theorem all_next {α : Type} {l : List α} {k : Nat} {x : α} (h : l[k]? = some x) (f : α → Bool) : (l.take (k + 1)).all f = ((l.take k).all f && f x) := by
  rw [take_next h, List.all_append]; simp
theorem all_no {α : Type} {l : List α} {k : Nat} {f : α → Bool} (h : (l.take k).all f = false) : l.all f = false := by
  rw [List.all_eq_false] at h ⊢
  obtain ⟨x, hx, hf⟩ := h
  exact ⟨x, List.mem_of_mem_take hx, hf⟩
def VRel (l : List Int) (f : Int → Bool) (w : World) (ok i : Value) (wr : World) : Prop := ∃ k : Nat, k ≤ l.length ∧ ok = .bool ((l.take k).all f) ∧ i = .int .i64 k ∧ w = wr
set_option maxHeartbeats 2000000 in
theorem VIs_any (v : Value) (l : List Int) (dim : Int) (lo B : Nat) (w : World) (h : Seq 1 inC w lo B v l) :
    Calls Tryz.prog 46 #[v, .int .i64 dim] w fun e w' => e = .returned (.bool (vecB l dim)) ∧ w = w' := by
  obtain ⟨A, cap, rfl, hc1, hc2, hr, _⟩ := h
  unfold maxLen at hc2
  have HR := Lib.hid hr
  obtain ⟨n, hn⟩ : ∃ n, l.length = n := ⟨_, rfl⟩
  rw [hn] at hc1 ⊢
  have HN := Lib.hid hn
  clear hr hn
  by_cases hd : 1 ≤ dim ∧ dim ≤ 8 ∧ (n : Int) = dim
  · have HV := Lib.hid (show vecB l dim = l.all rngB by unfold vecB; rw [decide_eq_true (by rw [HN.out]; exact hd)]; rfl)
    obtain ⟨h1, h2, h3⟩ := hd
    have h3b : ((n : Int) == dim) = true := by simpa using h3
    have H0 := Lib.hid (show VRel l rngB w (.bool true) (.int .i64 0) w from ⟨0, Nat.zero_le _, by simp, rfl, rfl⟩)
    clear h3
    go_enter Tryz.func46, Tryz.ntmps46
    go_wp2
    go_loopw [5, 6] (fun ok i wr => VRel l rngB w ok i wr) (fun _ i _ => n - (intOf i).toNat)
    case atStart => exact H0.out
    case round =>
      obtain ⟨k, hk, rfl, rfl, rfl⟩ := hrel
      rw [HN.out] at hk
      clear H0
      cases hb : (l.take k).all rngB
      · have F := Lib.hid (show vecB l dim = false by rw [HV.out, all_no hb])
        clear hb
        go_wp2
        go_ret
        exact ⟨ret_bool F.out.symm, rfl⟩
      · have HT := Lib.hid hb
        clear hb
        by_cases hlt : k < n
        · obtain ⟨ad, x, rfl, _, _, hx, c0⟩ := rdI HR.out (i := k) (by rw [HN.out]; exact hlt)
          have HX := Lib.hid (all_next hx rngB)
          clear hx
          by_cases hx1 : -2147483648 ≤ x
          · by_cases hx2 : x ≤ 2147483647
            · have HB := Lib.hid (show rngB x = true from decide_eq_true ⟨hx1, hx2⟩)
              go_wp2
              exact ⟨⟨k + 1, by rw [HN.out]; omega, by rw [HX.out, HT.out, HB.out]; rfl, by go_num, rfl⟩, by simp [intOf]; omega⟩
            · have HB := Lib.hid (show rngB x = false from decide_eq_false (fun h => hx2 h.2))
              go_wp2
              exact ⟨⟨k + 1, by rw [HN.out]; omega, by rw [HX.out, HT.out, HB.out]; rfl, by go_num, rfl⟩, by simp [intOf]; omega⟩
          · have HB := Lib.hid (show rngB x = false from decide_eq_false (fun h => hx1 h.1))
            go_wp2
            exact ⟨⟨k + 1, by rw [HN.out]; omega, by rw [HX.out, HT.out, HB.out]; rfl, by go_num, rfl⟩, by simp [intOf]; omega⟩
        · have F := Lib.hid (show vecB l dim = true by
            have := HT.out
            rw [List.take_of_length_le (by rw [HN.out]; omega)] at this
            rw [HV.out, this])
          go_wp2
          go_ret
          exact ⟨ret_bool F.out.symm, rfl⟩
  · have F := Lib.hid (show vecB l dim = false by unfold vecB; rw [decide_eq_false (by rw [HN.out]; exact hd)]; rfl)
    by_cases h1 : 1 ≤ dim
    · by_cases h2 : dim ≤ 8
      · have h3 : ((n : Int) == dim) = false := by rw [beq_eq_false_iff_ne]; exact fun h => hd ⟨h1, h2, h⟩
        clear hd
        go_enter Tryz.func46, Tryz.ntmps46
        go_wp2
        go_loopw [5] (fun ok wr => ok = .bool false ∧ w = wr) (fun _ _ => 0)
        case atStart => exact ⟨rfl, rfl⟩
        case round =>
          obtain ⟨rfl, rfl⟩ := hrel
          go_wp2
          go_ret
          exact ⟨ret_bool F.out.symm, rfl⟩
      · clear hd
        go_enter Tryz.func46, Tryz.ntmps46
        go_wp2
        go_loopw [5] (fun ok wr => ok = .bool false ∧ w = wr) (fun _ _ => 0)
        case atStart => exact ⟨rfl, rfl⟩
        case round =>
          obtain ⟨rfl, rfl⟩ := hrel
          go_wp2
          go_ret
          exact ⟨ret_bool F.out.symm, rfl⟩
    · clear hd
      go_enter Tryz.func46, Tryz.ntmps46
      go_wp2
      go_loopw [5] (fun ok wr => ok = .bool false ∧ w = wr) (fun _ _ => 0)
      case atStart => exact ⟨rfl, rfl⟩
      case round =>
        obtain ⟨rfl, rfl⟩ := hrel
        go_wp2
        go_ret
        exact ⟨ret_bool F.out.symm, rfl⟩
open Classical in
noncomputable def askB (a : Ak) : Bool := decide (askOk a)
open Classical in
theorem ask_yes {a : Ak} (h : askOk a) : Ending.returned (.bool true) = Ending.returned (.bool (askB a)) := by unfold askB; rw [decide_eq_true h]
open Classical in
theorem ask_no {a : Ak} (h : ¬ askOk a) : Ending.returned (.bool false) = Ending.returned (.bool (askB a)) := by unfold askB; rw [decide_eq_false h]
theorem vec_yes {l : List Int} (h : vecB l l.length = true) : l.length ≤ 8 ∧ ∀ x ∈ l, -2147483648 ≤ x ∧ x ≤ 2147483647 := by
  unfold vecB at h
  rw [Bool.and_eq_true] at h
  have h1 := of_decide_eq_true h.1
  exact ⟨by omega, fun x hx => of_decide_eq_true (List.all_eq_true.1 h.2 x hx)⟩
theorem vec_no {l : List Int} (h : vecB l l.length = false) (hl : 0 < l.length) : ¬ (l.length ≤ 8 ∧ ∀ x ∈ l, -2147483648 ≤ x ∧ x ≤ 2147483647) := fun h' => by
  have : vecB l l.length = true := by
    unfold vecB
    rw [Bool.and_eq_true]
    exact ⟨decide_eq_true ⟨by omega, by omega, rfl⟩, List.all_eq_true.2 fun x hx => decide_eq_true (h'.2 x hx)⟩
  rw [h] at this
  cases this
set_option maxHeartbeats 8000000 in
set_option maxRecDepth 100000 in
theorem RightAsk_1 (xv : Value) (i : Int) (xs : List Int) (n m : Int) (w : World) (h : Seq 1 inC w 0 w.heap.size xv xs) :
    Calls Tryz.prog 21 #[.agg #[.int .i64 1, .int .i64 i, xv, .int .i64 n, .int .i64 m]] w fun e w' => e = .returned (.bool (askB ⟨1, i, xs, n, m⟩)) ∧ Below w.heap.size w w' := by
  have HX := Lib.hid (fun (W : World) (hb : Below w.heap.size w W) => h.up hb)
  obtain ⟨XA, xc, rfl, xc1, xc2, _⟩ := id h
  obtain ⟨xn, hxn⟩ : ∃ n, xs.length = n := ⟨_, rfl⟩
  have HXN := Lib.hid hxn
  rw [hxn] at HX xc1 ⊢
  clear h hxn
  go_enter Tryz.func21, Tryz.ntmps21
  go_wp2_with fail
  refine (names_any 1 _).mono ?_
  rintro e w1 ⟨rfl, rfl⟩
  rw [show namesV 1 = (3, true) from rfl]
  go_wp2_with fail
  refine (few_any i _).mono ?_
  rintro e w1 ⟨rfl, rfl⟩
  by_cases fi : 0 ≤ i ∧ i ≤ 1099511627776
  · rw [decide_eq_true fi]
    go_wp2_with fail
    refine (few_any n _).mono ?_
    rintro e w1 ⟨rfl, rfl⟩
    by_cases fn : 0 ≤ n ∧ n ≤ 1099511627776
    · rw [decide_eq_true fn]
      go_wp2_with fail
      refine (few_any m _).mono ?_
      rintro e w1 ⟨rfl, rfl⟩
      by_cases fm : 0 ≤ m ∧ m ≤ 1099511627776
      · rw [decide_eq_true fm]
        by_cases hx0 : xs = []
        · subst hx0
          have hz : xn = 0 := HXN.out.symm
          subst hz
          by_cases en : n = 0
          · subst en
            by_cases em : m = 0
            · subst em
              go_wp2_with fail
              go_ret
              exact ⟨ask_yes ⟨⟨show (1 : Int) ≤ 1 by decide, show (1 : Int) ≤ 7 by decide⟩, Nat.zero_le _, fi, fn, fm, by simp, .inl rfl, .inl rfl, .inr (.inr rfl), .inr rfl⟩, below_a1 _ _⟩
            · have qm : (m == 0) = false := beq_eq_false_iff_ne.2 em
              go_wp2_with fail
              go_ret
              exact ⟨ask_no (fun h => em (by have := h.2.2.2.2.2.2.2.2.2; simpa using this)), below_a1 _ _⟩
          · have qn : (n == 0) = false := beq_eq_false_iff_ne.2 en
            go_wp2_with fail
            go_ret
            exact ⟨ask_no (fun h => en (by have := h.2.2.2.2.2.2.2.2.1; simpa using this)), below_a1 _ _⟩
        · have hxn0 : 0 < xn := by rw [← HXN.out]; exact List.length_pos_iff.2 hx0
          have hdx : decide ((xn : Int) > 0) = true := decide_eq_true (by omega)
          have hex : ((xn : Int) == 0) = false := beq_eq_false_iff_ne.2 (by omega)
          go_wp2_with fail
          refine (VIs_any _ _ _ 0 _ _ (HX.out _ (below_a1 _ _))).mono ?_
          rintro e w1 ⟨rfl, rfl⟩
          cases hv : vecB xs xn with
          | false =>
            have HV := Lib.hid (vec_no (l := xs) (by rw [HXN.out]; exact hv) (by rw [HXN.out]; exact hxn0))
            clear hv
            go_wp2_with fail
            go_ret
            exact ⟨ask_no (fun h => HV.out ⟨h.2.1, h.2.2.2.2.2.1⟩), below_a1 _ _⟩
          | true =>
            have HV := Lib.hid (vec_yes (l := xs) (by rw [HXN.out]; exact hv))
            clear hv
            by_cases en : n = 0
            · subst en
              by_cases em : m = 0
              · subst em
                go_wp2_with fail
                go_ret
                exact ⟨ask_yes ⟨⟨show (1 : Int) ≤ 1 by decide, show (1 : Int) ≤ 7 by decide⟩, HV.out.1, fi, fn, fm, HV.out.2, .inl rfl, .inl rfl, .inr (.inr rfl), .inr rfl⟩, below_a1 _ _⟩
              · have qm : (m == 0) = false := beq_eq_false_iff_ne.2 em
                go_wp2_with fail
                go_ret
                exact ⟨ask_no (fun h => em (by have := h.2.2.2.2.2.2.2.2.2; simpa using this)), below_a1 _ _⟩
            · have qn : (n == 0) = false := beq_eq_false_iff_ne.2 en
              go_wp2_with fail
              go_ret
              exact ⟨ask_no (fun h => en (by have := h.2.2.2.2.2.2.2.2.1; simpa using this)), below_a1 _ _⟩
      · rw [decide_eq_false fm]
        go_wp2_with fail
        go_ret
        exact ⟨ask_no (fun h => fm h.2.2.2.2.1), below_a1 _ _⟩
    · rw [decide_eq_false fn]
      go_wp2_with fail
      go_ret
      exact ⟨ask_no (fun h => fn h.2.2.2.1), below_a1 _ _⟩
  · rw [decide_eq_false fi]
    go_wp2_with fail
    go_ret
    exact ⟨ask_no (fun h => fi h.2.2.1), below_a1 _ _⟩
set_option maxHeartbeats 8000000 in
set_option maxRecDepth 100000 in
theorem RightAsk_2 (xv : Value) (i : Int) (xs : List Int) (n m : Int) (w : World) (h : Seq 1 inC w 0 w.heap.size xv xs) :
    Calls Tryz.prog 21 #[.agg #[.int .i64 2, .int .i64 i, xv, .int .i64 n, .int .i64 m]] w fun e w' => e = .returned (.bool (askB ⟨2, i, xs, n, m⟩)) ∧ Below w.heap.size w w' := by
  have HX := Lib.hid (fun (W : World) (hb : Below w.heap.size w W) => h.up hb)
  obtain ⟨XA, xc, rfl, xc1, xc2, _⟩ := id h
  obtain ⟨xn, hxn⟩ : ∃ n, xs.length = n := ⟨_, rfl⟩
  have HXN := Lib.hid hxn
  rw [hxn] at HX xc1 ⊢
  clear h hxn
  go_enter Tryz.func21, Tryz.ntmps21
  go_wp2_with fail
  refine (names_any 2 _).mono ?_
  rintro e w1 ⟨rfl, rfl⟩
  rw [show namesV 2 = (2, true) from rfl]
  go_wp2_with fail
  refine (few_any i _).mono ?_
  rintro e w1 ⟨rfl, rfl⟩
  by_cases fi : 0 ≤ i ∧ i ≤ 1099511627776
  · rw [decide_eq_true fi]
    go_wp2_with fail
    refine (few_any n _).mono ?_
    rintro e w1 ⟨rfl, rfl⟩
    by_cases fn : 0 ≤ n ∧ n ≤ 1099511627776
    · rw [decide_eq_true fn]
      go_wp2_with fail
      refine (few_any m _).mono ?_
      rintro e w1 ⟨rfl, rfl⟩
      by_cases fm : 0 ≤ m ∧ m ≤ 1099511627776
      · rw [decide_eq_true fm]
        by_cases hx0 : xs = []
        · subst hx0
          have hz : xn = 0 := HXN.out.symm
          subst hz
          by_cases ei : i = 0
          · subst ei
            by_cases en : n = 0
            · subst en
              by_cases em : m = 0
              · subst em
                go_wp2_with fail
                go_ret
                exact ⟨ask_yes ⟨⟨show (1 : Int) ≤ 2 by decide, show (2 : Int) ≤ 7 by decide⟩, Nat.zero_le _, fi, fn, fm, by simp, .inr rfl, .inr (.inl rfl), .inr (.inr rfl), .inr rfl⟩, below_a1 _ _⟩
              · have qm : (m == 0) = false := beq_eq_false_iff_ne.2 em
                go_wp2_with fail
                go_ret
                exact ⟨ask_no (fun h => em (by have := h.2.2.2.2.2.2.2.2.2; simpa using this)), below_a1 _ _⟩
            · have qn : (n == 0) = false := beq_eq_false_iff_ne.2 en
              go_wp2_with fail
              go_ret
              exact ⟨ask_no (fun h => en (by have := h.2.2.2.2.2.2.2.2.1; simpa using this)), below_a1 _ _⟩
          · have qi : (i == 0) = false := beq_eq_false_iff_ne.2 ei
            go_wp2_with fail
            go_ret
            exact ⟨ask_no (fun h => ei (by have := h.2.2.2.2.2.2.1; simpa using this)), below_a1 _ _⟩
        · have hxn0 : 0 < xn := by rw [← HXN.out]; exact List.length_pos_iff.2 hx0
          have hdx : decide ((xn : Int) > 0) = true := decide_eq_true (by omega)
          have hex : ((xn : Int) == 0) = false := beq_eq_false_iff_ne.2 (by omega)
          go_wp2_with fail
          refine (VIs_any _ _ _ 0 _ _ (HX.out _ (below_a1 _ _))).mono ?_
          rintro e w1 ⟨rfl, rfl⟩
          cases hv : vecB xs xn with
          | false =>
            have HV := Lib.hid (vec_no (l := xs) (by rw [HXN.out]; exact hv) (by rw [HXN.out]; exact hxn0))
            clear hv
            go_wp2_with fail
            go_ret
            exact ⟨ask_no (fun h => HV.out ⟨h.2.1, h.2.2.2.2.2.1⟩), below_a1 _ _⟩
          | true =>
            have HV := Lib.hid (vec_yes (l := xs) (by rw [HXN.out]; exact hv))
            clear hv
            by_cases ei : i = 0
            · subst ei
              by_cases en : n = 0
              · subst en
                by_cases em : m = 0
                · subst em
                  go_wp2_with fail
                  go_ret
                  exact ⟨ask_yes ⟨⟨show (1 : Int) ≤ 2 by decide, show (2 : Int) ≤ 7 by decide⟩, HV.out.1, fi, fn, fm, HV.out.2, .inr rfl, .inr (.inl rfl), .inr (.inr rfl), .inr rfl⟩, below_a1 _ _⟩
                · have qm : (m == 0) = false := beq_eq_false_iff_ne.2 em
                  go_wp2_with fail
                  go_ret
                  exact ⟨ask_no (fun h => em (by have := h.2.2.2.2.2.2.2.2.2; simpa using this)), below_a1 _ _⟩
              · have qn : (n == 0) = false := beq_eq_false_iff_ne.2 en
                go_wp2_with fail
                go_ret
                exact ⟨ask_no (fun h => en (by have := h.2.2.2.2.2.2.2.2.1; simpa using this)), below_a1 _ _⟩
            · have qi : (i == 0) = false := beq_eq_false_iff_ne.2 ei
              go_wp2_with fail
              go_ret
              exact ⟨ask_no (fun h => ei (by have := h.2.2.2.2.2.2.1; simpa using this)), below_a1 _ _⟩
      · rw [decide_eq_false fm]
        go_wp2_with fail
        go_ret
        exact ⟨ask_no (fun h => fm h.2.2.2.2.1), below_a1 _ _⟩
    · rw [decide_eq_false fn]
      go_wp2_with fail
      go_ret
      exact ⟨ask_no (fun h => fn h.2.2.2.1), below_a1 _ _⟩
  · rw [decide_eq_false fi]
    go_wp2_with fail
    go_ret
    exact ⟨ask_no (fun h => fi h.2.2.1), below_a1 _ _⟩
set_option maxHeartbeats 8000000 in
set_option maxRecDepth 100000 in
theorem RightAsk_7 (xv : Value) (i : Int) (xs : List Int) (n m : Int) (w : World) (h : Seq 1 inC w 0 w.heap.size xv xs) :
    Calls Tryz.prog 21 #[.agg #[.int .i64 7, .int .i64 i, xv, .int .i64 n, .int .i64 m]] w fun e w' => e = .returned (.bool (askB ⟨7, i, xs, n, m⟩)) ∧ Below w.heap.size w w' := by
  have HX := Lib.hid (fun (W : World) (hb : Below w.heap.size w W) => h.up hb)
  obtain ⟨XA, xc, rfl, xc1, xc2, _⟩ := id h
  obtain ⟨xn, hxn⟩ : ∃ n, xs.length = n := ⟨_, rfl⟩
  have HXN := Lib.hid hxn
  rw [hxn] at HX xc1 ⊢
  clear h hxn
  go_enter Tryz.func21, Tryz.ntmps21
  go_wp2_with fail
  refine (names_any 7 _).mono ?_
  rintro e w1 ⟨rfl, rfl⟩
  rw [show namesV 7 = (2, true) from rfl]
  go_wp2_with fail
  refine (few_any i _).mono ?_
  rintro e w1 ⟨rfl, rfl⟩
  by_cases fi : 0 ≤ i ∧ i ≤ 1099511627776
  · rw [decide_eq_true fi]
    go_wp2_with fail
    refine (few_any n _).mono ?_
    rintro e w1 ⟨rfl, rfl⟩
    by_cases fn : 0 ≤ n ∧ n ≤ 1099511627776
    · rw [decide_eq_true fn]
      go_wp2_with fail
      refine (few_any m _).mono ?_
      rintro e w1 ⟨rfl, rfl⟩
      by_cases fm : 0 ≤ m ∧ m ≤ 1099511627776
      · rw [decide_eq_true fm]
        by_cases hx0 : xs = []
        · subst hx0
          have hz : xn = 0 := HXN.out.symm
          subst hz
          by_cases ei : i = 0
          · subst ei
            by_cases en : n = 0
            · subst en
              by_cases em : m = 0
              · subst em
                go_wp2_with fail
                go_ret
                exact ⟨ask_yes ⟨⟨show (1 : Int) ≤ 7 by decide, show (7 : Int) ≤ 7 by decide⟩, Nat.zero_le _, fi, fn, fm, by simp, .inr rfl, .inr (.inr (.inl rfl)), .inr (.inr rfl), .inr rfl⟩, below_a1 _ _⟩
              · have qm : (m == 0) = false := beq_eq_false_iff_ne.2 em
                go_wp2_with fail
                go_ret
                exact ⟨ask_no (fun h => em (by have := h.2.2.2.2.2.2.2.2.2; simpa using this)), below_a1 _ _⟩
            · have qn : (n == 0) = false := beq_eq_false_iff_ne.2 en
              go_wp2_with fail
              go_ret
              exact ⟨ask_no (fun h => en (by have := h.2.2.2.2.2.2.2.2.1; simpa using this)), below_a1 _ _⟩
          · have qi : (i == 0) = false := beq_eq_false_iff_ne.2 ei
            go_wp2_with fail
            go_ret
            exact ⟨ask_no (fun h => ei (by have := h.2.2.2.2.2.2.1; simpa using this)), below_a1 _ _⟩
        · have hxn0 : 0 < xn := by rw [← HXN.out]; exact List.length_pos_iff.2 hx0
          have hdx : decide ((xn : Int) > 0) = true := decide_eq_true (by omega)
          have hex : ((xn : Int) == 0) = false := beq_eq_false_iff_ne.2 (by omega)
          go_wp2_with fail
          refine (VIs_any _ _ _ 0 _ _ (HX.out _ (below_a1 _ _))).mono ?_
          rintro e w1 ⟨rfl, rfl⟩
          cases hv : vecB xs xn with
          | false =>
            have HV := Lib.hid (vec_no (l := xs) (by rw [HXN.out]; exact hv) (by rw [HXN.out]; exact hxn0))
            clear hv
            go_wp2_with fail
            go_ret
            exact ⟨ask_no (fun h => HV.out ⟨h.2.1, h.2.2.2.2.2.1⟩), below_a1 _ _⟩
          | true =>
            have HV := Lib.hid (vec_yes (l := xs) (by rw [HXN.out]; exact hv))
            clear hv
            by_cases ei : i = 0
            · subst ei
              by_cases en : n = 0
              · subst en
                by_cases em : m = 0
                · subst em
                  go_wp2_with fail
                  go_ret
                  exact ⟨ask_yes ⟨⟨show (1 : Int) ≤ 7 by decide, show (7 : Int) ≤ 7 by decide⟩, HV.out.1, fi, fn, fm, HV.out.2, .inr rfl, .inr (.inr (.inl rfl)), .inr (.inr rfl), .inr rfl⟩, below_a1 _ _⟩
                · have qm : (m == 0) = false := beq_eq_false_iff_ne.2 em
                  go_wp2_with fail
                  go_ret
                  exact ⟨ask_no (fun h => em (by have := h.2.2.2.2.2.2.2.2.2; simpa using this)), below_a1 _ _⟩
              · have qn : (n == 0) = false := beq_eq_false_iff_ne.2 en
                go_wp2_with fail
                go_ret
                exact ⟨ask_no (fun h => en (by have := h.2.2.2.2.2.2.2.2.1; simpa using this)), below_a1 _ _⟩
            · have qi : (i == 0) = false := beq_eq_false_iff_ne.2 ei
              go_wp2_with fail
              go_ret
              exact ⟨ask_no (fun h => ei (by have := h.2.2.2.2.2.2.1; simpa using this)), below_a1 _ _⟩
      · rw [decide_eq_false fm]
        go_wp2_with fail
        go_ret
        exact ⟨ask_no (fun h => fm h.2.2.2.2.1), below_a1 _ _⟩
    · rw [decide_eq_false fn]
      go_wp2_with fail
      go_ret
      exact ⟨ask_no (fun h => fn h.2.2.2.1), below_a1 _ _⟩
  · rw [decide_eq_false fi]
    go_wp2_with fail
    go_ret
    exact ⟨ask_no (fun h => fi h.2.2.1), below_a1 _ _⟩
set_option maxHeartbeats 8000000 in
set_option maxRecDepth 100000 in
theorem RightAsk_3 (xv : Value) (i : Int) (xs : List Int) (n m : Int) (w : World) (h : Seq 1 inC w 0 w.heap.size xv xs) :
    Calls Tryz.prog 21 #[.agg #[.int .i64 3, .int .i64 i, xv, .int .i64 n, .int .i64 m]] w fun e w' => e = .returned (.bool (askB ⟨3, i, xs, n, m⟩)) ∧ Below w.heap.size w w' := by
  have HX := Lib.hid (fun (W : World) (hb : Below w.heap.size w W) => h.up hb)
  obtain ⟨XA, xc, rfl, xc1, xc2, _⟩ := id h
  obtain ⟨xn, hxn⟩ : ∃ n, xs.length = n := ⟨_, rfl⟩
  have HXN := Lib.hid hxn
  rw [hxn] at HX xc1 ⊢
  clear h hxn
  go_enter Tryz.func21, Tryz.ntmps21
  go_wp2_with fail
  refine (names_any 3 _).mono ?_
  rintro e w1 ⟨rfl, rfl⟩
  rw [show namesV 3 = (12, true) from rfl]
  go_wp2_with fail
  refine (few_any i _).mono ?_
  rintro e w1 ⟨rfl, rfl⟩
  by_cases fi : 0 ≤ i ∧ i ≤ 1099511627776
  · rw [decide_eq_true fi]
    go_wp2_with fail
    refine (few_any n _).mono ?_
    rintro e w1 ⟨rfl, rfl⟩
    by_cases fn : 0 ≤ n ∧ n ≤ 1099511627776
    · rw [decide_eq_true fn]
      go_wp2_with fail
      refine (few_any m _).mono ?_
      rintro e w1 ⟨rfl, rfl⟩
      by_cases fm : 0 ≤ m ∧ m ≤ 1099511627776
      · rw [decide_eq_true fm]
        by_cases hx0 : xs = []
        · subst hx0
          have hz : xn = 0 := HXN.out.symm
          subst hz
          by_cases ei : i = 0
          · subst ei
            go_wp2_with fail
            go_ret
            exact ⟨ask_yes ⟨⟨show (1 : Int) ≤ 3 by decide, show (3 : Int) ≤ 7 by decide⟩, Nat.zero_le _, fi, fn, fm, by simp, .inr rfl, .inr (.inr (.inr rfl)), .inl rfl, .inl rfl⟩, below_a1 _ _⟩
          · have qi : (i == 0) = false := beq_eq_false_iff_ne.2 ei
            go_wp2_with fail
            go_ret
            exact ⟨ask_no (fun h => ei (by have := h.2.2.2.2.2.2.1; simpa using this)), below_a1 _ _⟩
        · have hxn0 : 0 < xn := by rw [← HXN.out]; exact List.length_pos_iff.2 hx0
          have hdx : decide ((xn : Int) > 0) = true := decide_eq_true (by omega)
          have hex : ((xn : Int) == 0) = false := beq_eq_false_iff_ne.2 (by omega)
          go_wp2_with fail
          refine (VIs_any _ _ _ 0 _ _ (HX.out _ (below_a1 _ _))).mono ?_
          rintro e w1 ⟨rfl, rfl⟩
          cases hv : vecB xs xn with
          | false =>
            have HV := Lib.hid (vec_no (l := xs) (by rw [HXN.out]; exact hv) (by rw [HXN.out]; exact hxn0))
            clear hv
            go_wp2_with fail
            go_ret
            exact ⟨ask_no (fun h => HV.out ⟨h.2.1, h.2.2.2.2.2.1⟩), below_a1 _ _⟩
          | true =>
            have HV := Lib.hid (vec_yes (l := xs) (by rw [HXN.out]; exact hv))
            clear hv
            by_cases ei : i = 0
            · have qi : (i == 0) = true := beq_iff_eq.2 ei
              go_wp2_with fail
              go_ret
              exact ⟨ask_no (fun h => hx0 (by have := h.2.2.2.2.2.2.2.1; simpa using this)), below_a1 _ _⟩
            · have qi : (i == 0) = false := beq_eq_false_iff_ne.2 ei
              go_wp2_with fail
              go_ret
              exact ⟨ask_no (fun h => ei (by have := h.2.2.2.2.2.2.1; simpa using this)), below_a1 _ _⟩
      · rw [decide_eq_false fm]
        go_wp2_with fail
        go_ret
        exact ⟨ask_no (fun h => fm h.2.2.2.2.1), below_a1 _ _⟩
    · rw [decide_eq_false fn]
      go_wp2_with fail
      go_ret
      exact ⟨ask_no (fun h => fn h.2.2.2.1), below_a1 _ _⟩
  · rw [decide_eq_false fi]
    go_wp2_with fail
    go_ret
    exact ⟨ask_no (fun h => fi h.2.2.1), below_a1 _ _⟩
set_option maxHeartbeats 8000000 in
set_option maxRecDepth 100000 in
theorem RightAsk_4 (xv : Value) (i : Int) (xs : List Int) (n m : Int) (w : World) (h : Seq 1 inC w 0 w.heap.size xv xs) :
    Calls Tryz.prog 21 #[.agg #[.int .i64 4, .int .i64 i, xv, .int .i64 n, .int .i64 m]] w fun e w' => e = .returned (.bool (askB ⟨4, i, xs, n, m⟩)) ∧ Below w.heap.size w w' := by
  have HX := Lib.hid (fun (W : World) (hb : Below w.heap.size w W) => h.up hb)
  obtain ⟨XA, xc, rfl, xc1, xc2, _⟩ := id h
  obtain ⟨xn, hxn⟩ : ∃ n, xs.length = n := ⟨_, rfl⟩
  have HXN := Lib.hid hxn
  rw [hxn] at HX xc1 ⊢
  clear h hxn
  go_enter Tryz.func21, Tryz.ntmps21
  go_wp2_with fail
  refine (names_any 4 _).mono ?_
  rintro e w1 ⟨rfl, rfl⟩
  rw [show namesV 4 = (4, true) from rfl]
  go_wp2_with fail
  refine (few_any i _).mono ?_
  rintro e w1 ⟨rfl, rfl⟩
  by_cases fi : 0 ≤ i ∧ i ≤ 1099511627776
  · rw [decide_eq_true fi]
    go_wp2_with fail
    refine (few_any n _).mono ?_
    rintro e w1 ⟨rfl, rfl⟩
    by_cases fn : 0 ≤ n ∧ n ≤ 1099511627776
    · rw [decide_eq_true fn]
      go_wp2_with fail
      refine (few_any m _).mono ?_
      rintro e w1 ⟨rfl, rfl⟩
      by_cases fm : 0 ≤ m ∧ m ≤ 1099511627776
      · rw [decide_eq_true fm]
        by_cases hx0 : xs = []
        · subst hx0
          have hz : xn = 0 := HXN.out.symm
          subst hz
          by_cases ei : i = 0
          · subst ei
            by_cases em : m = 0
            · subst em
              go_wp2_with fail
              go_ret
              exact ⟨ask_yes ⟨⟨show (1 : Int) ≤ 4 by decide, show (4 : Int) ≤ 7 by decide⟩, Nat.zero_le _, fi, fn, fm, by simp, .inr rfl, .inr (.inr (.inr rfl)), .inr (.inl rfl), .inr rfl⟩, below_a1 _ _⟩
            · have qm : (m == 0) = false := beq_eq_false_iff_ne.2 em
              go_wp2_with fail
              go_ret
              exact ⟨ask_no (fun h => em (by have := h.2.2.2.2.2.2.2.2.2; simpa using this)), below_a1 _ _⟩
          · have qi : (i == 0) = false := beq_eq_false_iff_ne.2 ei
            go_wp2_with fail
            go_ret
            exact ⟨ask_no (fun h => ei (by have := h.2.2.2.2.2.2.1; simpa using this)), below_a1 _ _⟩
        · have hxn0 : 0 < xn := by rw [← HXN.out]; exact List.length_pos_iff.2 hx0
          have hdx : decide ((xn : Int) > 0) = true := decide_eq_true (by omega)
          have hex : ((xn : Int) == 0) = false := beq_eq_false_iff_ne.2 (by omega)
          go_wp2_with fail
          refine (VIs_any _ _ _ 0 _ _ (HX.out _ (below_a1 _ _))).mono ?_
          rintro e w1 ⟨rfl, rfl⟩
          cases hv : vecB xs xn with
          | false =>
            have HV := Lib.hid (vec_no (l := xs) (by rw [HXN.out]; exact hv) (by rw [HXN.out]; exact hxn0))
            clear hv
            go_wp2_with fail
            go_ret
            exact ⟨ask_no (fun h => HV.out ⟨h.2.1, h.2.2.2.2.2.1⟩), below_a1 _ _⟩
          | true =>
            have HV := Lib.hid (vec_yes (l := xs) (by rw [HXN.out]; exact hv))
            clear hv
            by_cases ei : i = 0
            · have qi : (i == 0) = true := beq_iff_eq.2 ei
              go_wp2_with fail
              go_ret
              exact ⟨ask_no (fun h => hx0 (by have := h.2.2.2.2.2.2.2.1; simpa using this)), below_a1 _ _⟩
            · have qi : (i == 0) = false := beq_eq_false_iff_ne.2 ei
              go_wp2_with fail
              go_ret
              exact ⟨ask_no (fun h => ei (by have := h.2.2.2.2.2.2.1; simpa using this)), below_a1 _ _⟩
      · rw [decide_eq_false fm]
        go_wp2_with fail
        go_ret
        exact ⟨ask_no (fun h => fm h.2.2.2.2.1), below_a1 _ _⟩
    · rw [decide_eq_false fn]
      go_wp2_with fail
      go_ret
      exact ⟨ask_no (fun h => fn h.2.2.2.1), below_a1 _ _⟩
  · rw [decide_eq_false fi]
    go_wp2_with fail
    go_ret
    exact ⟨ask_no (fun h => fi h.2.2.1), below_a1 _ _⟩
set_option maxHeartbeats 8000000 in
set_option maxRecDepth 100000 in
theorem RightAsk_5 (xv : Value) (i : Int) (xs : List Int) (n m : Int) (w : World) (h : Seq 1 inC w 0 w.heap.size xv xs) :
    Calls Tryz.prog 21 #[.agg #[.int .i64 5, .int .i64 i, xv, .int .i64 n, .int .i64 m]] w fun e w' => e = .returned (.bool (askB ⟨5, i, xs, n, m⟩)) ∧ Below w.heap.size w w' := by
  have HX := Lib.hid (fun (W : World) (hb : Below w.heap.size w W) => h.up hb)
  obtain ⟨XA, xc, rfl, xc1, xc2, _⟩ := id h
  obtain ⟨xn, hxn⟩ : ∃ n, xs.length = n := ⟨_, rfl⟩
  have HXN := Lib.hid hxn
  rw [hxn] at HX xc1 ⊢
  clear h hxn
  go_enter Tryz.func21, Tryz.ntmps21
  go_wp2_with fail
  refine (names_any 5 _).mono ?_
  rintro e w1 ⟨rfl, rfl⟩
  rw [show namesV 5 = (0, true) from rfl]
  go_wp2_with fail
  refine (few_any i _).mono ?_
  rintro e w1 ⟨rfl, rfl⟩
  by_cases fi : 0 ≤ i ∧ i ≤ 1099511627776
  · rw [decide_eq_true fi]
    go_wp2_with fail
    refine (few_any n _).mono ?_
    rintro e w1 ⟨rfl, rfl⟩
    by_cases fn : 0 ≤ n ∧ n ≤ 1099511627776
    · rw [decide_eq_true fn]
      go_wp2_with fail
      refine (few_any m _).mono ?_
      rintro e w1 ⟨rfl, rfl⟩
      by_cases fm : 0 ≤ m ∧ m ≤ 1099511627776
      · rw [decide_eq_true fm]
        by_cases hx0 : xs = []
        · subst hx0
          have hz : xn = 0 := HXN.out.symm
          subst hz
          by_cases ei : i = 0
          · subst ei
            by_cases en : n = 0
            · subst en
              by_cases em : m = 0
              · subst em
                go_wp2_with fail
                go_ret
                exact ⟨ask_yes ⟨⟨show (1 : Int) ≤ 5 by decide, show (5 : Int) ≤ 7 by decide⟩, Nat.zero_le _, fi, fn, fm, by simp, .inr rfl, .inr (.inr (.inr rfl)), .inr (.inr rfl), .inr rfl⟩, below_a1 _ _⟩
              · have qm : (m == 0) = false := beq_eq_false_iff_ne.2 em
                go_wp2_with fail
                go_ret
                exact ⟨ask_no (fun h => em (by have := h.2.2.2.2.2.2.2.2.2; simpa using this)), below_a1 _ _⟩
            · have qn : (n == 0) = false := beq_eq_false_iff_ne.2 en
              go_wp2_with fail
              go_ret
              exact ⟨ask_no (fun h => en (by have := h.2.2.2.2.2.2.2.2.1; simpa using this)), below_a1 _ _⟩
          · have qi : (i == 0) = false := beq_eq_false_iff_ne.2 ei
            go_wp2_with fail
            go_ret
            exact ⟨ask_no (fun h => ei (by have := h.2.2.2.2.2.2.1; simpa using this)), below_a1 _ _⟩
        · have hxn0 : 0 < xn := by rw [← HXN.out]; exact List.length_pos_iff.2 hx0
          have hdx : decide ((xn : Int) > 0) = true := decide_eq_true (by omega)
          have hex : ((xn : Int) == 0) = false := beq_eq_false_iff_ne.2 (by omega)
          go_wp2_with fail
          refine (VIs_any _ _ _ 0 _ _ (HX.out _ (below_a1 _ _))).mono ?_
          rintro e w1 ⟨rfl, rfl⟩
          cases hv : vecB xs xn with
          | false =>
            have HV := Lib.hid (vec_no (l := xs) (by rw [HXN.out]; exact hv) (by rw [HXN.out]; exact hxn0))
            clear hv
            go_wp2_with fail
            go_ret
            exact ⟨ask_no (fun h => HV.out ⟨h.2.1, h.2.2.2.2.2.1⟩), below_a1 _ _⟩
          | true =>
            have HV := Lib.hid (vec_yes (l := xs) (by rw [HXN.out]; exact hv))
            clear hv
            by_cases ei : i = 0
            · have qi : (i == 0) = true := beq_iff_eq.2 ei
              go_wp2_with fail
              go_ret
              exact ⟨ask_no (fun h => hx0 (by have := h.2.2.2.2.2.2.2.1; simpa using this)), below_a1 _ _⟩
            · have qi : (i == 0) = false := beq_eq_false_iff_ne.2 ei
              go_wp2_with fail
              go_ret
              exact ⟨ask_no (fun h => ei (by have := h.2.2.2.2.2.2.1; simpa using this)), below_a1 _ _⟩
      · rw [decide_eq_false fm]
        go_wp2_with fail
        go_ret
        exact ⟨ask_no (fun h => fm h.2.2.2.2.1), below_a1 _ _⟩
    · rw [decide_eq_false fn]
      go_wp2_with fail
      go_ret
      exact ⟨ask_no (fun h => fn h.2.2.2.1), below_a1 _ _⟩
  · rw [decide_eq_false fi]
    go_wp2_with fail
    go_ret
    exact ⟨ask_no (fun h => fi h.2.2.1), below_a1 _ _⟩
set_option maxHeartbeats 8000000 in
set_option maxRecDepth 100000 in
theorem RightAsk_6 (xv : Value) (i : Int) (xs : List Int) (n m : Int) (w : World) (h : Seq 1 inC w 0 w.heap.size xv xs) :
    Calls Tryz.prog 21 #[.agg #[.int .i64 6, .int .i64 i, xv, .int .i64 n, .int .i64 m]] w fun e w' => e = .returned (.bool (askB ⟨6, i, xs, n, m⟩)) ∧ Below w.heap.size w w' := by
  have HX := Lib.hid (fun (W : World) (hb : Below w.heap.size w W) => h.up hb)
  obtain ⟨XA, xc, rfl, xc1, xc2, _⟩ := id h
  obtain ⟨xn, hxn⟩ : ∃ n, xs.length = n := ⟨_, rfl⟩
  have HXN := Lib.hid hxn
  rw [hxn] at HX xc1 ⊢
  clear h hxn
  go_enter Tryz.func21, Tryz.ntmps21
  go_wp2_with fail
  refine (names_any 6 _).mono ?_
  rintro e w1 ⟨rfl, rfl⟩
  rw [show namesV 6 = (0, true) from rfl]
  go_wp2_with fail
  refine (few_any i _).mono ?_
  rintro e w1 ⟨rfl, rfl⟩
  by_cases fi : 0 ≤ i ∧ i ≤ 1099511627776
  · rw [decide_eq_true fi]
    go_wp2_with fail
    refine (few_any n _).mono ?_
    rintro e w1 ⟨rfl, rfl⟩
    by_cases fn : 0 ≤ n ∧ n ≤ 1099511627776
    · rw [decide_eq_true fn]
      go_wp2_with fail
      refine (few_any m _).mono ?_
      rintro e w1 ⟨rfl, rfl⟩
      by_cases fm : 0 ≤ m ∧ m ≤ 1099511627776
      · rw [decide_eq_true fm]
        by_cases hx0 : xs = []
        · subst hx0
          have hz : xn = 0 := HXN.out.symm
          subst hz
          by_cases ei : i = 0
          · subst ei
            by_cases en : n = 0
            · subst en
              by_cases em : m = 0
              · subst em
                go_wp2_with fail
                go_ret
                exact ⟨ask_yes ⟨⟨show (1 : Int) ≤ 6 by decide, show (6 : Int) ≤ 7 by decide⟩, Nat.zero_le _, fi, fn, fm, by simp, .inr rfl, .inr (.inr (.inr rfl)), .inr (.inr rfl), .inr rfl⟩, below_a1 _ _⟩
              · have qm : (m == 0) = false := beq_eq_false_iff_ne.2 em
                go_wp2_with fail
                go_ret
                exact ⟨ask_no (fun h => em (by have := h.2.2.2.2.2.2.2.2.2; simpa using this)), below_a1 _ _⟩
            · have qn : (n == 0) = false := beq_eq_false_iff_ne.2 en
              go_wp2_with fail
              go_ret
              exact ⟨ask_no (fun h => en (by have := h.2.2.2.2.2.2.2.2.1; simpa using this)), below_a1 _ _⟩
          · have qi : (i == 0) = false := beq_eq_false_iff_ne.2 ei
            go_wp2_with fail
            go_ret
            exact ⟨ask_no (fun h => ei (by have := h.2.2.2.2.2.2.1; simpa using this)), below_a1 _ _⟩
        · have hxn0 : 0 < xn := by rw [← HXN.out]; exact List.length_pos_iff.2 hx0
          have hdx : decide ((xn : Int) > 0) = true := decide_eq_true (by omega)
          have hex : ((xn : Int) == 0) = false := beq_eq_false_iff_ne.2 (by omega)
          go_wp2_with fail
          refine (VIs_any _ _ _ 0 _ _ (HX.out _ (below_a1 _ _))).mono ?_
          rintro e w1 ⟨rfl, rfl⟩
          cases hv : vecB xs xn with
          | false =>
            have HV := Lib.hid (vec_no (l := xs) (by rw [HXN.out]; exact hv) (by rw [HXN.out]; exact hxn0))
            clear hv
            go_wp2_with fail
            go_ret
            exact ⟨ask_no (fun h => HV.out ⟨h.2.1, h.2.2.2.2.2.1⟩), below_a1 _ _⟩
          | true =>
            have HV := Lib.hid (vec_yes (l := xs) (by rw [HXN.out]; exact hv))
            clear hv
            by_cases ei : i = 0
            · have qi : (i == 0) = true := beq_iff_eq.2 ei
              go_wp2_with fail
              go_ret
              exact ⟨ask_no (fun h => hx0 (by have := h.2.2.2.2.2.2.2.1; simpa using this)), below_a1 _ _⟩
            · have qi : (i == 0) = false := beq_eq_false_iff_ne.2 ei
              go_wp2_with fail
              go_ret
              exact ⟨ask_no (fun h => ei (by have := h.2.2.2.2.2.2.1; simpa using this)), below_a1 _ _⟩
      · rw [decide_eq_false fm]
        go_wp2_with fail
        go_ret
        exact ⟨ask_no (fun h => fm h.2.2.2.2.1), below_a1 _ _⟩
    · rw [decide_eq_false fn]
      go_wp2_with fail
      go_ret
      exact ⟨ask_no (fun h => fn h.2.2.2.1), below_a1 _ _⟩
  · rw [decide_eq_false fi]
    go_wp2_with fail
    go_ret
    exact ⟨ask_no (fun h => fi h.2.2.1), below_a1 _ _⟩
end Go.Proofs.YtchgfabgighbfaaGreatDoor.RigW
