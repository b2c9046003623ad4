/- The walk of copseref13.Sort. -/
import Derived.Test.YtdpmijmofeechaaDoorSorX
import Derived.StillTailTactics
namespace Go.Proofs.YtdpmijmofeechaaDoor.SorY
set_option linter.unusedVariables false
open Go.RowKit Base BigM BigZ GcdM RatM RatW RefRat Glob WideM WideW Rat2 TextW PartW ScoW SclW SorM SorW SorX

theorem rd_new (w : World) (a b : Value) (t : TypeId) : Rd (w.alloc (.cells #[a, b] t)) w.heap.size (w.heap.size + 1) 2 (some ⟨w.heap.size, 0, none⟩) 1 [a, b] :=
  ⟨rfl, fun _ => ⟨_, rfl, Nat.le_refl _, Nat.lt_succ_self _, fun j u hu => World.news_of_block (heap_alloc_new w _) j u hu⟩⟩
/-- how many of a list come ahead of x -/
def ahead (x : Int × Int) (out : List (Int × Int)) : Nat := (out.takeWhile (fun y => decide (key x ≤ key y))).length
theorem ins_at {x : Int × Int} {out : List (Int × Int)} {k : Nat} (h1 : ∀ j y, j < k → out[j]? = some y → key x ≤ key y) (h2 : k = out.length ∨ ∃ y, out[k]? = some y ∧ ¬ key x ≤ key y) : insX x out = out.take k ++ x :: out.drop k := by
  induction out generalizing k with
  | nil => simp [insX]
  | cons y r ih =>
    cases k with
    | zero =>
      rcases h2 with h2 | ⟨z, hz, hk⟩
      · simp at h2
      · simp at hz
        subst hz
        unfold insX
        rw [List.takeWhile_cons_of_neg (by simpa using hk), List.dropWhile_cons_of_neg (by simpa using hk)]
        rfl
    | succ k =>
      have hy : key x ≤ key y := h1 0 y (by omega) rfl
      have := ih (k := k) (fun j z hj hz => h1 (j + 1) z (by omega) (by simpa using hz)) (by
        rcases h2 with h2 | ⟨z, hz, hk⟩
        · left; simp at h2; omega
        · exact .inr ⟨z, by simpa using hz, hk⟩)
      unfold insX at this ⊢
      rw [List.takeWhile_cons_of_pos (by simpa using hy), List.dropWhile_cons_of_pos (by simpa using hy)]
      simp [this]
theorem fold_next {l : List (Int × Int)} {i : Nat} {x : Int × Int} (h : l[i]? = some x) : insL (l.take (i + 1)) = insX x (insL (l.take i)) := by
  rw [take_next h]; unfold insL; rw [List.foldl_append]; rfl
theorem ins_right {l : List (Int × Int)} (h : allS l = true) (i : Nat) : allS (insL (l.take i)) = true := by
  have p : (insL (l.take i)).Perm (l.take i) := fold_perm (l.take i) []
  unfold allS
  rw [List.all_eq_true]
  exact fun x hx => all_mem h (List.mem_of_mem_take (p.mem_iff.1 hx))
theorem ins_len (l : List (Int × Int)) (i : Nat) : (insL (l.take i)).length ≤ l.length := by
  have p : (insL (l.take i)).Perm (l.take i) := fold_perm (l.take i) []
  rw [p.length_eq, List.length_take]; omega
def OutRel (l : List (Int × Int)) (w : World) (vo vi : Value) (wr : World) : Prop := ∃ i : Nat, i ≤ l.length ∧ vi = .int .i64 i ∧ Scs wr w.heap.size wr.heap.size vo (insL (l.take i)) ∧ Below w.heap.size w wr
def InRel (x : Int × Int) (out : List (Int × Int)) (wo : World) (vk : Value) (wr : World) : Prop := ∃ k : Nat, k ≤ out.length ∧ vk = .int .i64 k ∧ (∀ j y, j < k → out[j]? = some y → key x ≤ key y) ∧ Below wo.heap.size wo wr
theorem odd_le {x y : Int × Int} (hx : rightX x = true) (hy : rightX y = true) : (oddV y.1 y.2 x.1 x.2 ≤ 0 ↔ key x ≤ key y) := by
  have h : oddV y.1 y.2 x.1 x.2 = BigM.ord (key x) (key y) := odd_key hy hx
  rw [h]
  rcases ord_cases (key x) (key y) with ⟨e, h1⟩ | ⟨e, h1⟩ | ⟨e, h1⟩ <;> rw [e] <;> omega
set_option maxHeartbeats 2000000 in
set_option maxRecDepth 100000 in
theorem RSort_yes (v : Value) (l : List (Int × Int)) (lo : Nat) (w : World) (h1 : Scs w lo w.heap.size v l) (ha : allS l = true) (hm : l.length ≤ 1000000) :
    Calls Tryd.prog 36 #[v] w fun e w' => (∃ v, e = .returned (.tuple #[v, .int .i64 0]) ∧ Scs w' w.heap.size w'.heap.size v (insL l)) ∧ Below w.heap.size w w' := by
  have H1 := Lib.hid h1
  have HA := Lib.hid ha
  have hins := fun i => ins_len l i
  have HINS := Lib.hid hins
  obtain ⟨A, cap, rfl, hc1, hc2, hr, hz⟩ := h1
  unfold maxLen at hc2
  have HR := Lib.hid hr
  obtain ⟨n, hn⟩ : ∃ n, l.length = n := ⟨_, rfl⟩
  rw [hn] at hc1 hm H1 ⊢
  have HN := Lib.hid hn
  clear hr ha hz hn hins
  go_enter Tryd.func36, Tryd.ntmps36
  go_wp2_with fail
  refine (RAll_any _ l lo _ H1.out (fits_right HA.out)).mono ?_
  rintro e w1 ⟨rfl, hb1⟩
  rw [HA.out]
  have H0 := Lib.hid (show OutRel l w (.slice none 0 0) (.int .i64 0) w1 from ⟨0, Nat.zero_le _, rfl, ⟨none, 0, rfl, Nat.le_refl _, by unfold maxLen; omega, Rd.nil_, fun _ => rfl⟩, hb1⟩)
  clear hb1
  go_wp2_with fail
  go_loopw [4, 5] (fun vo vi wr => OutRel l w vo vi wr) (fun _ vi _ => n - (intOf vi).toNat)
  case atStart => exact H0.out
  case round =>
    obtain ⟨i, hi, rfl, hout, hbel⟩ := hrel
    obtain ⟨wo, rfl⟩ : ∃ wo : World, wo = wr := ⟨_, rfl⟩
    rw [HN.out] at hi
    have hlen := HINS.out i
    rw [HN.out] at hlen
    have HOUT := Lib.hid hout
    have HB := Lib.hid hbel
    by_cases hlt : i < n
    · obtain ⟨ad, x, rfl, hlo, hb, hx, x1, x2⟩ := rd2 (HR.out.below HB.out) (i := i) (by rw [HN.out]; exact hlt)
      have HX := Lib.hid hx
      have HNEXT := Lib.hid (fold_next hx)
      have HRX := Lib.hid (all_mem HA.out (List.mem_of_getElem? hx))
      have HRO := Lib.hid (ins_right HA.out i)
      obtain ⟨out, ho⟩ : ∃ out, insL (l.take i) = out := ⟨_, rfl⟩
      rw [ho] at HOUT HNEXT HRO hout hlen
      obtain ⟨Ao, co, rfl, hd1, hd2, hs, hzo⟩ := hout
      unfold maxLen at hd2
      have HS := Lib.hid hs
      have HZO := Lib.hid hzo
      have hsz := hbel.size
      obtain ⟨m, hm2⟩ : ∃ m, out.length = m := ⟨_, rfl⟩
      rw [hm2] at hd1 HOUT hlen ⊢
      have HM := Lib.hid hm2
      have hs2 := hs
      rw [hm2] at hs2
      have HSM := Lib.hid hs2
      clear hs2
      have H2 := Lib.hid (show InRel x out wo (.int .i64 0) wo from ⟨0, Nat.zero_le _, rfl, fun j y hj => by omega, Below.refl _ _⟩)
      clear hx hs hzo hm2 hbel ho
      go_wp2_with fail
      go_loopw [6] (fun vk wr => InRel x out wo vk wr) (fun vk _ => m - (intOf vk).toNat)
      case atStart => exact H2.out
      case round =>
        obtain ⟨k, hk, rfl, hkey, hbi⟩ := hrel
        rw [HM.out] at hk
        have HKEY := Lib.hid hkey
        have HBI := Lib.hid hbi
        have hszi := hbi.size
        clear hkey hbi
        by_cases hkm : k < m
        · obtain ⟨ado, y, rfl, hloo, hbo, hy, y1, y2⟩ := rd2 (HS.out.below HBI.out) (i := k) (by rw [HM.out]; exact hkm)
          have hry := all_mem HRO.out (List.mem_of_getElem? hy)
          have HY := Lib.hid hy
          have HRY := Lib.hid hry
          have p1 : wr.cell? (ad.add (i * 2)) = some (.int .i64 x.1) := (HBI.out.cell (by rw [add_block]; omega)).trans x1
          have p2 : wr.cell? ⟨(ad.add (i * 2)).block, (ad.add (i * 2)).off + 1, none⟩ = some (.int .i64 x.2) := (HBI.out.cell (p := ⟨(ad.add (i * 2)).block, (ad.add (i * 2)).off + 1, none⟩) (by show (ad.add (i * 2)).block < _; rw [add_block]; omega)).trans x2
          have hkI : (k : Int) < (m : Int) := by omega
          have HOL := Lib.hid (odd_le HRX.out hry)
          clear hy hry
          by_cases hle : oddV y.1 y.2 x.1 x.2 ≤ 0
          · go_wp2_with fail
            go_still_tail 13, (by kernel_rfl)
            go_wp2_with fail
            refine (Odder_any y.1 y.2 x.1 x.2 _ HRY.out HRX.out).mono ?_
            rintro e w4 ⟨rfl, hb4⟩
            have HB4 := Lib.hid (HBI.out.trans ((((Below.refl wr.heap.size wr).drew).trans hb4).mono hszi))
            clear hb4
            go_wp2_with fail
            refine ⟨⟨k + 1, by rw [HM.out]; omega, by go_num, fun j z hj hz => ?_, HB4.out⟩, by simp [intOf]; omega⟩
            by_cases hjk : j < k
            · exact HKEY.out j z hjk hz
            · obtain rfl : j = k := by omega
              have := HY.out
              rw [hz] at this
              obtain rfl := Option.some.inj this
              exact HOL.out.1 hle
          · have HEQ := Lib.hid (ins_at HKEY.out (.inr ⟨y, HY.out, fun hh => hle (HOL.out.2 hh)⟩))
            have HCK := Lib.hid (show ¬ co = k by omega)
            have hck := HCK.out
            go_wp2_with fail
            go_still_tail 13, (by kernel_rfl)
            go_wp2_with fail
            refine (Odder_any y.1 y.2 x.1 x.2 _ HRY.out HRX.out).mono ?_
            rintro e w4 ⟨rfl, hb4⟩
            have HB4 := Lib.hid (HBI.out.trans ((((Below.refl wr.heap.size wr).drew).trans hb4).mono hszi))
            clear hb4 y1 y2 p1 p2
            have hszw : wo.heap.size ≤ w4.heap.size := HB4.out.size
            have g1 : w4.cell? (ad.add (i * 2)) = some (.int .i64 x.1) := (HB4.out.cell (by rw [add_block]; omega)).trans x1
            have g2 : w4.cell? ⟨(ad.add (i * 2)).block, (ad.add (i * 2)).off + 1, none⟩ = some (.int .i64 x.2) := (HB4.out.cell (p := ⟨(ad.add (i * 2)).block, (ad.add (i * 2)).off + 1, none⟩) (by show (ad.add (i * 2)).block < _; rw [add_block]; omega)).trans x2
            have RDT := Lib.hid (show Rd (w4.alloc (.cells #[] 36)) w.heap.size wo.heap.size 2 (some ado) k (cellsOf (out.take k)) by rw [cells_take]; exact ((HSM.out.below HB4.out).take hk).below' (below_alloc1 w4 _) hszw)
            have RDD := Lib.hid (show Rd w4 w.heap.size wo.heap.size 2 (some (ado.add (k * 2))) (m - k) (cellsOf (out.drop k)) by
              rw [cells_drop]
              have := (HSM.out.below HB4.out).cut hk hd1
              first | exact this | (rw [if_neg HCK.out] at this; exact this) | (rw [if_pos HCK.out] at this; exact this) | (simpa using this))
            have hkI2 : (k : Int) ≤ (co : Int) := by omega
            have hkJ : (k : Int) ≤ (m : Int) := by omega
            go_wp2_with (at_builtin; first | (refine appS rfl (.tmp 35) (.tmp 38) _ rfl eltS w4.heap.size (.slice (some ⟨w4.heap.size, 0, none⟩) 0 0) 0 [] rfl (own_empty w4 _) rfl RDT.out (fun h => by cases h) (one_cells _) (by omega) (by simp) ?_; intro v5 w5 hown5 hg5; have HO5 := Lib.hid hown5; have HB5 := Lib.hid ((below_alloc1 w4 _).grown hg5 (by simp) (fun k hk => by obtain rfl := Option.some.inj hk; exact Nat.le_refl _)); have hs5 := HB5.out.size; clear hown5 hg5; have r1 : w5.cell? (ad.add (i * 2)) = some (.int .i64 x.1) := (HB5.out.cell (by rw [add_block]; omega)).trans g1; have r2 : w5.cell? ⟨(ad.add (i * 2)).block, (ad.add (i * 2)).off + 1, none⟩ = some (.int .i64 x.2) := (HB5.out.cell (p := ⟨(ad.add (i * 2)).block, (ad.add (i * 2)).off + 1, none⟩) (by show (ad.add (i * 2)).block < _; rw [add_block]; omega)).trans g2) | (refine appS rfl (.tmp 40) (.tmp 45) _ rfl eltS w4.heap.size v5 (0 + k) _ rfl (HO5.out.alloc _) rfl (rd_new w5 _ _ _) (fun h => by cases h) (by simp [Value.oneCell']) (by omega) (by simp; omega) ?_; intro v6 w6 hown6 hg6; have HO6 := Lib.hid hown6; have HB6 := Lib.hid (below_own (HB5.out.alloc hs5 _) (HO5.out.alloc _) hg6 (Nat.le_refl _) (by simp; omega)); have hs6 := HB6.out.size; have RD6 := Lib.hid (RDD.out.below' HB6.out hszw); clear hown6 hg6) | (refine appS rfl (.tmp 47) (.tmp 50) _ rfl eltS w4.heap.size v6 (0 + k + 1) _ rfl HO6.out rfl RD6.out (fun h => by first | (cases h; done) | omega) (one_cells _) (by omega) hs6 ?_; intro v7 w7 hown7 hg7; have HO7 := Lib.hid hown7; have HB7 := Lib.hid (below_own HB6.out HO6.out hg7 (Nat.le_refl _) hs6); clear hown7 hg7))
            refine ⟨⟨i + 1, by rw [HN.out]; omega, by go_num, ?_, HB.out.trans ((HB4.out.trans (HB7.out.mono hszw)).mono hsz)⟩, by simp [intOf]; omega⟩
            rw [HNEXT.out, HEQ.out]
            refine (Scs.of_own (e := 36) (base := w4.heap.size) ?_).more (Nat.le_trans hsz hszw) (Nat.le_refl _)
            have h7 := HO7.out
            have el : (out.take k ++ x :: out.drop k).length = 0 + k + 1 + (m - k) := by rw [List.length_append, List.length_cons, List.length_take, List.length_drop, HM.out]; omega
            have ec : cellsOf (out.take k ++ x :: out.drop k) = [] ++ cellsOf (out.take k) ++ [.int .i64 x.1, .int .i64 x.2] ++ cellsOf (out.drop k) := by
              rw [cells_app, show x :: out.drop k = [x] ++ out.drop k from rfl, cells_app, List.nil_append, List.append_assoc]; rfl
            rw [el, ec]
            exact h7
        · have HEQ := Lib.hid (ins_at HKEY.out (.inl (by rw [HM.out]; omega)))
          have hgd : decide ((k : Int) < (m : Int)) = false := by simpa using (by omega : (m : Int) ≤ (k : Int))
          go_wp2_with fail
          go_quiet (fail)
          have HBQ := Lib.hid (below_drewN HBI.out nq)
          obtain ⟨wr2, hwr2⟩ : ∃ wr2, wr.drewN nq = wr2 := ⟨_, rfl⟩
          rw [hwr2] at HBQ ⊢
          clear hwr2
          cases Ao with
          | none =>
            have hco : co < 1 := by have := HZO.out rfl; omega
            have hszw : wo.heap.size ≤ wr2.heap.size := HBQ.out.size
            have g1 : wr2.cell? (ad.add (i * 2)) = some (.int .i64 x.1) := (HBQ.out.cell (by rw [add_block]; omega)).trans x1
            have g2 : wr2.cell? ⟨(ad.add (i * 2)).block, (ad.add (i * 2)).off + 1, none⟩ = some (.int .i64 x.2) := (HBQ.out.cell (p := ⟨(ad.add (i * 2)).block, (ad.add (i * 2)).off + 1, none⟩) (by show (ad.add (i * 2)).block < _; rw [add_block]; omega)).trans x2
            have RDT := Lib.hid (show Rd (wr2.alloc (.cells #[] 36)) w.heap.size wo.heap.size 2 (none) k (cellsOf (out.take k)) by rw [cells_take]; exact ((HSM.out.below HBQ.out).take hk).below' (below_alloc1 wr2 _) hszw)
            have RDD := Lib.hid (show Rd wr2 w.heap.size wo.heap.size 2 (none) (m - k) (cellsOf (out.drop k)) by
              rw [cells_drop]
              have := (HSM.out.below HBQ.out).cut hk hd1
              first | exact this | (rw [if_neg HCK.out] at this; exact this) | (rw [if_pos HCK.out] at this; exact this) | (simpa using this))
            have hkI2 : (k : Int) ≤ (co : Int) := by omega
            have hkJ : (k : Int) ≤ (m : Int) := by omega
            go_wp2_with (at_builtin; first | (refine appS rfl (.tmp 35) (.tmp 38) _ rfl eltS wr2.heap.size (.slice (some ⟨wr2.heap.size, 0, none⟩) 0 0) 0 [] rfl (own_empty wr2 _) rfl RDT.out HZO.out (one_cells _) (by omega) (by simp) ?_; intro v5 w5 hown5 hg5; have HO5 := Lib.hid hown5; have HB5 := Lib.hid ((below_alloc1 wr2 _).grown hg5 (by simp) (fun k hk => by obtain rfl := Option.some.inj hk; exact Nat.le_refl _)); have hs5 := HB5.out.size; clear hown5 hg5; have r1 : w5.cell? (ad.add (i * 2)) = some (.int .i64 x.1) := (HB5.out.cell (by rw [add_block]; omega)).trans g1; have r2 : w5.cell? ⟨(ad.add (i * 2)).block, (ad.add (i * 2)).off + 1, none⟩ = some (.int .i64 x.2) := (HB5.out.cell (p := ⟨(ad.add (i * 2)).block, (ad.add (i * 2)).off + 1, none⟩) (by show (ad.add (i * 2)).block < _; rw [add_block]; omega)).trans g2) | (refine appS rfl (.tmp 40) (.tmp 45) _ rfl eltS wr2.heap.size v5 (0 + k) _ rfl (HO5.out.alloc _) rfl (rd_new w5 _ _ _) (fun h => by cases h) (by simp [Value.oneCell']) (by omega) (by simp; omega) ?_; intro v6 w6 hown6 hg6; have HO6 := Lib.hid hown6; have HB6 := Lib.hid (below_own (HB5.out.alloc hs5 _) (HO5.out.alloc _) hg6 (Nat.le_refl _) (by simp; omega)); have hs6 := HB6.out.size; have RD6 := Lib.hid (RDD.out.below' HB6.out hszw); clear hown6 hg6) | (refine appS rfl (.tmp 47) (.tmp 50) _ rfl eltS wr2.heap.size v6 (0 + k + 1) _ rfl HO6.out rfl RD6.out (fun h => by first | (cases h; done) | omega) (one_cells _) (by omega) hs6 ?_; intro v7 w7 hown7 hg7; have HO7 := Lib.hid hown7; have HB7 := Lib.hid (below_own HB6.out HO6.out hg7 (Nat.le_refl _) hs6); clear hown7 hg7))
            refine ⟨⟨i + 1, by rw [HN.out]; omega, by go_num, ?_, HB.out.trans ((HBQ.out.trans (HB7.out.mono hszw)).mono hsz)⟩, by simp [intOf]; omega⟩
            rw [HNEXT.out, HEQ.out]
            refine (Scs.of_own (e := 36) (base := wr2.heap.size) ?_).more (Nat.le_trans hsz hszw) (Nat.le_refl _)
            have h7 := HO7.out
            have el : (out.take k ++ x :: out.drop k).length = 0 + k + 1 + (m - k) := by rw [List.length_append, List.length_cons, List.length_take, List.length_drop, HM.out]; omega
            have ec : cellsOf (out.take k ++ x :: out.drop k) = [] ++ cellsOf (out.take k) ++ [.int .i64 x.1, .int .i64 x.2] ++ cellsOf (out.drop k) := by
              rw [cells_app, show x :: out.drop k = [x] ++ out.drop k from rfl, cells_app, List.nil_append, List.append_assoc]; rfl
            rw [el, ec]
            exact h7
          | some ado =>
            by_cases hck : co = k
            · have HCK := Lib.hid hck
              have hszw : wo.heap.size ≤ wr2.heap.size := HBQ.out.size
              have g1 : wr2.cell? (ad.add (i * 2)) = some (.int .i64 x.1) := (HBQ.out.cell (by rw [add_block]; omega)).trans x1
              have g2 : wr2.cell? ⟨(ad.add (i * 2)).block, (ad.add (i * 2)).off + 1, none⟩ = some (.int .i64 x.2) := (HBQ.out.cell (p := ⟨(ad.add (i * 2)).block, (ad.add (i * 2)).off + 1, none⟩) (by show (ad.add (i * 2)).block < _; rw [add_block]; omega)).trans x2
              have RDT := Lib.hid (show Rd (wr2.alloc (.cells #[] 36)) w.heap.size wo.heap.size 2 (some ado) k (cellsOf (out.take k)) by rw [cells_take]; exact ((HSM.out.below HBQ.out).take hk).below' (below_alloc1 wr2 _) hszw)
              have RDD := Lib.hid (show Rd wr2 w.heap.size wo.heap.size 2 (some ado) (m - k) (cellsOf (out.drop k)) by
                rw [cells_drop]
                have := (HSM.out.below HBQ.out).cut hk hd1
                first | exact this | (rw [if_neg HCK.out] at this; exact this) | (rw [if_pos HCK.out] at this; exact this) | (simpa using this))
              have hkI2 : (k : Int) ≤ (co : Int) := by omega
              have hkJ : (k : Int) ≤ (m : Int) := by omega
              go_wp2_with (at_builtin; first | (refine appS rfl (.tmp 35) (.tmp 38) _ rfl eltS wr2.heap.size (.slice (some ⟨wr2.heap.size, 0, none⟩) 0 0) 0 [] rfl (own_empty wr2 _) rfl RDT.out (fun h => by cases h) (one_cells _) (by omega) (by simp) ?_; intro v5 w5 hown5 hg5; have HO5 := Lib.hid hown5; have HB5 := Lib.hid ((below_alloc1 wr2 _).grown hg5 (by simp) (fun k hk => by obtain rfl := Option.some.inj hk; exact Nat.le_refl _)); have hs5 := HB5.out.size; clear hown5 hg5; have r1 : w5.cell? (ad.add (i * 2)) = some (.int .i64 x.1) := (HB5.out.cell (by rw [add_block]; omega)).trans g1; have r2 : w5.cell? ⟨(ad.add (i * 2)).block, (ad.add (i * 2)).off + 1, none⟩ = some (.int .i64 x.2) := (HB5.out.cell (p := ⟨(ad.add (i * 2)).block, (ad.add (i * 2)).off + 1, none⟩) (by show (ad.add (i * 2)).block < _; rw [add_block]; omega)).trans g2) | (refine appS rfl (.tmp 40) (.tmp 45) _ rfl eltS wr2.heap.size v5 (0 + k) _ rfl (HO5.out.alloc _) rfl (rd_new w5 _ _ _) (fun h => by cases h) (by simp [Value.oneCell']) (by omega) (by simp; omega) ?_; intro v6 w6 hown6 hg6; have HO6 := Lib.hid hown6; have HB6 := Lib.hid (below_own (HB5.out.alloc hs5 _) (HO5.out.alloc _) hg6 (Nat.le_refl _) (by simp; omega)); have hs6 := HB6.out.size; have RD6 := Lib.hid (RDD.out.below' HB6.out hszw); clear hown6 hg6) | (refine appS rfl (.tmp 47) (.tmp 50) _ rfl eltS wr2.heap.size v6 (0 + k + 1) _ rfl HO6.out rfl RD6.out (fun h => by first | (cases h; done) | omega) (one_cells _) (by omega) hs6 ?_; intro v7 w7 hown7 hg7; have HO7 := Lib.hid hown7; have HB7 := Lib.hid (below_own HB6.out HO6.out hg7 (Nat.le_refl _) hs6); clear hown7 hg7))
              refine ⟨⟨i + 1, by rw [HN.out]; omega, by go_num, ?_, HB.out.trans ((HBQ.out.trans (HB7.out.mono hszw)).mono hsz)⟩, by simp [intOf]; omega⟩
              rw [HNEXT.out, HEQ.out]
              refine (Scs.of_own (e := 36) (base := wr2.heap.size) ?_).more (Nat.le_trans hsz hszw) (Nat.le_refl _)
              have h7 := HO7.out
              have el : (out.take k ++ x :: out.drop k).length = 0 + k + 1 + (m - k) := by rw [List.length_append, List.length_cons, List.length_take, List.length_drop, HM.out]; omega
              have ec : cellsOf (out.take k ++ x :: out.drop k) = [] ++ cellsOf (out.take k) ++ [.int .i64 x.1, .int .i64 x.2] ++ cellsOf (out.drop k) := by
                rw [cells_app, show x :: out.drop k = [x] ++ out.drop k from rfl, cells_app, List.nil_append, List.append_assoc]; rfl
              rw [el, ec]
              exact h7
            · have HCK := Lib.hid hck
              have hszw : wo.heap.size ≤ wr2.heap.size := HBQ.out.size
              have g1 : wr2.cell? (ad.add (i * 2)) = some (.int .i64 x.1) := (HBQ.out.cell (by rw [add_block]; omega)).trans x1
              have g2 : wr2.cell? ⟨(ad.add (i * 2)).block, (ad.add (i * 2)).off + 1, none⟩ = some (.int .i64 x.2) := (HBQ.out.cell (p := ⟨(ad.add (i * 2)).block, (ad.add (i * 2)).off + 1, none⟩) (by show (ad.add (i * 2)).block < _; rw [add_block]; omega)).trans x2
              have RDT := Lib.hid (show Rd (wr2.alloc (.cells #[] 36)) w.heap.size wo.heap.size 2 (some ado) k (cellsOf (out.take k)) by rw [cells_take]; exact ((HSM.out.below HBQ.out).take hk).below' (below_alloc1 wr2 _) hszw)
              have RDD := Lib.hid (show Rd wr2 w.heap.size wo.heap.size 2 (some (ado.add (k * 2))) (m - k) (cellsOf (out.drop k)) by
                rw [cells_drop]
                have := (HSM.out.below HBQ.out).cut hk hd1
                first | exact this | (rw [if_neg HCK.out] at this; exact this) | (rw [if_pos HCK.out] at this; exact this) | (simpa using this))
              have hkI2 : (k : Int) ≤ (co : Int) := by omega
              have hkJ : (k : Int) ≤ (m : Int) := by omega
              go_wp2_with (at_builtin; first | (refine appS rfl (.tmp 35) (.tmp 38) _ rfl eltS wr2.heap.size (.slice (some ⟨wr2.heap.size, 0, none⟩) 0 0) 0 [] rfl (own_empty wr2 _) rfl RDT.out (fun h => by cases h) (one_cells _) (by omega) (by simp) ?_; intro v5 w5 hown5 hg5; have HO5 := Lib.hid hown5; have HB5 := Lib.hid ((below_alloc1 wr2 _).grown hg5 (by simp) (fun k hk => by obtain rfl := Option.some.inj hk; exact Nat.le_refl _)); have hs5 := HB5.out.size; clear hown5 hg5; have r1 : w5.cell? (ad.add (i * 2)) = some (.int .i64 x.1) := (HB5.out.cell (by rw [add_block]; omega)).trans g1; have r2 : w5.cell? ⟨(ad.add (i * 2)).block, (ad.add (i * 2)).off + 1, none⟩ = some (.int .i64 x.2) := (HB5.out.cell (p := ⟨(ad.add (i * 2)).block, (ad.add (i * 2)).off + 1, none⟩) (by show (ad.add (i * 2)).block < _; rw [add_block]; omega)).trans g2) | (refine appS rfl (.tmp 40) (.tmp 45) _ rfl eltS wr2.heap.size v5 (0 + k) _ rfl (HO5.out.alloc _) rfl (rd_new w5 _ _ _) (fun h => by cases h) (by simp [Value.oneCell']) (by omega) (by simp; omega) ?_; intro v6 w6 hown6 hg6; have HO6 := Lib.hid hown6; have HB6 := Lib.hid (below_own (HB5.out.alloc hs5 _) (HO5.out.alloc _) hg6 (Nat.le_refl _) (by simp; omega)); have hs6 := HB6.out.size; have RD6 := Lib.hid (RDD.out.below' HB6.out hszw); clear hown6 hg6) | (refine appS rfl (.tmp 47) (.tmp 50) _ rfl eltS wr2.heap.size v6 (0 + k + 1) _ rfl HO6.out rfl RD6.out (fun h => by first | (cases h; done) | omega) (one_cells _) (by omega) hs6 ?_; intro v7 w7 hown7 hg7; have HO7 := Lib.hid hown7; have HB7 := Lib.hid (below_own HB6.out HO6.out hg7 (Nat.le_refl _) hs6); clear hown7 hg7))
              refine ⟨⟨i + 1, by rw [HN.out]; omega, by go_num, ?_, HB.out.trans ((HBQ.out.trans (HB7.out.mono hszw)).mono hsz)⟩, by simp [intOf]; omega⟩
              rw [HNEXT.out, HEQ.out]
              refine (Scs.of_own (e := 36) (base := wr2.heap.size) ?_).more (Nat.le_trans hsz hszw) (Nat.le_refl _)
              have h7 := HO7.out
              have el : (out.take k ++ x :: out.drop k).length = 0 + k + 1 + (m - k) := by rw [List.length_append, List.length_cons, List.length_take, List.length_drop, HM.out]; omega
              have ec : cellsOf (out.take k ++ x :: out.drop k) = [] ++ cellsOf (out.take k) ++ [.int .i64 x.1, .int .i64 x.2] ++ cellsOf (out.drop k) := by
                rw [cells_app, show x :: out.drop k = [x] ++ out.drop k from rfl, cells_app, List.nil_append, List.append_assoc]; rfl
              rw [el, ec]
              exact h7
    · have HT := Lib.hid (show l.take i = l from List.take_of_length_le (by rw [HN.out]; omega))
      have hout2 := HOUT.out
      rw [HT.out] at hout2
      have HO2 := Lib.hid hout2
      clear hout2 hout hbel
      go_wp2_with fail
      go_ret2
      exact ⟨⟨_, rfl, HO2.out⟩, HB.out⟩
end Go.Proofs.YtdpmijmofeechaaDoor.SorY
