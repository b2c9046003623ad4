/- The walk of copseref13.Parse. -/
import Derived.Test.YtdpmijmofeechaaDoorScoT
namespace Go.Proofs.YtdpmijmofeechaaDoor.ScoU
set_option linter.unusedVariables false
open Go.RowKit Base BigM BigZ GcdM RatM RatW RefRat Glob WideM WideW Rat2 TextW PartW TxtM TxtL DigW RefTx RefTy ScoW ScoT

def PR (K : Nat) (i : Value) : Prop := ∃ k : Nat, k ≤ K ∧ i = .int .i64 (k : Int)
set_option maxHeartbeats 1000000 in
set_option maxRecDepth 100000 in
theorem rparse_one (l : List UInt8) (w : World) (hl : l.length ≤ 1073741824) (hno : ∀ k (h : k < l.length), l[k] ≠ 47) (hp : parseS l = (0, 0, 20)) :
    Calls Tryd.prog 42 #[.string ⟨l.toArray⟩] w fun e w' => e = .returned (.tuple #[.agg #[.int .i64 (parseS l).1, .int .i64 (parseS l).2.1], .int .i64 (parseS l).2.2]) ∧ Below w.heap.size w w' := by
  have HP := Lib.hid hp
  have HNO := Lib.hid hno
  clear hp hno
  have H0 := Lib.hid (show PR l.length (.int .i64 0) from ⟨0, Nat.zero_le _, rfl⟩)
  have hsz0 : ∀ k, k < l.length → k < (⟨l.toArray⟩ : ByteArray).size := fun k h => by show k < l.toArray.size; simpa using h
  have HSZ := Lib.hid hsz0
  clear hsz0
  go_enter Tryd.func42, Tryd.ntmps42
  go_wp2_with fail
  go_loop [4] (fun i => PR l.length i) (fun i => l.length - (intOf i).toNat)
  case atStart => exact H0.out
  case round =>
    obtain ⟨k, hk, rfl⟩ := hrel
    by_cases hlt : k < l.length
    · have hsz := HSZ.out k hlt
      have h47 : ((((⟨l.toArray⟩ : ByteArray)[k]'hsz).toNat : Int) == 47) = false := byte_ne hsz hlt (HNO.out k hlt)
      go_wp2_with fail
      exact ⟨⟨k + 1, by omega, by go_num⟩, by simp [intOf]; omega⟩
    · go_wp2_with fail
      refine bodyPost_ret (v := .tuple #[.agg #[.int .i64 0, .int .i64 0], .int .i64 20]) (by simp [results, Tryd.results42, go_sem]) rfl ?_
      exact ⟨ret_rat HP.out.symm, below_alloc1 _ _⟩
set_option maxHeartbeats 2000000 in
set_option maxRecDepth 100000 in
theorem rparse_two (l T L : List UInt8) (a b : Int) (w : World) (hl : l.length ≤ 1073741824) (hno : ∀ k (h : k < l.length), k < T.length → l[k] ≠ 47) (hat : ∀ h : T.length < l.length, l[T.length] = 47) (hTl : T.length < l.length) (hLL : L.length ≤ 1073741824)
    (hexT : (⟨l.toArray⟩ : ByteArray).extract 0 T.length = ⟨T.toArray⟩) (hexL : (⟨l.toArray⟩ : ByteArray).extract (T.length + 1) l.length = ⟨L.toArray⟩) (ha : digV T = a) (hb : digV L = b) (bc : Bool) (he : (textS a b == l) = bc) (hp : parseS l = if bc = true then (a, b, 0) else (0, 0, 20)) :
    Calls Tryd.prog 42 #[.string ⟨l.toArray⟩] w fun e w' => e = .returned (.tuple #[.agg #[.int .i64 (parseS l).1, .int .i64 (parseS l).2.1], .int .i64 (parseS l).2.2]) ∧ Below w.heap.size w w' := by
  have HP := Lib.hid hp
  have HNO := Lib.hid hno
  have HAT := Lib.hid hat
  have HA := Lib.hid ha
  have HBB := Lib.hid hb
  have ba := dig_bd T
  have bb := dig_bd L
  rw [ha] at ba
  rw [hb] at bb
  have lT : T.length ≤ 1073741824 := by omega
  have HLT := Lib.hid lT
  have HLL := Lib.hid hLL
  clear hp hno hat ha hb lT hLL
  have H0 := Lib.hid (show PR T.length (.int .i64 0) from ⟨0, Nat.zero_le _, rfl⟩)
  have hsz0 : ∀ k, k < l.length → k < (⟨l.toArray⟩ : ByteArray).size := fun k h => by show k < l.toArray.size; simpa using h
  have HSZ := Lib.hid hsz0
  clear hsz0
  go_enter Tryd.func42, Tryd.ntmps42
  go_wp2_with fail
  go_loop [4] (fun i => PR T.length i) (fun i => l.length - (intOf i).toNat)
  case atStart => exact H0.out
  case round =>
    obtain ⟨k, hk, rfl⟩ := hrel
    have hlt : k < l.length := by omega
    by_cases hkT : k < T.length
    · have hsz := HSZ.out k hlt
      have h47 : ((((⟨l.toArray⟩ : ByteArray)[k]'hsz).toNat : Int) == 47) = false := byte_ne hsz hlt (HNO.out k hlt hkT)
      go_wp2_with fail
      exact ⟨⟨k + 1, by omega, by go_num⟩, by simp [intOf]; omega⟩
    · have hkk : T.length = k := by omega
      subst hkk
      have hsz := HSZ.out T.length hlt
      have h47 : ((((⟨l.toArray⟩ : ByteArray)[T.length]'hsz).toNat : Int) == 47) = true := byte_eq hsz hlt (HAT.out hlt)
      have hi1 : (T.length : Int) ≤ (l.length : Int) := by omega
      have hi2 : (T.length : Int) + 1 ≤ (l.length : Int) := by omega
      have hi3 : IntKind.i64.wrap ((T.length : Int) + 1) = (T.length : Int) + 1 := IntWalk.i64_in _ (by omega)
      go_wp2_with fail
      go_region_with (first | (go_at_call_of 82 (Value.string ⟨T.toArray⟩); refine (digits_any T _ HLT.out).mono ?_; rintro e w2 ⟨rfl, rfl⟩; rw [HA.out]) | (go_at_call_of 82 (Value.string ⟨L.toArray⟩); refine (digits_any L _ HLL.out).mono ?_; rintro e w3 ⟨rfl, rfl⟩; rw [HBB.out]))
      all_goals
        go_wp2_with fail
        refine (RSText_any a b _ ⟨⟨by omega, by omega⟩, by omega, by omega⟩).mono ?_
        rintro e w4 ⟨rfl, hb4⟩
        obtain ⟨c0, c1, f0, f1, hz⟩ := keepR hb4 (r := w.heap.size) (c0 := .int .i64 0) (c1 := .int .i64 0) (by go_simp) (by go_simp) (by go_simp) (by go_simp)
        have v0 := cell_at_below hb4 (w.heap.size + 1) 0 (.int .i64 a) (by go_simp)
        have v1 := cell_at_below hb4 (w.heap.size + 1) 1 (.int .i64 b) (by go_simp)
        have HB4 := Lib.hid (bt hb4 ((below_alloc2 w (.cells #[.int .i64 0, .int .i64 0] 36) (.cells #[.int .i64 a, .int .i64 b] 36)).drew))
        clear hb4
        cases bc
        · go_wp2_with fail
          refine bodyPost_ret (v := .tuple #[.agg #[.int .i64 0, .int .i64 0], .int .i64 20]) (by simp [results, Tryd.results42, go_sem, c0, c1]) rfl ?_
          exact ⟨ret_rat (by rw [HP.out]; rfl), (HB4.out.setCell (Nat.le_refl _) _).setCell (Nat.le_refl _) _⟩
        · go_wp2_with fail
          refine bodyPost_ret (v := .tuple #[.agg #[.int .i64 a, .int .i64 b], .int .i64 0]) (by simp [results, Tryd.results42, go_sem, c0, c1]) rfl ?_
          exact ⟨ret_rat (by rw [HP.out]; rfl), (HB4.out.setCell (Nat.le_refl _) _).setCell (Nat.le_refl _) _⟩
theorem RSParse_any (l : List UInt8) (w : World) (hl : l.length ≤ 1073741824) :
    Calls Tryd.prog 42 #[.string ⟨l.toArray⟩] w fun e w' => e = .returned (.tuple #[.agg #[.int .i64 (parseS l).1, .int .i64 (parseS l).2.1], .int .i64 (parseS l).2.2]) ∧ Below w.heap.size w w' := by
  obtain ⟨e1, e2, e3⟩ := cut3 l
  cases hB : cutB l
  · have hF := cutAt_false (l := l) (c := 47) (by rw [← e3]; exact hB)
    exact rparse_one l w hl (fun k h e => hF.2 (by rw [← e]; exact List.getElem_mem h)) (parseS_no (by unfold okS; rw [hB]; rfl))
  · have hF := cutAt_true (l := l) (c := 47) (by rw [← e3]; exact hB)
    have hN := cutAt_notin (c := 47) (l := l)
    rw [← e1, ← e2] at hF
    rw [← e1] at hN
    have hp : parseS l = if (textS (digV (cutT l)) (digV (cutL l)) == l) = true then (digV (cutT l), digV (cutL l), 0) else (0, 0, 20) := by
      unfold parseS okS; rw [hB, Bool.true_and]
    obtain ⟨T, hT⟩ : ∃ T, cutT l = T := ⟨_, rfl⟩
    obtain ⟨L, hL⟩ : ∃ L, cutL l = L := ⟨_, rfl⟩
    rw [hT, hL] at hF hp
    rw [hT] at hN
    have hlen : l.length = T.length + (L.length + 1) := by rw [hF]; simp
    have htk : l.take T.length = T := by rw [hF]; simp
    have hdr : l.drop (T.length + 1) = L := by rw [hF]; simp
    have hno : ∀ k (h : k < l.length), k < T.length → l[k] ≠ 47 := fun k h hk e => hN (by
      have h2 : l[k]? = some l[k] := List.getElem?_eq_getElem h
      rw [e, hF, List.getElem?_append_left hk, List.getElem?_eq_getElem hk] at h2
      have this := Option.some.inj h2
      rw [← this]; exact List.getElem_mem hk)
    have hat : ∀ h : T.length < l.length, l[T.length] = 47 := fun h => by
      have h2 : l[T.length]? = some 47 := by rw [hF]; simp
      rw [List.getElem?_eq_getElem h] at h2
      exact Option.some.inj h2
    exact rparse_two l T L _ _ w hl hno hat (by omega) (by omega) (by rw [ext_take, htk]) (by rw [ext_drop, hdr]) rfl rfl _ rfl hp
end Go.Proofs.YtdpmijmofeechaaDoor.ScoU
