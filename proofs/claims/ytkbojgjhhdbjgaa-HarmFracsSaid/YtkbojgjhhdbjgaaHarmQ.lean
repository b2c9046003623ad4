/- The walk of the law HarmFracs. -/
import Derived.Test.YtkbojgjhhdbjgaaHarmS
namespace Go.Proofs.Ytkbojgjhhdbjgaa.HarmS
set_option linter.unusedVariables false
open Go.RowKit Base BigM BigW BigZ GcdW GcdM RatM RatW RefRat HarmM HarmW HarmL

theorem ordV_le {p q r s : Int} (h : 0 < q → 0 < s → p * s ≤ r * q) : ordV p q r s ≤ 0 := by
  unfold ordV
  split
  · omega
  · exact ord_le (h (by omega) (by omega))
set_option maxHeartbeats 4000000 in
theorem walkFracs (n : Int) (w : World) (_ : -9223372036854775808 ≤ n ∧ n ≤ 9223372036854775807) :
    Calls Try.prog 6 #[.int .i64 n] w fun e w' => e = .returned (.bool true) ∧ Below w.heap.size w w' := by
  have hh := held_bd n
  obtain ⟨k, hk⟩ : ∃ k : Nat, (held n).toNat = k := ⟨_, rfl⟩
  have hkk : k ≤ 256 := by omega
  have hfit := frac_fit k
  obtain ⟨⟨P, Q, E⟩, hf⟩ : ∃ t, fracN k = t := ⟨_, rfl⟩
  rw [hf] at hfit
  have HF := Lib.hid (show fracN (held n).toNat = (P, Q, E) by rw [hk, hf])
  have hl := low_bd n
  have hb := brok_bd n
  have HO0 : E = 0 → ordV (low n) 1073741824 P Q ≤ 0 ∧ ordV P Q (low n + brok n) 1073741824 ≤ 0 := by
    intro h0
    subst h0
    obtain ⟨h1, h2⟩ := frac_between k hkk hf
    have e1 : low n = lowN k := by unfold low; rw [hk]
    have e2 : brok n = brokenN k := by unfold brok; rw [hk]
    rw [e1, e2]
    exact ⟨ordV_le fun _ _ => h1, ordV_le fun _ _ => h2⟩
  have HO := Lib.hid HO0
  clear HO0
  clear hk hf
  by_cases hE : E = 0
  · subst hE
    obtain ⟨o1, o2⟩ := HO.out rfl
    obtain ⟨a, ea⟩ : ∃ a, ordV (low n) 1073741824 P Q = a := ⟨_, rfl⟩
    obtain ⟨b, eb⟩ : ∃ b, ordV P Q (low n + brok n) 1073741824 = b := ⟨_, rfl⟩
    rw [ea] at o1
    rw [eb] at o2
    have EA := Lib.hid ea
    have EB := Lib.hid eb
    clear ea eb
    go_enter Try.func6, Try.ntmps6
    go_wp2_with fail
    refine (Frac_any n _).mono ?_
    rintro e w1 ⟨rfl, hb1⟩
    rw [HF.out]
    go_wp2_with fail
    refine (RFrac_any n _).mono ?_
    rintro e w2 ⟨rfl, hb2⟩
    rw [HF.out]
    obtain ⟨k1, k2, k3, k4, k5⟩ := keepR hb2 (r := w1.heap.size) (by go_simp; rfl) (by go_simp; rfl) (by go_simp) (by go_simp)
    have hbz := hb1.trans (((below_alloc1 w1 _).trans (hb2.mono (below_alloc1 w1 _).size)).mono hb1.size)
    have k6 : w1.heap.size < w2.heap.size := by omega
    clear hb1 hb2
    go_wp2_with fail
    have c1 : (w2.alloc (.cells #[.int .i64 P, .int .i64 Q] 38)).cell? ⟨w1.heap.size, 0, none⟩ = some (.int .i64 P) := by rw [World.cell?_alloc_past _ _ _ (by omega)]; exact k1
    have c2 : (w2.alloc (.cells #[.int .i64 P, .int .i64 Q] 38)).cell? ⟨w1.heap.size, 1, none⟩ = some (.int .i64 Q) := by rw [World.cell?_alloc_past _ _ _ (by omega)]; exact k2
    have hbz := hbz.trans ((below_alloc1 w2 (.cells #[.int .i64 P, .int .i64 Q] 38)).mono hbz.size)
    generalize (w2.alloc (.cells #[.int .i64 P, .int .i64 Q] 38)) = W at *
    go_region_held3 (fun w' => w'.cell? ⟨w1.heap.size, 0, none⟩ = some (.int .i64 P) ∧ w'.cell? ⟨w1.heap.size, 1, none⟩ = some (.int .i64 Q))
      (first | (go_keep; done) | (exact ⟨cell_at_below hb5 _ _ _ c1, cell_at_below hb5 _ _ _ c2⟩))
      ((first | (go_at_call 9; refine (Low_any n _).mono ?_; rintro e w' ⟨rfl, rfl⟩) | (go_at_call 27; refine (ROrder_any _ _ _ _ _ (by exact ⟨⟨by omega, by omega⟩, by omega, by omega⟩) hfit).mono ?_; rintro e w5 ⟨rfl, hb5⟩; rw [EA.out])))
    go_wp2_with fail
    have d1 := cell_at_below hb5 _ _ _ c1
    have d2 := cell_at_below hb5 _ _ _ c2
    have hbz5 := hbz.drew.trans (hb5.mono hbz.size)
    go_region_held3 (fun w' => w'.cell? ⟨w1.heap.size, 0, none⟩ = some (.int .i64 P) ∧ w'.cell? ⟨w1.heap.size, 1, none⟩ = some (.int .i64 Q))
      (first | (go_keep; done) | (exact ⟨cell_at_below hb6 _ _ _ d1, cell_at_below hb6 _ _ _ d2⟩))
      ((first | (go_at_call 11; refine (High_any n _).mono ?_; rintro e w' ⟨rfl, rfl⟩) | (go_at_call 27; refine (ROrder_any _ _ _ _ _ hfit (by exact ⟨⟨by omega, by omega⟩, by omega, by omega⟩)).mono ?_; rintro e w6 ⟨rfl, hb6⟩; rw [EB.out])))
    go_wp2_with fail
    refine (lives_any _).mono ?_
    rintro e w7 ⟨rfl, hb7⟩
    go_wp2
    go_ret
    have hbz6 := hbz5.drew.trans (hb6.mono hbz5.size)
    exact ⟨rfl, hbz6.trans (hb7.mono hbz6.size)⟩
  · have hE2 : (E == 0) = false := by simpa using hE
    clear hE
    go_enter Try.func6, Try.ntmps6
    go_wp2_with fail
    refine (Frac_any n _).mono ?_
    rintro e w1 ⟨rfl, hb1⟩
    rw [HF.out]
    go_wp2_with fail
    refine (RFrac_any n _).mono ?_
    rintro e w2 ⟨rfl, hb2⟩
    rw [HF.out]
    obtain ⟨k1, k2, k3, k4, k5⟩ := keepR hb2 (r := w1.heap.size) (by go_simp; rfl) (by go_simp; rfl) (by go_simp) (by go_simp)
    have k6 : w1.heap.size < w2.heap.size := by omega
    have hbz := hb1.trans (((below_alloc1 w1 _).trans (hb2.mono (below_alloc1 w1 _).size)).mono hb1.size)
    clear hb1 hb2
    go_wp2_with fail
    refine (lives_any _).mono ?_
    rintro e w7 ⟨rfl, hb7⟩
    go_wp2
    go_ret
    have hbz2 := hbz.trans ((below_alloc1 w2 (.cells #[.int .i64 P, .int .i64 Q] 38)).mono hbz.size)
    exact ⟨rfl, hbz2.trans (hb7.mono hbz2.size)⟩
end Go.Proofs.Ytkbojgjhhdbjgaa.HarmS
