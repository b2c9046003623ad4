/- The walks of score.sorted and Sort. -/
import Derived.Test.YtdpmijmofeechaaDoorSorW
namespace Go.Proofs.YtdpmijmofeechaaDoor.SorX
set_option linter.unusedVariables false
open Go.RowKit Base BigM BigZ GcdM RatM RatW RefRat Glob WideM WideW Rat2 TextW PartW ScoW SclW SorM SorW

theorem own_empty (w : World) (e : TypeId) : (w.alloc (.cells #[] e)).ownsRow w.heap.size e 2 (.slice (some ⟨w.heap.size, 0, none⟩) 0 0) 0 [] :=
  ⟨rfl, .inr ⟨w.heap.size, 0, #[], rfl, Nat.le_refl _, heap_alloc_new w _, Nat.le_refl _, by unfold maxLen; omega, rfl, rfl⟩⟩
set_option maxHeartbeats 1000000 in
set_option maxRecDepth 100000 in
theorem sorted_short (v : Value) (l : List (Int × Int)) (lo : Nat) (w : World) (h1 : Scs w lo w.heap.size v l) (hl : l.length < 2) :
    Calls Tryd.prog 77 #[v, .func (.func 71) #[] #[]] w fun e w' => (∃ v, e = .returned v ∧ Scs w' w.heap.size w'.heap.size v l) ∧ Below w.heap.size w w' := by
  obtain ⟨A, cap, rfl, hc1, hc2, hr, hz⟩ := h1
  have HR := Lib.hid hr
  have HZ := Lib.hid hz
  unfold maxLen at hc2
  obtain ⟨n, hn⟩ : ∃ n, l.length = n := ⟨_, rfl⟩
  have hr2 := HR.out
  rw [hn] at hr2 hc1 hl ⊢
  have HR2 := Lib.hid hr2
  have HN := Lib.hid hn
  have hnI : (n : Int) < 2 := by omega
  clear hr hr2 hz hn
  go_enter Tryd.func77, Tryd.ntmps77
  go_wp2_with (at_builtin; go_must (refine appS rfl (.tmp 9) (.tmp 10) _ rfl eltS w.heap.size (.slice (some ⟨w.heap.size, 0, none⟩) 0 0) 0 [] rfl (own_empty w _) rfl (HR2.out.below (below_alloc1 w _)) HZ.out (one_cells l) (by omega) (by simp) ?_; intro v2 w2 hown2 hg2; have HO2 := Lib.hid hown2; have HG2 := Lib.hid hg2; clear hown2 hg2))
  go_ret
  refine ⟨⟨_, rfl, Scs.of_own (e := 36) (by rw [HN.out]; simpa using HO2.out)⟩, ?_⟩
  exact (below_alloc1 w _).grown HG2.out (by simp) (fun k hk => by obtain rfl := Option.some.inj hk; exact Nat.le_refl _)
theorem scs_lt {w : World} {lo B : Nat} {v : Value} {l : List (Int × Int)} (h : Scs w lo B v l) : ∃ A cap, v = .slice A l.length cap := by
  obtain ⟨A, cap, e, _⟩ := h
  exact ⟨A, cap, e⟩
set_option maxHeartbeats 2000000 in
set_option maxRecDepth 100000 in
theorem sorted_any : ∀ (f : Nat) (v : Value) (l : List (Int × Int)) (lo : Nat) (w : World), Scs w lo w.heap.size v l → allS l = true → l.length ≤ f + 1 → l.length ≤ 1000000 →
    Calls Tryd.prog 77 #[v, .func (.func 71) #[] #[]] w fun e w' => (∃ v, e = .returned v ∧ Scs w' w.heap.size w'.heap.size v (sortF f l)) ∧ Below w.heap.size w w'
  | 0, v, l, lo, w, h1, hr, hl, hm => by
    exact sorted_short v l lo w h1 (by omega)
  | f + 1, v, l, lo, w, h1, hr, hl, hm => by
    by_cases hs : l.length < 2
    · have e : sortF (f + 1) l = l := by unfold sortF; rw [if_pos hs]
      rw [e]
      exact sorted_short v l lo w h1 hs
    · have IH := Lib.hid (sorted_any f)
      have HE := Lib.hid (show sortF (f + 1) l = mergeL (sortF f (l.take (l.length / 2))) (sortF f (l.drop (l.length / 2))) by rw [sortF, if_neg hs])
      obtain ⟨A, cap, rfl, hc1, hc2, hrd, hz⟩ := h1
      obtain ⟨n, hn⟩ : ∃ n, l.length = n := ⟨_, rfl⟩
      obtain ⟨k, hk⟩ : ∃ k, n / 2 = k := ⟨_, rfl⟩
      obtain ⟨a, ha⟩ : ∃ a, l.take k = a := ⟨_, rfl⟩
      obtain ⟨b, hb⟩ : ∃ b, l.drop k = b := ⟨_, rfl⟩
      have hla : a.length = k := by rw [← ha, List.length_take]; omega
      have hlb : b.length = n - k := by rw [← hb, List.length_drop]; omega
      have hra : allS a = true := by
        unfold allS at *; rw [List.all_eq_true] at *; exact fun x hx => hr x (List.mem_of_mem_take (by rw [ha]; exact hx))
      have hrb : allS b = true := by
        unfold allS at *; rw [List.all_eq_true] at *; exact fun x hx => hr x (List.mem_of_mem_drop (by rw [hb]; exact hx))
      rw [hn, hk, ha, hb] at HE
      unfold maxLen at hc2
      have hsa : Scs w lo w.heap.size (.slice A k cap) a := ⟨A, cap, by rw [hla], by omega, by unfold maxLen; omega, by
        rw [hla, ← ha, cells_take]; exact hrd.take (by omega), hz⟩
      obtain ⟨ad, rfl, _, _, _⟩ := hrd.2 (by omega)
      have hsb : Scs w lo w.heap.size (.slice (some (ad.add (k * 2))) (n - k) (cap - k)) b := by
        refine ⟨some (ad.add (k * 2)), cap - k, by rw [hlb], by omega, by unfold maxLen; omega, ?_, fun hh => by cases hh⟩
        rw [hlb, ← hb, cells_drop, ← hn]
        have := hrd.cut (k := k) (by omega) hc1
        rwa [if_neg (by omega)] at this
      have hfa : (sortF f a).length = k := by rw [(sort_perm f a).length_eq]; exact hla
      have hfb : (sortF f b).length = n - k := by rw [(sort_perm f b).length_eq]; exact hlb
      have HSA := Lib.hid hsa
      have HSB := Lib.hid hsb
      have HRA := Lib.hid hra
      have HRB := Lib.hid hrb
      have HLA := Lib.hid hla
      have HLB := Lib.hid hlb
      have HFA := Lib.hid hfa
      have HFB := Lib.hid hfb
      rw [hn] at hl hm hs hc1 ⊢
      have hkI : (n : Int) / 2 = (k : Int) := by omega
      have hsI : ¬ (n : Int) < 2 := by omega
      have hk1 : k ≤ n := by omega
      have hk2 : k ≤ f + 1 := by omega
      have hk3 : n - k ≤ f + 1 := by omega
      have hck : ¬ cap = k := by omega
      have hk4 : (k : Int) ≤ (cap : Int) := by omega
      have hk5 : (k : Int) ≤ (n : Int) := by omega
      have H0 := Lib.hid ((Below.refl w.heap.size w).drew)
      clear hsa hsb hra hrb hla hlb hfa hfb hrd hz hr hn hk ha hb hs
      go_enter Tryd.func77, Tryd.ntmps77
      go_wp2_with fail
      go_region_with (first | (go_at_call_of 77 (Value.slice (some ad) k cap); refine (IH.out _ a lo _ (by exact HSA.out.below H0.out) HRA.out (by rw [HLA.out]; exact hk2) (by rw [HLA.out]; omega)).mono ?_; rintro e w2 ⟨⟨va, rfl, hva⟩, hb2⟩; have HVA := Lib.hid hva; have HB2 := Lib.hid (H0.out.trans hb2); clear hva hb2) | (go_at_call_of 77 (Value.slice (some (ad.add (k * 2))) (n - k) (cap - k)); refine (IH.out _ b lo _ ((HSB.out.below HB2.out).more (Nat.le_refl _) HB2.out.size) HRB.out (by rw [HLB.out]; exact hk3) (by rw [HLB.out]; omega)).mono ?_; rintro e w3 ⟨⟨vb, rfl, hvb⟩, hb3⟩; have HVB := Lib.hid hvb; have HB3 := Lib.hid hb3; clear hvb hb3) | (go_at_call 109; refine (merge_any _ _ (sortF f a) (sortF f b) 0 _ ((HVA.out.below HB3.out).more (Nat.zero_le _) HB3.out.size) (HVB.out.more (Nat.zero_le _) (Nat.le_refl _)) (sort_right f HRA.out) (sort_right f HRB.out) (by rw [HFA.out, HFB.out]; omega)).mono ?_; rintro e w4 ⟨⟨vc, rfl, hvc⟩, hb4⟩; have HVC := Lib.hid hvc; have HB4 := Lib.hid hb4; clear hvc hb4))
      all_goals
        go_wp2_with fail
        go_ret
        have hb34 := HB3.out.trans (HB4.out.mono HB3.out.size)
        refine ⟨⟨_, rfl, ?_⟩, HB2.out.trans (hb34.mono HB2.out.size)⟩
        rw [HE.out]
        exact HVC.out.more (Nat.le_trans HB2.out.size HB3.out.size) (Nat.le_refl _)
/-- what score.Sort hands back -/
def sortV (l : List (Int × Int)) : List (Int × Int) := if allS l = true then insL l else []
theorem Sort_any (v : Value) (l : List (Int × Int)) (lo : Nat) (w : World) (h1 : Scs w lo w.heap.size v l) (hf : Fits l) (hm : l.length ≤ 1000000) :
    Calls Tryd.prog 35 #[v] w fun e w' => (∃ v, e = .returned (.tuple #[v, .int .i64 (allE l)]) ∧ Scs w' w.heap.size w'.heap.size v (sortV l)) ∧ Below w.heap.size w w' := by
  cases ha : allS l
  · have F := Lib.hid (show allE l = 130 ∧ sortV l = [] by unfold allE sortV; rw [ha]; exact ⟨rfl, rfl⟩)
    have H1 := Lib.hid h1
    rw [F.out.1, F.out.2]
    go_enter Tryd.func35, Tryd.ntmps35
    go_wp2_with fail
    refine (all_any v l lo _ H1.out hf).mono ?_
    rintro e w1 ⟨rfl, hb1⟩
    rw [F.out.1]
    go_wp2
    go_ret2
    exact ⟨⟨_, rfl, none, 0, rfl, Nat.le_refl _, by unfold maxLen; omega, Rd.nil_, fun _ => rfl⟩, hb1⟩
  · have F := Lib.hid (show allE l = 0 ∧ sortV l = sortF l.length l by unfold allE sortV; rw [ha]; exact ⟨rfl, (sort_eq l.length (by omega) ha).symm⟩)
    have H1 := Lib.hid h1
    have HA := Lib.hid ha
    clear ha h1
    rw [F.out.1, F.out.2]
    go_enter Tryd.func35, Tryd.ntmps35
    go_wp2_with fail
    refine (all_any v l lo _ H1.out hf).mono ?_
    rintro e w1 ⟨rfl, hb1⟩
    rw [F.out.1]
    go_wp2_with fail
    refine (sorted_any l.length v l lo _ ((H1.out.below hb1).more (Nat.le_refl _) hb1.size) HA.out (by omega) hm).mono ?_
    rintro e w2 ⟨⟨v2, rfl, hv2⟩, hb2⟩
    go_wp2
    go_ret2
    exact ⟨⟨_, rfl, hv2.more hb1.size (Nat.le_refl _)⟩, bt hb2 hb1⟩
end Go.Proofs.YtdpmijmofeechaaDoor.SorX
