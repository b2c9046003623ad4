/- report.Of at a state that took nothing (printed by mkofe.py). -/
import Derived.Test.YtodiipkedhfncaaGreatDoorStaF
import Derived.Test.YtodiipkedhfncaaGreatDoorClsW
import Derived.Test.YtodiipkedhfncaaGreatDoorLevW
namespace Go.Proofs.YtodiipkedhfncaaGreatDoor.OfeW
set_option linter.unusedVariables false
set_option linter.unusedSimpArgs false
open Go.RowKit Base SeqM CfM SchX SchY SchZ StaE StaF RptO RptC ClsW LevM LevW VecW DevW

theorem row_form {w : World} {base : Nat} {e : TypeId} {size n : Nat} {v : Value} {xs : List Value} (h : w.ownsRow base e size v n xs) : ∃ a cap, v = .slice a n cap := by
  rcases h.2 with ⟨hv, h0⟩ | ⟨g, cap, cur, hv, _⟩
  · exact ⟨none, 0, by rw [hv, h0]⟩
  · exact ⟨_, _, hv⟩
theorem seq_set {α : Type} {k : Nat} {f : α → List Value} {w : World} {lo B : Nat} {v : Value} {l : List α} (h : Seq k f w lo B v l) (p : Addr) (hp : p.block < lo) (u : Value) : Seq k f (w.setCell p u) lo B v l := by
  obtain ⟨A, cap, e, h1, h2, h3, h4⟩ := h
  exact ⟨A, cap, e, h1, h2, h3.set_ p (.inl hp) u, h4⟩
theorem vecs_nil (w : World) (lo B : Nat) : Vecs w lo B (.slice none 0 0) [] := ⟨[], rfl, Seq.nil_, fun r hr => by cases hr⟩
theorem lev0 {n : Int} (h : 2 ≤ n ∧ n ≤ 64) : levL [] n = zeros ∧ levE [] n = 0 := lev_yes h rfl
theorem cols0 (d : Int) : colsL [] d = [] ∧ colsE [] d = 4 := cols_none rfl
def OfPost (w : World) (e : Ending) (w' : World) : Prop := (∃ a cap u2, e = .returned (.tuple #[.agg #[.int .i64 0, .slice a 0 cap, u2], .int .i64 0]) ∧ Seq 1 inC w' 0 w'.heap.size u2 zeros) ∧ Below w.heap.size w w'
set_option maxHeartbeats 4000000 in
set_option maxRecDepth 100000 in
theorem Of0 (c : Cf) (hc : confOk c) (w : World) :
    Calls Tryz.prog 26 #[.agg (st0C c).toArray] w (OfPost w) := by
  have hc3 : 2 ≤ c.c3 ∧ c.c3 ≤ 64 := by unfold confOk at hc; omega
  have HR := Lib.hid (fun W => Right0 c hc W)
  have HCO := Lib.hid (fun W => Columns_any (.slice none 0 0) [] c.c0 0 W (vecs_nil _ _ _))
  have HLV := Lib.hid (fun W => Levels_any (.slice none 0 0) [] c.c3 W Seq.nil_ (fun x hx => by cases hx))
  unfold ClPost at HCO
  unfold LvPost at HLV
  rw [(cols0 c.c0).1, (cols0 c.c0).2] at HCO
  rw [(lev0 hc3).1, (lev0 hc3).2] at HLV
  clear hc hc3
  obtain ⟨c0, c1, c2, c3, c4, c5, c6, c7, c8, c9, c10⟩ := c
  unfold st0C at HR ⊢
  unfold CfM.cfC at HR ⊢
  dsimp only [List.cons_append, List.nil_append] at HR HCO HLV ⊢
  obtain ⟨W0, eW0⟩ : ∃ W, w.alloc (.cells #[.int .i64 c0, .int .i64 c1, .int .i64 c2, .int .i64 c3, .int .i64 c4, .int .i64 c5, .int .i64 c6, .int .i64 c7, .int .i64 c8, .int .i64 c9, .int .i64 c10, .int .i64 0, .int .i64 0, .int .i64 0, .slice none 0 0, .slice none 0 0, .slice none 0 0] 58) = W := ⟨_, rfl⟩
  have HB0 := Lib.hid (show Below w.heap.size w W0 by rw [← eW0]; exact below_a1 _ _)
  have HSB0 := Lib.hid (show W0.heap[w.heap.size]? = some (.cells #[.int .i64 c0, .int .i64 c1, .int .i64 c2, .int .i64 c3, .int .i64 c4, .int .i64 c5, .int .i64 c6, .int .i64 c7, .int .i64 c8, .int .i64 c9, .int .i64 c10, .int .i64 0, .int .i64 0, .int .i64 0, .slice none 0 0, .slice none 0 0, .slice none 0 0] 58 (0, 0)) by rw [← eW0]; exact heap_alloc_new w _)
  have HZ0 := Lib.hid (show W0.heap.size = w.heap.size + 1 by rw [← eW0]; simp)
  obtain ⟨W, eW⟩ : ∃ W, W0.alloc (.cells #[.int .i64 0, .slice none 0 0, .slice none 0 0] 61) = W := ⟨_, rfl⟩
  have HB := Lib.hid (show Below w.heap.size w W by rw [← eW]; exact HB0.out.alloc HB0.out.size _)
  have HSB := Lib.hid (show ∀ W', Below W.heap.size W W' → W'.heap[w.heap.size]? = some (.cells #[.int .i64 c0, .int .i64 c1, .int .i64 c2, .int .i64 c3, .int .i64 c4, .int .i64 c5, .int .i64 c6, .int .i64 c7, .int .i64 c8, .int .i64 c9, .int .i64 c10, .int .i64 0, .int .i64 0, .int .i64 0, .slice none 0 0, .slice none 0 0, .slice none 0 0] 58 (0, 0)) by
    intro W' hb
    rw [hb.block _ (by rw [← eW]; have := HZ0.out; simp; omega), ← eW, Below.heap_alloc _ _ _ (by have := HZ0.out; omega)]
    exact HSB0.out)
  have HRB := Lib.hid (show ∀ W', Below W.heap.size W W' → ((W'.cell? ⟨W0.heap.size, 0, none⟩ = some (.int .i64 0) ∧ W'.cell? ⟨W0.heap.size, 1, none⟩ = some (.slice none 0 0) ∧ W'.cell? ⟨W0.heap.size, 2, none⟩ = some (.slice none 0 0)) ∧ W'.frozen? ⟨W0.heap.size, 0, none⟩ = false ∧ W'.frozen? ⟨W0.heap.size, 1, none⟩ = false ∧ W'.frozen? ⟨W0.heap.size, 2, none⟩ = false) by
    intro W' hb
    have hz : W0.heap.size < W.heap.size := by rw [← eW]; simp
    refine ⟨⟨keepA hb ?_, keepA hb ?_, keepA hb ?_⟩, (hb.frozen (p := ⟨W0.heap.size, 0, none⟩) hz).trans ?_, (hb.frozen (p := ⟨W0.heap.size, 1, none⟩) hz).trans ?_, (hb.frozen (p := ⟨W0.heap.size, 2, none⟩) hz).trans ?_⟩ <;> (rw [← eW]; clear eW; go_simp))
  go_enter Tryz.func26, Tryz.ntmps26
  go_wp2_with (refine (id ?_ : wpList _ _ _ (⟨some 9, .load _ _, _, _, _, _⟩ :: _) _ _); refine wpList_load_row rfl 58 (.tmp 1) rfl w.heap.size (by rfl) _ _ _ _ (HSB.out W (Below.refl _ _)) Tryz.underlying58 rfl (by kernel_rfl) ?_)
  refine (HR.out _).mono ?_
  rintro e w1 ⟨rfl, hb1⟩
  have HB1 := Lib.hid hb1
  have s14 : w1.cell? ⟨w.heap.size, 14, none⟩ = some (.slice none 0 0) := by rw [cell_of_row _ _ _ _ _ _ (HSB.out w1 hb1)]; rfl
  have s0 : w1.cell? ⟨w.heap.size, 0, none⟩ = some (.int .i64 c0) := by rw [cell_of_row _ _ _ _ _ _ (HSB.out w1 hb1)]; rfl
  have hz1 : w.heap.size < w1.heap.size := (Array.getElem?_eq_some_iff.1 (HSB.out w1 hb1)).1
  have hz2 : W0.heap.size < w1.heap.size := Nat.lt_of_lt_of_le (by rw [← eW]; simp) hb1.size
  have HZ := Lib.hid (And.intro hz1 hz2)
  clear hb1
  go_wp2_with fail
  generalize eX : w1.alloc (.cells #[.int .i64 0, .slice none 0 0, .slice none 0 0] 61) = X at *
  have HBX := Lib.hid (show Below w1.heap.size w1 X by rw [← eX]; exact below_a1 _ _)
  have HXC := Lib.hid (show ∀ W', Below X.heap.size X W' → ((W'.cell? ⟨w1.heap.size, 0, none⟩ = some (.int .i64 0) ∧ W'.cell? ⟨w1.heap.size, 1, none⟩ = some (.slice none 0 0) ∧ W'.cell? ⟨w1.heap.size, 2, none⟩ = some (.slice none 0 0)) ∧ W'.frozen? ⟨w1.heap.size, 0, none⟩ = false ∧ W'.frozen? ⟨w1.heap.size, 1, none⟩ = false ∧ W'.frozen? ⟨w1.heap.size, 2, none⟩ = false) by
    intro W' hb
    have hz : w1.heap.size < X.heap.size := by rw [← eX]; simp
    refine ⟨⟨keepA hb ?_, keepA hb ?_, keepA hb ?_⟩, (hb.frozen (p := ⟨w1.heap.size, 0, none⟩) hz).trans ?_, (hb.frozen (p := ⟨w1.heap.size, 1, none⟩) hz).trans ?_, (hb.frozen (p := ⟨w1.heap.size, 2, none⟩) hz).trans ?_⟩ <;> (rw [← eX]; clear eX; go_simp))
  have x14 : X.cell? ⟨w.heap.size, 14, none⟩ = some (.slice none 0 0) := keepA HBX.out s14
  have x0 : X.cell? ⟨w.heap.size, 0, none⟩ = some (.int .i64 c0) := keepA HBX.out s0
  go_loopw [5, 6, 20] (fun p s i wr => p = .slice none 0 0 ∧ s = .slice none 0 0 ∧ i = .int .i64 0 ∧ X = wr) (fun _ _ _ _ => 0)
  case atStart => exact ⟨rfl, rfl, rfl, rfl⟩
  case round =>
    obtain ⟨rfl, rfl, rfl, rfl⟩ := hrel
    have HS0 := Lib.hid x0
    have HEX := Lib.hid eX
    clear s14 s0 x14 eX
    go_wp2_with fail
    refine (HCO.out _).mono ?_
    rintro e w2 ⟨⟨u1, rfl, hu1⟩, hb2⟩
    obtain ⟨a1, k1, rfl⟩ := row_form hu1
    have HB2 := Lib.hid hb2
    obtain ⟨⟨y0, y1, y2⟩, f0, f1, f2⟩ := HXC.out w2 hb2
    have t0 : w2.cell? ⟨w.heap.size, 0, none⟩ = some (.int .i64 c0) := keepA hb2 HS0.out
    have t3 : w2.cell? ⟨w.heap.size, 3, none⟩ = some (.int .i64 c3) := by
      rw [cell_of_row _ _ _ _ _ _ (HSB.out w2 (bt hb2 (bt HBX.out HB1.out)))]; rfl
    clear hb2 hu1 x0
    have hne : w.heap.size ≠ w1.heap.size := by omega
    go_wp2_with fail
    have HBS := Lib.hid (show Below X.heap.size X w2 from HB2.out)
    refine (HLV.out _).mono ?_
    rintro e w3 ⟨⟨u2, rfl, hu2⟩, hb3⟩
    obtain ⟨A2, k2, rfl, hk1, hk2, hr2, hn2⟩ := hu2
    have HU2 := Lib.hid (show Seq 1 inC w3 w2.heap.size w3.heap.size (.slice A2 zeros.length k2) zeros from ⟨A2, k2, rfl, hk1, hk2, by simpa using hr2, hn2⟩)
    have z0 : (w2.setCell ⟨w1.heap.size, 1, none⟩ (.slice a1 0 k1)).cell? ⟨w1.heap.size, 0, none⟩ = some (.int .i64 0) := by go_simp
    have z1 : (w2.setCell ⟨w1.heap.size, 1, none⟩ (.slice a1 0 k1)).cell? ⟨w1.heap.size, 1, none⟩ = some (.slice a1 0 k1) := by go_simp
    have z2 : (w2.setCell ⟨w1.heap.size, 1, none⟩ (.slice a1 0 k1)).cell? ⟨w1.heap.size, 2, none⟩ = some (.slice none 0 0) := by go_simp
    have g2 : (w2.setCell ⟨w1.heap.size, 1, none⟩ (.slice a1 0 k1)).frozen? ⟨w1.heap.size, 2, none⟩ = false := by rw [World.frozen?_setCell]; exact f2
    have hzz := World.block_lt_of_cell? _ _ z2
    have hbY : Below W.heap.size W (w2.setCell ⟨w1.heap.size, 1, none⟩ (.slice a1 0 k1)) := (bt HB2.out (bt HBX.out HB1.out)).setCell (p := ⟨w1.heap.size, 1, none⟩) HB1.out.size _
    have HB3 := Lib.hid (bt hb3 hbY)
    replace z0 := keepA hb3 z0
    replace z1 := keepA hb3 z1
    replace z2 := keepA hb3 z2
    replace g2 := (hb3.frozen (p := ⟨w1.heap.size, 2, none⟩) hzz).trans g2
    obtain ⟨⟨r0, r1, r2⟩, q0, q1, q2⟩ := HRB.out w3 HB3.out
    have hne2 : W0.heap.size ≠ w1.heap.size := by omega
    clear hb3 hbY hzz hk1 hk2 hr2 hn2 y0 y1 y2 f0 f1 f2 t0 t3
    have hz3 : W0.heap.size + 1 = W.heap.size := by rw [← eW]; simp
    go_wp2
    refine bodyPost_ret (v := .tuple #[.agg #[.int .i64 0, .slice a1 0 k1, .slice A2 zeros.length k2], .int .i64 0]) (by simp [results, Tryz.results26, go_sem, *]) rfl ?_
    have l1 : w1.heap.size < w2.heap.size := Nat.lt_of_lt_of_le (by rw [← HEX.out]; simp) HB2.out.size
    have l2 : w.heap.size ≤ W0.heap.size := HB0.out.size
    have st : ∀ (Y : World) (b j : Nat) (u : Value), w.heap.size ≤ b → Below w.heap.size w Y → Below w.heap.size w (Y.setCell ⟨b, j, none⟩ u) := fun Y b j u hb h => h.setCell (p := ⟨b, j, none⟩) hb u
    refine ⟨⟨a1, k1, _, rfl, ?_⟩, st _ _ _ _ l2 (st _ _ _ _ l2 (st _ _ _ _ l2 (st _ _ _ _ (by omega) (HB.out.trans (HB3.out.mono HB.out.size)))))⟩
    have h9 := seq_set (seq_set (seq_set (seq_set HU2.out ⟨w1.heap.size, 2, none⟩ l1 (.slice A2 zeros.length k2)) ⟨W0.heap.size, 0, none⟩ (by show W0.heap.size < _; omega) (.int .i64 0)) ⟨W0.heap.size, 1, none⟩ (by show W0.heap.size < _; omega) (.slice a1 0 k1)) ⟨W0.heap.size, 2, none⟩ (by show W0.heap.size < _; omega) (.slice A2 zeros.length k2)
    exact h9.more (Nat.zero_le _) (by simp)
end Go.Proofs.YtodiipkedhfncaaGreatDoor.OfeW
