/- The document's Fits: a great number as a wide one, walked. -/
import Derived.Test.YtcaeihfgdlffkaaGreatRRRRDoorPk04
import Derived.Test.YtcaeihfgdlffkaaGreatRRRRDoorPk06
import Derived.StillTailTactics
import Derived.Test.YtcaeihfgdlffkaaGreatRRRRDoorPk27
import Derived.Test.YtcaeihfgdlffkaaGreatRRRRDoorPk12
import Derived.Test.YtcaeihfgdlffkaaGreatRRRRDoorPk13
import Derived.Test.YtcaeihfgdlffkaaGreatRRRRDoorPk22
namespace Go.Proofs.YtcaeihfgdlffkaaGreatRRRRDoor.FitW
set_option linter.unusedVariables false
set_option linter.unusedSimpArgs false
open Go.RowKit Base BigM BigW RptO WidX

theorem pw4 : pw 4 = 18446744073709551616 := by decide
theorem pw_mono {m n : Nat} (h : m ≤ n) : pw m ≤ pw n := by
  obtain ⟨d, rfl⟩ := Nat.exists_eq_add_of_le h
  rw [pw_add]
  have h0 := pw_pos m
  have h1 := pw_pos d
  have h3 : pw m * 1 ≤ pw m * pw d := Int.mul_le_mul_of_nonneg_left (by omega) (by omega)
  rw [Int.mul_one] at h3
  exact h3
def hiK (l : List Int) (k : Nat) : Int := val (l.drop (max k 4))
def loK (l : List Int) (k : Nat) : Int := val ((l.take 4).drop k)
theorem drop_dig {l : List Int} (h : Dig l) (k : Nat) : Dig (l.drop k) := fun d hd => h d (List.mem_of_mem_drop hd)
theorem hiK_bd {l : List Int} (h : Dig l) (hl : l.length ≤ 8) (k : Nat) : 0 ≤ hiK l k ∧ hiK l k < 18446744073709551616 := by
  unfold hiK
  have h1 := val_lt (drop_dig h (max k 4))
  have h2 : pw (l.drop (max k 4)).length ≤ pw 4 := pw_mono (by rw [List.length_drop]; omega)
  rw [pw4] at h2
  exact ⟨val_nonneg (drop_dig h _), by omega⟩
theorem loK_bd {l : List Int} (h : Dig l) (k : Nat) : 0 ≤ loK l k ∧ loK l k < 18446744073709551616 := by
  unfold loK
  have hd := drop_dig (dig_take h 4) k
  have h1 := val_lt hd
  have h2 : pw ((l.take 4).drop k).length ≤ pw 4 := pw_mono (by rw [List.length_drop, List.length_take]; omega)
  rw [pw4] at h2
  exact ⟨val_nonneg hd, by omega⟩
theorem hiK_step {l : List Int} {k : Nat} (hk : k < l.length) (h4 : 4 ≤ k) : hiK l k = hiK l (k + 1) * 65536 + l[k] ∧ loK l k = loK l (k + 1) := by
  unfold hiK loK
  rw [show max k 4 = k by omega, show max (k + 1) 4 = k + 1 by omega, List.drop_eq_getElem_cons hk, val]
  refine ⟨by omega, ?_⟩
  rw [List.drop_eq_nil_of_le (by rw [List.length_take]; omega), List.drop_eq_nil_of_le (by rw [List.length_take]; omega)]
theorem loK_step {l : List Int} {k : Nat} (hk : k < l.length) (h4 : k < 4) : loK l k = loK l (k + 1) * 65536 + l[k] ∧ hiK l k = hiK l (k + 1) := by
  unfold hiK loK
  rw [show max k 4 = 4 by omega, show max (k + 1) 4 = 4 by omega]
  have hk2 : k < (l.take 4).length := by rw [List.length_take]; omega
  rw [List.drop_eq_getElem_cons hk2, val, List.getElem_take]
  exact ⟨by omega, rfl⟩
theorem hilo {l : List Int} (h : Dig l) : hiW (val l) = hiK l 0 ∧ loW (val l) = loK l 0 := by
  have e : val l = loK l 0 + 18446744073709551616 * hiK l 0 := by
    unfold hiK loK
    have h1 := val_append (l.take 4) (l.drop 4)
    rw [List.take_append_drop] at h1
    rw [List.drop_zero, show max 0 4 = 4 from rfl]
    rcases Nat.lt_or_ge l.length 4 with h4 | h4
    · rw [h1, List.drop_eq_nil_of_le (by omega)]; simp [val]
    · rw [h1, List.length_take, show min 4 l.length = 4 by omega, pw4]
  have hb := loK_bd h 0
  unfold hiW loW
  rw [e]
  omega
theorem hilo_end {l : List Int} (hl : l.length ≤ 8) : hiK l l.length = 0 ∧ loK l l.length = 0 := by
  unfold hiK loK
  rw [List.drop_eq_nil_of_le (by omega), List.drop_eq_nil_of_le (by rw [List.length_take]; omega)]
  exact ⟨rfl, rfl⟩
def FRel (l : List Int) (w : World) (i : Value) (wr : World) : Prop := ∃ k : Nat, k ≤ l.length ∧ i = .int .i64 ((k : Int) - 1) ∧ wr.cell? ⟨w.heap.size + 1, 0, none⟩ = some (.int .u64 (hiK l k)) ∧ wr.cell? ⟨w.heap.size + 1, 1, none⟩ = some (.int .u64 (loK l k)) ∧
  (wr.frozen? ⟨w.heap.size + 1, 0, none⟩ = false ∧ wr.frozen? ⟨w.heap.size + 1, 1, none⟩ = false) ∧ (wr.cell? ⟨w.heap.size, 0, none⟩ = some (.int .u64 0) ∧ wr.cell? ⟨w.heap.size, 1, none⟩ = some (.int .u64 0) ∧ wr.frozen? ⟨w.heap.size, 0, none⟩ = false ∧ wr.frozen? ⟨w.heap.size, 1, none⟩ = false) ∧ Below w.heap.size w wr
set_option maxRecDepth 100000 in
set_option maxHeartbeats 4000000 in
theorem Fits_any (v : Value) (N : Int) (lo : Nat) (w : World) (h : Big w lo w.heap.size v N 8) :
    Calls Tryz.prog 82 #[v] w fun e w' => e = .returned (.tuple #[WV N, .int .i64 0]) ∧ Below w.heap.size w w' := by
  obtain ⟨A, n, cap, l, rfl, hb⟩ := h
  have hlen := hb.len
  have hcl := hb.capl
  have hcm := hb.capm
  unfold maxLen at hcm
  have hs := hb.small
  have HD := Lib.hid hb.canon.1
  have HV := Lib.hid (show WV N = .agg #[.int .u64 (hiK l 0), .int .u64 (loK l 0)] by unfold WV; rw [← hb.val, (hilo hb.canon.1).1, (hilo hb.canon.1).2])
  have HR := Lib.hid hb.rd
  have HLE := Lib.hid hlen
  have hn8 : (n : Int) ≤ 8 := by omega
  rw [HV.out]
  clear hb
  go_enter Tryz.func82, Tryz.ntmps82
  go_wp2_with fail
  go_loopw [5] (fun i wr => FRel l w i wr) (fun i _ => (intOf i + 1).toNat)
  case atStart =>
    refine ⟨n, by rw [HLE.out]; exact Nat.le_refl _, rfl, ?_, ?_, ⟨?_, ?_⟩, ⟨?_, ?_, ?_, ?_⟩, ((Below.refl _ _).alloc (Nat.le_refl _) _).alloc (by simp) _⟩
    · rw [← HLE.out, (hilo_end (by rw [HLE.out]; omega)).1]; go_simp
    · rw [← HLE.out, (hilo_end (by rw [HLE.out]; omega)).2]; go_simp
    all_goals go_simp
  case round =>
    obtain ⟨k, hk, rfl, h0, h1, ⟨f0, f1⟩, ⟨r0, r1, q0, q1⟩, hb⟩ := hrel
    rw [HLE.out] at hk
    have HB := Lib.hid hb
    by_cases hlt : 0 < k
    · obtain ⟨j, rfl⟩ : ∃ j, k = j + 1 := ⟨k - 1, by omega⟩
      have hjl : j < l.length := by rw [HLE.out]; omega
      have hi1 : (((j + 1 : Nat)) : Int) - 1 = (j : Int) := by omega
      rw [hi1]
      have hjn : j < n := by omega
      obtain ⟨ad, x, rfl, hbx, hc, hxh⟩ := rd_at HR.out (k := j) hjn
      have c0 : wr.cell? (ad.add j) = some (.int .i64 x) := (hb.cell (by rw [Base.add_block]; exact hbx)).trans hc
      have hgx : l[j] = x := by
        have := hxh.out
        rw [dg_eq, List.getElem?_eq_getElem hjl] at this
        exact this
      have hxr : 0 ≤ x ∧ x < 65536 := by rw [← hgx]; exact HD.out _ (List.getElem_mem hjl)
      clear hb hc hxh
      by_cases h4 : 4 ≤ j
      · have hst := hiK_step hjl h4
        rw [hgx] at hst
        have hb1 := hiK_bd HD.out (by rw [HLE.out]; omega) j
        have hb2 := hiK_bd HD.out (by rw [HLE.out]; omega) (j + 1)
        rw [hst.1] at hb1
        have HST := Lib.hid hst
        clear hst
        generalize hiK l (j + 1) = a at *
        generalize loK l (j + 1) = b at *
        have w1 : IntKind.u64.wrap (a * 65536) = a * 65536 := IntWalk.u64_in _ (by omega)
        have w2 : IntKind.u64.wrap x = x := IntWalk.u64_in _ (by omega)
        have w3 : IntKind.u64.wrap (a * 65536 + x) = a * 65536 + x := IntWalk.u64_in _ (by omega)
        have hj4 : (4 : Int) ≤ (j : Int) := by omega
        clear hgx
        go_wp2_with fail
        go_still_tail 10, (by kernel_rfl)
        go_wp2_with fail
        exact ⟨⟨j, by omega, rfl, by rw [HST.out.1]; go_simp, by rw [HST.out.2]; go_simp, ⟨by go_simp, by go_simp⟩, ⟨by go_simp, by go_simp, by go_simp, by go_simp⟩, (HB.out.drew).setCell (p := ⟨w.heap.size + 1, 0, none⟩) (by show w.heap.size ≤ w.heap.size + 1; omega) _⟩, by simp [intOf]⟩
      · replace h4 : j < 4 := by omega
        have hst := loK_step hjl h4
        rw [hgx] at hst
        have hb1 := loK_bd HD.out j
        have hb2 := loK_bd HD.out (j + 1)
        rw [hst.1] at hb1
        have HST := Lib.hid hst
        clear hst
        generalize loK l (j + 1) = a at *
        generalize hiK l (j + 1) = b at *
        have w1 : IntKind.u64.wrap (a * 65536) = a * 65536 := IntWalk.u64_in _ (by omega)
        have w2 : IntKind.u64.wrap x = x := IntWalk.u64_in _ (by omega)
        have w3 : IntKind.u64.wrap (a * 65536 + x) = a * 65536 + x := IntWalk.u64_in _ (by omega)
        have hj4 : ¬ (4 : Int) ≤ (j : Int) := by omega
        clear hgx
        go_wp2_with fail
        go_still_tail 10, (by kernel_rfl)
        go_wp2_with fail
        exact ⟨⟨j, by omega, rfl, by rw [HST.out.2]; go_simp, by rw [HST.out.1]; go_simp, ⟨by go_simp, by go_simp⟩, ⟨by go_simp, by go_simp, by go_simp, by go_simp⟩, (HB.out.drew).setCell (p := ⟨w.heap.size + 1, 1, none⟩) (by show w.heap.size ≤ w.heap.size + 1; omega) _⟩, by simp [intOf]⟩
    · obtain rfl : k = 0 := by omega
      generalize ha : hiK l 0 = a at *
      generalize hb0 : loK l 0 = b at *
      have HA := Lib.hid ha
      have HB0 := Lib.hid hb0
      clear hb ha hb0
      go_wp2
      refine bodyPost_ret (v := .tuple #[.agg #[.int .u64 a, .int .u64 b], .int .i64 0]) (by simp [results, Tryz.results82, go_sem, *]) rfl ?_
      exact ⟨by rw [HA.out, HB0.out], (HB.out.setCell (p := ⟨w.heap.size, 0, none⟩) (Nat.le_refl _) _).setCell (p := ⟨w.heap.size, 1, none⟩) (Nat.le_refl _) _⟩
end Go.Proofs.YtcaeihfgdlffkaaGreatRRRRDoor.FitW

/- What a column's numbers are like, after the document, walked (printed by mkrcl.py). -/
namespace Go.Proofs.YtcaeihfgdlffkaaGreatRRRRDoor.RclW
set_option linter.unusedVariables false
set_option linter.unusedSimpArgs false
open Go.RowKit Base BigM BigW BigZ RptN RptM RptO RptC WidX SeqM SumW SpdW DevW ColW RstW SprW FitW HyW RotW

/-- cells of one's own, and what is in them -/
def Cel (w : World) (C : Nat) (vs : List Value) : Prop := ∀ (j : Nat) (u : Value), vs[j]? = some u → w.cell? ⟨C, j, none⟩ = some u ∧ w.frozen? ⟨C, j, none⟩ = false
theorem Cel.below {w w' : World} {C : Nat} {vs : List Value} (h : Cel w C vs) (hb : Below w.heap.size w w') : Cel w' C vs := fun j u hu => by
  obtain ⟨h1, h2⟩ := h j u hu
  exact ⟨keepA hb h1, (hb.frozen (p := ⟨C, j, none⟩) (World.block_lt_of_cell? w _ h1)).trans h2⟩
theorem Cel.far {w : World} {C g i : Nat} {vs : List Value} {x : Value} (h : Cel w C vs) (hne : C ≠ g) : Cel (w.setCell ⟨g, i, none⟩ x) C vs := fun j u hu => by
  obtain ⟨h1, h2⟩ := h j u hu
  exact ⟨LnpW.cell_far1 hne h1, by rw [World.frozen?_setCell]; exact h2⟩
theorem Cel.set {w : World} {C i : Nat} {vs : List Value} {x : Value} (h : Cel w C vs) (hi : i < vs.length) : Cel (w.setCell ⟨C, i, none⟩ x) C (vs.set i x) := fun j u hu => by
  by_cases hij : i = j
  · subst hij
    rw [List.getElem?_set_self hi] at hu
    obtain rfl := Option.some.inj hu
    obtain ⟨h1, h2⟩ := h i _ (List.getElem?_eq_getElem hi)
    exact ⟨World.cell?_setCell_same' _ _ _ (by rw [h1]; rfl), by rw [World.frozen?_setCell]; exact h2⟩
  · rw [List.getElem?_set_ne hij] at hu
    obtain ⟨h1, h2⟩ := h j u hu
    exact ⟨(World.cell?_setCell_other w ⟨C, i, none⟩ ⟨C, j, none⟩ x (fun e => hij (by have := congrArg Addr.off e; first | exact this | exact this.symm))).trans h1, by rw [World.frozen?_setCell]; exact h2⟩
theorem Cel.lt {w : World} {C : Nat} {x : Value} {vs : List Value} (h : Cel w C (x :: vs)) : C < w.heap.size := World.block_lt_of_cell? w _ (h 0 x rfl).1
theorem cel_new (w : World) (vs : List Value) (t : TypeId) : Cel (w.alloc (.cells vs.toArray t)) w.heap.size vs := fun j u hu =>
  ⟨by rw [cell_of_row _ _ _ _ _ _ (heap_alloc_new w _)]; simpa using hu, by have h9 := heap_alloc_new w (.cells vs.toArray t); unfold World.frozen?; rw [h9]; simp⟩
def c6 (a b c d e f : Int) : List Value := [.int .i64 a, .int .i64 b, .int .i64 c, .int .i64 d, .int .u64 e, .int .u64 f]
def CRel (l : List Int) (x0 x1 x2 : Int) (C : Nat) (w : World) (i : Value) (wr : World) : Prop := ∃ k : Nat, k ≤ l.length ∧ i = .int .i64 k ∧ Cel wr C (c6 x0 x1 x2 (sum1 (l.take k)) 0 0) ∧ Cel wr w.heap.size (c6 0 0 0 0 0 0) ∧ Below w.heap.size w wr
set_option maxRecDepth 100000 in
set_option maxHeartbeats 4000000 in
theorem rcolumn_any (v : Value) (l : List Int) (w : World) (h : Seq 1 inC w 0 w.heap.size v l) (hne : 0 < l.length) (hf : Nm l) (hl : l.length ≤ 256) :
    Calls Tryz.prog 47 #[v] w fun e w' => e = .returned (CV (colOf l)) ∧ Below w.heap.size w w' := by
  have HSEQ := Lib.hid h
  have HF := Lib.hid hf
  have HL := Lib.hid hl
  obtain ⟨A, cap, rfl, hc1, hc2, hr, hnn⟩ := h
  unfold maxLen at hc2
  have HR := Lib.hid hr
  obtain ⟨n, hn⟩ : ∃ n, l.length = n := ⟨_, rfl⟩
  rw [hn] at hc1 hne hl HSEQ ⊢
  have HN := Lib.hid hn
  clear hr hf hnn
  obtain ⟨W, eW⟩ : ∃ W, w.alloc (.cells #[.int .i64 0, .int .i64 0, .int .i64 0, .int .i64 0, .int .u64 0, .int .u64 0] 51) = W := ⟨_, rfl⟩
  have HB := Lib.hid (show Below w.heap.size w W by rw [← eW]; exact below_a1 _ _)
  have HC0 := Lib.hid (show Cel W w.heap.size (c6 0 0 0 0 0 0) by rw [← eW]; exact cel_new w (c6 0 0 0 0 0 0) _)
  have HSO := Lib.hid (RSorted_any _ l 0 W (HSEQ.out.up HB.out) (by omega))
  clear hn
  go_enter Tryz.func47, Tryz.ntmps47
  go_wp2_with fail
  refine HSO.out.mono ?_
  rintro e w1 ⟨⟨u1, rfl, hu1⟩, hb1⟩
  have HB1 := Lib.hid (bt hb1 HB.out)
  have HC1 := Lib.hid (HC0.out.below hb1)
  obtain ⟨A1, k1, rfl, hk1, hk2, hr1, _⟩ := hu1
  unfold maxLen at hk2
  rw [sortR_length, HN.out] at hk1 ⊢
  have hsl : (sortR l).length = n := by rw [sortR_length, HN.out]
  obtain ⟨q, hq⟩ : ∃ q : Nat, (n + 1) / 2 - 1 = q := ⟨_, rfl⟩
  obtain ⟨r, hr'⟩ : ∃ r : Nat, n - 1 = r := ⟨_, rfl⟩
  obtain ⟨ad, x0, rfl, _, _, hx0, y0⟩ := rdI hr1 (i := 0) (by omega)
  obtain ⟨ad1, x1, e1', _, _, hx1, y1⟩ := rdI hr1 (i := r) (by omega)
  obtain rfl := Option.some.inj e1'
  obtain ⟨ad2, x2, e2', _, _, hx2, y2⟩ := rdI hr1 (i := q) (by omega)
  obtain rfl := Option.some.inj e2'
  have had : ad.add 0 = ad := by unfold Addr.add; simp
  rw [had] at y0
  have HCV := Lib.hid (show CV (colOf l) = .agg #[.int .i64 x0, .int .i64 x1, .int .i64 x2, .int .i64 (sum1 l), .int .u64 (hiW (pairs [] l)), .int .u64 (loW (pairs [] l))] by
    unfold CV colC colOf
    simp only [List.getD_eq_getElem?_getD]
    rw [HN.out, hq, hr', hx0, hx1, hx2]
    rfl)
  have e1 : ((n : Nat) : Int) - 1 = (r : Int) := by omega
  have e2 : ((n : Nat) : Int) + 1 = (n : Int) + 1 := rfl
  have e3 : (((n : Nat) : Int) + 1).tdiv 2 = (q : Int) + 1 := by rw [Int.tdiv_eq_ediv_of_nonneg (by omega)]; omega
  have e3b : (((n : Nat) : Int) + 1) / 2 = (q : Int) + 1 := by omega
  have e4 : (q : Int) + 1 - 1 = (q : Int) := by omega
  have kr : r < n := by omega
  have kq : q < n := by omega
  have v0 : IntKind.i64.wrap (((n : Nat) : Int) + 1) = ((n : Nat) : Int) + 1 := IntWalk.i64_in _ (by omega)
  have v1 : IntKind.i64.wrap (r : Int) = (r : Int) := IntWalk.i64_in _ (by omega)
  have v2 : IntKind.i64.wrap ((q : Int) + 1) = (q : Int) + 1 := IntWalk.i64_in _ (by omega)
  have v3 : IntKind.i64.wrap (q : Int) = (q : Int) := IntWalk.i64_in _ (by omega)
  have CL := Lib.hid (And.intro y0 (And.intro y1 y2))
  clear hq hr' hx0 hx1 hx2 hr1 hb1 had y0 y1 y2 e2 hsl eW
  go_wp2_with fail
  refine regionZ 19 (fun w' => w'.cell? ad = some (.int .i64 x0) ∧ w'.cell? (ad.add r) = some (.int .i64 x1) ∧ w'.cell? (ad.add q) = some (.int .i64 x2)) (by kernel_rfl) (CL.out) (fun hH => ?_)
  refine takeZ 0 (v := ?_) (gi rfl) (by kernel_rfl) (fun _ _ _ h => h) hH (.inl ⟨rfl, fun w hW => ?_⟩) ?_
  rotate_left
  · (go_simp; try with_reducible rfl)
  try simp only [Act.put, List.setIfInBounds_toArray, List.set_cons_zero, List.set_cons_succ]
  refine takeZ 1 (v := ?_) (gi rfl) (by kernel_rfl) (fun _ _ _ h => h) hH (.inl ⟨rfl, fun w hW => ?_⟩) ?_
  rotate_left
  · (go_simp; try with_reducible rfl)
  try simp only [Act.put, List.setIfInBounds_toArray, List.set_cons_zero, List.set_cons_succ]
  refine takeZ 2 (v := ?_) (gi rfl) (by kernel_rfl) (fun _ _ _ h => h) hH (.inl ⟨rfl, fun w hW => ?_⟩) ?_
  rotate_left
  · (obtain ⟨hW1, hW2, hW3⟩ := hW; go_simp; try with_reducible rfl)
  try simp only [Act.put, List.setIfInBounds_toArray, List.set_cons_zero, List.set_cons_succ]
  refine takeZ 3 (v := ?_) (gi rfl) (by kernel_rfl) (fun _ _ _ h => h) hH (.inl ⟨rfl, fun w hW => ?_⟩) ?_
  rotate_left
  · (go_simp; try with_reducible rfl)
  try simp only [Act.put, List.setIfInBounds_toArray, List.set_cons_zero, List.set_cons_succ]
  refine takeZ 4 (v := ?_) (gi rfl) (by kernel_rfl) (fun _ _ _ h => h) hH (.inl ⟨rfl, fun w hW => ?_⟩) ?_
  rotate_left
  · (go_simp; try with_reducible rfl)
  try simp only [Act.put, List.setIfInBounds_toArray, List.set_cons_zero, List.set_cons_succ]
  refine takeZ 5 (v := ?_) (gi rfl) (by kernel_rfl) (fun _ _ _ h => h) hH (.inl ⟨rfl, fun w hW => ?_⟩) ?_
  rotate_left
  · (go_simp; try with_reducible rfl)
  try simp only [Act.put, List.setIfInBounds_toArray, List.set_cons_zero, List.set_cons_succ]
  refine takeZ 6 (v := ?_) (gi rfl) (by kernel_rfl) (fun _ _ _ h => h) hH (.inl ⟨rfl, fun w hW => ?_⟩) ?_
  rotate_left
  · (go_simp; try with_reducible rfl)
  try simp only [Act.put, List.setIfInBounds_toArray, List.set_cons_zero, List.set_cons_succ]
  refine takeZ 7 (v := ?_) (gi rfl) (by kernel_rfl) (fun _ _ _ h => h) hH (.inl ⟨rfl, fun w hW => ?_⟩) ?_
  rotate_left
  · (go_simp; try with_reducible rfl)
  try simp only [Act.put, List.setIfInBounds_toArray, List.set_cons_zero, List.set_cons_succ]
  refine takeZ 8 (v := ?_) (gi rfl) (by kernel_rfl) (fun _ _ _ h => h) hH (.inl ⟨rfl, fun w hW => ?_⟩) ?_
  rotate_left
  · (obtain ⟨hW1, hW2, hW3⟩ := hW; go_simp; try with_reducible rfl)
  try simp only [Act.put, List.setIfInBounds_toArray, List.set_cons_zero, List.set_cons_succ]
  refine takeZ 9 (v := ?_) (gi rfl) (by kernel_rfl) (fun _ _ _ h => h) hH (.inl ⟨rfl, fun w hW => ?_⟩) ?_
  rotate_left
  · (go_simp; try with_reducible rfl)
  try simp only [Act.put, List.setIfInBounds_toArray, List.set_cons_zero, List.set_cons_succ]
  refine takeZ 10 (v := ?_) (gi rfl) (by kernel_rfl) (fun _ _ _ h => h) hH (.inl ⟨rfl, fun w hW => ?_⟩) ?_
  rotate_left
  · (go_simp; try with_reducible rfl)
  try simp only [Act.put, List.setIfInBounds_toArray, List.set_cons_zero, List.set_cons_succ]
  refine takeZ 11 (v := ?_) (gi rfl) (by kernel_rfl) (fun _ _ _ h => h) hH (.inl ⟨rfl, fun w hW => ?_⟩) ?_
  rotate_left
  · (go_simp; try with_reducible rfl)
  try simp only [Act.put, List.setIfInBounds_toArray, List.set_cons_zero, List.set_cons_succ]
  refine takeZ 12 (v := ?_) (gi rfl) (by kernel_rfl) (fun _ _ _ h => h) hH (.inl ⟨rfl, fun w hW => ?_⟩) ?_
  rotate_left
  · (go_simp; try with_reducible rfl)
  try simp only [Act.put, List.setIfInBounds_toArray, List.set_cons_zero, List.set_cons_succ]
  refine takeZ 13 (v := ?_) (gi rfl) (by kernel_rfl) (fun _ _ _ h => h) hH (.inl ⟨rfl, fun w hW => ?_⟩) ?_
  rotate_left
  · (go_simp; try with_reducible rfl)
  try simp only [Act.put, List.setIfInBounds_toArray, List.set_cons_zero, List.set_cons_succ]
  refine takeZ 14 (v := ?_) (gi rfl) (by kernel_rfl) (fun _ _ _ h => h) hH (.inl ⟨rfl, fun w hW => ?_⟩) ?_
  rotate_left
  · (go_simp; try with_reducible rfl)
  try simp only [Act.put, List.setIfInBounds_toArray, List.set_cons_zero, List.set_cons_succ]
  refine takeZ 15 (v := ?_) (gi rfl) (by kernel_rfl) (fun _ _ _ h => h) hH (.inl ⟨rfl, fun w hW => ?_⟩) ?_
  rotate_left
  · (go_simp; try with_reducible rfl)
  try simp only [Act.put, List.setIfInBounds_toArray, List.set_cons_zero, List.set_cons_succ]
  refine takeZ 16 (v := ?_) (gi rfl) (by kernel_rfl) (fun _ _ _ h => h) hH (.inl ⟨rfl, fun w hW => ?_⟩) ?_
  rotate_left
  · (obtain ⟨hW1, hW2, hW3⟩ := hW; go_simp; try with_reducible rfl)
  try simp only [Act.put, List.setIfInBounds_toArray, List.set_cons_zero, List.set_cons_succ]
  refine takeZ 17 (v := ?_) (gi rfl) (by kernel_rfl) (fun _ _ _ h => h) hH (.inl ⟨rfl, fun w hW => ?_⟩) ?_
  rotate_left
  · (go_simp; try with_reducible rfl)
  try simp only [Act.put, List.setIfInBounds_toArray, List.set_cons_zero, List.set_cons_succ]
  refine oneZ 18 (by kernel_rfl) (gi rfl) (fun K hK => ?_)
  try simp only [Act.put, List.setIfInBounds_toArray, List.set_cons_zero, List.set_cons_succ]
  go_simp
  have HA2 := Lib.hid (below_a1 w1 (.cells #[.int .i64 0, .int .i64 0, .int .i64 0, .int .i64 0, .int .u64 0, .int .u64 0] 51))
  refine hK.out _ _ (fun _ => ⟨keepA HA2.out CL.out.1, keepA HA2.out CL.out.2.1, keepA HA2.out CL.out.2.2⟩) (fun hH => ?_)
  replace hH := hH (by decide)
  clear hK K
  try simp only [Act.put, List.setIfInBounds_toArray, List.set_cons_zero, List.set_cons_succ]
  refine oneZ 19 (by kernel_rfl) (gi rfl) (fun K hK => ?_)
  try simp only [Act.put, List.setIfInBounds_toArray, List.set_cons_zero, List.set_cons_succ]
  go_simp
  refine hK.out _ _ (fun h => absurd h (by decide)) (fun hH => ?_)
  clear hK K
  try simp only [Act.put, List.setIfInBounds_toArray, List.set_cons_zero, List.set_cons_succ]
  refine doneZ (by kernel_rfl) ?_ _
  clear hH e1 e3 e3b e4 v0 v1 v2 v3
  go_wp2_with fail
  go_loopw [5] (fun i wr => CRel l x0 x1 x2 w1.heap.size w i wr) (fun i _ => n - (intOf i).toNat)
  case atStart => exact ⟨0, Nat.zero_le _, rfl, (cel_new w1 (c6 x0 x1 x2 0 0 0) _).below (Below.refl _ _).drew, (HC1.out.below (below_a1 w1 _)).below (Below.refl _ _).drew, (bt (below_a1 w1 _) HB1.out).drew⟩
  case round =>
    obtain ⟨k, hk, rfl, hC, hC0, hb⟩ := hrel
    rw [HN.out] at hk
    have HC := Lib.hid hC
    have HC0' := Lib.hid hC0
    have HBR := Lib.hid hb
    have hw1 := Lib.hid (show w.heap.size < w1.heap.size from HC1.out.lt)
    by_cases hlt : k < n
    · obtain ⟨ae, x, rfl, _, hbk, hx, hc⟩ := rdI HR.out (i := k) (by rw [HN.out]; exact hlt)
      have hxr := HF.out x (List.mem_of_getElem? hx)
      have c0 : wr.cell? (ae.add k) = some (.int .i64 x) := (hb.cell (by rw [Base.add_block]; exact hbk)).trans hc
      have hT : sum1 (l.take (k + 1)) = sum1 (l.take k) + x := by rw [SeqM.take_next hx, sum1_snoc]
      have hbd := sum1_le (l.take k) (HF.out.take k)
      have hln : (l.take k).length ≤ 256 := by rw [List.length_take, HN.out]; omega
      have HT := Lib.hid hT
      obtain ⟨d3, f3⟩ := hC 3 _ rfl
      generalize sum1 (l.take k) = s at *
      have hs : -549755813888 ≤ s ∧ s ≤ 549755813888 := by omega
      have w3 : IntKind.i64.wrap (s + x) = s + x := IntWalk.i64_in _ (by omega)
      clear hx hc hT hbd hln hb hC hC0
      go_wp2_with fail
      go_still_tail 8, (by kernel_rfl)
      go_wp2_with fail
      exact ⟨⟨k + 1, by rw [HN.out]; omega, by go_num, by rw [HT.out]; exact (HC.out.below (Below.refl _ wr).drew).set (x := .int .i64 (s + x)) (i := 3) (by show 3 < 6; omega), (HC0'.out.below (Below.refl _ wr).drew).far (by have := hw1.out; omega), HBR.out.drew.setCell (p := ⟨w1.heap.size, 3, none⟩) (Nat.le_of_lt hw1.out) _⟩, by simp [intOf]; omega⟩
    · have hkn : k = n := by omega
      subst hkn
      rw [List.take_of_length_le (by rw [HN.out]; omega)] at HC
      have HSP := Lib.hid (RSpread_any _ l wr (HSEQ.out.up HBR.out) HF.out HL.out)
      clear hC hC0 hb
      go_wp2_with fail
      refine HSP.out.mono ?_
      rintro e w3 ⟨⟨u3, rfl, hu3⟩, hb3⟩
      have HB3 := Lib.hid (bt hb3 HBR.out)
      replace HC := Lib.hid (HC.out.below hb3)
      replace HC0' := Lib.hid (HC0'.out.below hb3)
      clear hb3
      go_wp2_with fail
      refine (Fits_any _ _ 0 _ hu3).mono ?_
      rintro e w4 ⟨rfl, hb4⟩
      have HB4 := Lib.hid (bt hb4 HB3.out)
      replace HC := Lib.hid (HC.out.below hb4)
      replace HC0' := Lib.hid (HC0'.out.below hb4)
      clear hb4 hu3
      unfold WV
      generalize sum1 l = s at *
      generalize hiW (pairs [] l) = hi at *
      generalize loW (pairs [] l) = lo at *
      have hz4 : w1.heap.size < w4.heap.size := HC.out.lt
      have hz5 : w.heap.size < w4.heap.size := HC0'.out.lt
      have hne : w.heap.size ≠ w1.heap.size := Nat.ne_of_lt hw1.out
      have b0 := HC.out 0 _ rfl
      have b1 := HC.out 1 _ rfl
      have b2 := HC.out 2 _ rfl
      have b3 := HC.out 3 _ rfl
      have b4 := HC.out 4 _ rfl
      have b5 := HC.out 5 _ rfl
      obtain ⟨b0, g0⟩ := b0
      obtain ⟨b1, g1⟩ := b1
      obtain ⟨b2, g2⟩ := b2
      obtain ⟨b3, g3⟩ := b3
      obtain ⟨b4, g4⟩ := b4
      obtain ⟨b5, g5⟩ := b5
      obtain ⟨a0, t0⟩ := HC0'.out 0 _ rfl
      obtain ⟨a1, t1⟩ := HC0'.out 1 _ rfl
      obtain ⟨a2, t2⟩ := HC0'.out 2 _ rfl
      obtain ⟨a3, t3⟩ := HC0'.out 3 _ rfl
      obtain ⟨a4, t4⟩ := HC0'.out 4 _ rfl
      obtain ⟨a5, t5⟩ := HC0'.out 5 _ rfl
      go_wp2_with fail
      refine bodyPost_ret (v := .agg #[.int .i64 x0, .int .i64 x1, .int .i64 x2, .int .i64 s, .int .u64 hi, .int .u64 lo]) (by simp [results, Tryz.results47, go_sem, *]) rfl ?_
      refine ⟨by rw [HCV.out], ?_⟩
      have st : ∀ (Y : World) (b j : Nat) (u : Value), w.heap.size ≤ b → Below w.heap.size w Y → Below w.heap.size w (Y.setCell ⟨b, j, none⟩ u) := fun Y b j u hb h => h.setCell (p := ⟨b, j, none⟩) hb u
      refine Below.alloc ?_ (by simp; omega) _
      exact st _ _ _ _ (Nat.le_refl _) (st _ _ _ _ (Nat.le_refl _) (st _ _ _ _ (Nat.le_refl _) (st _ _ _ _ (Nat.le_refl _) (st _ _ _ _ (Nat.le_refl _) (st _ _ _ _ (Nat.le_refl _) (st _ _ _ _ (Nat.le_of_lt hw1.out) (st _ _ _ _ (Nat.le_of_lt hw1.out) HB4.out)))))))
end Go.Proofs.YtcaeihfgdlffkaaGreatRRRRDoor.RclW

/- The columns of vectors, after the document, walked; two rows of columns, compared. -/
namespace Go.Proofs.YtcaeihfgdlffkaaGreatRRRRDoor.RcsW
set_option linter.unusedVariables false
set_option linter.unusedSimpArgs false
open Go.RowKit Base BigZ RptN RptM RptO RptC WidX SeqM DevW ColW VecW ClsW
open VisW hiding ret_bool

set_option maxRecDepth 100000 in
set_option maxHeartbeats 8000000 in
theorem RColumns_any (v : Value) (l : List (List Int)) (dim : Int) (lo : Nat) (w : World) (h : Vecs w lo w.heap.size v l) :
    Calls Tryz.prog 19 #[v, .int .i64 dim] w (ClPost w l dim) := by
  have HS := Lib.hid h
  obtain ⟨A, cap, rfl, hc1, hc2, _⟩ := h.form
  obtain ⟨n, hn⟩ : ∃ n, l.length = n := ⟨_, rfl⟩
  have HN := Lib.hid hn
  rw [hn] at HS hc1 ⊢
  clear h hn
  by_cases h1 : 256 < n
  · have F := Lib.hid (cols_long (l := l) (dim := dim) (by rw [HN.out]; exact h1))
    have hb1 : (256 : Int) < (n : Int) := by omega
    go_enter Tryz.func19, Tryz.ntmps19
    go_wp2
    go_ret2
    exact cl_none F.out (Below.refl _ _)
  have hb1 : ¬ (256 : Int) < (n : Int) := by omega
  by_cases h2 : n = 0
  · have F := Lib.hid (cols_none (l := l) (dim := dim) (by rw [HN.out]; exact h2))
    subst h2
    go_enter Tryz.func19, Tryz.ntmps19
    go_wp2
    go_ret2
    exact cl_none F.out (Below.refl _ _)
  have hb2 : ((n : Int) == 0) = false := by simpa using (by omega : (n : Int) ≠ 0)
  go_enter Tryz.func19, Tryz.ntmps19
  go_wp2_with fail
  refine (RalW.RAll_any _ l dim lo _ HS.out (by rw [HN.out]; omega)).mono ?_
  rintro e w2 ⟨rfl, rfl⟩
  cases hv : allV l dim
  · have F := Lib.hid (cols_vec (l := l) (dim := dim) (by rw [HN.out]; exact h1) (by rw [HN.out]; exact h2) hv)
    go_wp2_with fail
    go_ret2
    exact cl_none F.out (Below.refl _ _)
  · have HA := Lib.hid hv
    clear hv
    have HYES := Lib.hid (cols_yes (l := l) (dim := dim) (by rw [HN.out]; exact h1) (by rw [HN.out]; exact h2) HA.out)
    have hdim : 1 ≤ dim ∧ dim ≤ 8 := by
      obtain ⟨x, hx⟩ : ∃ x, l[0]? = some x := ⟨_, List.getElem?_eq_getElem (by rw [HN.out]; omega)⟩
      have := (vec_nm (allV_at HA.out hx)).1
      omega
    obtain ⟨d, hd⟩ : ∃ d : Nat, dim = (d : Int) := ⟨dim.toNat, by omega⟩
    subst hd
    have HD := Lib.hid hdim
    clear hdim
    have HDD := Lib.hid (show (d : Int).toNat = d by omega)
    go_wp2_with fail
    go_loopw [7, 6] (fun i o wr => C2Rel l d w i o wr) (fun i _ _ => d - (intOf i).toNat)
    case atStart => exact ⟨0, Nat.zero_le _, rfl, World.ownsRow_nil _ _ _ _, Below.refl _ _⟩
    case round =>
      rename World => wo
      obtain ⟨j, hj, rfl, hown, hb⟩ := hrel
      have HO := Lib.hid hown
      have HB := Lib.hid hb
      clear hown hb
      have hd8 : d ≤ 8 := by have := HD.out; omega
      by_cases hlt2 : j < d
      · go_wp2_with fail
        go_loopw [9, 8] (fun i r wr => C3Rel l j wo i r wr) (fun i _ _ => n - (intOf i).toNat)
        case atStart => exact ⟨0, Nat.zero_le _, rfl, World.ownsRow_nil _ _ _ _, Below.refl _ _⟩
        case round =>
          obtain ⟨i, hi, rfl, hrow, hbi⟩ := hrel
          rw [HN.out] at hi
          have HR := Lib.hid hrow
          have HBI := Lib.hid hbi
          have HBA := Lib.hid (show Below w.heap.size w wr from HB.out.trans (hbi.mono HB.out.size))
          clear hrow hbi
          by_cases hlt3 : i < n
          · obtain ⟨x, hx⟩ : ∃ x, l[i]? = some x := ⟨_, List.getElem?_eq_getElem (by rw [HN.out]; exact hlt3)⟩
            obtain ⟨ad, cv, rfl, hbk, d0, hcv⟩ := (HS.out.up HBA.out).get hx
            have hxl : j < x.length := by have := (vec_nm (allV_at HA.out hx)).1; omega
            have HX := Lib.hid (colK_snoc hx j)
            obtain ⟨AX, cx, rfl, hcx1, hcx2, hrx, _⟩ := hcv
            unfold maxLen at hcx2
            obtain ⟨ax, y, rfl, _, hbx, hy, e0⟩ := rdI hrx hxl
            have HY := Lib.hid (show x.getD j 0 = y by rw [List.getD_eq_getElem?_getD, hy]; rfl)
            clear hx hrx hy
            obtain ⟨xn, hxn⟩ : ∃ xn, x.length = xn := ⟨_, rfl⟩
            rw [hxn] at d0 hcx1 hxl
            clear hxn
            go_wp2_with (at_builtin; refine listS rfl (.tmp 31) (.tmp 39) _ rfl RstW.eltI wo.heap.size wr.heap.size _ _ i 1 _ _ rfl (HR.out.alloc _) rfl (own_one wr #[.int .i64 y] _ 1 rfl) (by simp [Value.oneCell']) (by omega) (by omega) (by have := HBI.out.size; simp; omega) ?_; intro r' w3 hown3 hg3)
            exact ⟨⟨i + 1, by rw [HN.out]; omega, by go_num, by rw [HX.out, HY.out, List.map_append]; exact hown3, below_own (HBI.out.alloc HBI.out.size _) (HR.out.alloc _) hg3 (Nat.le_refl _) (by have := HBI.out.size; simp; omega)⟩, by simp [intOf]; omega⟩
          · obtain rfl : i = n := by omega
            have hrow := HR.out
            rw [List.take_of_length_le (by rw [HN.out]; omega)] at hrow
            have hlen : (colK l j).length = i := by rw [colK_length, HN.out]
            have HCOL := Lib.hid (RclW.rcolumn_any _ (colK l j) wr ((seq_own (by rw [hlen]; exact hrow)).more (Nat.zero_le _) (Nat.le_refl _)) (by omega) (colK_nm HA.out (by omega)) (by omega))
            have HSU := Lib.hid (show ((List.range (j + 1)).map (fun k => colOf (colK l k))).flatMap colC = ((List.range j).map (fun k => colOf (colK l k))).flatMap colC ++ colC (colOf (colK l j)) by
              rw [List.range_succ, List.map_append, List.flatMap_append]; simp)
            clear hrow hlen
            go_wp2_with fail
            refine HCOL.out.mono ?_
            rintro e w5 ⟨rfl, hb5⟩
            have HB5 := Lib.hid hb5
            have HO5 := Lib.hid (own_below (own_below HO.out HBI.out) hb5)
            have HW5 := Lib.hid (show Below w.heap.size w w5 from bt hb5 HBA.out)
            clear hb5 HCOL
            generalize colOf (colK l j) = c at *
            obtain ⟨a1, a2, a3, a4, a5⟩ := c
            unfold CV
            unfold colC at HSU ⊢
            generalize hiW a5 = a6 at *
            generalize loW a5 = a7 at *
            go_wp2_with (at_builtin; refine listS rfl (.tmp 41) (.tmp 44) _ rfl eltC w.heap.size w5.heap.size _ _ j 1 _ _ rfl (HO5.out.alloc _) rfl (own_one w5 #[.int .i64 a1, .int .i64 a2, .int .i64 a3, .int .i64 a4, .int .u64 a6, .int .u64 a7] _ 6 rfl) (by simp [Value.oneCell']) (by omega) (by have := HD.out; omega) (by have := HW5.out.size; simp; omega) ?_; intro r' w6 hown6 hg6)
            exact ⟨⟨j + 1, by omega, by go_num, by unfold colC; rw [HSU.out]; exact hown6, below_own (HW5.out.alloc HW5.out.size _) (HO5.out.alloc _) hg6 (Nat.le_refl _) (by have := HW5.out.size; simp; omega)⟩, by simp [intOf]; omega⟩
      · obtain rfl : j = d := by omega
        go_wp2
        go_ret2
        refine ⟨⟨u6, by rw [HYES.out.2]; rfl, ?_⟩, HB.out⟩
        rw [HYES.out.1, HDD.out, List.length_map, List.length_range]
        exact HO.out
theorem colC_len (c : Col) : (colC c).length = 6 := rfl
def SRel (n : Nat) (w : World) (i : Value) (wr : World) : Prop := ∃ k : Nat, k ≤ n ∧ i = .int .i64 k ∧ Below w.heap.size w wr
set_option maxRecDepth 100000 in
set_option maxHeartbeats 4000000 in
theorem SameC_any (u v : Value) (l : List Col) (w : World) (hu : Seq 6 colC w 0 w.heap.size u l) (hv : Seq 6 colC w 0 w.heap.size v l) :
    Calls Tryz.prog 23 #[u, v] w fun e w' => e = .returned (.bool true) ∧ Below w.heap.size w w' := by
  obtain ⟨A, cap, rfl, hc1, hc2, hr, _⟩ := hu
  obtain ⟨B, cap2, rfl, hd1, hd2, hs, _⟩ := hv
  unfold maxLen at hc2 hd2
  have HR := Lib.hid hr
  have HS := Lib.hid hs
  obtain ⟨n, hn⟩ : ∃ n, l.length = n := ⟨_, rfl⟩
  rw [hn] at hc1 hd1 ⊢
  have HN := Lib.hid hn
  clear hr hs hn
  go_enter Tryz.func23, Tryz.ntmps23
  go_wp2_with fail
  go_loopw [5] (fun i wr => SRel n w i wr) (fun i _ => n - (intOf i).toNat)
  case atStart => exact ⟨0, Nat.zero_le _, rfl, Below.refl _ _⟩
  case round =>
    obtain ⟨k, hk, rfl, hb⟩ := hrel
    have HB := Lib.hid hb
    by_cases hlt : k < n
    · obtain ⟨ad, x, rfl, _, hbk, hx, hc⟩ := rdk colC_len HR.out (i := k) (by rw [HN.out]; exact hlt)
      obtain ⟨ae, y, rfl, _, hbe, hy, he⟩ := rdk colC_len HS.out (i := k) (by rw [HN.out]; exact hlt)
      rw [hx] at hy
      obtain rfl := Option.some.inj hy
      obtain ⟨x1, x2, x3, x4, x5⟩ := x
      have fa : ∀ j u, (colC ⟨x1, x2, x3, x4, x5⟩)[j]? = some u → j ≠ 0 → wr.cell? ⟨(ad.add (k * 6)).block, (ad.add (k * 6)).off + j, none⟩ = some u := fun j u hu hj => by
        rw [add_off _ _ _ hj]; exact (hb.cell (by rw [Base.add_block]; exact hbk)).trans (hc j u hu)
      have fe : ∀ j u, (colC ⟨x1, x2, x3, x4, x5⟩)[j]? = some u → j ≠ 0 → wr.cell? ⟨(ae.add (k * 6)).block, (ae.add (k * 6)).off + j, none⟩ = some u := fun j u hu hj => by
        rw [add_off _ _ _ hj]; exact (hb.cell (by rw [Base.add_block]; exact hbe)).trans (he j u hu)
      have a0 : wr.cell? (ad.add (k * 6)) = some (.int .i64 x1) := (hb.cell (by rw [Base.add_block]; exact hbk)).trans (hc 0 _ rfl)
      have e0 : wr.cell? (ae.add (k * 6)) = some (.int .i64 x1) := (hb.cell (by rw [Base.add_block]; exact hbe)).trans (he 0 _ rfl)
      have a1 := fa 1 _ rfl (by decide)
      have a2 := fa 2 _ rfl (by decide)
      have a3 := fa 3 _ rfl (by decide)
      have a4 := fa 4 _ rfl (by decide)
      have a5 := fa 5 _ rfl (by decide)
      have e1 := fe 1 _ rfl (by decide)
      have e2 := fe 2 _ rfl (by decide)
      have e3 := fe 3 _ rfl (by decide)
      have e4 := fe 4 _ rfl (by decide)
      have e5 := fe 5 _ rfl (by decide)
      clear fa fe hx hc he hb
      dsimp only at a0 a1 a2 a3 a4 a5 e0 e1 e2 e3 e4 e5
      generalize hiW x5 = x6 at *
      generalize loW x5 = x7 at *
      go_wp2_with fail
      go_quiet (fail)
      go_wp2_with fail
      exact ⟨⟨k + 1, by omega, by go_num, below_drewN HB.out nq⟩, by simp [intOf]; omega⟩
    · obtain rfl : k = n := by omega
      go_wp2_with fail
      go_ret
      exact ⟨rfl, HB.out⟩
end Go.Proofs.YtcaeihfgdlffkaaGreatRRRRDoor.RcsW
