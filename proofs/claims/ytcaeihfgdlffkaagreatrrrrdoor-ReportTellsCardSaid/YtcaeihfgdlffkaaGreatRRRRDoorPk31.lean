/- The text of a report, walked (report.Text). -/
import Derived.Test.YtcaeihfgdlffkaaGreatRRRRDoorPk30
import Derived.Test.YtcaeihfgdlffkaaGreatRRRRDoorPk20
import Derived.Lib.ItoaLen
import Derived.Lib.AtoiAllCases
import Derived.Lib.IndexMore
import Derived.Test.YtcaeihfgdlffkaaGreatRRRRDoorRows
import Derived.Test.YtcaeihfgdlffkaaGreatRRRRDoorPk00
import Derived.WalkSpells
namespace Go.Proofs.YtcaeihfgdlffkaaGreatRRRRDoor.TxrW
set_option linter.unusedVariables false
set_option linter.unusedSimpArgs false
open Go.RowKit Base SeqM StM RptO RptC DevW RtxM BldW LaidR LneW OfsW DvrW

theorem wEv_arr : (⟨wEv.toArray⟩ : ByteArray) = ⟨#[101, 118, 101, 110, 116, 115]⟩ := by first | rfl | decide
theorem line_Ev {w0 Wa w : World} (hG : G w0) (i : Int) (v : Value) (xs : List Int) (hv : ∀ W, Below w0.heap.size w0 W → KeepU w W → Seq 1 inC W 0 W.heap.size v xs) {bb : Nat} {lst : List UInt8} (hS : WSt w0 Wa bb lst w)
    (hi : I64 i) (hr : ∀ x ∈ xs, I64 x) (hx9 : xs.length ≤ 9) (hlen : lst.length ≤ 100000) :
    Calls Tryz.prog 25 #[.pointer (some ⟨bb, 0, none⟩), .string ⟨#[101, 118, 101, 110, 116, 115]⟩, .int .i64 i, v] w fun e w' => e = .returned (.tuple #[]) ∧ WSt w0 Wa bb (lst ++ lineT wEv i xs) w' := by
  have h := line_any hG wEv i v xs hv hS hi hr (by decide) hx9 hlen
  rw [wEv_arr] at h
  exact h
theorem wCo_arr : (⟨wCo.toArray⟩ : ByteArray) = ⟨#[99, 111, 108, 117, 109, 110]⟩ := by first | rfl | decide
theorem line_Co {w0 Wa w : World} (hG : G w0) (i : Int) (v : Value) (xs : List Int) (hv : ∀ W, Below w0.heap.size w0 W → KeepU w W → Seq 1 inC W 0 W.heap.size v xs) {bb : Nat} {lst : List UInt8} (hS : WSt w0 Wa bb lst w)
    (hi : I64 i) (hr : ∀ x ∈ xs, I64 x) (hx9 : xs.length ≤ 9) (hlen : lst.length ≤ 100000) :
    Calls Tryz.prog 25 #[.pointer (some ⟨bb, 0, none⟩), .string ⟨#[99, 111, 108, 117, 109, 110]⟩, .int .i64 i, v] w fun e w' => e = .returned (.tuple #[]) ∧ WSt w0 Wa bb (lst ++ lineT wCo i xs) w' := by
  have h := line_any hG wCo i v xs hv hS hi hr (by decide) hx9 hlen
  rw [wCo_arr] at h
  exact h
theorem wLe_arr : (⟨wLe.toArray⟩ : ByteArray) = ⟨#[108, 101, 118, 101, 108]⟩ := by first | rfl | decide
theorem line_Le {w0 Wa w : World} (hG : G w0) (i : Int) (v : Value) (xs : List Int) (hv : ∀ W, Below w0.heap.size w0 W → KeepU w W → Seq 1 inC W 0 W.heap.size v xs) {bb : Nat} {lst : List UInt8} (hS : WSt w0 Wa bb lst w)
    (hi : I64 i) (hr : ∀ x ∈ xs, I64 x) (hx9 : xs.length ≤ 9) (hlen : lst.length ≤ 100000) :
    Calls Tryz.prog 25 #[.pointer (some ⟨bb, 0, none⟩), .string ⟨#[108, 101, 118, 101, 108]⟩, .int .i64 i, v] w fun e w' => e = .returned (.tuple #[]) ∧ WSt w0 Wa bb (lst ++ lineT wLe i xs) w' := by
  have h := line_any hG wLe i v xs hv hS hi hr (by decide) hx9 hlen
  rw [wLe_arr] at h
  exact h
def CoRel (r : Rp) (W : World) (bb : Nat) (L0 : List UInt8) (n : Nat) (f : Nat → List UInt8) (i : Value) (wr : World) : Prop := ∃ k : Nat, k ≤ n ∧ i = .int .i64 (k : Int) ∧ WSt W wr bb (L0 ++ f k) wr
set_option maxHeartbeats 8000000 in
set_option maxRecDepth 100000 in
theorem Text_any (r : Rp) (hr : RpOk r) (u1 u2 : Value) (w : World) (hG : G w) (h : RpIn w r u1 u2) :
    Calls Tryz.prog 9 #[.agg #[.int .i64 r.ev, u1, u2]] w fun e w' => e = .returned (.string ⟨(repT r).toArray⟩) ∧ Below w.heap.size w w' := by
  have HOK := Lib.hid hr
  have HCL := Lib.hid (cols_le hr)
  have HLL := Lib.hid (levs_le hr)
  have HT := Lib.hid (show repT r = lineT wEv r.ev [] ++ idx (colT r.ev) r.cols r.cols.length ++ idx levT r.levs r.levs.length from rfl)
  obtain ⟨⟨A1, k1, rfl, hc1, hc1b, hr1, _⟩, A2, k2, rfl, hc2, hc2b, hr2, _⟩ := h
  unfold maxLen at hc1b hc2b
  have HR1 := Lib.hid hr1
  have HR2 := Lib.hid hr2
  obtain ⟨ev, cols, levs⟩ := r
  dsimp only at HOK HCL HLL HT HR1 HR2 hc1 hc2 ⊢
  generalize repT ⟨ev, cols, levs⟩ = RT at *
  obtain ⟨n, hn⟩ : ∃ n, cols.length = n := ⟨_, rfl⟩
  obtain ⟨m, hm⟩ : ∃ m, levs.length = m := ⟨_, rfl⟩
  have HN := Lib.hid hn
  have HM := Lib.hid hm
  have hev : 0 ≤ ev ∧ ev ≤ 256 := hr.1
  have hn8 : n ≤ 8 := by rw [← hn]; exact hr.2.2.1
  have hm11 : m ≤ 11 := by rw [← hm]; exact hr.2.2.2.2.1
  have HEV := Lib.hid (show I64 ev by unfold I64; omega)
  rw [hn] at hc1 HCL HT ⊢
  rw [hm] at hc2 HLL HT ⊢
  have hl0 : (lineT wEv ev []).length ≤ 100 := by
    have := lineT_le (w := wEv) (i := ev) (l := []) (by decide) HEV.out (fun n hn => by cases hn)
    simpa using Nat.le_trans this (by decide)
  obtain ⟨L0, eL0⟩ : ∃ L, lineT wEv ev [] = L := ⟨_, rfl⟩
  have EL0 := Lib.hid eL0
  rw [eL0] at hl0 HT
  clear hr hr1 hr2 hn hm eL0
  obtain ⟨W, eW⟩ : ∃ W, w.alloc (.cells #[.int .i64 ev, .slice A1 n k1, .slice A2 m k2] 34) = W := ⟨_, rfl⟩
  have HB := Lib.hid (show Below w.heap.size w W by rw [← eW]; exact below_a1 _ _)
  have HGW := Lib.hid (G_below hG HB.out)
  have HCS := Lib.hid (show ∀ W', Below W.heap.size W W' → (W'.cell? ⟨w.heap.size, 0, none⟩ = some (.int .i64 ev) ∧ W'.cell? ⟨w.heap.size, 1, none⟩ = some (.slice A1 n k1) ∧ W'.cell? ⟨w.heap.size, 2, none⟩ = some (.slice A2 m k2)) by
    intro W' hb
    subst eW
    refine ⟨keepA hb ?_, keepA hb ?_, keepA hb ?_⟩ <;> go_simp)
  obtain ⟨d0, d1, d2⟩ := HCS.out W (Below.refl _ _)
  have hz : w.heap.size < W.heap.size := by rw [← eW]; simp
  have HBU := Lib.hid (below_a1 W (.cells #[.pointer none, .slice none 0 0] 67))
  have HS0 := Lib.hid (show WSt W (W.alloc (.cells #[.pointer none, .slice none 0 0] 67)) W.heap.size [] (W.alloc (.cells #[.pointer none, .slice none 0 0] 67)) from ⟨Lib.fresh_isBuilder 67 5 W, HBU.out, KeepU.refl _⟩)
  clear hG
  go_enter Tryz.func9, Tryz.ntmps9
  go_wp2_with fail
  refine (line_Ev HGW.out ev _ [] (fun W' _ _ => Seq.nil_) HS0.out HEV.out (fun x hx => by cases hx) (by decide) (by simp)).mono ?_
  rintro e w1 ⟨rfl, h1⟩
  have H1 := Lib.hid (show WSt W w1 W.heap.size L0 w1 by have h9 := h1.here; rwa [List.nil_append, EL0.out] at h9)
  obtain ⟨-, f1, f2⟩ := HCS.out w1 h1.low
  clear h1 d0 d1 d2
  go_wp2_with fail
  go_loopw [19] (fun i wr => CoRel ⟨ev, cols, levs⟩ W W.heap.size L0 n (idx (colT ev) cols) i wr) (fun i _ => n - (intOf i).toNat)
  case atStart => exact ⟨0, Nat.zero_le _, rfl, by simpa [idx_zero] using H1.out⟩
  case round =>
    obtain ⟨k, hk, rfl, hw⟩ := hrel
    have HW := Lib.hid hw
    have hlow := hw.low
    obtain ⟨e0, e1, e2⟩ := HCS.out wr hlow
    have HCK := HCL.out k hk
    by_cases hlt : k < n
    · obtain ⟨ad, c, rfl, _, hbk, hc, hcs⟩ := rdk (f := colC) (fun _ => rfl) ((HR1.out.below HB.out).below' hlow HB.out.size) (i := k) (by rw [HN.out]; exact hlt)
      have hco := HOK.out.2.2.2.1 c (List.mem_of_getElem? hc)
      have hev1 : 1 ≤ ev := HOK.out.2.1 (fun e => by have := List.mem_of_getElem? hc; dsimp only at e; rw [e] at this; cases this)
      have HNX := Lib.hid (idx_succ (colT ev) hc)
      have HNS := Lib.hid (colNs_ok hev1 hco)
      have HDV := Lib.hid (fun W' => Dev_any c ev hco.2.2.2.2 (by omega) W')
      have HDI := Lib.hid (fun W' => NDiv_any c.sum ev W' hco.2.2.2.1.1 hco.2.2.2.1.2 hev1 (by omega))
      have HCT := Lib.hid (show colT ev k c = lineT wCo (k : Int) [c.least, c.mid, c.most, c.sum / ev, devV c.sp ev] from rfl)
      unfold colNs at HNS
      unfold CV colC at HDV
      have g0 : wr.cell? (ad.add (k * 6)) = some (.int .i64 c.least) := hcs 0 _ rfl
      have gf : ∀ j u, (colC c)[j]? = some u → j ≠ 0 → wr.cell? ⟨(ad.add (k * 6)).block, (ad.add (k * 6)).off + j, none⟩ = some u := fun j u hu hj => by rw [add_off _ _ _ hj]; exact hcs j u hu
      have g1 := gf 1 _ rfl (by decide)
      have g2 := gf 2 _ rfl (by decide)
      have g3 := gf 3 _ rfl (by decide)
      have g4 := gf 4 _ rfl (by decide)
      have g5 := gf 5 _ rfl (by decide)
      generalize devV c.sp ev = dv at *
      generalize devE c.sp ev = de at *
      generalize hiW c.sp = hi at *
      generalize loW c.sp = lo at *
      generalize colT ev k c = CT at *
      generalize hq : c.sum / ev = mean at *
      generalize hq2 : c.sum % ev = rest at *
      obtain ⟨ls, ms, md, sm, sp⟩ := c
      dsimp only at g0 g1 g2 g3 g4 g5 HNS HDV HDI HCT
      have hwz : w.heap.size < wr.heap.size := World.block_lt_of_cell? _ _ e0
      clear gf hcs hc hco hbk hw hq hq2
      obtain ⟨X, eX⟩ : ∃ X, wr.alloc (.cells #[.int .i64 ls, .int .i64 ms, .int .i64 md, .int .i64 sm, .int .u64 hi, .int .u64 lo] 51) = X := ⟨_, rfl⟩
      have HBX := Lib.hid (show Below wr.heap.size wr X by rw [← eX]; exact below_a1 _ _)
      have HX := Lib.hid (show ∀ W', Below X.heap.size X W' → (W'.cell? ⟨wr.heap.size, 0, none⟩ = some (.int .i64 ls) ∧ W'.cell? ⟨wr.heap.size, 1, none⟩ = some (.int .i64 ms) ∧ W'.cell? ⟨wr.heap.size, 2, none⟩ = some (.int .i64 md) ∧ W'.cell? ⟨wr.heap.size, 3, none⟩ = some (.int .i64 sm) ∧ W'.cell? ⟨wr.heap.size, 4, none⟩ = some (.int .u64 hi) ∧ W'.cell? ⟨wr.heap.size, 5, none⟩ = some (.int .u64 lo)) by
        intro W' hb
        subst eX
        refine ⟨keepA hb ?_, keepA hb ?_, keepA hb ?_, keepA hb ?_, keepA hb ?_, keepA hb ?_⟩ <;> go_simp)
      have HWX := Lib.hid (HW.out.free HBX.out)
      obtain ⟨x0, x1, x2, x3, x4, x5⟩ := HX.out X (Below.refl _ _)
      obtain ⟨y0, -, -⟩ := HCS.out X HWX.out.low
      go_wp2_with fail
      refine (HDI.out _).mono ?_
      rintro e w2 ⟨rfl, q, rfl⟩
      have HBD := Lib.hid (show Below X.heap.size X (X.drewN q) from below_drewN (Below.refl _ _) q)
      generalize X.drewN q = Y at *
      obtain ⟨x0', x1', x2', x3', x4', x5'⟩ := HX.out Y HBD.out
      have HWY := Lib.hid (HWX.out.free HBD.out)
      obtain ⟨y0', -, -⟩ := HCS.out Y HWY.out.low
      clear x0 x1 x2 x3 x4 x5 y0 g0 g1 g2 g3 g4 g5 eX
      go_wp2_with fail
      refine (HDV.out _).mono ?_
      rintro e w3 ⟨rfl, hb3⟩
      have HB3 := Lib.hid (bt hb3 HBD.out)
      have HW3 := Lib.hid (HWY.out.free hb3)
      obtain ⟨z0, z1, z2, -, -, -⟩ := HX.out w3 HB3.out
      clear hb3 x0' x1' x2' x3' x4' x5' y0'
      have HLT := Lib.hid (seq_builtK (W := w3.alloc (.cells #[.int .i64 ls, .int .i64 md, .int .i64 ms, .int .i64 mean, .int .i64 dv] 3)) (g := w3.heap.size) (n := 5) (cs := #[.int .i64 ls, .int .i64 md, .int .i64 ms, .int .i64 mean, .int .i64 dv]) [ls, md, ms, mean, dv] rfl (heap_alloc_new w3 _) rfl (by decide))
      have HW4 := Lib.hid ((HW3.out.free (below_a1 w3 (.cells #[.int .i64 ls, .int .i64 md, .int .i64 ms, .int .i64 mean, .int .i64 dv] 3))).here)
      go_wp2_with fail
      refine (line_Co HGW.out (k : Int) _ [ls, md, ms, mean, dv] (fun W' _ hk => HLT.out W' hk) HW4.out (by unfold I64; omega) HNS.out (by simp) (by rw [List.length_append]; omega)).mono ?_
      rintro e w5 ⟨rfl, h5⟩
      have H5 := Lib.hid h5.here
      clear h5
      go_wp2_with fail
      refine ⟨⟨k + 1, by omega, by go_num, ?_⟩, by simp [intOf]; omega⟩
      rw [HNX.out, HCT.out, ← List.append_assoc]
      exact H5.out
    · have hkn : k = n := by omega
      subst hkn
      obtain ⟨L1, eL1⟩ : ∃ L, L0 ++ idx (colT ev) cols k = L := ⟨_, rfl⟩
      have hl1 : L1.length ≤ 1300 := by rw [← eL1, List.length_append]; omega
      have EL1 := Lib.hid eL1
      rw [eL1] at HW
      clear eL1 hw HCK
      go_wp2_with fail
      go_loopw [55] (fun i wr => CoRel ⟨ev, cols, levs⟩ W W.heap.size L1 m (idx levT levs) i wr) (fun i _ => m - (intOf i).toNat)
      case atStart => exact ⟨0, Nat.zero_le _, rfl, by simpa [idx_zero] using HW.out⟩
      case round =>
        obtain ⟨j, hj, rfl, hw⟩ := hrel
        have HV := Lib.hid hw
        have hlow2 := hw.low
        have HCK := HLL.out j hj
        by_cases hlt : j < m
        · obtain ⟨ad, x, rfl, _, hbk, hx, g0⟩ := rdI ((HR2.out.below HB.out).below' hlow2 HB.out.size) (i := j) (by rw [HM.out]; exact hlt)
          have hxr := HOK.out.2.2.2.2.2 x (List.mem_of_getElem? hx)
          have HNX := Lib.hid (idx_succ levT hx)
          clear hw hx hbk
          by_cases hx0 : 0 < x
          · have HLX := Lib.hid (show levT j x = lineT wLe (j : Int) [x] by unfold levT; rw [if_neg (by omega)])
            have HLT := Lib.hid (seq_builtK (W := wr.alloc (.cells #[.int .i64 x] 3)) (g := wr.heap.size) (n := 1) (cs := #[.int .i64 x]) [x] rfl (heap_alloc_new wr _) rfl (by decide))
            have HW4 := Lib.hid ((HV.out.free (below_a1 wr (.cells #[.int .i64 x] 3))).here)
            go_wp2_with fail
            refine (line_Le HGW.out (j : Int) _ [x] (fun W' _ hk => HLT.out W' hk) HW4.out (by unfold I64; omega) (fun y hy => by obtain rfl := List.mem_singleton.1 hy; unfold I64; omega) (by simp) (by rw [List.length_append]; omega)).mono ?_
            rintro e w5 ⟨rfl, h5⟩
            have H5 := Lib.hid h5.here
            clear h5
            go_wp2_with fail
            refine ⟨⟨j + 1, by omega, by go_num, ?_⟩, by simp [intOf]; omega⟩
            rw [HNX.out, HLX.out, ← List.append_assoc]
            exact H5.out
          · have HLX := Lib.hid (show levT j x = [] by unfold levT; rw [if_pos (by omega)])
            go_wp2_with fail
            refine ⟨⟨j + 1, by omega, by go_num, ?_⟩, by simp [intOf]; omega⟩
            rw [HNX.out, HLX.out, List.append_nil]
            exact HV.out
        · have hjm : j = m := by omega
          subst hjm
          clear hw
          go_wp2_with fail
          refine (Tryz.Builder_String_any W.heap.size W.heap.size _ _ HV.out.bld HV.out.low.size).mono ?_
          rintro e w2 ⟨rfl, b2⟩
          go_wp2
          go_ret
          refine ⟨?_, HB.out.trans ((HV.out.low.trans b2).mono HB.out.size)⟩
          rw [HT.out]
          first | rfl | (rw [EL1.out]; rfl) | (rw [← EL1.out]; rfl)
end Go.Proofs.YtcaeihfgdlffkaaGreatRRRRDoor.TxrW

/- Plain laws on numbers as texts: a numeral is read as it was, and holds digits alone; a text cut at a byte. No program is in sight. -/
namespace Go.Proofs.YtcaeihfgdlffkaaGreatRRRRDoor.TxtM
open Go.Lib
set_option linter.unusedVariables false

/-- is it a digit? -/
def isD (c : UInt8) : Bool := decide (48 ≤ c.toNat ∧ c.toNat ≤ 57)
/-- the number that digits tell, behind an earlier one -/
def digN : Nat → List UInt8 → Nat
  | a, [] => a
  | a, c :: r => digN (a * 10 + (c.toNat - 48)) r
theorem digN_append : ∀ (l m : List UInt8) (a : Nat), digN a (l ++ m) = digN (digN a l) m
  | [], _, _ => rfl
  | _ :: r, m, a => digN_append r m _
theorem digN_ge : ∀ (l : List UInt8) (a : Nat), a ≤ digN a l
  | [], a => Nat.le_refl a
  | c :: r, a => by
    have := digN_ge r (a * 10 + (c.toNat - 48))
    show a ≤ digN (a * 10 + (c.toNat - 48)) r
    omega
theorem dig_one (u : Nat) (h : u < 10) : (UInt8.ofNat (48 + u)).toNat = 48 + u := by
  rw [UInt8.toNat_ofNat']
  exact Nat.mod_eq_of_lt (by omega)
theorem isD_one (u : Nat) (h : u < 10) : isD (UInt8.ofNat (48 + u)) = true := by
  unfold isD; rw [dig_one u h]; exact decide_eq_true (by omega)
theorem dec_dig (u : Nat) : digN 0 (decDigits u) = u ∧ (decDigits u).all isD = true := by
  induction u using Nat.strongRecOn with
  | _ u ih =>
    by_cases h : u < 10
    · rw [decDigits, dif_pos h]
      refine ⟨?_, by rw [List.all_cons, isD_one u h]; rfl⟩
      show 0 * 10 + ((UInt8.ofNat (48 + u)).toNat - 48) = u
      rw [dig_one u h]; omega
    · obtain ⟨i1, i2⟩ := ih (u / 10) (by omega)
      rw [decDigits, dif_neg h]
      refine ⟨?_, by rw [List.all_append, i2, List.all_cons, isD_one (u % 10) (by omega)]; rfl⟩
      rw [digN_append, i1]
      show u / 10 * 10 + ((UInt8.ofNat (48 + u % 10)).toNat - 48) = u
      rw [dig_one _ (by omega)]; omega
theorem dec_ne (u : Nat) : decDigits u ≠ [] := by
  intro h
  have := decDigits_length u
  rw [h] at this
  have := nDigits_pos u
  simp only [List.length_nil] at *
  omega
theorem dec_mem {u : Nat} {c : UInt8} (h : c ∈ decDigits u) : 48 ≤ c.toNat ∧ c.toNat ≤ 57 := by
  have := List.all_eq_true.1 (dec_dig u).2 c h
  unfold isD at this
  exact of_decide_eq_true this
theorem dec_head (u : Nat) : ∃ c r, decDigits u = c :: r ∧ 48 ≤ c.toNat ∧ c.toNat ≤ 57 := by
  cases h : decDigits u with
  | nil => exact absurd h (dec_ne u)
  | cons c r => exact ⟨c, r, rfl, dec_mem (u := u) (by rw [h]; exact List.mem_cons_self ..)⟩
set_option linter.unusedVariables false in
theorem parse_dig : ∀ (l : List UInt8) (a : Nat), l.all isD = true → digN a l < 18446744073709551616 → parseUint10 a l = .ok (digN a l)
  | [], a, _, _ => rfl
  | c :: r, a, h, hb => by
    rw [List.all_cons, Bool.and_eq_true] at h
    have hc : 48 ≤ c.toNat ∧ c.toNat ≤ 57 := of_decide_eq_true h.1
    have hb' : digN (a * 10 + (c.toNat - 48)) r < 18446744073709551616 := hb
    have hge := digN_ge r (a * 10 + (c.toNat - 48))
    have ih := parse_dig r (a * 10 + (c.toNat - 48)) h.2 hb'
    unfold parseUint10
    rw [if_pos hc, if_neg (by omega), if_neg (by omega)]
    exact ih
theorem parseMag_dec (u : Nat) (h : u < 18446744073709551616) : parseMag (decDigits u) = .ok u := by
  unfold parseMag
  rw [if_neg (dec_ne u), parse_dig _ 0 (dec_dig u).2 (by rw [(dec_dig u).1]; exact h), (dec_dig u).1]
/-- a numeral is read as it was -/
theorem atoi_itoa (n : Int) (h1 : -9223372036854775808 ≤ n) (h2 : n ≤ 9223372036854775807) : atoiAll (itoa n) = .ok n := by
  by_cases hn : n < 0
  · unfold itoa
    rw [if_pos hn, atoiAll_minus, parseMag_dec _ (by omega)]
    show (if 9223372036854775808 < n.natAbs then NumEnd.range else NumEnd.ok (-((n.natAbs : Nat) : Int))) = _
    rw [if_neg (by omega)]
    congr 1; omega
  · unfold itoa
    rw [if_neg hn]
    obtain ⟨c, r, e, hc⟩ := dec_head n.toNat
    have hp := parseMag_dec n.toNat (by omega)
    rw [e] at hp ⊢
    rw [atoiAll_plain c r (by omega) (by omega), hp]
    show (if 9223372036854775808 ≤ n.toNat then NumEnd.range else NumEnd.ok ((n.toNat : Nat) : Int)) = _
    rw [if_neg (by omega)]
    congr 1; omega
theorem itoa_mem {n : Int} {c : UInt8} (h : c ∈ itoa n) : c.toNat = 45 ∨ (48 ≤ c.toNat ∧ c.toNat ≤ 57) := by
  unfold itoa at h
  split at h
  · rcases List.mem_cons.1 h with rfl | h
    · exact .inl rfl
    · exact .inr (dec_mem h)
  · exact .inr (dec_mem h)
theorem itoa_ne (n : Int) : itoa n ≠ [] := by
  unfold itoa
  split
  · simp
  · exact dec_ne _
/-- no byte that is neither a sign nor a digit is in a numeral -/
theorem itoa_no {n : Int} {c : UInt8} (h : c.toNat ≠ 45) (h2 : ¬ (48 ≤ c.toNat ∧ c.toNat ≤ 57)) : c ∉ itoa n := fun hm => by
  rcases itoa_mem hm with h' | h'
  · exact h h'
  · exact h2 h'
theorem itoa_inj {a b : Int} (ha : -9223372036854775808 ≤ a ∧ a ≤ 9223372036854775807) (hb : -9223372036854775808 ≤ b ∧ b ≤ 9223372036854775807) (h : itoa a = itoa b) : a = b := by
  have h1 := atoi_itoa a ha.1 ha.2
  rw [h, atoi_itoa b hb.1 hb.2] at h1
  injection h1 with h1
  exact h1.symm

/-- a text cut at the first byte of a kind -/
def cutAt (c : UInt8) : List UInt8 → List UInt8 × List UInt8 × Bool
  | [] => ([], [], false)
  | x :: r => if x = c then ([], r, true) else (x :: (cutAt c r).1, (cutAt c r).2.1, (cutAt c r).2.2)
theorem index_cons (c x : UInt8) (r : List UInt8) : index (x :: r) [c] = if x = c then 0 else if index r [c] == -1 then -1 else index r [c] + 1 := by
  show (if ([c] : List UInt8).isPrefixOf (x :: r) then (0 : Int) else if index r [c] == -1 then -1 else index r [c] + 1) = _
  by_cases h : x = c
  · rw [if_pos h, if_pos (by subst h; simp)]
  · rw [if_neg h, if_neg (by simp; exact fun e => h e.symm)]
theorem cut_at (c : UInt8) : ∀ l : List UInt8, Lib.cut l [c] = cutAt c l
  | [] => by
    have e : index [] [c] = -1 := rfl
    unfold Lib.cut cutAt; rw [e, if_neg (by decide)]
  | x :: r => by
    have ih := cut_at c r
    have hg := index_ge r [c]
    unfold Lib.cut cutAt
    rw [index_cons]
    by_cases h : x = c
    · rw [if_pos h, if_pos h, if_pos (by decide)]; simp
    · rw [if_neg h, if_neg h, ← ih]
      unfold Lib.cut
      by_cases h1 : index r [c] = -1
      · have e : (if index r [c] == -1 then (-1 : Int) else index r [c] + 1) = -1 := by rw [h1]; rfl
        rw [e, h1, if_neg (by decide), if_neg (by decide)]
      · have e : (if index r [c] == -1 then (-1 : Int) else index r [c] + 1) = index r [c] + 1 := if_neg (by simpa using h1)
        rw [e, if_pos (by omega), if_pos (by omega)]
        have e : (index r [c] + 1).toNat = (index r [c]).toNat + 1 := by omega
        rw [e]
        simp
theorem cutAt_app {c : UInt8} : ∀ {a : List UInt8} (b : List UInt8), c ∉ a → cutAt c (a ++ c :: b) = (a, b, true)
  | [], b, _ => by show (if c = c then _ else _) = _; rw [if_pos rfl]
  | x :: a, b, h => by
    have h1 : x ≠ c := fun e => h (by rw [e]; exact List.mem_cons_self ..)
    have h2 : c ∉ a := fun e => h (List.mem_cons_of_mem _ e)
    show (if x = c then _ else _) = _
    rw [if_neg h1]
    show (x :: (cutAt c (a ++ c :: b)).1, (cutAt c (a ++ c :: b)).2.1, (cutAt c (a ++ c :: b)).2.2) = _
    rw [cutAt_app b h2]
theorem cutAt_no {c : UInt8} : ∀ {a : List UInt8}, c ∉ a → cutAt c a = (a, [], false)
  | [], _ => rfl
  | x :: a, h => by
    have h1 : x ≠ c := fun e => h (by rw [e]; exact List.mem_cons_self ..)
    have h2 : c ∉ a := fun e => h (List.mem_cons_of_mem _ e)
    show (if x = c then _ else _) = _
    rw [if_neg h1, cutAt_no h2]
theorem cutAt_true {c : UInt8} : ∀ {l : List UInt8}, (cutAt c l).2.2 = true → l = (cutAt c l).1 ++ c :: (cutAt c l).2.1
  | [], h => by cases h
  | x :: r, h => by
    unfold cutAt at h ⊢
    by_cases h1 : x = c
    · rw [if_pos h1, h1]; rfl
    · rw [if_neg h1] at h ⊢
      have := cutAt_true (l := r) h
      show x :: r = x :: ((cutAt c r).1 ++ c :: (cutAt c r).2.1)
      rw [← this]
theorem cutAt_false {c : UInt8} : ∀ {l : List UInt8}, (cutAt c l).2.2 = false → (cutAt c l).1 = l ∧ c ∉ l
  | [], _ => ⟨rfl, by simp⟩
  | x :: r, h => by
    unfold cutAt at h ⊢
    by_cases h1 : x = c
    · rw [if_pos h1] at h; cases h
    · rw [if_neg h1] at h ⊢
      obtain ⟨i1, i2⟩ := cutAt_false (l := r) h
      refine ⟨by show x :: (cutAt c r).1 = _; rw [i1], fun hm => ?_⟩
      rcases List.mem_cons.1 hm with e | e
      · exact h1 e.symm
      · exact i2 e
theorem cutAt_low {c : UInt8} : ∀ {l : List UInt8}, (cutAt c l).2.2 = false → (cutAt c l).2.1 = []
  | [], _ => rfl
  | x :: r, h => by
    unfold cutAt at h ⊢
    by_cases h1 : x = c
    · rw [if_pos h1] at h; cases h
    · rw [if_neg h1] at h ⊢
      exact cutAt_low (l := r) h
theorem cutAt_notin {c : UInt8} : ∀ {l : List UInt8}, c ∉ (cutAt c l).1
  | [] => by simp [cutAt]
  | x :: r => by
    unfold cutAt
    by_cases h1 : x = c
    · rw [if_pos h1]; simp
    · rw [if_neg h1]
      show c ∉ x :: (cutAt c r).1
      intro hm
      rcases List.mem_cons.1 hm with e | e
      · exact h1 e.symm
      · exact cutAt_notin e
end Go.Proofs.YtcaeihfgdlffkaaGreatRRRRDoor.TxtM

/- The walk of copseref03.Digits: the decimal numeral. -/
namespace Go.Proofs.YtcaeihfgdlffkaaGreatRRRRDoor.DigW
set_option linter.unusedVariables false
open Go.RowKit Go.Lib Base TxtM

/-- the digits of a number, none for 0 -/
def decX (u : Nat) : List UInt8 := if u = 0 then [] else decDigits u
theorem decX_step {u : Nat} (h : u ≠ 0) : decX u = decX (u / 10) ++ [UInt8.ofNat (48 + u % 10)] := by
  unfold decX
  rw [if_neg h]
  by_cases h1 : u < 10
  · rw [if_pos (by omega), decDigits, dif_pos h1, Nat.mod_eq_of_lt h1]; rfl
  · rw [if_neg (by omega), decDigits, dif_neg h1]
theorem decX_len (u : Nat) (h : u < 18446744073709551616) : (decX u).length ≤ 20 := by
  unfold decX
  split
  · simp
  · rw [decDigits_length]; exact nDigits_le20 u h
theorem decX_ne {u : Nat} (h : u ≠ 0) : decX u ≠ [] := by unfold decX; rw [if_neg h]; exact dec_ne u

theorem dig_piece : ∀ k : Fin 10, (#[48, 49, 50, 51, 52, 53, 54, 55, 56, 57] : Array UInt8).extract k.val (k.val + 1) = #[UInt8.ofNat (48 + k.val)] := by decide +kernel
theorem dig_cat (k : Nat) (h : k < 10) (t : List UInt8) : Value.string ((⟨#[48, 49, 50, 51, 52, 53, 54, 55, 56, 57]⟩ : ByteArray).extract k (k + 1) ++ ⟨t.toArray⟩) = .string ⟨(UInt8.ofNat (48 + k) :: t).toArray⟩ := by
  congr 1
  apply ByteArray.ext
  rw [ByteArray.data_append, ByteArray.data_extract, dig_piece ⟨k, h⟩]
  simp
theorem itoa_zero : itoa ((0 : Nat) : Int) = [48] := by rw [itoa_nonneg, decDigits, dif_pos (by omega)]; rfl
def DigRel (N : Nat) (neg : Bool) (s m : Value) : Prop := ∃ (u : Nat) (t : List UInt8), m = .int .i64 (if neg = true then -(u : Int) else (u : Int)) ∧ s = .string ⟨t.toArray⟩ ∧ u ≤ N ∧ decX u ++ t = decX N
set_option maxHeartbeats 1000000 in
theorem Digits_pos (N : Nat) (w : World) (h1 : N ≤ 9223372036854775807) :
    Calls Tryz.prog 52 #[.int .i64 (N : Int)] w fun e w' => e = .returned (.string ⟨(itoa (N : Int)).toArray⟩) ∧ w = w' := by
  have H0 := Lib.hid (show DigRel N false (.string ⟨#[]⟩) (.int .i64 (N : Int)) from ⟨N, [], rfl, rfl, Nat.le_refl _, by simp⟩)
  go_enter Tryz.func52, Tryz.ntmps52
  go_wp2
  go_loop [3, 4] (fun s m => DigRel N false s m) (fun _ m => (intOf m).natAbs)
  case atStart => exact H0.out
  case round =>
    obtain ⟨u, t, hm, rfl, hu, ht⟩ := hrel
    obtain rfl := hm
    have hl : t.length ≤ 20 := by
      have := decX_len N (by omega)
      rw [← ht, List.length_append] at this
      omega
    have HT := Lib.hid ht
    clear ht
    by_cases hz : u = 0
    · subst hz
      have hT : decX N = t := by rw [← HT.out]; rfl
      have HTT := Lib.hid hT
      have hne : N ≠ 0 → t ≠ [] := fun h => by rw [← hT]; exact decX_ne h
      have HNE := Lib.hid hne
      clear hT hne
      cases t with
      | nil =>
        go_wp2
        go_ret
        have hN : N = 0 := by
          rcases Nat.eq_zero_or_pos N with h | h
          · exact h
          · exact absurd rfl (HNE.out (by omega))
        subst hN
        exact ⟨by rw [itoa_zero]; rfl, rfl⟩
      | cons c r =>
        go_wp2
        go_ret
        refine ⟨?_, rfl⟩
        have hN : N ≠ 0 := fun h => by
          have := HTT.out
          rw [h] at this
          exact absurd this (by simp [decX])
        rw [← HTT.out, itoa_nonneg]
        unfold decX
        rw [if_neg hN]
        rfl
    · have hzb : ((u : Int) != 0) = true := by simpa using hz
      obtain ⟨k, hk⟩ : ∃ k, u % 10 = k := ⟨_, rfl⟩
      obtain ⟨v, hv⟩ : ∃ v, u / 10 = v := ⟨_, rfl⟩
      have hkI : (u : Int) % 10 = (k : Int) := by omega
      have hvI : (u : Int) / 10 = (v : Int) := by omega
      have hk10 : k < 10 := by omega
      have hvu : v < u := by omega
      have HK := Lib.hid hk
      have HV := Lib.hid hv
      clear hk hv
      simp only [Bool.false_eq_true, if_false]
      go_wp2
      refine ⟨⟨v, UInt8.ofNat (48 + k) :: t, rfl, dig_cat k hk10 t, by omega, ?_⟩, by simp [intOf]; omega⟩
      have := HT.out
      rw [decX_step hz, HV.out, HK.out, List.append_assoc] at this
      exact this
theorem tdiv_neg10 (u v : Nat) (h : u / 10 = v) : (-(u : Int)).tdiv 10 = -(v : Int) := by
  rw [Int.neg_tdiv, Int.tdiv_eq_ediv_of_nonneg (by omega)]; omega
theorem tmod_neg10 (u v : Nat) (h : u % 10 = v) : (-(u : Int)).tmod 10 = -(v : Int) := by
  rw [Int.neg_tmod, Int.tmod_eq_emod_of_nonneg (by omega)]; omega
set_option maxHeartbeats 1000000 in
theorem Digits_neg (N : Nat) (w : World) (h0 : 1 ≤ N) (h1 : N ≤ 9223372036854775808) :
    Calls Tryz.prog 52 #[.int .i64 (-(N : Int))] w fun e w' => e = .returned (.string ⟨(itoa (-(N : Int))).toArray⟩) ∧ w = w' := by
  have H0 := Lib.hid (show DigRel N true (.string ⟨#[]⟩) (.int .i64 (-(N : Int))) from ⟨N, [], rfl, rfl, Nat.le_refl _, by simp⟩)
  go_enter Tryz.func52, Tryz.ntmps52
  go_wp2
  go_loop [3, 4] (fun s m => DigRel N true s m) (fun _ m => (intOf m).natAbs)
  case atStart => exact H0.out
  case round =>
    obtain ⟨u, t, hm, rfl, hu, ht⟩ := hrel
    obtain rfl := hm
    have hl : t.length ≤ 20 := by
      have := decX_len N (by omega)
      rw [← ht, List.length_append] at this
      omega
    have HT := Lib.hid ht
    clear ht
    by_cases hz : u = 0
    · subst hz
      have hT : decX N = t := by rw [← HT.out]; rfl
      have HTT := Lib.hid hT
      clear hT
      have n1 : ¬ 9223372036854775807 < 1 + t.length := by omega
      have n2 : ¬ 9223372036854775807 < 1 + (⟨t.toArray⟩ : ByteArray).size := by show ¬ 9223372036854775807 < 1 + t.toArray.size; rw [List.size_toArray]; omega
      simp only [if_true]
      go_wp2
      go_ret
      refine ⟨?_, rfl⟩
      rw [itoa_neg N h0, show decDigits N = t by rw [← HTT.out]; unfold decX; rw [if_neg (by omega)]]
      congr 2
    · have hzb : ((-(u : Int)) != 0) = true := by simp; omega
      obtain ⟨k, hk⟩ : ∃ k, u % 10 = k := ⟨_, rfl⟩
      obtain ⟨v, hv⟩ : ∃ v, u / 10 = v := ⟨_, rfl⟩
      have hkI := tmod_neg10 u k hk
      have hvI := tdiv_neg10 u v hv
      have hk10 : k < 10 := by omega
      have hvu : v < u := by omega
      have hun : ¬ 0 ≤ -(u : Int) := by omega
      have HK := Lib.hid hk
      have HV := Lib.hid hv
      clear hk hv
      simp only [if_true]
      have hfin : DigRel N true (.string ((⟨#[48, 49, 50, 51, 52, 53, 54, 55, 56, 57]⟩ : ByteArray).extract k (k + 1) ++ ⟨t.toArray⟩)) (.int .i64 (-(v : Int))) ∧ v < u := by
        refine ⟨⟨v, UInt8.ofNat (48 + k) :: t, rfl, dig_cat k hk10 t, by omega, ?_⟩, hvu⟩
        have := HT.out
        rw [decX_step (by omega), HV.out, HK.out, List.append_assoc] at this
        exact this
      have HF := Lib.hid hfin
      clear hfin
      by_cases hk0 : k = 0
      · subst hk0
        go_wp2
        exact ⟨HF.out.1, by simp [intOf]; exact HF.out.2⟩
      · go_wp2
        exact ⟨HF.out.1, by simp [intOf]; exact HF.out.2⟩
/-- copseref03.Digits is the decimal numeral -/
theorem Digits_any (n : Int) (w : World) (h1 : -9223372036854775808 ≤ n) (h2 : n ≤ 9223372036854775807) :
    Calls Tryz.prog 52 #[.int .i64 n] w fun e w' => e = .returned (.string ⟨(itoa n).toArray⟩) ∧ w = w' := by
  by_cases hn : n < 0
  · obtain ⟨N, rfl⟩ : ∃ N : Nat, n = -(N : Int) := ⟨n.natAbs, by omega⟩
    exact Digits_neg N w (by omega) (by omega)
  · obtain ⟨N, rfl⟩ := Int.eq_ofNat_of_zero_le (show 0 ≤ n by omega)
    exact Digits_pos N w (by omega)
end Go.Proofs.YtcaeihfgdlffkaaGreatRRRRDoor.DigW
