/- The text of a report after the document, walked (copseref37.row, Text; printed by mkrtw.py). -/
import Derived.Test.YtcaeihfgdlffkaaGreatRRRRDoorPk31
import Derived.Test.YtcaeihfgdlffkaaGreatRRRRDoorPk32
import Derived.Test.YtcaeihfgdlffkaaGreatRRRRDoorPk30
import Derived.Test.YtcaeihfgdlffkaaGreatRRRRDoorPk20
import Derived.Test.YtcaeihfgdlffkaaGreatRRRRDoorPk01
import Derived.Great.BuildSlice
namespace Go.Proofs.YtcaeihfgdlffkaaGreatRRRRDoor.RtwW
set_option linter.unusedVariables false
set_option linter.unusedSimpArgs false
open Go.RowKit Base SeqM StM RptO RptC DevW RtxM HyW OfsW DvrW RdvW
open LneW (rowT_next seq_built)
theorem gi {L : List Oper} {i : Nat} {o : Oper} (h : L[i]? = some o) : L.toArray[i]? = some o := by simpa using h
theorem sz (l : List UInt8) : (⟨l.toArray⟩ : ByteArray).size = l.length := by show l.toArray.size = _; simp
theorem cat_eq (a b r : List UInt8) (h : a ++ b = r) : (⟨a.toArray⟩ : ByteArray) ++ ⟨b.toArray⟩ = ⟨r.toArray⟩ := by
  subst h
  apply ByteArray.ext
  simp
def RwRel (l : List Int) (w : World) (s i : Value) (wr : World) : Prop := ∃ k : Nat, k ≤ l.length ∧ i = .int .i64 k ∧ s = .string ⟨(rowT (l.take k)).toArray⟩ ∧ w = wr
set_option maxHeartbeats 2000000 in
set_option maxRecDepth 100000 in
theorem row_any (v : Value) (l : List Int) (lo B : Nat) (w : World) (h : Seq 1 inC w lo B v l) (hl : l.length ≤ 1000) (hI : ∀ x ∈ l, I64 x) :
    Calls Tryz.prog 28 #[v] w fun e w' => e = .returned (.string ⟨(rowT l).toArray⟩) ∧ w = w' := by
  obtain ⟨A, cap, rfl, hc1, hc2, hr, _⟩ := h
  obtain ⟨n, hn⟩ : ∃ n, l.length = n := ⟨_, rfl⟩
  have HN := Lib.hid hn
  have HR := Lib.hid hr
  have HI := Lib.hid hI
  have H0 := Lib.hid (show RwRel l w (.string ⟨#[]⟩) (.int .i64 0) w from ⟨0, Nat.zero_le _, rfl, rfl, rfl⟩)
  have HLN := Lib.hid (fun k : Nat => show (rowT (l.take k)).length ≤ 22000 from by
    have h1 := rowT_le (l := l.take k) (fun x hx => hI x (List.mem_of_mem_take hx))
    have h2 : (l.take k).length ≤ l.length := by rw [List.length_take]; omega
    omega)
  rw [hn] at hl hc1 ⊢
  unfold maxLen at hc2
  clear hr hn hI
  go_enter Tryz.func28, Tryz.ntmps28
  go_wp2_with fail
  go_loopw [3, 4] (fun s i wr => RwRel l w s i wr) (fun _ i _ => n - (RowKit.intOf i).toNat)
  case atStart => exact H0.out
  case round =>
    obtain ⟨k, hk, rfl, rfl, rfl⟩ := hrel
    rw [HN.out] at hk
    have hl0 := HLN.out k
    clear H0
    by_cases hlt : k < n
    · obtain ⟨ad, x, rfl, _, hb, hx, hcell⟩ := rdI HR.out (i := k) (by rw [HN.out]; exact hlt)
      have hxb := HI.out x (List.mem_of_getElem? hx)
      have hxl := itoa_le hxb
      obtain ⟨L0, hL0⟩ : ∃ L, rowT (l.take k) = L := ⟨_, rfl⟩
      obtain ⟨LX, hLX⟩ : ∃ L, Lib.itoa x = L := ⟨_, rfl⟩
      have HD := Lib.hid (fun W => by have := DigW.Digits_any x W hxb.1 hxb.2; rw [hLX] at this; exact this : ∀ W : World, Calls Tryz.prog 52 #[.int .i64 x] W fun e w' => e = .returned (.string ⟨LX.toArray⟩) ∧ W = w')
      obtain ⟨L1, hL1⟩ : ∃ L, L0 ++ [32] = L := ⟨_, rfl⟩
      obtain ⟨L2, hL2⟩ : ∃ L, L1 ++ LX = L := ⟨_, rfl⟩
      have HF := Lib.hid (show RwRel l w (.string ⟨L2.toArray⟩) (.int .i64 ((k : Int) + 1)) w from ⟨k + 1, by rw [HN.out]; omega, by go_num, by rw [rowT_next hx, hL0, hLX, hL1, hL2], rfl⟩)
      rw [hL0] at hl0 ⊢
      rw [hLX] at hxl
      have z1 : L1.length = L0.length + 1 := by rw [← hL1]; simp
      have ce1 : (⟨L0.toArray⟩ : ByteArray) ++ (⟨#[32]⟩ : ByteArray) = ⟨L1.toArray⟩ := cat_eq L0 [32] L1 hL1
      have cn1 : ¬ 9223372036854775807 < L0.length + 1 := by omega
      have cs1 : ¬ 9223372036854775807 < (⟨L0.toArray⟩ : ByteArray).size + 1 := by rw [sz]; omega
      have ce2 : (⟨L1.toArray⟩ : ByteArray) ++ (⟨LX.toArray⟩ : ByteArray) = ⟨L2.toArray⟩ := cat_eq L1 LX L2 hL2
      have cn2 : ¬ 9223372036854775807 < L1.length + LX.length := by omega
      have cs2 : ¬ 9223372036854775807 < (⟨L1.toArray⟩ : ByteArray).size + (⟨LX.toArray⟩ : ByteArray).size := by rw [sz, sz]; omega
      clear hx hxb hL0 hLX hL1 hL2 z1
      go_wp2_with fail
      refine (HD.out _).mono ?_
      rintro e w1 ⟨rfl, rfl⟩
      go_wp2_with fail
      exact ⟨HF.out, by simp [RowKit.intOf]; omega⟩
    · have F := Lib.hid (show rowT (l.take k) = rowT l by rw [List.take_of_length_le (by rw [HN.out]; omega)])
      rw [F.out]
      go_wp2_with fail
      go_ret
      exact ⟨rfl, rfl⟩
theorem lit1 (w : World) (x : Int) : Seq 1 inC (w.alloc (.cells #[.int .i64 x] 3)) 0 (w.alloc (.cells #[.int .i64 x] 3)).heap.size (.slice (some ⟨w.heap.size, 0, none⟩) 1 1) [x] :=
  seq_built [x] rfl (heap_alloc_new w _) rfl (by decide)
theorem lit5 (w : World) (a b c d e : Int) : Seq 1 inC (w.alloc (.cells #[.int .i64 a, .int .i64 b, .int .i64 c, .int .i64 d, .int .i64 e] 3)) 0 (w.alloc (.cells #[.int .i64 a, .int .i64 b, .int .i64 c, .int .i64 d, .int .i64 e] 3)).heap.size (.slice (some ⟨w.heap.size, 0, none⟩) 5 5) [a, b, c, d, e] :=
  seq_built [a, b, c, d, e] rfl (heap_alloc_new w _) rfl (by decide)
theorem infoI : (Tryz.prog.info? 3).map (fun i => (i.zero, i.size, i.bytes)) = some (some (.int .i64 0), 1, 8) := by kernel_rfl
theorem fill5 (a b c d e : Int) : Instr.fill (fun i => some (i * 1, 1)) ((Array.range (5 * 1)).map ((Value.int .i64 0).cells[· % (Value.int .i64 0).cells.size]!)) [(0, .int .i64 a), (1, .int .i64 b), (2, .int .i64 c), (3, .int .i64 d), (4, .int .i64 e)] = some #[.int .i64 a, .int .i64 b, .int .i64 c, .int .i64 d, .int .i64 e] := by kernel_rfl
/-- five numbers are built into a row, in a region that draws its order -/
theorem stepB5 {ops : Array Oper} {o : Oper} {ac : Act} {w : World} {K : Act → World → Prop} {Q : Exit → Act → World → Prop} {E' : Prop} (hgd : o.guard = none) (x0 x1 x2 x3 x4 : Operand) (ho : o.op = .buildSlice 32 5 #[(0, x0), (1, x1), (2, x2), (3, x3), (4, x4)])
    (a b c d e : Int) (h0 : ac.eval x0 = .int .i64 a) (h1 : ac.eval x1 = .int .i64 b) (h2 : ac.eval x2 = .int .i64 c) (h3 : ac.eval x3 = .int .i64 d) (h4 : ac.eval x4 = .int .i64 e)
    (h : K (ac.put o.dst (.slice (some ⟨w.heap.size, 0, none⟩) 5 5)) (w.alloc (.cells #[.int .i64 a, .int .i64 b, .int .i64 c, .int .i64 d, .int .i64 e] 3))) :
    if Region.wanted o (yielded ops ac.tmps) = true then Oper.wp Tryz.prog o ac w K Q else E' := by
  rw [if_pos (by unfold Region.wanted; rw [hgd])]
  obtain ⟨ii, hii, hz0, hz1, _⟩ := info_parts infoI
  refine wp_buildSlice 32 3 5 _ ho #[.int .i64 a, .int .i64 b, .int .i64 c, .int .i64 d, .int .i64 e] ii (.int .i64 0) Tryz.underlying32 hii hz0 (by rw [hz1]; decide) (by rw [hz1]; decide) ?_ h
  rw [hz1]
  simp only [List.map_toArray, List.map_cons, List.map_nil, h0, h1, h2, h3, h4]
  exact fill5 a b c d e
theorem fill1 (a : Int) : Instr.fill (fun i => some (i * 1, 1)) ((Array.range (1 * 1)).map ((Value.int .i64 0).cells[· % (Value.int .i64 0).cells.size]!)) [(0, .int .i64 a)] = some #[.int .i64 a] := by kernel_rfl
theorem stepB1 {ops : Array Oper} {o : Oper} {ac : Act} {w : World} {K : Act → World → Prop} {Q : Exit → Act → World → Prop} {E' : Prop} (hgd : o.guard = none) (x0 : Operand) (ho : o.op = .buildSlice 32 1 #[(0, x0)])
    (a : Int) (h0 : ac.eval x0 = .int .i64 a)
    (h : K (ac.put o.dst (.slice (some ⟨w.heap.size, 0, none⟩) 1 1)) (w.alloc (.cells #[.int .i64 a] 3))) :
    if Region.wanted o (yielded ops ac.tmps) = true then Oper.wp Tryz.prog o ac w K Q else E' := by
  rw [if_pos (by unfold Region.wanted; rw [hgd])]
  obtain ⟨ii, hii, hz0, hz1, _⟩ := info_parts infoI
  refine wp_buildSlice 32 3 1 _ ho #[.int .i64 a] ii (.int .i64 0) Tryz.underlying32 hii hz0 (by rw [hz1]; decide) (by rw [hz1]; decide) ?_ h
  rw [hz1]
  simp only [List.map_toArray, List.map_cons, List.map_nil, h0]
  exact fill1 a
def TxRel (n : Nat) (f : Nat → List UInt8) (L0 : List UInt8) (W : World) (s i : Value) (wr : World) : Prop := ∃ k : Nat, k ≤ n ∧ i = .int .i64 (k : Int) ∧ s = .string ⟨(L0 ++ f k).toArray⟩ ∧ Below W.heap.size W wr
set_option maxHeartbeats 8000000 in
set_option maxRecDepth 100000 in
theorem RText_any (r : Rp) (hr : RpOk r) (u1 u2 : Value) (w : World) (h : RpIn w r u1 u2) :
    Calls Tryz.prog 10 #[.agg #[.int .i64 r.ev, u1, u2]] w fun e w' => e = .returned (.string ⟨(repT r).toArray⟩) ∧ Below w.heap.size w w' := by
  have HOK := Lib.hid hr
  have HCL := Lib.hid (cols_le hr)
  have HLL := Lib.hid (levs_le hr)
  have HT := Lib.hid (show repT r = lineT wEv r.ev [] ++ idx (colT r.ev) r.cols r.cols.length ++ idx levT r.levs r.levs.length from rfl)
  obtain ⟨⟨A1, k1, rfl, hc1, hc1b, hr1, _⟩, A2, k2, rfl, hc2, hc2b, hr2, _⟩ := h
  unfold maxLen at hc1b hc2b
  have HR1 := Lib.hid hr1
  have HR2 := Lib.hid hr2
  obtain ⟨ev, cols, levs⟩ := r
  dsimp only at HOK HCL HLL HT HR1 HR2 hc1 hc2 ⊢
  generalize repT ⟨ev, cols, levs⟩ = RT at *
  obtain ⟨n, hn⟩ : ∃ n, cols.length = n := ⟨_, rfl⟩
  obtain ⟨m, hm⟩ : ∃ m, levs.length = m := ⟨_, rfl⟩
  have HN := Lib.hid hn
  have HM := Lib.hid hm
  have hev : 0 ≤ ev ∧ ev ≤ 256 := hr.1
  have hn8 : n ≤ 8 := by rw [← hn]; exact hr.2.2.1
  have hm11 : m ≤ 11 := by rw [← hm]; exact hr.2.2.2.2.1
  have HEV := Lib.hid (show I64 ev by unfold I64; omega)
  rw [hn] at hc1 HCL HT ⊢
  rw [hm] at hc2 HLL HT ⊢
  have hl0 : (lineT wEv ev []).length ≤ 100 := by
    have := lineT_le (w := wEv) (i := ev) (l := []) (by decide) HEV.out (fun n hn => by cases hn)
    simpa using Nat.le_trans this (by decide)
  obtain ⟨L0, eL0⟩ : ∃ L, lineT wEv ev [] = L := ⟨_, rfl⟩
  rw [eL0] at hl0 HT
  obtain ⟨RE, hRE⟩ : ∃ L, rowT [ev] = L := ⟨_, rfl⟩
  have hREl : RE.length ≤ 22 := by rw [← hRE]; exact rowT_le (l := [ev]) (fun x hx => by obtain rfl := List.mem_singleton.1 hx; exact HEV.out)
  have HROW := Lib.hid (fun W v hv => show Calls Tryz.prog 28 #[v] W fun e w' => e = .returned (.string ⟨RE.toArray⟩) ∧ W = w' by
    have := row_any v [ev] 0 W.heap.size W hv (by simp) (fun x hx => by obtain rfl := List.mem_singleton.1 hx; exact HEV.out)
    rwa [hRE] at this)
  obtain ⟨M1, eM1⟩ : ∃ L, wEv ++ RE = L := ⟨_, rfl⟩
  have eL0' : M1 ++ [10] = L0 := by rw [← eL0, lineT_nil, hRE, eM1]
  have hM1 : M1.length = 6 + RE.length := by rw [← eM1, List.length_append]; rfl
  have ce1 : (⟨#[101, 118, 101, 110, 116, 115]⟩ : ByteArray) ++ (⟨RE.toArray⟩ : ByteArray) = ⟨M1.toArray⟩ := cat_eq wEv RE M1 eM1
  have cn1 : ¬ 9223372036854775807 < 6 + RE.length := by omega
  have cs1 : ¬ 9223372036854775807 < 6 + (⟨RE.toArray⟩ : ByteArray).size := by rw [sz]; omega
  have ce2 : (⟨M1.toArray⟩ : ByteArray) ++ (⟨#[10]⟩ : ByteArray) = ⟨L0.toArray⟩ := cat_eq M1 [10] L0 eL0'
  have cn2 : ¬ 9223372036854775807 < M1.length + 1 := by omega
  have cs2 : ¬ 9223372036854775807 < (⟨M1.toArray⟩ : ByteArray).size + 1 := by rw [sz]; omega
  clear hr hr1 hr2 hn hm eL0 hRE eM1 eL0' hM1
  obtain ⟨W, eW⟩ : ∃ W, w.alloc (.cells #[.int .i64 ev, .slice A1 n k1, .slice A2 m k2] 34) = W := ⟨_, rfl⟩
  have HB := Lib.hid (show Below w.heap.size w W by rw [← eW]; exact below_a1 _ _)
  have HCS := Lib.hid (show ∀ W', Below W.heap.size W W' → (W'.cell? ⟨w.heap.size, 0, none⟩ = some (.int .i64 ev) ∧ W'.cell? ⟨w.heap.size, 1, none⟩ = some (.slice A1 n k1) ∧ W'.cell? ⟨w.heap.size, 2, none⟩ = some (.slice A2 m k2)) by
    intro W' hb
    subst eW
    refine ⟨keepA hb ?_, keepA hb ?_, keepA hb ?_⟩ <;> go_simp)
  obtain ⟨d0, d1, d2⟩ := HCS.out W (Below.refl _ _)
  have hz : w.heap.size < W.heap.size := by rw [← eW]; simp
  go_enter Tryz.func10, Tryz.ntmps10
  go_wp2_with fail
  refine (HROW.out _ _ (lit1 W ev)).mono ?_
  rintro e w1 ⟨rfl, rfl⟩
  have HB1 := Lib.hid (below_a1 W (.cells #[.int .i64 ev] 3))
  generalize eW1 : W.alloc (.cells #[.int .i64 ev] 3) = W1 at *
  obtain ⟨f0, f1, f2⟩ := HCS.out W1 HB1.out
  clear d0 d1 d2 eW eW1
  go_wp2_with fail
  clear ce1 cn1 cs1 ce2 cn2 cs2
  go_loopw [3, 4] (fun s i wr => TxRel n (idx (colT ev) cols) L0 W s i wr) (fun _ i _ => n - (intOf i).toNat)
  case atStart => exact ⟨0, Nat.zero_le _, rfl, by simp [idx_zero], HB1.out⟩
  case round =>
    obtain ⟨k, hk, rfl, rfl, hbr⟩ := hrel
    have HBR := Lib.hid hbr
    obtain ⟨e0, e1, e2⟩ := HCS.out wr hbr
    have HCK := HCL.out k hk
    clear f0 f1 f2
    by_cases hlt : k < n
    · obtain ⟨ad, c, rfl, _, hbk, hc, hcs⟩ := rdk (f := colC) (fun _ => rfl) ((HR1.out.below HB.out).below' hbr HB.out.size) (i := k) (by rw [HN.out]; exact hlt)
      have hco := HOK.out.2.2.2.1 c (List.mem_of_getElem? hc)
      have hev1 : 1 ≤ ev := HOK.out.2.1 (fun e => by have := List.mem_of_getElem? hc; dsimp only at e; rw [e] at this; cases this)
      have HNX := Lib.hid (idx_succ (colT ev) hc)
      have hns := colNs_ok hev1 hco
      have HDV := Lib.hid (fun W' => RDev_any c ev hco.2.2.2.2 (by omega) W')
      have HDI := Lib.hid (fun W' => RDiv_any c.sum ev W' (by have := hco.2.2.2.1.1; omega) hco.2.2.2.1.2 hev1 (by omega))
      have hct : colT ev k c = lineT wCo (k : Int) [c.least, c.mid, c.most, c.sum / ev, devV c.sp ev] := rfl
      unfold colNs at hns
      unfold CV colC at HDV
      have g0 : wr.cell? (ad.add (k * 6)) = some (.int .i64 c.least) := hcs 0 _ rfl
      have gf : ∀ j u, (colC c)[j]? = some u → j ≠ 0 → wr.cell? ⟨(ad.add (k * 6)).block, (ad.add (k * 6)).off + j, none⟩ = some u := fun j u hu hj => by rw [add_off _ _ _ hj]; exact hcs j u hu
      have g1 := gf 1 _ rfl (by decide)
      have g2 := gf 2 _ rfl (by decide)
      have g3 := gf 3 _ rfl (by decide)
      have g4 := gf 4 _ rfl (by decide)
      have g5 := gf 5 _ rfl (by decide)
      generalize devV c.sp ev = dv at *
      generalize devE c.sp ev = de at *
      generalize hiW c.sp = hi at *
      generalize loW c.sp = lo at *
      generalize colT ev k c = CT at *
      generalize hq : c.sum / ev = mean at *
      generalize hq2 : c.sum % ev = rest at *
      obtain ⟨ls, ms, md, sm, sp⟩ := c
      dsimp only at g0 g1 g2 g3 g4 g5 hns HDV HDI hct
      have hwz : w.heap.size < wr.heap.size := World.block_lt_of_cell? _ _ e0
      obtain ⟨R1, hR1⟩ : ∃ L, rowT [(k : Int)] = L := ⟨_, rfl⟩
      obtain ⟨R2, hR2⟩ : ∃ L, rowT [ls, md, ms, mean, dv] = L := ⟨_, rfl⟩
      have hkI : I64 (k : Int) := by unfold I64; omega
      have hR1l : R1.length ≤ 22 := by rw [← hR1]; exact rowT_le (l := [(k : Int)]) (fun x hx => by obtain rfl := List.mem_singleton.1 hx; exact hkI)
      have hR2l : R2.length ≤ 110 := by rw [← hR2]; exact rowT_le (l := [ls, md, ms, mean, dv]) hns
      have HROW1 := Lib.hid (fun W v hv => show Calls Tryz.prog 28 #[v] W fun e w' => e = .returned (.string ⟨R1.toArray⟩) ∧ W = w' by
        have := row_any v [(k : Int)] 0 W.heap.size W hv (by simp) (fun x hx => by obtain rfl := List.mem_singleton.1 hx; exact hkI)
        rwa [hR1] at this)
      have HROW2 := Lib.hid (fun W v hv => show Calls Tryz.prog 28 #[v] W fun e w' => e = .returned (.string ⟨R2.toArray⟩) ∧ W = w' by
        have := row_any v [ls, md, ms, mean, dv] 0 W.heap.size W hv (by simp) hns
        rwa [hR2] at this)
      obtain ⟨Lk, hLk⟩ : ∃ L, L0 ++ idx (colT ev) cols k = L := ⟨_, rfl⟩
      have hLkl : Lk.length ≤ 1300 := by rw [← hLk, List.length_append]; omega
      obtain ⟨L1, eL1⟩ : ∃ L, Lk ++ wCo = L := ⟨_, rfl⟩
      obtain ⟨L2, eL2⟩ : ∃ L, L1 ++ R1 = L := ⟨_, rfl⟩
      obtain ⟨L3, eL3⟩ : ∃ L, L2 ++ [58] = L := ⟨_, rfl⟩
      obtain ⟨L4, eL4⟩ : ∃ L, L3 ++ R2 = L := ⟨_, rfl⟩
      obtain ⟨L5, eL5⟩ : ∃ L, L4 ++ [10] = L := ⟨_, rfl⟩
      have hF : L0 ++ idx (colT ev) cols (k + 1) = L5 := by
        rw [HNX.out, hct, lineT_some _ _ (by simp), hR1, hR2, ← eL5, ← eL4, ← eL3, ← eL2, ← eL1, ← hLk]
        simp [List.append_assoc]
      have HF := Lib.hid hF
      have q1 : L1.length = Lk.length + 6 := by rw [← eL1, List.length_append]; rfl
      have q2 : L2.length = L1.length + R1.length := by rw [← eL2, List.length_append]
      have q3 : L3.length = L2.length + 1 := by rw [← eL3, List.length_append]; rfl
      have q4 : L4.length = L3.length + R2.length := by rw [← eL4, List.length_append]
      have ce1 : (⟨Lk.toArray⟩ : ByteArray) ++ (⟨#[99, 111, 108, 117, 109, 110]⟩ : ByteArray) = ⟨L1.toArray⟩ := cat_eq Lk wCo L1 eL1
      have cn1 : ¬ 9223372036854775807 < Lk.length + 6 := by omega
      have cs1 : ¬ 9223372036854775807 < (⟨Lk.toArray⟩ : ByteArray).size + 6 := by rw [sz]; omega
      have ce2 : (⟨L1.toArray⟩ : ByteArray) ++ (⟨R1.toArray⟩ : ByteArray) = ⟨L2.toArray⟩ := cat_eq L1 R1 L2 eL2
      have cn2 : ¬ 9223372036854775807 < L1.length + R1.length := by omega
      have cs2 : ¬ 9223372036854775807 < (⟨L1.toArray⟩ : ByteArray).size + (⟨R1.toArray⟩ : ByteArray).size := by rw [sz, sz]; omega
      have ce3 : (⟨L2.toArray⟩ : ByteArray) ++ (⟨#[58]⟩ : ByteArray) = ⟨L3.toArray⟩ := cat_eq L2 [58] L3 eL3
      have cn3 : ¬ 9223372036854775807 < L2.length + 1 := by omega
      have cs3 : ¬ 9223372036854775807 < (⟨L2.toArray⟩ : ByteArray).size + 1 := by rw [sz]; omega
      have ce4 : (⟨L3.toArray⟩ : ByteArray) ++ (⟨R2.toArray⟩ : ByteArray) = ⟨L4.toArray⟩ := cat_eq L3 R2 L4 eL4
      have cn4 : ¬ 9223372036854775807 < L3.length + R2.length := by omega
      have cs4 : ¬ 9223372036854775807 < (⟨L3.toArray⟩ : ByteArray).size + (⟨R2.toArray⟩ : ByteArray).size := by rw [sz, sz]; omega
      have ce5 : (⟨L4.toArray⟩ : ByteArray) ++ (⟨#[10]⟩ : ByteArray) = ⟨L5.toArray⟩ := cat_eq L4 [10] L5 eL5
      have cn5 : ¬ 9223372036854775807 < L4.length + 1 := by omega
      have cs5 : ¬ 9223372036854775807 < (⟨L4.toArray⟩ : ByteArray).size + 1 := by rw [sz]; omega
      rw [hLk]
      clear gf hcs hc hco hbk hq hq2 hns hct hR1 hR2 hLk eL1 eL2 eL3 eL4 eL5 hF q1 q2 q3 q4 HCK
      obtain ⟨X, eX⟩ : ∃ X, wr.alloc (.cells #[.int .i64 ls, .int .i64 ms, .int .i64 md, .int .i64 sm, .int .u64 hi, .int .u64 lo] 51) = X := ⟨_, rfl⟩
      have HBX := Lib.hid (show Below wr.heap.size wr X by rw [← eX]; exact below_a1 _ _)
      have HX := Lib.hid (show ∀ W', Below X.heap.size X W' → (W'.cell? ⟨wr.heap.size, 0, none⟩ = some (.int .i64 ls) ∧ W'.cell? ⟨wr.heap.size, 1, none⟩ = some (.int .i64 ms) ∧ W'.cell? ⟨wr.heap.size, 2, none⟩ = some (.int .i64 md) ∧ W'.cell? ⟨wr.heap.size, 3, none⟩ = some (.int .i64 sm) ∧ W'.cell? ⟨wr.heap.size, 4, none⟩ = some (.int .u64 hi) ∧ W'.cell? ⟨wr.heap.size, 5, none⟩ = some (.int .u64 lo)) by
        intro W' hb
        subst eX
        refine ⟨keepA hb ?_, keepA hb ?_, keepA hb ?_, keepA hb ?_, keepA hb ?_, keepA hb ?_⟩ <;> go_simp)
      have HBXW := Lib.hid (bt HBX.out HBR.out)
      obtain ⟨x0, x1, x2, x3, x4, x5⟩ := HX.out X (Below.refl _ _)
      obtain ⟨y0, -, -⟩ := HCS.out X HBXW.out
      go_wp2_with fail
      refine (HDI.out _).mono ?_
      rintro e w2 ⟨rfl, q, rfl⟩
      have HBD := Lib.hid (show Below X.heap.size X (X.drewN q) from below_drewN (Below.refl _ _) q)
      generalize X.drewN q = V at *
      obtain ⟨x0', x1', x2', x3', x4', x5'⟩ := HX.out V HBD.out
      obtain ⟨y0', -, -⟩ := HCS.out V (bt HBD.out HBXW.out)
      clear x0 x1 x2 x3 x4 x5 y0 g0 g1 g2 g3 g4 g5 eX
      go_wp2_with fail
      refine (HDV.out _).mono ?_
      rintro e w3 ⟨rfl, hb3⟩
      have HB3 := Lib.hid (bt (Below.refl _ w3).drew (bt hb3 HBD.out))
      clear hb3 x0' x1' x2' x3' x4' x5' y0' e0 e1 e2 hbr
      go_wp2_with fail
      refine regionZ 19 (fun w' => w'.cell? ⟨wr.heap.size, 0, none⟩ = some (.int .i64 ls) ∧ w'.cell? ⟨wr.heap.size, 1, none⟩ = some (.int .i64 ms) ∧ w'.cell? ⟨wr.heap.size, 2, none⟩ = some (.int .i64 md)) (by kernel_rfl) (by have h9 := HX.out _ HB3.out; exact ⟨h9.1, h9.2.1, h9.2.2.1⟩) (fun hH => ?_)
      generalize w3.drew = Y at *
      refine takeZ 0 (v := ?_) (gi rfl) (by kernel_rfl) (fun _ _ _ h => h) hH (.inl ⟨rfl, fun w hW => ?_⟩) ?_
      rotate_left
      · (go_simp; try with_reducible rfl)
      try simp only [Act.put, List.setIfInBounds_toArray, List.set_cons_zero, List.set_cons_succ]
      refine takeZ 1 (v := ?_) (gi rfl) (by kernel_rfl) (fun _ _ _ h => h) hH (.inl ⟨rfl, fun w hW => ?_⟩) ?_
      rotate_left
      · (go_simp; try with_reducible rfl)
      try simp only [Act.put, List.setIfInBounds_toArray, List.set_cons_zero, List.set_cons_succ]
      refine takeZ 2 (v := ?_) (gi rfl) (by kernel_rfl) (fun _ _ _ h => h) hH (.inl ⟨rfl, fun w hW => ?_⟩) ?_
      rotate_left
      · (go_simp; try with_reducible rfl)
      try simp only [Act.put, List.setIfInBounds_toArray, List.set_cons_zero, List.set_cons_succ]
      refine takeZ 7 (v := ?_) (gi rfl) (by kernel_rfl) (fun _ _ _ h => h) hH (.inl ⟨rfl, fun w hW => ?_⟩) ?_
      rotate_left
      · (go_simp; try with_reducible rfl)
      try simp only [Act.put, List.setIfInBounds_toArray, List.set_cons_zero, List.set_cons_succ]
      refine takeZ 8 (v := ?_) (gi rfl) (by kernel_rfl) (fun _ _ _ h => h) hH (.inl ⟨rfl, fun w hW => ?_⟩) ?_
      rotate_left
      · (obtain ⟨hW0, hW1, hW2⟩ := hW; go_simp; try with_reducible rfl)
      try simp only [Act.put, List.setIfInBounds_toArray, List.set_cons_zero, List.set_cons_succ]
      refine takeZ 9 (v := ?_) (gi rfl) (by kernel_rfl) (fun _ _ _ h => h) hH (.inl ⟨rfl, fun w hW => ?_⟩) ?_
      rotate_left
      · (go_simp; try with_reducible rfl)
      try simp only [Act.put, List.setIfInBounds_toArray, List.set_cons_zero, List.set_cons_succ]
      refine takeZ 10 (v := ?_) (gi rfl) (by kernel_rfl) (fun _ _ _ h => h) hH (.inl ⟨rfl, fun w hW => ?_⟩) ?_
      rotate_left
      · (obtain ⟨hW0, hW1, hW2⟩ := hW; go_simp; try with_reducible rfl)
      try simp only [Act.put, List.setIfInBounds_toArray, List.set_cons_zero, List.set_cons_succ]
      refine takeZ 11 (v := ?_) (gi rfl) (by kernel_rfl) (fun _ _ _ h => h) hH (.inl ⟨rfl, fun w hW => ?_⟩) ?_
      rotate_left
      · (go_simp; try with_reducible rfl)
      try simp only [Act.put, List.setIfInBounds_toArray, List.set_cons_zero, List.set_cons_succ]
      refine takeZ 12 (v := ?_) (gi rfl) (by kernel_rfl) (fun _ _ _ h => h) hH (.inl ⟨rfl, fun w hW => ?_⟩) ?_
      rotate_left
      · (obtain ⟨hW0, hW1, hW2⟩ := hW; go_simp; try with_reducible rfl)
      try simp only [Act.put, List.setIfInBounds_toArray, List.set_cons_zero, List.set_cons_succ]
      refine takeZ 13 (v := ?_) (gi rfl) (by kernel_rfl) (fun _ _ _ h => h) hH (.inl ⟨rfl, fun w hW => ?_⟩) ?_
      rotate_left
      · (go_simp; try with_reducible rfl)
      try simp only [Act.put, List.setIfInBounds_toArray, List.set_cons_zero, List.set_cons_succ]
      refine takeZ 14 (v := ?_) (gi rfl) (by kernel_rfl) (fun _ _ _ h => h) hH (.inl ⟨rfl, fun w hW => ?_⟩) ?_
      rotate_left
      · (go_simp; try with_reducible rfl)
      try simp only [Act.put, List.setIfInBounds_toArray, List.set_cons_zero, List.set_cons_succ]
      refine readyZ (rs := [3, 15]) (by kernel_rfl) (by simp) ?_
      refine ReadyZ.cons (gi rfl) (fun K hK => ?_) (ReadyZ.cons (gi rfl) (fun K hK => ?_) ReadyZ.nil)
      · try simp only [Act.put, List.setIfInBounds_toArray, List.set_cons_zero, List.set_cons_succ]
        obtain ⟨Y1, eY1⟩ : ∃ Z, Y.alloc (.cells #[.int .i64 (k : Int)] 3) = Z := ⟨_, rfl⟩
        have HBY1 := Lib.hid (show Below Y.heap.size Y Y1 by rw [← eY1]; exact below_a1 _ _)
        have HLY1 := Lib.hid (show Seq 1 inC Y1 0 Y1.heap.size (.slice (some ⟨Y.heap.size, 0, none⟩) 1 1) [(k : Int)] by rw [← eY1]; exact lit1 Y (k : Int))
        refine stepB1 (ac := ⟨_, _⟩) rfl (.tmp 48) rfl (k : Int) ?_ ?_
        · rfl
        rw [eY1]
        clear eY1
        refine hK.out _ _ (fun _ => (show _ from by have h9 := HX.out _ (bt HBY1.out HB3.out); exact ⟨h9.1, h9.2.1, h9.2.2.1⟩)) (fun hH => ?_)
        replace hH := hH (by decide)
        clear hK K
        try simp only [Act.put, List.setIfInBounds_toArray, List.set_cons_zero, List.set_cons_succ]
        refine readyZ (rs := [4, 15]) (by kernel_rfl) (by simp) ?_
        refine ReadyZ.cons (gi rfl) (fun K hK => ?_) (ReadyZ.cons (gi rfl) (fun K hK => ?_) ReadyZ.nil)
        · try simp only [Act.put, List.setIfInBounds_toArray, List.set_cons_zero, List.set_cons_succ]
          go_simp
          refine (HROW1.out _ _ HLY1.out).mono ?_
          rintro e v9 ⟨rfl, rfl⟩
          refine hK.out _ _ (fun _ => (show _ from by have h9 := HX.out _ (bt HBY1.out HB3.out); exact ⟨h9.1, h9.2.1, h9.2.2.1⟩)) (fun hH => ?_)
          replace hH := hH (by decide)
          clear hK K
          try simp only [Act.put, List.setIfInBounds_toArray, List.set_cons_zero, List.set_cons_succ]
          refine takeZ 5 (v := ?_) (gi rfl) (by kernel_rfl) (fun _ _ _ h => h) hH (.inl ⟨rfl, fun w hW => ?_⟩) ?_
          rotate_left
          · (go_simp; try with_reducible rfl)
          try simp only [Act.put, List.setIfInBounds_toArray, List.set_cons_zero, List.set_cons_succ]
          refine takeZ 6 (v := ?_) (gi rfl) (by kernel_rfl) (fun _ _ _ h => h) hH (.inl ⟨rfl, fun w hW => ?_⟩) ?_
          rotate_left
          · (go_simp; try with_reducible rfl)
          try simp only [Act.put, List.setIfInBounds_toArray, List.set_cons_zero, List.set_cons_succ]
          refine oneZ 15 (by kernel_rfl) (gi rfl) (fun K hK => ?_)
          try simp only [Act.put, List.setIfInBounds_toArray, List.set_cons_zero, List.set_cons_succ]
          obtain ⟨Y2, eY2⟩ : ∃ Z, Y1.alloc (.cells #[.int .i64 ls, .int .i64 md, .int .i64 ms, .int .i64 mean, .int .i64 dv] 3) = Z := ⟨_, rfl⟩
          have HBY2 := Lib.hid (show Below Y1.heap.size Y1 Y2 by rw [← eY2]; exact below_a1 _ _)
          have HLY2 := Lib.hid (show Seq 1 inC Y2 0 Y2.heap.size (.slice (some ⟨Y1.heap.size, 0, none⟩) 5 5) [ls, md, ms, mean, dv] by rw [← eY2]; exact lit5 Y1 ls md ms mean dv)
          refine stepB5 (ac := ⟨_, _⟩) rfl (.tmp 54) (.tmp 56) (.tmp 58) (.tmp 59) (.tmp 60) rfl ls md ms mean dv ?_ ?_ ?_ ?_ ?_ ?_
          · rfl
          · rfl
          · rfl
          · rfl
          · rfl
          rw [eY2]
          clear eY2
          refine hK.out _ _ (fun _ => (show _ from by have h9 := HX.out _ (bt HBY2.out (bt HBY1.out HB3.out)); exact ⟨h9.1, h9.2.1, h9.2.2.1⟩)) (fun hH => ?_)
          replace hH := hH (by decide)
          clear hK K
          try simp only [Act.put, List.setIfInBounds_toArray, List.set_cons_zero, List.set_cons_succ]
          refine oneZ 16 (by kernel_rfl) (gi rfl) (fun K hK => ?_)
          try simp only [Act.put, List.setIfInBounds_toArray, List.set_cons_zero, List.set_cons_succ]
          go_simp
          refine (HROW2.out _ _ HLY2.out).mono ?_
          rintro e v9 ⟨rfl, rfl⟩
          refine hK.out _ _ (fun _ => (show _ from by have h9 := HX.out _ (bt HBY2.out (bt HBY1.out HB3.out)); exact ⟨h9.1, h9.2.1, h9.2.2.1⟩)) (fun hH => ?_)
          replace hH := hH (by decide)
          clear hK K
          try simp only [Act.put, List.setIfInBounds_toArray, List.set_cons_zero, List.set_cons_succ]
          refine takeZ 17 (v := ?_) (gi rfl) (by kernel_rfl) (fun _ _ _ h => h) hH (.inl ⟨rfl, fun w hW => ?_⟩) ?_
          rotate_left
          · (go_simp; try with_reducible rfl)
          try simp only [Act.put, List.setIfInBounds_toArray, List.set_cons_zero, List.set_cons_succ]
          refine takeZ 18 (v := ?_) (gi rfl) (by kernel_rfl) (fun _ _ _ h => h) hH (.inl ⟨rfl, fun w hW => ?_⟩) ?_
          rotate_left
          · (go_simp; try with_reducible rfl)
          try simp only [Act.put, List.setIfInBounds_toArray, List.set_cons_zero, List.set_cons_succ]
          refine yieldZ 19 (v := ?_) (by kernel_rfl) (gi rfl) hH (.inl ⟨rfl, fun w hW => ?_⟩) ?_
          rotate_left
          · (go_simp; try with_reducible rfl)
          try simp only [Act.put, List.setIfInBounds_toArray, List.set_cons_zero, List.set_cons_succ]
          refine doneZ (by kernel_rfl) ?_ _
          clear hH
          go_wp2_with fail
          exact ⟨⟨k + 1, by omega, by go_num, by rw [HF.out], bt (bt HBY2.out (bt HBY1.out HB3.out)) HBXW.out⟩, by simp [intOf]; omega⟩
        · try simp only [Act.put, List.setIfInBounds_toArray, List.set_cons_zero, List.set_cons_succ]
          obtain ⟨Y3, eY3⟩ : ∃ Z, Y1.alloc (.cells #[.int .i64 ls, .int .i64 md, .int .i64 ms, .int .i64 mean, .int .i64 dv] 3) = Z := ⟨_, rfl⟩
          have HBY3 := Lib.hid (show Below Y1.heap.size Y1 Y3 by rw [← eY3]; exact below_a1 _ _)
          have HLY3 := Lib.hid (show Seq 1 inC Y3 0 Y3.heap.size (.slice (some ⟨Y1.heap.size, 0, none⟩) 5 5) [ls, md, ms, mean, dv] by rw [← eY3]; exact lit5 Y1 ls md ms mean dv)
          refine stepB5 (ac := ⟨_, _⟩) rfl (.tmp 54) (.tmp 56) (.tmp 58) (.tmp 59) (.tmp 60) rfl ls md ms mean dv ?_ ?_ ?_ ?_ ?_ ?_
          · rfl
          · rfl
          · rfl
          · rfl
          · rfl
          rw [eY3]
          clear eY3
          refine hK.out _ _ (fun _ => (show _ from by have h9 := HX.out _ (bt HBY3.out (bt HBY1.out HB3.out)); exact ⟨h9.1, h9.2.1, h9.2.2.1⟩)) (fun hH => ?_)
          replace hH := hH (by decide)
          clear hK K
          try simp only [Act.put, List.setIfInBounds_toArray, List.set_cons_zero, List.set_cons_succ]
          refine oneZ 4 (by kernel_rfl) (gi rfl) (fun K hK => ?_)
          try simp only [Act.put, List.setIfInBounds_toArray, List.set_cons_zero, List.set_cons_succ]
          go_simp
          refine (HROW1.out _ _ (HLY1.out.up HBY3.out)).mono ?_
          rintro e v9 ⟨rfl, rfl⟩
          refine hK.out _ _ (fun _ => (show _ from by have h9 := HX.out _ (bt HBY3.out (bt HBY1.out HB3.out)); exact ⟨h9.1, h9.2.1, h9.2.2.1⟩)) (fun hH => ?_)
          replace hH := hH (by decide)
          clear hK K
          try simp only [Act.put, List.setIfInBounds_toArray, List.set_cons_zero, List.set_cons_succ]
          refine takeZ 5 (v := ?_) (gi rfl) (by kernel_rfl) (fun _ _ _ h => h) hH (.inl ⟨rfl, fun w hW => ?_⟩) ?_
          rotate_left
          · (go_simp; try with_reducible rfl)
          try simp only [Act.put, List.setIfInBounds_toArray, List.set_cons_zero, List.set_cons_succ]
          refine takeZ 6 (v := ?_) (gi rfl) (by kernel_rfl) (fun _ _ _ h => h) hH (.inl ⟨rfl, fun w hW => ?_⟩) ?_
          rotate_left
          · (go_simp; try with_reducible rfl)
          try simp only [Act.put, List.setIfInBounds_toArray, List.set_cons_zero, List.set_cons_succ]
          refine oneZ 16 (by kernel_rfl) (gi rfl) (fun K hK => ?_)
          try simp only [Act.put, List.setIfInBounds_toArray, List.set_cons_zero, List.set_cons_succ]
          go_simp
          refine (HROW2.out _ _ HLY3.out).mono ?_
          rintro e v9 ⟨rfl, rfl⟩
          refine hK.out _ _ (fun _ => (show _ from by have h9 := HX.out _ (bt HBY3.out (bt HBY1.out HB3.out)); exact ⟨h9.1, h9.2.1, h9.2.2.1⟩)) (fun hH => ?_)
          replace hH := hH (by decide)
          clear hK K
          try simp only [Act.put, List.setIfInBounds_toArray, List.set_cons_zero, List.set_cons_succ]
          refine takeZ 17 (v := ?_) (gi rfl) (by kernel_rfl) (fun _ _ _ h => h) hH (.inl ⟨rfl, fun w hW => ?_⟩) ?_
          rotate_left
          · (go_simp; try with_reducible rfl)
          try simp only [Act.put, List.setIfInBounds_toArray, List.set_cons_zero, List.set_cons_succ]
          refine takeZ 18 (v := ?_) (gi rfl) (by kernel_rfl) (fun _ _ _ h => h) hH (.inl ⟨rfl, fun w hW => ?_⟩) ?_
          rotate_left
          · (go_simp; try with_reducible rfl)
          try simp only [Act.put, List.setIfInBounds_toArray, List.set_cons_zero, List.set_cons_succ]
          refine yieldZ 19 (v := ?_) (by kernel_rfl) (gi rfl) hH (.inl ⟨rfl, fun w hW => ?_⟩) ?_
          rotate_left
          · (go_simp; try with_reducible rfl)
          try simp only [Act.put, List.setIfInBounds_toArray, List.set_cons_zero, List.set_cons_succ]
          refine doneZ (by kernel_rfl) ?_ _
          clear hH
          go_wp2_with fail
          exact ⟨⟨k + 1, by omega, by go_num, by rw [HF.out], bt (bt HBY3.out (bt HBY1.out HB3.out)) HBXW.out⟩, by simp [intOf]; omega⟩
      · try simp only [Act.put, List.setIfInBounds_toArray, List.set_cons_zero, List.set_cons_succ]
        obtain ⟨Y4, eY4⟩ : ∃ Z, Y.alloc (.cells #[.int .i64 ls, .int .i64 md, .int .i64 ms, .int .i64 mean, .int .i64 dv] 3) = Z := ⟨_, rfl⟩
        have HBY4 := Lib.hid (show Below Y.heap.size Y Y4 by rw [← eY4]; exact below_a1 _ _)
        have HLY4 := Lib.hid (show Seq 1 inC Y4 0 Y4.heap.size (.slice (some ⟨Y.heap.size, 0, none⟩) 5 5) [ls, md, ms, mean, dv] by rw [← eY4]; exact lit5 Y ls md ms mean dv)
        refine stepB5 (ac := ⟨_, _⟩) rfl (.tmp 54) (.tmp 56) (.tmp 58) (.tmp 59) (.tmp 60) rfl ls md ms mean dv ?_ ?_ ?_ ?_ ?_ ?_
        · rfl
        · rfl
        · rfl
        · rfl
        · rfl
        rw [eY4]
        clear eY4
        refine hK.out _ _ (fun _ => (show _ from by have h9 := HX.out _ (bt HBY4.out HB3.out); exact ⟨h9.1, h9.2.1, h9.2.2.1⟩)) (fun hH => ?_)
        replace hH := hH (by decide)
        clear hK K
        try simp only [Act.put, List.setIfInBounds_toArray, List.set_cons_zero, List.set_cons_succ]
        refine oneZ 3 (by kernel_rfl) (gi rfl) (fun K hK => ?_)
        try simp only [Act.put, List.setIfInBounds_toArray, List.set_cons_zero, List.set_cons_succ]
        obtain ⟨Y5, eY5⟩ : ∃ Z, Y4.alloc (.cells #[.int .i64 (k : Int)] 3) = Z := ⟨_, rfl⟩
        have HBY5 := Lib.hid (show Below Y4.heap.size Y4 Y5 by rw [← eY5]; exact below_a1 _ _)
        have HLY5 := Lib.hid (show Seq 1 inC Y5 0 Y5.heap.size (.slice (some ⟨Y4.heap.size, 0, none⟩) 1 1) [(k : Int)] by rw [← eY5]; exact lit1 Y4 (k : Int))
        refine stepB1 (ac := ⟨_, _⟩) rfl (.tmp 48) rfl (k : Int) ?_ ?_
        · rfl
        rw [eY5]
        clear eY5
        refine hK.out _ _ (fun _ => (show _ from by have h9 := HX.out _ (bt HBY5.out (bt HBY4.out HB3.out)); exact ⟨h9.1, h9.2.1, h9.2.2.1⟩)) (fun hH => ?_)
        replace hH := hH (by decide)
        clear hK K
        try simp only [Act.put, List.setIfInBounds_toArray, List.set_cons_zero, List.set_cons_succ]
        refine oneZ 4 (by kernel_rfl) (gi rfl) (fun K hK => ?_)
        try simp only [Act.put, List.setIfInBounds_toArray, List.set_cons_zero, List.set_cons_succ]
        go_simp
        refine (HROW1.out _ _ HLY5.out).mono ?_
        rintro e v9 ⟨rfl, rfl⟩
        refine hK.out _ _ (fun _ => (show _ from by have h9 := HX.out _ (bt HBY5.out (bt HBY4.out HB3.out)); exact ⟨h9.1, h9.2.1, h9.2.2.1⟩)) (fun hH => ?_)
        replace hH := hH (by decide)
        clear hK K
        try simp only [Act.put, List.setIfInBounds_toArray, List.set_cons_zero, List.set_cons_succ]
        refine takeZ 5 (v := ?_) (gi rfl) (by kernel_rfl) (fun _ _ _ h => h) hH (.inl ⟨rfl, fun w hW => ?_⟩) ?_
        rotate_left
        · (go_simp; try with_reducible rfl)
        try simp only [Act.put, List.setIfInBounds_toArray, List.set_cons_zero, List.set_cons_succ]
        refine takeZ 6 (v := ?_) (gi rfl) (by kernel_rfl) (fun _ _ _ h => h) hH (.inl ⟨rfl, fun w hW => ?_⟩) ?_
        rotate_left
        · (go_simp; try with_reducible rfl)
        try simp only [Act.put, List.setIfInBounds_toArray, List.set_cons_zero, List.set_cons_succ]
        refine oneZ 16 (by kernel_rfl) (gi rfl) (fun K hK => ?_)
        try simp only [Act.put, List.setIfInBounds_toArray, List.set_cons_zero, List.set_cons_succ]
        go_simp
        refine (HROW2.out _ _ (HLY4.out.up HBY5.out)).mono ?_
        rintro e v9 ⟨rfl, rfl⟩
        refine hK.out _ _ (fun _ => (show _ from by have h9 := HX.out _ (bt HBY5.out (bt HBY4.out HB3.out)); exact ⟨h9.1, h9.2.1, h9.2.2.1⟩)) (fun hH => ?_)
        replace hH := hH (by decide)
        clear hK K
        try simp only [Act.put, List.setIfInBounds_toArray, List.set_cons_zero, List.set_cons_succ]
        refine takeZ 17 (v := ?_) (gi rfl) (by kernel_rfl) (fun _ _ _ h => h) hH (.inl ⟨rfl, fun w hW => ?_⟩) ?_
        rotate_left
        · (go_simp; try with_reducible rfl)
        try simp only [Act.put, List.setIfInBounds_toArray, List.set_cons_zero, List.set_cons_succ]
        refine takeZ 18 (v := ?_) (gi rfl) (by kernel_rfl) (fun _ _ _ h => h) hH (.inl ⟨rfl, fun w hW => ?_⟩) ?_
        rotate_left
        · (go_simp; try with_reducible rfl)
        try simp only [Act.put, List.setIfInBounds_toArray, List.set_cons_zero, List.set_cons_succ]
        refine yieldZ 19 (v := ?_) (by kernel_rfl) (gi rfl) hH (.inl ⟨rfl, fun w hW => ?_⟩) ?_
        rotate_left
        · (go_simp; try with_reducible rfl)
        try simp only [Act.put, List.setIfInBounds_toArray, List.set_cons_zero, List.set_cons_succ]
        refine doneZ (by kernel_rfl) ?_ _
        clear hH
        go_wp2_with fail
        exact ⟨⟨k + 1, by omega, by go_num, by rw [HF.out], bt (bt HBY5.out (bt HBY4.out HB3.out)) HBXW.out⟩, by simp [intOf]; omega⟩
    · have hkn : k = n := by omega
      subst hkn
      obtain ⟨L1, eL1⟩ : ∃ L, L0 ++ idx (colT ev) cols k = L := ⟨_, rfl⟩
      have hl1 : L1.length ≤ 1300 := by rw [← eL1, List.length_append]; omega
      have EL1 := Lib.hid eL1
      rw [eL1]
      clear eL1 HCK
      go_wp2_with fail
      go_loopw [3, 11] (fun s i wr => TxRel m (idx levT levs) L1 W s i wr) (fun _ i _ => m - (intOf i).toNat)
      case atStart => exact ⟨0, Nat.zero_le _, rfl, by simp [idx_zero], HBR.out⟩
      case round =>
        obtain ⟨j, hj, rfl, rfl, hbr2⟩ := hrel
        have HBQ := Lib.hid hbr2
        obtain ⟨-, -, t2⟩ := HCS.out wr hbr2
        have HCK := HLL.out j hj
        clear e0 e1 e2
        by_cases hlt : j < m
        · obtain ⟨ad, x, rfl, _, hbk, hx, g0⟩ := rdI ((HR2.out.below HB.out).below' hbr2 HB.out.size) (i := j) (by rw [HM.out]; exact hlt)
          have hxr := HOK.out.2.2.2.2.2 x (List.mem_of_getElem? hx)
          have HNX := Lib.hid (idx_succ levT hx)
          have hbkr : (ad.add j).block < wr.heap.size := World.block_lt_of_cell? _ _ g0
          clear hx hbk
          obtain ⟨Lk, hLk⟩ : ∃ L, L1 ++ idx levT levs j = L := ⟨_, rfl⟩
          have hLkl : Lk.length ≤ 2100 := by rw [← hLk, List.length_append]; omega
          by_cases hx0 : x = 0
          · have hxb : (x != 0) = false := by simpa using hx0
            have HF := Lib.hid (show L1 ++ idx levT levs (j + 1) = Lk by rw [HNX.out, show levT j x = [] from if_pos hx0, List.append_nil, hLk])
            rw [hLk]
            clear hx0 hLk hbr2
            go_wp2_with fail
            exact ⟨⟨j + 1, by omega, by go_num, by rw [HF.out], HBQ.out⟩, by simp [intOf]; omega⟩
          · have hxb : (x != 0) = true := by simpa using hx0
            have hlx : levT j x = lineT wLe (j : Int) [x] := if_neg hx0
            have hjI : I64 (j : Int) := by unfold I64; omega
            have hxI : I64 x := by unfold I64; omega
            obtain ⟨R1, hR1⟩ : ∃ L, rowT [(j : Int)] = L := ⟨_, rfl⟩
            obtain ⟨R2, hR2⟩ : ∃ L, rowT [x] = L := ⟨_, rfl⟩
            have hR1l : R1.length ≤ 22 := by rw [← hR1]; exact rowT_le (l := [(j : Int)]) (fun y hy => by obtain rfl := List.mem_singleton.1 hy; exact hjI)
            have hR2l : R2.length ≤ 22 := by rw [← hR2]; exact rowT_le (l := [x]) (fun y hy => by obtain rfl := List.mem_singleton.1 hy; exact hxI)
            have HROW1 := Lib.hid (fun W v hv => show Calls Tryz.prog 28 #[v] W fun e w' => e = .returned (.string ⟨R1.toArray⟩) ∧ W = w' by
              have := row_any v [(j : Int)] 0 W.heap.size W hv (by simp) (fun y hy => by obtain rfl := List.mem_singleton.1 hy; exact hjI)
              rwa [hR1] at this)
            have HROW2 := Lib.hid (fun W v hv => show Calls Tryz.prog 28 #[v] W fun e w' => e = .returned (.string ⟨R2.toArray⟩) ∧ W = w' by
              have := row_any v [x] 0 W.heap.size W hv (by simp) (fun y hy => by obtain rfl := List.mem_singleton.1 hy; exact hxI)
              rwa [hR2] at this)
            obtain ⟨L2, eL2⟩ : ∃ L, Lk ++ wLe = L := ⟨_, rfl⟩
            obtain ⟨L3, eL3⟩ : ∃ L, L2 ++ R1 = L := ⟨_, rfl⟩
            obtain ⟨L4, eL4⟩ : ∃ L, L3 ++ [58] = L := ⟨_, rfl⟩
            obtain ⟨L5, eL5⟩ : ∃ L, L4 ++ R2 = L := ⟨_, rfl⟩
            obtain ⟨L6, eL6⟩ : ∃ L, L5 ++ [10] = L := ⟨_, rfl⟩
            have hF : L1 ++ idx levT levs (j + 1) = L6 := by
              rw [HNX.out, hlx, lineT_some _ _ (by simp), hR1, hR2, ← eL6, ← eL5, ← eL4, ← eL3, ← eL2, ← hLk]
              simp [List.append_assoc]
            have HF := Lib.hid hF
            have q1 : L2.length = Lk.length + 5 := by rw [← eL2, List.length_append]; rfl
            have q2 : L3.length = L2.length + R1.length := by rw [← eL3, List.length_append]
            have q3 : L4.length = L3.length + 1 := by rw [← eL4, List.length_append]; rfl
            have q4 : L5.length = L4.length + R2.length := by rw [← eL5, List.length_append]
            have ce1 : (⟨Lk.toArray⟩ : ByteArray) ++ (⟨#[108, 101, 118, 101, 108]⟩ : ByteArray) = ⟨L2.toArray⟩ := cat_eq Lk wLe L2 eL2
            have cn1 : ¬ 9223372036854775807 < Lk.length + 5 := by omega
            have cs1 : ¬ 9223372036854775807 < (⟨Lk.toArray⟩ : ByteArray).size + 5 := by rw [sz]; omega
            have ce2 : (⟨L2.toArray⟩ : ByteArray) ++ (⟨R1.toArray⟩ : ByteArray) = ⟨L3.toArray⟩ := cat_eq L2 R1 L3 eL3
            have cn2 : ¬ 9223372036854775807 < L2.length + R1.length := by omega
            have cs2 : ¬ 9223372036854775807 < (⟨L2.toArray⟩ : ByteArray).size + (⟨R1.toArray⟩ : ByteArray).size := by rw [sz, sz]; omega
            have ce3 : (⟨L3.toArray⟩ : ByteArray) ++ (⟨#[58]⟩ : ByteArray) = ⟨L4.toArray⟩ := cat_eq L3 [58] L4 eL4
            have cn3 : ¬ 9223372036854775807 < L3.length + 1 := by omega
            have cs3 : ¬ 9223372036854775807 < (⟨L3.toArray⟩ : ByteArray).size + 1 := by rw [sz]; omega
            have ce4 : (⟨L4.toArray⟩ : ByteArray) ++ (⟨R2.toArray⟩ : ByteArray) = ⟨L5.toArray⟩ := cat_eq L4 R2 L5 eL5
            have cn4 : ¬ 9223372036854775807 < L4.length + R2.length := by omega
            have cs4 : ¬ 9223372036854775807 < (⟨L4.toArray⟩ : ByteArray).size + (⟨R2.toArray⟩ : ByteArray).size := by rw [sz, sz]; omega
            have ce5 : (⟨L5.toArray⟩ : ByteArray) ++ (⟨#[10]⟩ : ByteArray) = ⟨L6.toArray⟩ := cat_eq L5 [10] L6 eL6
            have cn5 : ¬ 9223372036854775807 < L5.length + 1 := by omega
            have cs5 : ¬ 9223372036854775807 < (⟨L5.toArray⟩ : ByteArray).size + 1 := by rw [sz]; omega
            rw [hLk]
            have HX := Lib.hid (show ∀ W', Below wr.heap.size wr W' → (W'.cell? ⟨w.heap.size, 2, none⟩ = some (.slice (some ad) m k2) ∧ W'.cell? (ad.add j) = some (.int .i64 x)) from fun W' hb => ⟨keepA hb t2, keepA hb g0⟩)
            have HB3 := Lib.hid (show Below wr.heap.size wr wr.drew from (Below.refl _ _).drew)
            clear hx0 hxr hlx hR1 hR2 hLk eL2 eL3 eL4 eL5 eL6 hF q1 q2 q3 q4 HCK hjI hxI hbr2
            go_wp2_with fail
            refine regionZ 16 (fun w' => w'.cell? ⟨w.heap.size, 2, none⟩ = some (.slice (some ad) m k2) ∧ w'.cell? (ad.add j) = some (.int .i64 x)) (by kernel_rfl) (HX.out _ HB3.out) (fun hH => ?_)
            generalize wr.drew = Y at *
            refine takeZ 0 (v := ?_) (gi rfl) (by kernel_rfl) (fun _ _ _ h => h) hH (.inl ⟨rfl, fun w hW => ?_⟩) ?_
            rotate_left
            · (go_simp; try with_reducible rfl)
            try simp only [Act.put, List.setIfInBounds_toArray, List.set_cons_zero, List.set_cons_succ]
            refine takeZ 1 (v := ?_) (gi rfl) (by kernel_rfl) (fun _ _ _ h => h) hH (.inl ⟨rfl, fun w hW => ?_⟩) ?_
            rotate_left
            · (go_simp; try with_reducible rfl)
            try simp only [Act.put, List.setIfInBounds_toArray, List.set_cons_zero, List.set_cons_succ]
            refine takeZ 2 (v := ?_) (gi rfl) (by kernel_rfl) (fun _ _ _ h => h) hH (.inl ⟨rfl, fun w hW => ?_⟩) ?_
            rotate_left
            · (go_simp; try with_reducible rfl)
            try simp only [Act.put, List.setIfInBounds_toArray, List.set_cons_zero, List.set_cons_succ]
            refine takeZ 7 (v := ?_) (gi rfl) (by kernel_rfl) (fun _ _ _ h => h) hH (.inl ⟨rfl, fun w hW => ?_⟩) ?_
            rotate_left
            · (go_simp; try with_reducible rfl)
            try simp only [Act.put, List.setIfInBounds_toArray, List.set_cons_zero, List.set_cons_succ]
            refine takeZ 8 (v := ?_) (gi rfl) (by kernel_rfl) (fun _ _ _ h => h) hH (.inl ⟨rfl, fun w hW => ?_⟩) ?_
            rotate_left
            · (obtain ⟨hW0, hW1⟩ := hW; go_simp; try with_reducible rfl)
            try simp only [Act.put, List.setIfInBounds_toArray, List.set_cons_zero, List.set_cons_succ]
            refine takeZ 9 (v := ?_) (gi rfl) (by kernel_rfl) (fun _ _ _ h => h) hH (.inl ⟨rfl, fun w hW => ?_⟩) ?_
            rotate_left
            · (go_simp; try with_reducible rfl)
            try simp only [Act.put, List.setIfInBounds_toArray, List.set_cons_zero, List.set_cons_succ]
            refine takeZ 10 (v := ?_) (gi rfl) (by kernel_rfl) (fun _ _ _ h => h) hH (.inl ⟨rfl, fun w hW => ?_⟩) ?_
            rotate_left
            · (go_simp; try with_reducible rfl)
            try simp only [Act.put, List.setIfInBounds_toArray, List.set_cons_zero, List.set_cons_succ]
            refine takeZ 11 (v := ?_) (gi rfl) (by kernel_rfl) (fun _ _ _ h => h) hH (.inl ⟨rfl, fun w hW => ?_⟩) ?_
            rotate_left
            · (obtain ⟨hW0, hW1⟩ := hW; go_simp; try with_reducible rfl)
            try simp only [Act.put, List.setIfInBounds_toArray, List.set_cons_zero, List.set_cons_succ]
            refine readyZ (rs := [3, 12]) (by kernel_rfl) (by simp) ?_
            refine ReadyZ.cons (gi rfl) (fun K hK => ?_) (ReadyZ.cons (gi rfl) (fun K hK => ?_) ReadyZ.nil)
            · try simp only [Act.put, List.setIfInBounds_toArray, List.set_cons_zero, List.set_cons_succ]
              obtain ⟨Y6, eY6⟩ : ∃ Z, Y.alloc (.cells #[.int .i64 (j : Int)] 3) = Z := ⟨_, rfl⟩
              have HBY6 := Lib.hid (show Below Y.heap.size Y Y6 by rw [← eY6]; exact below_a1 _ _)
              have HLY6 := Lib.hid (show Seq 1 inC Y6 0 Y6.heap.size (.slice (some ⟨Y.heap.size, 0, none⟩) 1 1) [(j : Int)] by rw [← eY6]; exact lit1 Y (j : Int))
              refine stepB1 (ac := ⟨_, _⟩) rfl (.tmp 80) rfl (j : Int) ?_ ?_
              · rfl
              rw [eY6]
              clear eY6
              refine hK.out _ _ (fun _ => (HX.out _ (bt HBY6.out HB3.out))) (fun hH => ?_)
              replace hH := hH (by decide)
              clear hK K
              try simp only [Act.put, List.setIfInBounds_toArray, List.set_cons_zero, List.set_cons_succ]
              refine readyZ (rs := [4, 12]) (by kernel_rfl) (by simp) ?_
              refine ReadyZ.cons (gi rfl) (fun K hK => ?_) (ReadyZ.cons (gi rfl) (fun K hK => ?_) ReadyZ.nil)
              · try simp only [Act.put, List.setIfInBounds_toArray, List.set_cons_zero, List.set_cons_succ]
                go_simp
                refine (HROW1.out _ _ HLY6.out).mono ?_
                rintro e v9 ⟨rfl, rfl⟩
                refine hK.out _ _ (fun _ => (HX.out _ (bt HBY6.out HB3.out))) (fun hH => ?_)
                replace hH := hH (by decide)
                clear hK K
                try simp only [Act.put, List.setIfInBounds_toArray, List.set_cons_zero, List.set_cons_succ]
                refine takeZ 5 (v := ?_) (gi rfl) (by kernel_rfl) (fun _ _ _ h => h) hH (.inl ⟨rfl, fun w hW => ?_⟩) ?_
                rotate_left
                · (go_simp; try with_reducible rfl)
                try simp only [Act.put, List.setIfInBounds_toArray, List.set_cons_zero, List.set_cons_succ]
                refine takeZ 6 (v := ?_) (gi rfl) (by kernel_rfl) (fun _ _ _ h => h) hH (.inl ⟨rfl, fun w hW => ?_⟩) ?_
                rotate_left
                · (go_simp; try with_reducible rfl)
                try simp only [Act.put, List.setIfInBounds_toArray, List.set_cons_zero, List.set_cons_succ]
                refine oneZ 12 (by kernel_rfl) (gi rfl) (fun K hK => ?_)
                try simp only [Act.put, List.setIfInBounds_toArray, List.set_cons_zero, List.set_cons_succ]
                obtain ⟨Y7, eY7⟩ : ∃ Z, Y6.alloc (.cells #[.int .i64 x] 3) = Z := ⟨_, rfl⟩
                have HBY7 := Lib.hid (show Below Y6.heap.size Y6 Y7 by rw [← eY7]; exact below_a1 _ _)
                have HLY7 := Lib.hid (show Seq 1 inC Y7 0 Y7.heap.size (.slice (some ⟨Y6.heap.size, 0, none⟩) 1 1) [x] by rw [← eY7]; exact lit1 Y6 x)
                refine stepB1 (ac := ⟨_, _⟩) rfl (.tmp 89) rfl x ?_ ?_
                · rfl
                rw [eY7]
                clear eY7
                refine hK.out _ _ (fun _ => (HX.out _ (bt HBY7.out (bt HBY6.out HB3.out)))) (fun hH => ?_)
                replace hH := hH (by decide)
                clear hK K
                try simp only [Act.put, List.setIfInBounds_toArray, List.set_cons_zero, List.set_cons_succ]
                refine oneZ 13 (by kernel_rfl) (gi rfl) (fun K hK => ?_)
                try simp only [Act.put, List.setIfInBounds_toArray, List.set_cons_zero, List.set_cons_succ]
                go_simp
                refine (HROW2.out _ _ HLY7.out).mono ?_
                rintro e v9 ⟨rfl, rfl⟩
                refine hK.out _ _ (fun _ => (HX.out _ (bt HBY7.out (bt HBY6.out HB3.out)))) (fun hH => ?_)
                replace hH := hH (by decide)
                clear hK K
                try simp only [Act.put, List.setIfInBounds_toArray, List.set_cons_zero, List.set_cons_succ]
                refine takeZ 14 (v := ?_) (gi rfl) (by kernel_rfl) (fun _ _ _ h => h) hH (.inl ⟨rfl, fun w hW => ?_⟩) ?_
                rotate_left
                · (go_simp; try with_reducible rfl)
                try simp only [Act.put, List.setIfInBounds_toArray, List.set_cons_zero, List.set_cons_succ]
                refine takeZ 15 (v := ?_) (gi rfl) (by kernel_rfl) (fun _ _ _ h => h) hH (.inl ⟨rfl, fun w hW => ?_⟩) ?_
                rotate_left
                · (go_simp; try with_reducible rfl)
                try simp only [Act.put, List.setIfInBounds_toArray, List.set_cons_zero, List.set_cons_succ]
                refine yieldZ 16 (v := ?_) (by kernel_rfl) (gi rfl) hH (.inl ⟨rfl, fun w hW => ?_⟩) ?_
                rotate_left
                · (go_simp; try with_reducible rfl)
                try simp only [Act.put, List.setIfInBounds_toArray, List.set_cons_zero, List.set_cons_succ]
                refine doneZ (by kernel_rfl) ?_ _
                clear hH
                go_wp2_with fail
                exact ⟨⟨j + 1, by omega, by go_num, by rw [HF.out], bt (bt HBY7.out (bt HBY6.out HB3.out)) HBQ.out⟩, by simp [intOf]; omega⟩
              · try simp only [Act.put, List.setIfInBounds_toArray, List.set_cons_zero, List.set_cons_succ]
                obtain ⟨Y8, eY8⟩ : ∃ Z, Y6.alloc (.cells #[.int .i64 x] 3) = Z := ⟨_, rfl⟩
                have HBY8 := Lib.hid (show Below Y6.heap.size Y6 Y8 by rw [← eY8]; exact below_a1 _ _)
                have HLY8 := Lib.hid (show Seq 1 inC Y8 0 Y8.heap.size (.slice (some ⟨Y6.heap.size, 0, none⟩) 1 1) [x] by rw [← eY8]; exact lit1 Y6 x)
                refine stepB1 (ac := ⟨_, _⟩) rfl (.tmp 89) rfl x ?_ ?_
                · rfl
                rw [eY8]
                clear eY8
                refine hK.out _ _ (fun _ => (HX.out _ (bt HBY8.out (bt HBY6.out HB3.out)))) (fun hH => ?_)
                replace hH := hH (by decide)
                clear hK K
                try simp only [Act.put, List.setIfInBounds_toArray, List.set_cons_zero, List.set_cons_succ]
                refine oneZ 4 (by kernel_rfl) (gi rfl) (fun K hK => ?_)
                try simp only [Act.put, List.setIfInBounds_toArray, List.set_cons_zero, List.set_cons_succ]
                go_simp
                refine (HROW1.out _ _ (HLY6.out.up HBY8.out)).mono ?_
                rintro e v9 ⟨rfl, rfl⟩
                refine hK.out _ _ (fun _ => (HX.out _ (bt HBY8.out (bt HBY6.out HB3.out)))) (fun hH => ?_)
                replace hH := hH (by decide)
                clear hK K
                try simp only [Act.put, List.setIfInBounds_toArray, List.set_cons_zero, List.set_cons_succ]
                refine takeZ 5 (v := ?_) (gi rfl) (by kernel_rfl) (fun _ _ _ h => h) hH (.inl ⟨rfl, fun w hW => ?_⟩) ?_
                rotate_left
                · (go_simp; try with_reducible rfl)
                try simp only [Act.put, List.setIfInBounds_toArray, List.set_cons_zero, List.set_cons_succ]
                refine takeZ 6 (v := ?_) (gi rfl) (by kernel_rfl) (fun _ _ _ h => h) hH (.inl ⟨rfl, fun w hW => ?_⟩) ?_
                rotate_left
                · (go_simp; try with_reducible rfl)
                try simp only [Act.put, List.setIfInBounds_toArray, List.set_cons_zero, List.set_cons_succ]
                refine oneZ 13 (by kernel_rfl) (gi rfl) (fun K hK => ?_)
                try simp only [Act.put, List.setIfInBounds_toArray, List.set_cons_zero, List.set_cons_succ]
                go_simp
                refine (HROW2.out _ _ HLY8.out).mono ?_
                rintro e v9 ⟨rfl, rfl⟩
                refine hK.out _ _ (fun _ => (HX.out _ (bt HBY8.out (bt HBY6.out HB3.out)))) (fun hH => ?_)
                replace hH := hH (by decide)
                clear hK K
                try simp only [Act.put, List.setIfInBounds_toArray, List.set_cons_zero, List.set_cons_succ]
                refine takeZ 14 (v := ?_) (gi rfl) (by kernel_rfl) (fun _ _ _ h => h) hH (.inl ⟨rfl, fun w hW => ?_⟩) ?_
                rotate_left
                · (go_simp; try with_reducible rfl)
                try simp only [Act.put, List.setIfInBounds_toArray, List.set_cons_zero, List.set_cons_succ]
                refine takeZ 15 (v := ?_) (gi rfl) (by kernel_rfl) (fun _ _ _ h => h) hH (.inl ⟨rfl, fun w hW => ?_⟩) ?_
                rotate_left
                · (go_simp; try with_reducible rfl)
                try simp only [Act.put, List.setIfInBounds_toArray, List.set_cons_zero, List.set_cons_succ]
                refine yieldZ 16 (v := ?_) (by kernel_rfl) (gi rfl) hH (.inl ⟨rfl, fun w hW => ?_⟩) ?_
                rotate_left
                · (go_simp; try with_reducible rfl)
                try simp only [Act.put, List.setIfInBounds_toArray, List.set_cons_zero, List.set_cons_succ]
                refine doneZ (by kernel_rfl) ?_ _
                clear hH
                go_wp2_with fail
                exact ⟨⟨j + 1, by omega, by go_num, by rw [HF.out], bt (bt HBY8.out (bt HBY6.out HB3.out)) HBQ.out⟩, by simp [intOf]; omega⟩
            · try simp only [Act.put, List.setIfInBounds_toArray, List.set_cons_zero, List.set_cons_succ]
              obtain ⟨Y9, eY9⟩ : ∃ Z, Y.alloc (.cells #[.int .i64 x] 3) = Z := ⟨_, rfl⟩
              have HBY9 := Lib.hid (show Below Y.heap.size Y Y9 by rw [← eY9]; exact below_a1 _ _)
              have HLY9 := Lib.hid (show Seq 1 inC Y9 0 Y9.heap.size (.slice (some ⟨Y.heap.size, 0, none⟩) 1 1) [x] by rw [← eY9]; exact lit1 Y x)
              refine stepB1 (ac := ⟨_, _⟩) rfl (.tmp 89) rfl x ?_ ?_
              · rfl
              rw [eY9]
              clear eY9
              refine hK.out _ _ (fun _ => (HX.out _ (bt HBY9.out HB3.out))) (fun hH => ?_)
              replace hH := hH (by decide)
              clear hK K
              try simp only [Act.put, List.setIfInBounds_toArray, List.set_cons_zero, List.set_cons_succ]
              refine oneZ 3 (by kernel_rfl) (gi rfl) (fun K hK => ?_)
              try simp only [Act.put, List.setIfInBounds_toArray, List.set_cons_zero, List.set_cons_succ]
              obtain ⟨Y10, eY10⟩ : ∃ Z, Y9.alloc (.cells #[.int .i64 (j : Int)] 3) = Z := ⟨_, rfl⟩
              have HBY10 := Lib.hid (show Below Y9.heap.size Y9 Y10 by rw [← eY10]; exact below_a1 _ _)
              have HLY10 := Lib.hid (show Seq 1 inC Y10 0 Y10.heap.size (.slice (some ⟨Y9.heap.size, 0, none⟩) 1 1) [(j : Int)] by rw [← eY10]; exact lit1 Y9 (j : Int))
              refine stepB1 (ac := ⟨_, _⟩) rfl (.tmp 80) rfl (j : Int) ?_ ?_
              · rfl
              rw [eY10]
              clear eY10
              refine hK.out _ _ (fun _ => (HX.out _ (bt HBY10.out (bt HBY9.out HB3.out)))) (fun hH => ?_)
              replace hH := hH (by decide)
              clear hK K
              try simp only [Act.put, List.setIfInBounds_toArray, List.set_cons_zero, List.set_cons_succ]
              refine oneZ 4 (by kernel_rfl) (gi rfl) (fun K hK => ?_)
              try simp only [Act.put, List.setIfInBounds_toArray, List.set_cons_zero, List.set_cons_succ]
              go_simp
              refine (HROW1.out _ _ HLY10.out).mono ?_
              rintro e v9 ⟨rfl, rfl⟩
              refine hK.out _ _ (fun _ => (HX.out _ (bt HBY10.out (bt HBY9.out HB3.out)))) (fun hH => ?_)
              replace hH := hH (by decide)
              clear hK K
              try simp only [Act.put, List.setIfInBounds_toArray, List.set_cons_zero, List.set_cons_succ]
              refine takeZ 5 (v := ?_) (gi rfl) (by kernel_rfl) (fun _ _ _ h => h) hH (.inl ⟨rfl, fun w hW => ?_⟩) ?_
              rotate_left
              · (go_simp; try with_reducible rfl)
              try simp only [Act.put, List.setIfInBounds_toArray, List.set_cons_zero, List.set_cons_succ]
              refine takeZ 6 (v := ?_) (gi rfl) (by kernel_rfl) (fun _ _ _ h => h) hH (.inl ⟨rfl, fun w hW => ?_⟩) ?_
              rotate_left
              · (go_simp; try with_reducible rfl)
              try simp only [Act.put, List.setIfInBounds_toArray, List.set_cons_zero, List.set_cons_succ]
              refine oneZ 13 (by kernel_rfl) (gi rfl) (fun K hK => ?_)
              try simp only [Act.put, List.setIfInBounds_toArray, List.set_cons_zero, List.set_cons_succ]
              go_simp
              refine (HROW2.out _ _ (HLY9.out.up HBY10.out)).mono ?_
              rintro e v9 ⟨rfl, rfl⟩
              refine hK.out _ _ (fun _ => (HX.out _ (bt HBY10.out (bt HBY9.out HB3.out)))) (fun hH => ?_)
              replace hH := hH (by decide)
              clear hK K
              try simp only [Act.put, List.setIfInBounds_toArray, List.set_cons_zero, List.set_cons_succ]
              refine takeZ 14 (v := ?_) (gi rfl) (by kernel_rfl) (fun _ _ _ h => h) hH (.inl ⟨rfl, fun w hW => ?_⟩) ?_
              rotate_left
              · (go_simp; try with_reducible rfl)
              try simp only [Act.put, List.setIfInBounds_toArray, List.set_cons_zero, List.set_cons_succ]
              refine takeZ 15 (v := ?_) (gi rfl) (by kernel_rfl) (fun _ _ _ h => h) hH (.inl ⟨rfl, fun w hW => ?_⟩) ?_
              rotate_left
              · (go_simp; try with_reducible rfl)
              try simp only [Act.put, List.setIfInBounds_toArray, List.set_cons_zero, List.set_cons_succ]
              refine yieldZ 16 (v := ?_) (by kernel_rfl) (gi rfl) hH (.inl ⟨rfl, fun w hW => ?_⟩) ?_
              rotate_left
              · (go_simp; try with_reducible rfl)
              try simp only [Act.put, List.setIfInBounds_toArray, List.set_cons_zero, List.set_cons_succ]
              refine doneZ (by kernel_rfl) ?_ _
              clear hH
              go_wp2_with fail
              exact ⟨⟨j + 1, by omega, by go_num, by rw [HF.out], bt (bt HBY10.out (bt HBY9.out HB3.out)) HBQ.out⟩, by simp [intOf]; omega⟩
        · have hjm : j = m := by omega
          subst hjm
          clear hbr2
          go_wp2_with fail
          go_ret
          exact ⟨by rw [HT.out, ← EL1.out]; rfl, bt HBQ.out HB.out⟩
end Go.Proofs.YtcaeihfgdlffkaaGreatRRRRDoor.RtwW
