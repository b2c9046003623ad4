/- script.read, by its first word (printed by mkread.py). -/
import Derived.Test.YtchgfabgighbfaaGreatDoorAskW
import Derived.Test.YtchgfabgighbfaaGreatDoorRgtW
import Derived.Deep.RegionHeld3
import Derived.Deep.MidRow
import Derived.Laws.Rows
namespace Go.Proofs.YtchgfabgighbfaaGreatDoor.RedW
set_option linter.unusedVariables false
set_option linter.unusedSimpArgs false
open Go.RowKit Base SeqM ScrM ScrP ScrR ScrS TxtM GlbD FmtW RdsW RdkW EqlW LinV SchW AskW RgtW

def ReadPost (w : World) (all : List Wd) (e : Ending) (w' : World) : Prop := ∃ (r : LnR) (b : Bool), e = .returned (.tuple #[.agg (lnC r).toArray, .bool b]) ∧ Below w.heap.size w w' ∧ (lnC r).all (·.oneCell') = true ∧ (b = true → LnOw w' w.heap.size r ∧ readW all = some r.ln) ∧ (b = false → readW all = none)
theorem seq_sl {k : Nat} {α : Type} {f : α → List Value} {w : World} {lo B : Nat} {v : Value} {l : List α} (h : Seq k f w lo B v l) : ∃ A n c, v = .slice A n c := by
  obtain ⟨A, c, rfl, _⟩ := h; exact ⟨_, _, _, rfl⟩
theorem lnC_one {w : World} {lo B : Nat} {r : LnR} (h : LnIn w lo B r) : (lnC r).all (·.oneCell') = true := by
  obtain ⟨_, _, _, e1⟩ := seq_sl h.xs
  obtain ⟨_, _, _, e2⟩ := seq_sl h.ds
  obtain ⟨_, _, _, e3⟩ := seq_sl h.ks
  obtain ⟨xv, dv, kv, k1, ⟨c0, c1, c2, c3, c4, c5, c6, c7, c8, c9, c10⟩, ⟨a1, a2, a3, a4, a5⟩, dr, n1, kp⟩ := r
  dsimp only at e1 e2 e3
  subst e1 e2 e3
  rfl
theorem range_of {W : World} {b : Nat} {l : List Value} {t : TypeId} {fz : Nat × Nat} (h : W.heap[b]? = some (.cells l.toArray t fz)) : W.rangeAt b 0 l := fun j v hj => by
  rw [Nat.zero_add]; exact cell_of h (by simpa using hj)
theorem LnIn.row {W : World} {lo B g : Nat} {r : LnR} {cs : Array Value} (h : LnIn W lo B r) (hne : ∀ k, lo ≤ k → k < B → k ≠ g) : LnIn (W.setRow g cs) lo B r := by
  have hk : ∀ p : Addr, lo ≤ p.block → p.block < B → (W.setRow g cs).cell? p = W.cell? p := fun p h1 h2 => cell_setRow_other W g cs p (hne _ h1 h2)
  obtain ⟨h1, h2, h3⟩ := h
  refine ⟨?_, ?_, ?_⟩
  · obtain ⟨A, c, e, a, b, hr, z⟩ := h1; exact ⟨A, c, e, a, b, hr.keep hk, z⟩
  · obtain ⟨A, c, e, a, b, hr, z⟩ := h2; exact ⟨A, c, e, a, b, hr.keep hk, z⟩
  · obtain ⟨A, c, e, a, b, hr, z⟩ := h3; exact ⟨A, c, e, a, b, hr.keep hk, z⟩
theorem split_first (text : List UInt8) : splitC 32 text = nextW (splitC 32 text) :: (splitC 32 text).tail := by
  cases h : splitC 32 text with
  | nil => exact absurd h (split_ne 32 text)
  | cons a r => rfl
theorem split_lens (c : UInt8) : ∀ (s : List UInt8), (∀ x ∈ splitC c s, x.length ≤ s.length) ∧ (splitC c s).length ≤ s.length + 1
  | [] => by simp [splitC]
  | x :: s => by
    obtain ⟨h1, h2⟩ := split_lens c s
    rw [splitC]
    split
    · refine ⟨fun y hy => ?_, by simp; omega⟩
      rcases List.mem_cons.1 hy with rfl | hy
      · simp
      · have := h1 y hy; simp; omega
    · cases hs : splitC c s with
      | nil => exact absurd hs (split_ne c s)
      | cons a r =>
        rw [hs] at h1 h2
        refine ⟨fun y hy => ?_, by simp at h2 ⊢; omega⟩
        rcases List.mem_cons.1 hy with rfl | hy
        · have := h1 a (by simp); simp; omega
        · have := h1 y (by simp [hy]); simp; omega
theorem flat_wd : ∀ ws : List Wd, ws.flatMap wdC = ws.map fun x => Value.string ⟨x.toArray⟩
  | [] => rfl
  | x :: r => by rw [List.flatMap_cons, flat_wd r]; rfl
/-- the reader as it is made -/
theorem made {w W : World} (ws : List Wd) {n : Nat} (hn : ws.length = n) (hlen : n ≤ 1000000) (hsb : W.heap[w.heap.size + 1]? = some (.cells (ws.map fun x => Value.string ⟨x.toArray⟩).toArray 9 (0, 0)))
    (hrb : W.heap[w.heap.size + 2]? = some (.cells #[.slice (some ⟨w.heap.size + 1, 0, none⟩) n n, .bool true] 92 (0, 0))) (hb : Below w.heap.size w W) : RSt w (w.heap.size + 2) ws true W := by
  refine ⟨⟨_, hrb, ?_⟩, hb, by omega⟩
  subst hn
  refine ⟨_, _, rfl, Nat.le_refl _, by unfold maxLen; omega, ⟨by rw [flat_len wdC_len], fun _ => ⟨_, rfl, Nat.zero_le _, by simp, fun j u hu => ?_⟩⟩, fun hh => by cases hh⟩
  have e : (⟨w.heap.size + 1, 0, none⟩ : Addr).add j = ⟨w.heap.size + 1, j, none⟩ := by unfold Addr.add; split <;> simp_all
  rw [e]
  refine cell_of hsb ?_
  rw [flat_wd] at hu
  simpa using hu
theorem bytes_back (s : ByteArray) : (⟨s.data.toList.toArray⟩ : ByteArray) = s := by rcases s with ⟨⟨l⟩⟩; rfl
theorem split_strings (text : List UInt8) : ((Lib.splitB ⟨#[32]⟩ 0 (Lib.countB ⟨text.toArray⟩ ⟨#[32]⟩) ⟨text.toArray⟩).map Value.string) = (splitC 32 text).map fun x => Value.string ⟨x.toArray⟩ := by
  have h := split_words 32 _ ⟨text.toArray⟩ (Nat.le_refl _)
  rw [toL] at h
  rw [← h, List.map_map]
  congr 1
theorem split_count (text : List UInt8) : Lib.countB ⟨text.toArray⟩ ⟨#[32]⟩ + 1 = (splitC 32 text).length := by
  have h := Lib.splitB_all ⟨#[32]⟩ (Nat.le_refl 1) 0 (Lib.countB ⟨text.toArray⟩ ⟨#[32]⟩) ⟨text.toArray⟩ rfl
  have h2 := congrArg List.length (split_words 32 _ ⟨text.toArray⟩ (Nat.le_refl _))
  rw [List.length_map, toL] at h2
  omega
theorem rightB_of {l : Ln} (h : rightB l = true) : Right l := by
  by_cases hr : Right l
  · exact hr
  · rw [right_no hr] at h; exact absurd h (by decide)
theorem range_row {w : World} {b g : Nat} {l : List Value} {cs : Array Value} (h : w.rangeAt b 0 l) (hne : b ≠ g) : (w.setRow g cs).rangeAt b 0 l := fun j v hj => (cell_setRow_other _ _ _ _ hne).trans (h j v hj)
theorem results_cell_slot {fn : Func} {p q : Tmp} {ty : TypeId} (h : fn.results = #[.cell p ty, .tmp q]) (tmps : Array Value) (w : World) (g : Nat) (t : TypeId) (l : List Value) (fr : Nat × Nat) (d : TypeDesc) (v : Value)
    (hp : tmps.getD p undef = .pointer (some ⟨g, 0, none⟩)) (hq : tmps.getD q undef = v) (hd : d.isRow = true) (hg : w.heap[g]? = some (.cells l.toArray t fr))
    (hu : Tryz.prog.underlying ty = some d) (hi : (Tryz.prog.info? ty).map (·.size) = some l.length) :
    (results fn tmps).run Tryz.prog w = .ok (.tuple #[.agg l.toArray, v]) w := by
  have hp' : tmps[p]?.getD undef = .pointer (some ⟨g, 0, none⟩) := by simpa using hp
  have hq' : tmps[q]?.getD undef = v := by simpa using hq
  simp [results, h, hp', hq', asAddr, run_loadVar_mid w g 0 ty l d (range_of hg) hu hd hi]
theorem line_at {text : List UInt8} {W : Wd} {l : Ln} {ws' : List Wd} {ok' : Bool} (hW : nextW (splitC 32 text) = W) (h : LineS (W :: (splitC 32 text).tail) true l ws' ok') : LineS (splitC 32 text) true l ws' ok' := by
  rw [← hW, ← split_first] at h; exact h
theorem alloc4 (w : World) (a b c d : Obj) : ((((w.alloc a).alloc b).alloc c).alloc d).heap[w.heap.size]? = some a ∧ ((((w.alloc a).alloc b).alloc c).alloc d).heap[w.heap.size + 1]? = some b ∧ ((((w.alloc a).alloc b).alloc c).alloc d).heap[w.heap.size + 2]? = some c ∧ ((((w.alloc a).alloc b).alloc c).alloc d).heap[w.heap.size + 3]? = some d ∧ Below w.heap.size w ((((w.alloc a).alloc b).alloc c).alloc d) := by
  have s1 : (w.alloc a).heap.size = w.heap.size + 1 := by simp
  have s2 : ((w.alloc a).alloc b).heap.size = w.heap.size + 2 := by simp
  have s3 : (((w.alloc a).alloc b).alloc c).heap.size = w.heap.size + 3 := by simp
  have e1 := heap_alloc_new w a
  have e2 := heap_alloc_new (w.alloc a) b
  have e3 := heap_alloc_new ((w.alloc a).alloc b) c
  have e4 := heap_alloc_new (((w.alloc a).alloc b).alloc c) d
  rw [s1] at e2
  rw [s2] at e3
  rw [s3] at e4
  refine ⟨?_, ?_, ?_, e4, ((((Below.refl _ _).alloc (Nat.le_refl _) a).alloc (by simp) b).alloc (by rw [s2]; omega) c).alloc (by rw [s3]; omega) d⟩
  · exact (Below.heap_alloc _ _ _ (by rw [s3]; omega)).trans ((Below.heap_alloc _ _ _ (by rw [s2]; omega)).trans ((Below.heap_alloc _ _ _ (by rw [s1]; omega)).trans e1))
  · exact (Below.heap_alloc _ _ _ (by rw [s3]; omega)).trans ((Below.heap_alloc _ _ _ (by rw [s2]; omega)).trans e2)
  · exact (Below.heap_alloc _ _ _ (by rw [s3]; omega)).trans e3
set_option maxHeartbeats 8000000 in
set_option maxRecDepth 100000 in
theorem read_wAck (text : List UInt8) (htl : text.length ≤ 900000) (w : World) (hG : G w) (hw : nextW (splitC 32 text) = wAck) :
    Calls Tryz.prog 33 #[.string ⟨text.toArray⟩] w (ReadPost w (splitC 32 text)) := by
  obtain ⟨m, hm⟩ := hG.mx
  have HM := Lib.hid (fun (o : Obj) => keepA (below_a1 w o) hm)
  have HG := Lib.hid hG
  obtain ⟨sl1, sl2⟩ := split_lens 32 text
  have HL0 := Lib.hid (show ∀ x ∈ splitC 32 text, x.length ≤ 1000000 from fun x hx => by have := sl1 x hx; omega)
  have HSC := Lib.hid (split_count text)
  have HSS := Lib.hid (split_strings text)
  obtain ⟨n, hn⟩ : ∃ n, (splitC 32 text).length = n := ⟨_, rfl⟩
  have hn1 : n ≤ 1000000 := by omega
  have HN := Lib.hid hn
  rw [hn] at HSC
  clear hG hm sl1 sl2 hn
  go_enter Tryz.func33, Tryz.ntmps33
  go_wp2_with fail
  refine (Tryz.strings_Split ⟨text.toArray⟩ ⟨#[32]⟩ m _ (by show text.toArray.size < _; simp; omega) (HM.out _) (Nat.le_refl 1)).mono ?_
  rintro e W0 ⟨rfl, rfl⟩
  rw [HSC.out, HSS.out]
  have HA4 := Lib.hid (fun (S : Array Value) (v : Value) => alloc4 w (.cells #[.int .i64 0, .int .i64 0, .int .i64 0, .int .i64 0, .int .i64 0, .int .i64 0, .int .i64 0, .int .i64 0, .int .i64 0, .int .i64 0, .int .i64 0, .int .i64 0, .int .i64 0, .int .i64 0, .slice none 0 0, .int .i64 0, .int .i64 0, .slice none 0 0, .int .i64 0, .slice none 0 0] 31) (.cells S 9) (.cells #[v, .bool true] 92) (.cells #[.int .i64 0, .int .i64 0, .int .i64 0, .int .i64 0, .int .i64 0, .int .i64 0, .int .i64 0, .int .i64 0, .int .i64 0, .int .i64 0, .int .i64 0, .int .i64 0, .int .i64 0, .int .i64 0, .slice none 0 0, .int .i64 0, .int .i64 0, .slice none 0 0, .int .i64 0, .slice none 0 0] 31))
  go_wp2_with fail
  obtain ⟨Wa, hWa⟩ : ∃ Wa, (((w.alloc (.cells #[.int .i64 0, .int .i64 0, .int .i64 0, .int .i64 0, .int .i64 0, .int .i64 0, .int .i64 0, .int .i64 0, .int .i64 0, .int .i64 0, .int .i64 0, .int .i64 0, .int .i64 0, .int .i64 0, .slice none 0 0, .int .i64 0, .int .i64 0, .slice none 0 0, .int .i64 0, .slice none 0 0] 31)).alloc (.cells ((splitC 32 text).map fun x => Value.string ⟨x.toArray⟩).toArray 9)).alloc (.cells #[.slice (some ⟨w.heap.size + 1, 0, none⟩) n n, .bool true] 92)).alloc (.cells #[.int .i64 0, .int .i64 0, .int .i64 0, .int .i64 0, .int .i64 0, .int .i64 0, .int .i64 0, .int .i64 0, .int .i64 0, .int .i64 0, .int .i64 0, .int .i64 0, .int .i64 0, .int .i64 0, .slice none 0 0, .int .i64 0, .int .i64 0, .slice none 0 0, .int .i64 0, .slice none 0 0] 31) = Wa := ⟨_, rfl⟩
  obtain ⟨hrc, hsb, hrb, hlb, hbl⟩ := HA4.out ((splitC 32 text).map fun x => Value.string ⟨x.toArray⟩).toArray (.slice (some ⟨w.heap.size + 1, 0, none⟩) n n)
  rw [hWa] at hrc hsb hrb hlb hbl ⊢
  have H0 := Lib.hid (made (splitC 32 text) HN.out hn1 hsb hrb hbl)
  have HRC := Lib.hid hrc
  have HLB := Lib.hid hlb
  clear HA4 hWa hrc hsb hrb hlb hbl HM
  refine (next_any H0.out).mono ?_
  rintro e W1 ⟨rfl, h1, hk1⟩
  have H1 := Lib.hid h1
  have HRC1 := Lib.hid (hk1.cells (by omega) HRC.out)
  have HLB1 := Lib.hid (hk1.cells (by omega) HLB.out)
  clear HRC HLB h1 hk1 H0
  have hok : nextOk (splitC 32 text) true = true := by rw [split_first]; rfl
  rw [hok] at H1
  rw [hw, show (⟨List.toArray wAck⟩ : ByteArray) = ⟨#[97, 99, 107]⟩ from rfl]
  have HW := Lib.hid hw
  have HL1 := Lib.hid (tail_len HL0.out)
  have hwl : (splitC 32 text).tail.length ≤ 1000000 := tail_le (by rw [HN.out]; exact hn1)
  have hz1 := H1.out.low.size
  have HLBS := Lib.hid (show w.heap.size + 3 < W1.heap.size from (Array.getElem?_eq_some_iff.1 HLB1.out).1)
  clear hw hok
  go_wp2_with fail
  refine (ask_4 HG.out HL1.out hwl H1.out).mono ?_
  rintro e W2 ⟨r, ws2, ok2, rfl, h2, hk2, hin, hls⟩
  have H2 := Lib.hid h2
  have HRC2 := Lib.hid (hk2.cells (by omega) HRC1.out)
  have HLB2 := Lib.hid (hk2.cells (by omega) HLB1.out)
  have hz2 : W1.heap.size ≤ W2.heap.size := hk2.size
  clear h2 hk2 HRC1 HLB1
  have HIN2 := Lib.hid hin
  have HLS2 := Lib.hid hls
  clear hin hls
  go_wp2_with (first
    | (refine (id ?_ : wpList _ _ _ (⟨none, .store _ (.tmp 5) _, _, _, _, _⟩ :: _) _ _)
       refine wpList_store_row rfl 31 (.tmp 5) (.tmp 36) rfl (w.heap.size + 3) (lnC r).toArray (by rfl) (by rfl) 31 _ HLB2.out (by kernel_rfl) (by rfl) (by simpa using lnC_one HIN2.out.toIn) ?_))
  obtain ⟨Wz, hWz⟩ : ∃ Wz, W2.setRow (w.heap.size + 3) (lnC r).toArray = Wz := ⟨_, rfl⟩
  rw [hWz]
  have HLBz := Lib.hid (show Wz.heap[w.heap.size + 3]? = some (.cells (lnC r).toArray 31 (0, 0)) by rw [← hWz]; exact setRow_heap _ _ _ _ _ _ HLB2.out)
  have HRCz := Lib.hid (show Wz.heap[w.heap.size]? = some (.cells #[.int .i64 0, .int .i64 0, .int .i64 0, .int .i64 0, .int .i64 0, .int .i64 0, .int .i64 0, .int .i64 0, .int .i64 0, .int .i64 0, .int .i64 0, .int .i64 0, .int .i64 0, .int .i64 0, .slice none 0 0, .int .i64 0, .int .i64 0, .slice none 0 0, .int .i64 0, .slice none 0 0] 31 (0, 0)) by rw [← hWz]; exact (setRow_other _ _ _ _ (by simp)).trans HRC2.out)
  have HRz := Lib.hid (show RSt w (w.heap.size + 2) ws2 ok2 Wz by rw [← hWz]; exact RdsRSt_row H2.out (by omega) _)
  have hlb1 : w.heap.size + 3 < W1.heap.size := HLBS.out
  have HINz := Lib.hid (show LnOw Wz W1.heap.size r by rw [← hWz]; exact LnOw.row HIN2.out HLB2.out)
  have HLN := Lib.hid (fun W (hb : Below Wz.heap.size Wz W) => show LnOw (W.setRow w.heap.size (lnC r).toArray) w.heap.size r from ((HINz.out.below hb).row ((hb.block _ (Array.getElem?_eq_some_iff.1 HRCz.out).1).trans HRCz.out)).more (by omega))
  have HLS := Lib.hid (show LineS (splitC 32 text) true r.ln ws2 ok2 from line_at HW.out HLS2.out)
  clear  hWz HRC2 HLB2 H2
  cases ok2 with
  | true =>
    obtain ⟨WA, wn, wc, d0, dn, d1, df, dz⟩ := HRz.out.cells
    have HRG := Lib.hid (range_of HLBz.out)
    have HD := Lib.hid (And.intro d0 d1)
    have HDN := Lib.hid dn
    clear dn
    by_cases hws : ws2 = []
    · have HWS := Lib.hid hws
      have hwn : wn = 0 := by rw [HDN.out, hws]; rfl
      subst hwn
      have HL7 := Lib.hid (HLS.out.1 rfl hws).2.2
      clear hws
      refine wp_region_held_drew (S := fun w' => w'.rangeAt (w.heap.size + 3) 0 (lnC r) ∧ w'.cell? ⟨w.heap.size + 2, 0, none⟩ = some (.slice WA 0 wc) ∧ w'.cell? ⟨w.heap.size + 2, 1, none⟩ = some (.bool true)) (by kernel_rfl) ?_ (fun hHeld => ?_)
      · exact ⟨HRG.out, HD.out⟩
      refine wpAnyH_take (i := 0) (oi := ?oi0_19) (v := ?v0_19) ?hi0_19 (by kernel_rfl) ?hf0_19 (by kernel_rfl) ?hq0_19 ?hy0_19 hHeld ?rest0_19
      case hi0_19 => (simp only [List.getElem?_toArray, List.getElem?_cons_zero]; try exact rfl)
      case hf0_19 => kernel_rfl
      case hq0_19 => exact fun _ _ _ h => h
      case hy0_19 => (refine yieldsIf_load_mid ?_ 31 (.tmp 5) ?_ (w.heap.size + 3) 0 ?_ (lnC r) _ ?_ Tryz.underlying31 rfl (by kernel_rfl) <;> first | exact fun _ h => h.1 | rfl)
      try simp only [Act.put, List.setIfInBounds_toArray, List.set_cons_zero, List.set_cons_succ]
      refine wpAnyH_take (i := 1) (oi := ?oi1_20) (v := ?v1_20) ?hi1_20 (by kernel_rfl) ?hf1_20 (by kernel_rfl) ?hq1_20 ?hy1_20 hHeld ?rest1_20
      case hi1_20 => (simp only [List.getElem?_toArray, List.getElem?_cons_succ, List.getElem?_cons_zero]; try exact rfl)
      case hf1_20 => kernel_rfl
      case hq1_20 => exact fun _ _ _ h => h
      case hy1_20 => (refine Or.inl ⟨rfl, ?_⟩; intro w hSw; (try dsimp only at hSw); go_simp; try with_reducible rfl)
      try simp only [Act.put, List.setIfInBounds_toArray, List.set_cons_zero, List.set_cons_succ]
      refine wpAnyH_take (i := 2) (oi := ?oi2_21) (v := ?v2_21) ?hi2_21 (by kernel_rfl) ?hf2_21 (by kernel_rfl) ?hq2_21 ?hy2_21 hHeld ?rest2_21
      case hi2_21 => (simp only [List.getElem?_toArray, List.getElem?_cons_succ, List.getElem?_cons_zero]; try exact rfl)
      case hf2_21 => kernel_rfl
      case hq2_21 => exact fun _ _ _ h => h
      case hy2_21 => (refine Or.inl ⟨rfl, ?_⟩; intro w hSw; (try dsimp only at hSw); go_simp; try with_reducible rfl)
      try simp only [Act.put, List.setIfInBounds_toArray, List.set_cons_zero, List.set_cons_succ]
      refine wpAnyH_take (i := 3) (oi := ?oi3_22) (v := ?v3_22) ?hi3_22 (by kernel_rfl) ?hf3_22 (by kernel_rfl) ?hq3_22 ?hy3_22 hHeld ?rest3_22
      case hi3_22 => (simp only [List.getElem?_toArray, List.getElem?_cons_succ, List.getElem?_cons_zero]; try exact rfl)
      case hf3_22 => kernel_rfl
      case hq3_22 => exact fun _ _ _ h => h
      case hy3_22 => (refine Or.inl ⟨rfl, ?_⟩; intro w hSw; (try dsimp only at hSw); go_simp; try with_reducible rfl)
      try simp only [Act.put, List.setIfInBounds_toArray, List.set_cons_zero, List.set_cons_succ]
      refine wpAnyH_take (i := 4) (oi := ?oi4_23) (v := ?v4_23) ?hi4_23 (by kernel_rfl) ?hf4_23 (by kernel_rfl) ?hq4_23 ?hy4_23 hHeld ?rest4_23
      case hi4_23 => (simp only [List.getElem?_toArray, List.getElem?_cons_succ, List.getElem?_cons_zero]; try exact rfl)
      case hf4_23 => kernel_rfl
      case hq4_23 => exact fun _ _ _ h => h
      case hy4_23 => (refine Or.inl ⟨rfl, ?_⟩; intro w hSw; (try dsimp only at hSw); go_simp; try with_reducible rfl)
      try simp only [Act.put, List.setIfInBounds_toArray, List.set_cons_zero, List.set_cons_succ]
      refine wpAnyH_take (i := 5) (oi := ?oi5_24) (v := ?v5_24) ?hi5_24 (by kernel_rfl) ?hf5_24 (by kernel_rfl) ?hq5_24 ?hy5_24 hHeld ?rest5_24
      case hi5_24 => (simp only [List.getElem?_toArray, List.getElem?_cons_succ, List.getElem?_cons_zero]; try exact rfl)
      case hf5_24 => kernel_rfl
      case hq5_24 => exact fun _ _ _ h => h
      case hy5_24 => (refine Or.inl ⟨rfl, ?_⟩; intro w hSw; (try dsimp only at hSw); go_simp; try with_reducible rfl)
      try simp only [Act.put, List.setIfInBounds_toArray, List.set_cons_zero, List.set_cons_succ]
      refine wpAnyH_take (i := 6) (oi := ?oi6_25) (v := ?v6_25) ?hi6_25 (by kernel_rfl) ?hf6_25 (by kernel_rfl) ?hq6_25 ?hy6_25 hHeld ?rest6_25
      case hi6_25 => (simp only [List.getElem?_toArray, List.getElem?_cons_succ, List.getElem?_cons_zero]; try exact rfl)
      case hf6_25 => kernel_rfl
      case hq6_25 => exact fun _ _ _ h => h
      case hy6_25 => (refine Or.inl ⟨rfl, ?_⟩; intro w hSw; (try dsimp only at hSw); go_simp; try with_reducible rfl)
      try simp only [Act.put, List.setIfInBounds_toArray, List.set_cons_zero, List.set_cons_succ]
      refine wpAnyH_take (i := 7) (oi := ?oi7_26) (v := ?v7_26) ?hi7_26 (by kernel_rfl) ?hf7_26 (by kernel_rfl) ?hq7_26 ?hy7_26 hHeld ?rest7_26
      case hi7_26 => (simp only [List.getElem?_toArray, List.getElem?_cons_succ, List.getElem?_cons_zero]; try exact rfl)
      case hf7_26 => kernel_rfl
      case hq7_26 => exact fun _ _ _ h => h
      case hy7_26 => (refine Or.inl ⟨rfl, ?_⟩; intro w hSw; (try dsimp only at hSw); go_simp; try with_reducible rfl)
      try simp only [Act.put, List.setIfInBounds_toArray, List.set_cons_zero, List.set_cons_succ]
      refine wpAnyH_take (i := 8) (oi := ?oi8_27) (v := ?v8_27) ?hi8_27 (by kernel_rfl) ?hf8_27 (by kernel_rfl) ?hq8_27 ?hy8_27 hHeld ?rest8_27
      case hi8_27 => (simp only [List.getElem?_toArray, List.getElem?_cons_succ, List.getElem?_cons_zero]; try exact rfl)
      case hf8_27 => kernel_rfl
      case hq8_27 => exact fun _ _ _ h => h
      case hy8_27 => (refine Or.inl ⟨rfl, ?_⟩; intro w hSw; (try dsimp only at hSw); go_simp; try with_reducible rfl)
      try simp only [Act.put, List.setIfInBounds_toArray, List.set_cons_zero, List.set_cons_succ]
      refine wpAnyH_take (i := 9) (oi := ?oi9_28) (v := ?v9_28) ?hi9_28 (by kernel_rfl) ?hf9_28 (by kernel_rfl) ?hq9_28 ?hy9_28 hHeld ?rest9_28
      case hi9_28 => (simp only [List.getElem?_toArray, List.getElem?_cons_succ, List.getElem?_cons_zero]; try exact rfl)
      case hf9_28 => kernel_rfl
      case hq9_28 => exact fun _ _ _ h => h
      case hy9_28 => (refine Or.inl ⟨rfl, ?_⟩; intro w hSw; (try dsimp only at hSw); go_simp; try with_reducible rfl)
      try simp only [Act.put, List.setIfInBounds_toArray, List.set_cons_zero, List.set_cons_succ]
      refine wpAnyH_take (i := 10) (oi := ?oi10_29) (v := ?v10_29) ?hi10_29 (by kernel_rfl) ?hf10_29 (by kernel_rfl) ?hq10_29 ?hy10_29 hHeld ?rest10_29
      case hi10_29 => (simp only [List.getElem?_toArray, List.getElem?_cons_succ, List.getElem?_cons_zero]; try exact rfl)
      case hf10_29 => kernel_rfl
      case hq10_29 => exact fun _ _ _ h => h
      case hy10_29 => (refine Or.inl ⟨rfl, ?_⟩; intro w hSw; (try dsimp only at hSw); go_simp; try with_reducible rfl)
      try simp only [Act.put, List.setIfInBounds_toArray, List.set_cons_zero, List.set_cons_succ]
      refine wpAnyH_take (i := 11) (oi := ?oi11_30) (v := ?v11_30) ?hi11_30 (by kernel_rfl) ?hf11_30 (by kernel_rfl) ?hq11_30 ?hy11_30 hHeld ?rest11_30
      case hi11_30 => (simp only [List.getElem?_toArray, List.getElem?_cons_succ, List.getElem?_cons_zero]; try exact rfl)
      case hf11_30 => kernel_rfl
      case hq11_30 => exact fun _ _ _ h => h
      case hy11_30 => (refine Or.inl ⟨rfl, ?_⟩; intro w hSw; (try dsimp only at hSw); go_simp; try with_reducible rfl)
      try simp only [Act.put, List.setIfInBounds_toArray, List.set_cons_zero, List.set_cons_succ]
      refine wpAnyH_take (i := 12) (oi := ?oi12_31) (v := ?v12_31) ?hi12_31 (by kernel_rfl) ?hf12_31 (by kernel_rfl) ?hq12_31 ?hy12_31 hHeld ?rest12_31
      case hi12_31 => (simp only [List.getElem?_toArray, List.getElem?_cons_succ, List.getElem?_cons_zero]; try exact rfl)
      case hf12_31 => kernel_rfl
      case hq12_31 => exact fun _ _ _ h => h
      case hy12_31 => (refine Or.inl ⟨rfl, ?_⟩; intro w hSw; (try dsimp only at hSw); go_simp; try with_reducible rfl)
      try simp only [Act.put, List.setIfInBounds_toArray, List.set_cons_zero, List.set_cons_succ]
      refine wpAnyH_take (i := 13) (oi := ?oi13_32) (v := ?v13_32) ?hi13_32 (by kernel_rfl) ?hf13_32 (by kernel_rfl) ?hq13_32 ?hy13_32 hHeld ?rest13_32
      case hi13_32 => (simp only [List.getElem?_toArray, List.getElem?_cons_succ, List.getElem?_cons_zero]; try exact rfl)
      case hf13_32 => kernel_rfl
      case hq13_32 => exact fun _ _ _ h => h
      case hy13_32 => (refine Or.inl ⟨rfl, ?_⟩; intro w hSw; (try dsimp only at hSw); go_simp; try with_reducible rfl)
      try simp only [Act.put, List.setIfInBounds_toArray, List.set_cons_zero, List.set_cons_succ]
      refine wpAnyH_take (i := 14) (oi := ?oi14_33) (v := ?v14_33) ?hi14_33 (by kernel_rfl) ?hf14_33 (by kernel_rfl) ?hq14_33 ?hy14_33 hHeld ?rest14_33
      case hi14_33 => (simp only [List.getElem?_toArray, List.getElem?_cons_succ, List.getElem?_cons_zero]; try exact rfl)
      case hf14_33 => kernel_rfl
      case hq14_33 => exact fun _ _ _ h => h
      case hy14_33 => (refine yieldsIf_load_mid ?_ 31 (.tmp 5) ?_ (w.heap.size + 3) 0 ?_ (lnC r) _ ?_ Tryz.underlying31 rfl (by kernel_rfl) <;> first | exact fun _ h => h.1 | rfl)
      try simp only [Act.put, List.setIfInBounds_toArray, List.set_cons_zero, List.set_cons_succ]
      refine wpAnyH_ready (rs := [15]) (by kernel_rfl) (by simp) ?_
      refine AllReadyH.cons (by simp only [List.getElem?_toArray, List.getElem?_cons_succ, List.getElem?_cons_zero]; try exact rfl) (fun K hK => ?_) AllReadyH.nil
      go_simp
      refine (Right_any r W1.heap.size Wz.drew (HINz.out.below (Below.refl _ _).drew).toIn HL7.out.2 HL7.out.1).mono ?_
      rintro e W5 ⟨rfl, hb5⟩
      have HB5 := Lib.hid (show Below Wz.heap.size Wz W5 from (Below.refl _ _).drew.trans hb5)
      clear hb5
      refine hK.out _ _ ⟨fun j v hj => keepA HB5.out (HRG.out j v hj), keepA HB5.out HD.out.1, keepA HB5.out HD.out.2⟩ (fun hHeld => ?_)
      clear hK K
      try simp only [Act.put, List.setIfInBounds_toArray, List.set_cons_zero, List.set_cons_succ]
      refine wpAnyH_take (i := 16) (oi := ?oi16_34) (v := ?v16_34) ?hi16_34 (by kernel_rfl) ?hf16_34 (by kernel_rfl) ?hq16_34 ?hy16_34 hHeld ?rest16_34
      case hi16_34 => (simp only [List.getElem?_toArray, List.getElem?_cons_succ, List.getElem?_cons_zero]; try exact rfl)
      case hf16_34 => kernel_rfl
      case hq16_34 => exact fun _ _ _ h => h
      case hy16_34 => (refine Or.inl ⟨rfl, ?_⟩; intro w hSw; (try dsimp only at hSw); go_simp; try with_reducible rfl)
      try simp only [Act.put, List.setIfInBounds_toArray, List.set_cons_zero, List.set_cons_succ]
      have HRC5 := Lib.hid ((HB5.out.block _ (Array.getElem?_eq_some_iff.1 HRCz.out).1).trans HRCz.out)
      refine wpAnyH_ready (rs := [17]) (by kernel_rfl) (by simp) ?_
      refine AllReadyH.cons (by simp only [List.getElem?_toArray, List.getElem?_cons_succ, List.getElem?_cons_zero]; try exact rfl) (fun K hK => ?_) AllReadyH.nil
      refine wp_store_row 31 (.tmp 2) (.tmp 60) rfl w.heap.size (lnC r).toArray (by rfl) (by rfl) 31 _ HRC5.out (by kernel_rfl) (by rfl) (by simpa using lnC_one HINz.out.toIn) ?_
      refine hK.out _ _ ⟨range_row hHeld.1 (by simp), (cell_setRow_other _ _ _ _ (by simp)).trans hHeld.2.1, (cell_setRow_other _ _ _ _ (by simp)).trans hHeld.2.2⟩ (fun hHeld => ?_)
      clear hK K
      try simp only [Act.put]
      refine wpAnyH_take (i := 18) (oi := ?oi18_35) (v := ?v18_35) ?hi18_35 (by kernel_rfl) ?hf18_35 (by kernel_rfl) ?hq18_35 ?hy18_35 hHeld ?rest18_35
      case hi18_35 => (simp only [List.getElem?_toArray, List.getElem?_cons_succ, List.getElem?_cons_zero]; try exact rfl)
      case hf18_35 => kernel_rfl
      case hq18_35 => exact fun _ _ _ h => h
      case hy18_35 => (refine Or.inl ⟨rfl, ?_⟩; intro w hSw; (try dsimp only at hSw); go_simp; try with_reducible rfl)
      try simp only [Act.put, List.setIfInBounds_toArray, List.set_cons_zero, List.set_cons_succ]
      refine wpAnyH_done (by kernel_rfl) ?_ _
      go_wp2_with fail
      have hF := setRow_heap _ _ _ (lnC r).toArray _ _ HRC5.out
      refine bodyPost_ret (v := .tuple #[.agg (lnC r).toArray, .bool (rightB r.ln)]) (results_cell_slot (p := 2) (q := 3) (by kernel_rfl) _ _ w.heap.size _ _ _ _ _ (by rfl) (by rfl) rfl hF Tryz.underlying31 (by kernel_rfl)) rfl ?_
      exact ⟨r, (rightB r.ln), rfl, below_setRow (bt HB5.out HRz.out.low) (Nat.le_refl _) _, lnC_one HINz.out.toIn, fun h => ⟨HLN.out W5 HB5.out, read_yes HLS.out rfl HWS.out (rightB_of h)⟩, fun h => read_no HLS.out (fun h2 => by rw [right_yes h2.2.2] at h; exact absurd h (by decide))⟩
    · have HNR := Lib.hid (read_no HLS.out (fun h => hws h.2.1))
      have hwn : 0 < wn := by rw [HDN.out]; exact List.length_pos_iff.2 hws
      have hwq : ((wn : Int) == 0) = false := beq_eq_false_iff_ne.2 (by omega)
      clear hws
      refine wp_region_held_drew (S := fun w' => w'.rangeAt (w.heap.size + 3) 0 (lnC r) ∧ w'.cell? ⟨w.heap.size + 2, 0, none⟩ = some (.slice WA wn wc) ∧ w'.cell? ⟨w.heap.size + 2, 1, none⟩ = some (.bool true)) (by kernel_rfl) ?_ (fun hHeld => ?_)
      · exact ⟨HRG.out, HD.out⟩
      refine wpAnyH_take (i := 0) (oi := ?oi0_36) (v := ?v0_36) ?hi0_36 (by kernel_rfl) ?hf0_36 (by kernel_rfl) ?hq0_36 ?hy0_36 hHeld ?rest0_36
      case hi0_36 => (simp only [List.getElem?_toArray, List.getElem?_cons_zero]; try exact rfl)
      case hf0_36 => kernel_rfl
      case hq0_36 => exact fun _ _ _ h => h
      case hy0_36 => (refine yieldsIf_load_mid ?_ 31 (.tmp 5) ?_ (w.heap.size + 3) 0 ?_ (lnC r) _ ?_ Tryz.underlying31 rfl (by kernel_rfl) <;> first | exact fun _ h => h.1 | rfl)
      try simp only [Act.put, List.setIfInBounds_toArray, List.set_cons_zero, List.set_cons_succ]
      refine wpAnyH_take (i := 1) (oi := ?oi1_37) (v := ?v1_37) ?hi1_37 (by kernel_rfl) ?hf1_37 (by kernel_rfl) ?hq1_37 ?hy1_37 hHeld ?rest1_37
      case hi1_37 => (simp only [List.getElem?_toArray, List.getElem?_cons_succ, List.getElem?_cons_zero]; try exact rfl)
      case hf1_37 => kernel_rfl
      case hq1_37 => exact fun _ _ _ h => h
      case hy1_37 => (refine Or.inl ⟨rfl, ?_⟩; intro w hSw; (try dsimp only at hSw); go_simp; try with_reducible rfl)
      try simp only [Act.put, List.setIfInBounds_toArray, List.set_cons_zero, List.set_cons_succ]
      refine wpAnyH_take (i := 2) (oi := ?oi2_38) (v := ?v2_38) ?hi2_38 (by kernel_rfl) ?hf2_38 (by kernel_rfl) ?hq2_38 ?hy2_38 hHeld ?rest2_38
      case hi2_38 => (simp only [List.getElem?_toArray, List.getElem?_cons_succ, List.getElem?_cons_zero]; try exact rfl)
      case hf2_38 => kernel_rfl
      case hq2_38 => exact fun _ _ _ h => h
      case hy2_38 => (refine Or.inl ⟨rfl, ?_⟩; intro w hSw; (try dsimp only at hSw); go_simp; try with_reducible rfl)
      try simp only [Act.put, List.setIfInBounds_toArray, List.set_cons_zero, List.set_cons_succ]
      refine wpAnyH_take (i := 3) (oi := ?oi3_39) (v := ?v3_39) ?hi3_39 (by kernel_rfl) ?hf3_39 (by kernel_rfl) ?hq3_39 ?hy3_39 hHeld ?rest3_39
      case hi3_39 => (simp only [List.getElem?_toArray, List.getElem?_cons_succ, List.getElem?_cons_zero]; try exact rfl)
      case hf3_39 => kernel_rfl
      case hq3_39 => exact fun _ _ _ h => h
      case hy3_39 => (refine Or.inl ⟨rfl, ?_⟩; intro w hSw; (try dsimp only at hSw); go_simp; try with_reducible rfl)
      try simp only [Act.put, List.setIfInBounds_toArray, List.set_cons_zero, List.set_cons_succ]
      refine wpAnyH_take (i := 4) (oi := ?oi4_40) (v := ?v4_40) ?hi4_40 (by kernel_rfl) ?hf4_40 (by kernel_rfl) ?hq4_40 ?hy4_40 hHeld ?rest4_40
      case hi4_40 => (simp only [List.getElem?_toArray, List.getElem?_cons_succ, List.getElem?_cons_zero]; try exact rfl)
      case hf4_40 => kernel_rfl
      case hq4_40 => exact fun _ _ _ h => h
      case hy4_40 => (refine Or.inl ⟨rfl, ?_⟩; intro w hSw; (try dsimp only at hSw); go_simp; try with_reducible rfl)
      try simp only [Act.put, List.setIfInBounds_toArray, List.set_cons_zero, List.set_cons_succ]
      refine wpAnyH_take (i := 5) (oi := ?oi5_41) (v := ?v5_41) ?hi5_41 (by kernel_rfl) ?hf5_41 (by kernel_rfl) ?hq5_41 ?hy5_41 hHeld ?rest5_41
      case hi5_41 => (simp only [List.getElem?_toArray, List.getElem?_cons_succ, List.getElem?_cons_zero]; try exact rfl)
      case hf5_41 => kernel_rfl
      case hq5_41 => exact fun _ _ _ h => h
      case hy5_41 => (refine Or.inl ⟨rfl, ?_⟩; intro w hSw; (try dsimp only at hSw); go_simp; try with_reducible rfl)
      try simp only [Act.put, List.setIfInBounds_toArray, List.set_cons_zero, List.set_cons_succ]
      refine wpAnyH_take (i := 6) (oi := ?oi6_42) (v := ?v6_42) ?hi6_42 (by kernel_rfl) ?hf6_42 (by kernel_rfl) ?hq6_42 ?hy6_42 hHeld ?rest6_42
      case hi6_42 => (simp only [List.getElem?_toArray, List.getElem?_cons_succ, List.getElem?_cons_zero]; try exact rfl)
      case hf6_42 => kernel_rfl
      case hq6_42 => exact fun _ _ _ h => h
      case hy6_42 => (refine Or.inl ⟨rfl, ?_⟩; intro w hSw; (try dsimp only at hSw); go_simp; try with_reducible rfl)
      try simp only [Act.put, List.setIfInBounds_toArray, List.set_cons_zero, List.set_cons_succ]
      refine wpAnyH_take (i := 7) (oi := ?oi7_43) (v := ?v7_43) ?hi7_43 (by kernel_rfl) ?hf7_43 (by kernel_rfl) ?hq7_43 ?hy7_43 hHeld ?rest7_43
      case hi7_43 => (simp only [List.getElem?_toArray, List.getElem?_cons_succ, List.getElem?_cons_zero]; try exact rfl)
      case hf7_43 => kernel_rfl
      case hq7_43 => exact fun _ _ _ h => h
      case hy7_43 => (refine Or.inl ⟨rfl, ?_⟩; intro w hSw; (try dsimp only at hSw); go_simp; try with_reducible rfl)
      try simp only [Act.put, List.setIfInBounds_toArray, List.set_cons_zero, List.set_cons_succ]
      refine wpAnyH_take (i := 8) (oi := ?oi8_44) (v := ?v8_44) ?hi8_44 (by kernel_rfl) ?hf8_44 (by kernel_rfl) ?hq8_44 ?hy8_44 hHeld ?rest8_44
      case hi8_44 => (simp only [List.getElem?_toArray, List.getElem?_cons_succ, List.getElem?_cons_zero]; try exact rfl)
      case hf8_44 => kernel_rfl
      case hq8_44 => exact fun _ _ _ h => h
      case hy8_44 => (refine Or.inl ⟨rfl, ?_⟩; intro w hSw; (try dsimp only at hSw); go_simp; try with_reducible rfl)
      try simp only [Act.put, List.setIfInBounds_toArray, List.set_cons_zero, List.set_cons_succ]
      refine wpAnyH_take (i := 9) (oi := ?oi9_45) (v := ?v9_45) ?hi9_45 (by kernel_rfl) ?hf9_45 (by kernel_rfl) ?hq9_45 ?hy9_45 hHeld ?rest9_45
      case hi9_45 => (simp only [List.getElem?_toArray, List.getElem?_cons_succ, List.getElem?_cons_zero]; try exact rfl)
      case hf9_45 => kernel_rfl
      case hq9_45 => exact fun _ _ _ h => h
      case hy9_45 => (refine Or.inl ⟨rfl, ?_⟩; intro w hSw; (try dsimp only at hSw); go_simp; try with_reducible rfl)
      try simp only [Act.put, List.setIfInBounds_toArray, List.set_cons_zero, List.set_cons_succ]
      refine wpAnyH_take (i := 10) (oi := ?oi10_46) (v := ?v10_46) ?hi10_46 (by kernel_rfl) ?hf10_46 (by kernel_rfl) ?hq10_46 ?hy10_46 hHeld ?rest10_46
      case hi10_46 => (simp only [List.getElem?_toArray, List.getElem?_cons_succ, List.getElem?_cons_zero]; try exact rfl)
      case hf10_46 => kernel_rfl
      case hq10_46 => exact fun _ _ _ h => h
      case hy10_46 => (refine Or.inl ⟨rfl, ?_⟩; intro w hSw; (try dsimp only at hSw); go_simp; try with_reducible rfl)
      try simp only [Act.put, List.setIfInBounds_toArray, List.set_cons_zero, List.set_cons_succ]
      refine wpAnyH_take (i := 11) (oi := ?oi11_47) (v := ?v11_47) ?hi11_47 (by kernel_rfl) ?hf11_47 (by kernel_rfl) ?hq11_47 ?hy11_47 hHeld ?rest11_47
      case hi11_47 => (simp only [List.getElem?_toArray, List.getElem?_cons_succ, List.getElem?_cons_zero]; try exact rfl)
      case hf11_47 => kernel_rfl
      case hq11_47 => exact fun _ _ _ h => h
      case hy11_47 => (refine Or.inl ⟨rfl, ?_⟩; intro w hSw; (try dsimp only at hSw); go_simp; try with_reducible rfl)
      try simp only [Act.put, List.setIfInBounds_toArray, List.set_cons_zero, List.set_cons_succ]
      refine wpAnyH_take (i := 12) (oi := ?oi12_48) (v := ?v12_48) ?hi12_48 (by kernel_rfl) ?hf12_48 (by kernel_rfl) ?hq12_48 ?hy12_48 hHeld ?rest12_48
      case hi12_48 => (simp only [List.getElem?_toArray, List.getElem?_cons_succ, List.getElem?_cons_zero]; try exact rfl)
      case hf12_48 => kernel_rfl
      case hq12_48 => exact fun _ _ _ h => h
      case hy12_48 => (refine Or.inl ⟨rfl, ?_⟩; intro w hSw; (try dsimp only at hSw); go_simp; try with_reducible rfl)
      try simp only [Act.put, List.setIfInBounds_toArray, List.set_cons_zero, List.set_cons_succ]
      refine wpAnyH_take (i := 13) (oi := ?oi13_49) (v := ?v13_49) ?hi13_49 (by kernel_rfl) ?hf13_49 (by kernel_rfl) ?hq13_49 ?hy13_49 hHeld ?rest13_49
      case hi13_49 => (simp only [List.getElem?_toArray, List.getElem?_cons_succ, List.getElem?_cons_zero]; try exact rfl)
      case hf13_49 => kernel_rfl
      case hq13_49 => exact fun _ _ _ h => h
      case hy13_49 => (refine Or.inl ⟨rfl, ?_⟩; intro w hSw; (try dsimp only at hSw); go_simp; try with_reducible rfl)
      try simp only [Act.put, List.setIfInBounds_toArray, List.set_cons_zero, List.set_cons_succ]
      refine wpAnyH_take (i := 14) (oi := ?oi14_50) (v := undef) ?hi14_50 (by kernel_rfl) ?hf14_50 (by kernel_rfl) ?hq14_50 ?hy14_50 hHeld ?rest14_50
      case hi14_50 => (simp only [List.getElem?_toArray, List.getElem?_cons_succ, List.getElem?_cons_zero]; try exact rfl)
      case hf14_50 => kernel_rfl
      case hq14_50 => exact fun _ _ _ h => h
      case hy14_50 => exact Or.inr ⟨rfl, rfl⟩
      try simp only [Act.put, List.setIfInBounds_toArray, List.set_cons_zero, List.set_cons_succ]
      refine wpAnyH_take (i := 15) (oi := ?oi15_51) (v := undef) ?hi15_51 (by kernel_rfl) ?hf15_51 (by kernel_rfl) ?hq15_51 ?hy15_51 hHeld ?rest15_51
      case hi15_51 => (simp only [List.getElem?_toArray, List.getElem?_cons_succ, List.getElem?_cons_zero]; try exact rfl)
      case hf15_51 => kernel_rfl
      case hq15_51 => exact fun _ _ _ h => h
      case hy15_51 => exact Or.inr ⟨rfl, rfl⟩
      try simp only [Act.put, List.setIfInBounds_toArray, List.set_cons_zero, List.set_cons_succ]
      refine wpAnyH_take (i := 16) (oi := ?oi16_52) (v := ?v16_52) ?hi16_52 (by kernel_rfl) ?hf16_52 (by kernel_rfl) ?hq16_52 ?hy16_52 hHeld ?rest16_52
      case hi16_52 => (simp only [List.getElem?_toArray, List.getElem?_cons_succ, List.getElem?_cons_zero]; try exact rfl)
      case hf16_52 => kernel_rfl
      case hq16_52 => exact fun _ _ _ h => h
      case hy16_52 => (refine Or.inl ⟨rfl, ?_⟩; intro w hSw; (try dsimp only at hSw); go_simp; try with_reducible rfl)
      try simp only [Act.put, List.setIfInBounds_toArray, List.set_cons_zero, List.set_cons_succ]
      refine wpAnyH_ready (rs := [17]) (by kernel_rfl) (by simp) ?_
      refine AllReadyH.cons (by simp only [List.getElem?_toArray, List.getElem?_cons_succ, List.getElem?_cons_zero]; try exact rfl) (fun K hK => ?_) AllReadyH.nil
      refine wp_store_row 31 (.tmp 2) (.tmp 60) rfl w.heap.size (lnC r).toArray (by rfl) (by rfl) 31 _ (show Wz.drew.heap[w.heap.size]? = some (.cells #[.int .i64 0, .int .i64 0, .int .i64 0, .int .i64 0, .int .i64 0, .int .i64 0, .int .i64 0, .int .i64 0, .int .i64 0, .int .i64 0, .int .i64 0, .int .i64 0, .int .i64 0, .int .i64 0, .slice none 0 0, .int .i64 0, .int .i64 0, .slice none 0 0, .int .i64 0, .slice none 0 0] 31 (0, 0)) from HRCz.out) (by kernel_rfl) (by rfl) (by simpa using lnC_one HINz.out.toIn) ?_
      refine hK.out _ _ ⟨range_row hHeld.1 (by simp), (cell_setRow_other _ _ _ _ (by simp)).trans hHeld.2.1, (cell_setRow_other _ _ _ _ (by simp)).trans hHeld.2.2⟩ (fun hHeld => ?_)
      clear hK K
      try simp only [Act.put]
      refine wpAnyH_take (i := 18) (oi := ?oi18_53) (v := ?v18_53) ?hi18_53 (by kernel_rfl) ?hf18_53 (by kernel_rfl) ?hq18_53 ?hy18_53 hHeld ?rest18_53
      case hi18_53 => (simp only [List.getElem?_toArray, List.getElem?_cons_succ, List.getElem?_cons_zero]; try exact rfl)
      case hf18_53 => kernel_rfl
      case hq18_53 => exact fun _ _ _ h => h
      case hy18_53 => (refine Or.inl ⟨rfl, ?_⟩; intro w hSw; (try dsimp only at hSw); go_simp; try with_reducible rfl)
      try simp only [Act.put, List.setIfInBounds_toArray, List.set_cons_zero, List.set_cons_succ]
      refine wpAnyH_done (by kernel_rfl) ?_ _
      go_wp2_with fail
      have hF := setRow_heap _ _ _ (lnC r).toArray _ _ (show Wz.drew.heap[w.heap.size]? = some (.cells #[.int .i64 0, .int .i64 0, .int .i64 0, .int .i64 0, .int .i64 0, .int .i64 0, .int .i64 0, .int .i64 0, .int .i64 0, .int .i64 0, .int .i64 0, .int .i64 0, .int .i64 0, .int .i64 0, .slice none 0 0, .int .i64 0, .int .i64 0, .slice none 0 0, .int .i64 0, .slice none 0 0] 31 (0, 0)) from HRCz.out)
      refine bodyPost_ret (v := .tuple #[.agg (lnC r).toArray, .bool false]) (results_cell_slot (p := 2) (q := 3) (by kernel_rfl) _ _ w.heap.size _ _ _ _ _ (by rfl) (by rfl) rfl hF Tryz.underlying31 (by kernel_rfl)) rfl ?_
      exact ⟨r, false, rfl, below_setRow (HRz.out.low.drew) (Nat.le_refl _) _, lnC_one HINz.out.toIn, fun h => absurd h (by decide), fun _ => HNR.out⟩
  | false =>
    obtain ⟨WA, wn, wc, d0, dn, d1, df, dz⟩ := HRz.out.cells
    have HRG := Lib.hid (range_of HLBz.out)
    have HD := Lib.hid (And.intro d0 d1)
    have HDN := Lib.hid dn
    clear dn
    have HNR := Lib.hid (read_no HLS.out (fun h => absurd h.1 (by decide)))
    refine wp_region_held_drew (S := fun w' => w'.rangeAt (w.heap.size + 3) 0 (lnC r) ∧ w'.cell? ⟨w.heap.size + 2, 0, none⟩ = some (.slice WA wn wc) ∧ w'.cell? ⟨w.heap.size + 2, 1, none⟩ = some (.bool false)) (by kernel_rfl) ?_ (fun hHeld => ?_)
    · exact ⟨HRG.out, HD.out⟩
    refine wpAnyH_take (i := 0) (oi := ?oi0_1) (v := ?v0_1) ?hi0_1 (by kernel_rfl) ?hf0_1 (by kernel_rfl) ?hq0_1 ?hy0_1 hHeld ?rest0_1
    case hi0_1 => (simp only [List.getElem?_toArray, List.getElem?_cons_zero]; try exact rfl)
    case hf0_1 => kernel_rfl
    case hq0_1 => exact fun _ _ _ h => h
    case hy0_1 => (refine yieldsIf_load_mid ?_ 31 (.tmp 5) ?_ (w.heap.size + 3) 0 ?_ (lnC r) _ ?_ Tryz.underlying31 rfl (by kernel_rfl) <;> first | exact fun _ h => h.1 | rfl)
    try simp only [Act.put, List.setIfInBounds_toArray, List.set_cons_zero, List.set_cons_succ]
    refine wpAnyH_take (i := 1) (oi := ?oi1_2) (v := ?v1_2) ?hi1_2 (by kernel_rfl) ?hf1_2 (by kernel_rfl) ?hq1_2 ?hy1_2 hHeld ?rest1_2
    case hi1_2 => (simp only [List.getElem?_toArray, List.getElem?_cons_succ, List.getElem?_cons_zero]; try exact rfl)
    case hf1_2 => kernel_rfl
    case hq1_2 => exact fun _ _ _ h => h
    case hy1_2 => (refine Or.inl ⟨rfl, ?_⟩; intro w hSw; (try dsimp only at hSw); go_simp; try with_reducible rfl)
    try simp only [Act.put, List.setIfInBounds_toArray, List.set_cons_zero, List.set_cons_succ]
    refine wpAnyH_take (i := 2) (oi := ?oi2_3) (v := ?v2_3) ?hi2_3 (by kernel_rfl) ?hf2_3 (by kernel_rfl) ?hq2_3 ?hy2_3 hHeld ?rest2_3
    case hi2_3 => (simp only [List.getElem?_toArray, List.getElem?_cons_succ, List.getElem?_cons_zero]; try exact rfl)
    case hf2_3 => kernel_rfl
    case hq2_3 => exact fun _ _ _ h => h
    case hy2_3 => (refine Or.inl ⟨rfl, ?_⟩; intro w hSw; (try dsimp only at hSw); go_simp; try with_reducible rfl)
    try simp only [Act.put, List.setIfInBounds_toArray, List.set_cons_zero, List.set_cons_succ]
    refine wpAnyH_take (i := 3) (oi := ?oi3_4) (v := ?v3_4) ?hi3_4 (by kernel_rfl) ?hf3_4 (by kernel_rfl) ?hq3_4 ?hy3_4 hHeld ?rest3_4
    case hi3_4 => (simp only [List.getElem?_toArray, List.getElem?_cons_succ, List.getElem?_cons_zero]; try exact rfl)
    case hf3_4 => kernel_rfl
    case hq3_4 => exact fun _ _ _ h => h
    case hy3_4 => (refine Or.inl ⟨rfl, ?_⟩; intro w hSw; (try dsimp only at hSw); go_simp; try with_reducible rfl)
    try simp only [Act.put, List.setIfInBounds_toArray, List.set_cons_zero, List.set_cons_succ]
    refine wpAnyH_take (i := 4) (oi := ?oi4_5) (v := ?v4_5) ?hi4_5 (by kernel_rfl) ?hf4_5 (by kernel_rfl) ?hq4_5 ?hy4_5 hHeld ?rest4_5
    case hi4_5 => (simp only [List.getElem?_toArray, List.getElem?_cons_succ, List.getElem?_cons_zero]; try exact rfl)
    case hf4_5 => kernel_rfl
    case hq4_5 => exact fun _ _ _ h => h
    case hy4_5 => (refine Or.inl ⟨rfl, ?_⟩; intro w hSw; (try dsimp only at hSw); go_simp; try with_reducible rfl)
    try simp only [Act.put, List.setIfInBounds_toArray, List.set_cons_zero, List.set_cons_succ]
    refine wpAnyH_take (i := 5) (oi := ?oi5_6) (v := ?v5_6) ?hi5_6 (by kernel_rfl) ?hf5_6 (by kernel_rfl) ?hq5_6 ?hy5_6 hHeld ?rest5_6
    case hi5_6 => (simp only [List.getElem?_toArray, List.getElem?_cons_succ, List.getElem?_cons_zero]; try exact rfl)
    case hf5_6 => kernel_rfl
    case hq5_6 => exact fun _ _ _ h => h
    case hy5_6 => (refine Or.inl ⟨rfl, ?_⟩; intro w hSw; (try dsimp only at hSw); go_simp; try with_reducible rfl)
    try simp only [Act.put, List.setIfInBounds_toArray, List.set_cons_zero, List.set_cons_succ]
    refine wpAnyH_take (i := 6) (oi := ?oi6_7) (v := undef) ?hi6_7 (by kernel_rfl) ?hf6_7 (by kernel_rfl) ?hq6_7 ?hy6_7 hHeld ?rest6_7
    case hi6_7 => (simp only [List.getElem?_toArray, List.getElem?_cons_succ, List.getElem?_cons_zero]; try exact rfl)
    case hf6_7 => kernel_rfl
    case hq6_7 => exact fun _ _ _ h => h
    case hy6_7 => exact Or.inr ⟨rfl, rfl⟩
    try simp only [Act.put, List.setIfInBounds_toArray, List.set_cons_zero, List.set_cons_succ]
    refine wpAnyH_take (i := 7) (oi := ?oi7_8) (v := undef) ?hi7_8 (by kernel_rfl) ?hf7_8 (by kernel_rfl) ?hq7_8 ?hy7_8 hHeld ?rest7_8
    case hi7_8 => (simp only [List.getElem?_toArray, List.getElem?_cons_succ, List.getElem?_cons_zero]; try exact rfl)
    case hf7_8 => kernel_rfl
    case hq7_8 => exact fun _ _ _ h => h
    case hy7_8 => exact Or.inr ⟨rfl, rfl⟩
    try simp only [Act.put, List.setIfInBounds_toArray, List.set_cons_zero, List.set_cons_succ]
    refine wpAnyH_take (i := 8) (oi := ?oi8_9) (v := undef) ?hi8_9 (by kernel_rfl) ?hf8_9 (by kernel_rfl) ?hq8_9 ?hy8_9 hHeld ?rest8_9
    case hi8_9 => (simp only [List.getElem?_toArray, List.getElem?_cons_succ, List.getElem?_cons_zero]; try exact rfl)
    case hf8_9 => kernel_rfl
    case hq8_9 => exact fun _ _ _ h => h
    case hy8_9 => exact Or.inr ⟨rfl, rfl⟩
    try simp only [Act.put, List.setIfInBounds_toArray, List.set_cons_zero, List.set_cons_succ]
    refine wpAnyH_take (i := 9) (oi := ?oi9_10) (v := undef) ?hi9_10 (by kernel_rfl) ?hf9_10 (by kernel_rfl) ?hq9_10 ?hy9_10 hHeld ?rest9_10
    case hi9_10 => (simp only [List.getElem?_toArray, List.getElem?_cons_succ, List.getElem?_cons_zero]; try exact rfl)
    case hf9_10 => kernel_rfl
    case hq9_10 => exact fun _ _ _ h => h
    case hy9_10 => exact Or.inr ⟨rfl, rfl⟩
    try simp only [Act.put, List.setIfInBounds_toArray, List.set_cons_zero, List.set_cons_succ]
    refine wpAnyH_take (i := 10) (oi := ?oi10_11) (v := undef) ?hi10_11 (by kernel_rfl) ?hf10_11 (by kernel_rfl) ?hq10_11 ?hy10_11 hHeld ?rest10_11
    case hi10_11 => (simp only [List.getElem?_toArray, List.getElem?_cons_succ, List.getElem?_cons_zero]; try exact rfl)
    case hf10_11 => kernel_rfl
    case hq10_11 => exact fun _ _ _ h => h
    case hy10_11 => exact Or.inr ⟨rfl, rfl⟩
    try simp only [Act.put, List.setIfInBounds_toArray, List.set_cons_zero, List.set_cons_succ]
    refine wpAnyH_take (i := 11) (oi := ?oi11_12) (v := undef) ?hi11_12 (by kernel_rfl) ?hf11_12 (by kernel_rfl) ?hq11_12 ?hy11_12 hHeld ?rest11_12
    case hi11_12 => (simp only [List.getElem?_toArray, List.getElem?_cons_succ, List.getElem?_cons_zero]; try exact rfl)
    case hf11_12 => kernel_rfl
    case hq11_12 => exact fun _ _ _ h => h
    case hy11_12 => exact Or.inr ⟨rfl, rfl⟩
    try simp only [Act.put, List.setIfInBounds_toArray, List.set_cons_zero, List.set_cons_succ]
    refine wpAnyH_take (i := 12) (oi := ?oi12_13) (v := ?v12_13) ?hi12_13 (by kernel_rfl) ?hf12_13 (by kernel_rfl) ?hq12_13 ?hy12_13 hHeld ?rest12_13
    case hi12_13 => (simp only [List.getElem?_toArray, List.getElem?_cons_succ, List.getElem?_cons_zero]; try exact rfl)
    case hf12_13 => kernel_rfl
    case hq12_13 => exact fun _ _ _ h => h
    case hy12_13 => (refine Or.inl ⟨rfl, ?_⟩; intro w hSw; (try dsimp only at hSw); go_simp; try with_reducible rfl)
    try simp only [Act.put, List.setIfInBounds_toArray, List.set_cons_zero, List.set_cons_succ]
    refine wpAnyH_take (i := 13) (oi := ?oi13_14) (v := ?v13_14) ?hi13_14 (by kernel_rfl) ?hf13_14 (by kernel_rfl) ?hq13_14 ?hy13_14 hHeld ?rest13_14
    case hi13_14 => (simp only [List.getElem?_toArray, List.getElem?_cons_succ, List.getElem?_cons_zero]; try exact rfl)
    case hf13_14 => kernel_rfl
    case hq13_14 => exact fun _ _ _ h => h
    case hy13_14 => (refine Or.inl ⟨rfl, ?_⟩; intro w hSw; (try dsimp only at hSw); go_simp; try with_reducible rfl)
    try simp only [Act.put, List.setIfInBounds_toArray, List.set_cons_zero, List.set_cons_succ]
    refine wpAnyH_take (i := 14) (oi := ?oi14_15) (v := undef) ?hi14_15 (by kernel_rfl) ?hf14_15 (by kernel_rfl) ?hq14_15 ?hy14_15 hHeld ?rest14_15
    case hi14_15 => (simp only [List.getElem?_toArray, List.getElem?_cons_succ, List.getElem?_cons_zero]; try exact rfl)
    case hf14_15 => kernel_rfl
    case hq14_15 => exact fun _ _ _ h => h
    case hy14_15 => exact Or.inr ⟨rfl, rfl⟩
    try simp only [Act.put, List.setIfInBounds_toArray, List.set_cons_zero, List.set_cons_succ]
    refine wpAnyH_take (i := 15) (oi := ?oi15_16) (v := undef) ?hi15_16 (by kernel_rfl) ?hf15_16 (by kernel_rfl) ?hq15_16 ?hy15_16 hHeld ?rest15_16
    case hi15_16 => (simp only [List.getElem?_toArray, List.getElem?_cons_succ, List.getElem?_cons_zero]; try exact rfl)
    case hf15_16 => kernel_rfl
    case hq15_16 => exact fun _ _ _ h => h
    case hy15_16 => exact Or.inr ⟨rfl, rfl⟩
    try simp only [Act.put, List.setIfInBounds_toArray, List.set_cons_zero, List.set_cons_succ]
    refine wpAnyH_take (i := 16) (oi := ?oi16_17) (v := ?v16_17) ?hi16_17 (by kernel_rfl) ?hf16_17 (by kernel_rfl) ?hq16_17 ?hy16_17 hHeld ?rest16_17
    case hi16_17 => (simp only [List.getElem?_toArray, List.getElem?_cons_succ, List.getElem?_cons_zero]; try exact rfl)
    case hf16_17 => kernel_rfl
    case hq16_17 => exact fun _ _ _ h => h
    case hy16_17 => (refine Or.inl ⟨rfl, ?_⟩; intro w hSw; (try dsimp only at hSw); go_simp; try with_reducible rfl)
    try simp only [Act.put, List.setIfInBounds_toArray, List.set_cons_zero, List.set_cons_succ]
    refine wpAnyH_ready (rs := [17]) (by kernel_rfl) (by simp) ?_
    refine AllReadyH.cons (by simp only [List.getElem?_toArray, List.getElem?_cons_succ, List.getElem?_cons_zero]; try exact rfl) (fun K hK => ?_) AllReadyH.nil
    refine wp_store_row 31 (.tmp 2) (.tmp 60) rfl w.heap.size (lnC r).toArray (by rfl) (by rfl) 31 _ (show Wz.drew.heap[w.heap.size]? = some (.cells #[.int .i64 0, .int .i64 0, .int .i64 0, .int .i64 0, .int .i64 0, .int .i64 0, .int .i64 0, .int .i64 0, .int .i64 0, .int .i64 0, .int .i64 0, .int .i64 0, .int .i64 0, .int .i64 0, .slice none 0 0, .int .i64 0, .int .i64 0, .slice none 0 0, .int .i64 0, .slice none 0 0] 31 (0, 0)) from HRCz.out) (by kernel_rfl) (by rfl) (by simpa using lnC_one HINz.out.toIn) ?_
    refine hK.out _ _ ⟨range_row hHeld.1 (by simp), (cell_setRow_other _ _ _ _ (by simp)).trans hHeld.2.1, (cell_setRow_other _ _ _ _ (by simp)).trans hHeld.2.2⟩ (fun hHeld => ?_)
    clear hK K
    try simp only [Act.put]
    refine wpAnyH_take (i := 18) (oi := ?oi18_18) (v := ?v18_18) ?hi18_18 (by kernel_rfl) ?hf18_18 (by kernel_rfl) ?hq18_18 ?hy18_18 hHeld ?rest18_18
    case hi18_18 => (simp only [List.getElem?_toArray, List.getElem?_cons_succ, List.getElem?_cons_zero]; try exact rfl)
    case hf18_18 => kernel_rfl
    case hq18_18 => exact fun _ _ _ h => h
    case hy18_18 => (refine Or.inl ⟨rfl, ?_⟩; intro w hSw; (try dsimp only at hSw); go_simp; try with_reducible rfl)
    try simp only [Act.put, List.setIfInBounds_toArray, List.set_cons_zero, List.set_cons_succ]
    refine wpAnyH_done (by kernel_rfl) ?_ _
    go_wp2_with fail
    have hF := setRow_heap _ _ _ (lnC r).toArray _ _ (show Wz.drew.heap[w.heap.size]? = some (.cells #[.int .i64 0, .int .i64 0, .int .i64 0, .int .i64 0, .int .i64 0, .int .i64 0, .int .i64 0, .int .i64 0, .int .i64 0, .int .i64 0, .int .i64 0, .int .i64 0, .int .i64 0, .int .i64 0, .slice none 0 0, .int .i64 0, .int .i64 0, .slice none 0 0, .int .i64 0, .slice none 0 0] 31 (0, 0)) from HRCz.out)
    refine bodyPost_ret (v := .tuple #[.agg (lnC r).toArray, .bool false]) (results_cell_slot (p := 2) (q := 3) (by kernel_rfl) _ _ w.heap.size _ _ _ _ _ (by rfl) (by rfl) rfl hF Tryz.underlying31 (by kernel_rfl)) rfl ?_
    exact ⟨r, false, rfl, below_setRow (HRz.out.low.drew) (Nat.le_refl _) _, lnC_one HINz.out.toIn, fun h => absurd h (by decide), fun _ => HNR.out⟩
set_option maxHeartbeats 8000000 in
set_option maxRecDepth 100000 in
theorem read_wStop (text : List UInt8) (htl : text.length ≤ 900000) (w : World) (hG : G w) (hw : nextW (splitC 32 text) = wStop) :
    Calls Tryz.prog 33 #[.string ⟨text.toArray⟩] w (ReadPost w (splitC 32 text)) := by
  obtain ⟨m, hm⟩ := hG.mx
  have HM := Lib.hid (fun (o : Obj) => keepA (below_a1 w o) hm)
  have HG := Lib.hid hG
  obtain ⟨sl1, sl2⟩ := split_lens 32 text
  have HL0 := Lib.hid (show ∀ x ∈ splitC 32 text, x.length ≤ 1000000 from fun x hx => by have := sl1 x hx; omega)
  have HSC := Lib.hid (split_count text)
  have HSS := Lib.hid (split_strings text)
  obtain ⟨n, hn⟩ : ∃ n, (splitC 32 text).length = n := ⟨_, rfl⟩
  have hn1 : n ≤ 1000000 := by omega
  have HN := Lib.hid hn
  rw [hn] at HSC
  clear hG hm sl1 sl2 hn
  go_enter Tryz.func33, Tryz.ntmps33
  go_wp2_with fail
  refine (Tryz.strings_Split ⟨text.toArray⟩ ⟨#[32]⟩ m _ (by show text.toArray.size < _; simp; omega) (HM.out _) (Nat.le_refl 1)).mono ?_
  rintro e W0 ⟨rfl, rfl⟩
  rw [HSC.out, HSS.out]
  have HA4 := Lib.hid (fun (S : Array Value) (v : Value) => alloc4 w (.cells #[.int .i64 0, .int .i64 0, .int .i64 0, .int .i64 0, .int .i64 0, .int .i64 0, .int .i64 0, .int .i64 0, .int .i64 0, .int .i64 0, .int .i64 0, .int .i64 0, .int .i64 0, .int .i64 0, .slice none 0 0, .int .i64 0, .int .i64 0, .slice none 0 0, .int .i64 0, .slice none 0 0] 31) (.cells S 9) (.cells #[v, .bool true] 92) (.cells #[.int .i64 0, .int .i64 0, .int .i64 0, .int .i64 0, .int .i64 0, .int .i64 0, .int .i64 0, .int .i64 0, .int .i64 0, .int .i64 0, .int .i64 0, .int .i64 0, .int .i64 0, .int .i64 0, .slice none 0 0, .int .i64 0, .int .i64 0, .slice none 0 0, .int .i64 0, .slice none 0 0] 31))
  go_wp2_with fail
  obtain ⟨Wa, hWa⟩ : ∃ Wa, (((w.alloc (.cells #[.int .i64 0, .int .i64 0, .int .i64 0, .int .i64 0, .int .i64 0, .int .i64 0, .int .i64 0, .int .i64 0, .int .i64 0, .int .i64 0, .int .i64 0, .int .i64 0, .int .i64 0, .int .i64 0, .slice none 0 0, .int .i64 0, .int .i64 0, .slice none 0 0, .int .i64 0, .slice none 0 0] 31)).alloc (.cells ((splitC 32 text).map fun x => Value.string ⟨x.toArray⟩).toArray 9)).alloc (.cells #[.slice (some ⟨w.heap.size + 1, 0, none⟩) n n, .bool true] 92)).alloc (.cells #[.int .i64 0, .int .i64 0, .int .i64 0, .int .i64 0, .int .i64 0, .int .i64 0, .int .i64 0, .int .i64 0, .int .i64 0, .int .i64 0, .int .i64 0, .int .i64 0, .int .i64 0, .int .i64 0, .slice none 0 0, .int .i64 0, .int .i64 0, .slice none 0 0, .int .i64 0, .slice none 0 0] 31) = Wa := ⟨_, rfl⟩
  obtain ⟨hrc, hsb, hrb, hlb, hbl⟩ := HA4.out ((splitC 32 text).map fun x => Value.string ⟨x.toArray⟩).toArray (.slice (some ⟨w.heap.size + 1, 0, none⟩) n n)
  rw [hWa] at hrc hsb hrb hlb hbl ⊢
  have H0 := Lib.hid (made (splitC 32 text) HN.out hn1 hsb hrb hbl)
  have HRC := Lib.hid hrc
  have HLB := Lib.hid hlb
  clear HA4 hWa hrc hsb hrb hlb hbl HM
  refine (next_any H0.out).mono ?_
  rintro e W1 ⟨rfl, h1, hk1⟩
  have H1 := Lib.hid h1
  have HRC1 := Lib.hid (hk1.cells (by omega) HRC.out)
  have HLB1 := Lib.hid (hk1.cells (by omega) HLB.out)
  clear HRC HLB h1 hk1 H0
  have hok : nextOk (splitC 32 text) true = true := by rw [split_first]; rfl
  rw [hok] at H1
  rw [hw, show (⟨List.toArray wStop⟩ : ByteArray) = ⟨#[115, 116, 111, 112]⟩ from rfl]
  have HW := Lib.hid hw
  have HL1 := Lib.hid (tail_len HL0.out)
  have hwl : (splitC 32 text).tail.length ≤ 1000000 := tail_le (by rw [HN.out]; exact hn1)
  have hz1 := H1.out.low.size
  have HLBS := Lib.hid (show w.heap.size + 3 < W1.heap.size from (Array.getElem?_eq_some_iff.1 HLB1.out).1)
  clear hw hok
  go_wp2_with fail
  refine (int_any HG.out HL1.out H1.out).mono ?_
  rintro e W2 ⟨n2, ok2, rfl, h2, hk2, hr2⟩
  have H2 := Lib.hid h2
  have HRC2 := Lib.hid (hk2.cells (by omega) HRC1.out)
  have HLB2 := Lib.hid (hk2.cells (by omega) HLB1.out)
  have hz2 : W1.heap.size ≤ W2.heap.size := hk2.size
  clear h2 hk2 HRC1 HLB1
  have HR2 := Lib.hid hr2
  clear hr2
  go_wp2_with (first
    | (refine (id ?_ : wpList _ _ _ (⟨none, .store _ (.tmp 5) _, _, _, _, _⟩ :: _) _ _)
       refine wpList_store_row rfl 31 (.tmp 5) (.tmp 49) rfl (w.heap.size + 3) _ (by rfl) (by rfl) 31 _ HLB2.out (by kernel_rfl) (by rfl) (all_one _ (by rfl)) ?_))
  obtain ⟨r, hr⟩ : ∃ r : LnR, r = ⟨.slice none 0 0, .slice none 0 0, .slice none 0 0, onlyN n2⟩ := ⟨_, rfl⟩
  rw [show #[.int .i64 3, .int .i64 0, .int .i64 0, .int .i64 0, .int .i64 0, .int .i64 0, .int .i64 0, .int .i64 0, .int .i64 0, .int .i64 0, .int .i64 0, .int .i64 0, .int .i64 0, .int .i64 0, .slice none 0 0, .int .i64 0, .int .i64 0, .slice none 0 0, .int .i64 n2, .slice none 0 0] = (lnC r).toArray by rw [hr]; rfl]
  obtain ⟨Wz, hWz⟩ : ∃ Wz, W2.setRow (w.heap.size + 3) (lnC r).toArray = Wz := ⟨_, rfl⟩
  rw [hWz]
  have HLBz := Lib.hid (show Wz.heap[w.heap.size + 3]? = some (.cells (lnC r).toArray 31 (0, 0)) by rw [← hWz]; exact setRow_heap _ _ _ _ _ _ HLB2.out)
  have HRCz := Lib.hid (show Wz.heap[w.heap.size]? = some (.cells #[.int .i64 0, .int .i64 0, .int .i64 0, .int .i64 0, .int .i64 0, .int .i64 0, .int .i64 0, .int .i64 0, .int .i64 0, .int .i64 0, .int .i64 0, .int .i64 0, .int .i64 0, .int .i64 0, .slice none 0 0, .int .i64 0, .int .i64 0, .slice none 0 0, .int .i64 0, .slice none 0 0] 31 (0, 0)) by rw [← hWz]; exact (setRow_other _ _ _ _ (by simp)).trans HRC2.out)
  have HRz := Lib.hid (show RSt w (w.heap.size + 2) (splitC 32 text).tail.tail ok2 Wz by rw [← hWz]; exact RdsRSt_row H2.out (by omega) _)
  have hlb1 : w.heap.size + 3 < W1.heap.size := HLBS.out
  have HINz := Lib.hid (show LnOw Wz W1.heap.size r by rw [← hWz]; exact LnOw.row (show LnOw W2 W1.heap.size r by rw [hr]; exact LnOw.nil_ ⟨rfl, rfl, rfl⟩) HLB2.out)
  have HLN := Lib.hid (fun W (hb : Below Wz.heap.size Wz W) => show LnOw (W.setRow w.heap.size (lnC r).toArray) w.heap.size r from ((HINz.out.below hb).row ((hb.block _ (Array.getElem?_eq_some_iff.1 HRCz.out).1).trans HRCz.out)).more (by omega))
  have HLS := Lib.hid (show LineS (splitC 32 text) true r.ln (splitC 32 text).tail.tail ok2 from by rw [hr]; exact line_at HW.out (lineS_stop HR2.out))
  clear hr hWz HRC2 HLB2 H2
  cases ok2 with
  | true =>
    obtain ⟨WA, wn, wc, d0, dn, d1, df, dz⟩ := HRz.out.cells
    have HRG := Lib.hid (range_of HLBz.out)
    have HD := Lib.hid (And.intro d0 d1)
    have HDN := Lib.hid dn
    clear dn
    by_cases hws : (splitC 32 text).tail.tail = []
    · have HWS := Lib.hid hws
      have hwn : wn = 0 := by rw [HDN.out, hws]; rfl
      subst hwn
      have HL7 := Lib.hid (HLS.out.1 rfl hws).2.2
      clear hws
      refine wp_region_held_drew (S := fun w' => w'.rangeAt (w.heap.size + 3) 0 (lnC r) ∧ w'.cell? ⟨w.heap.size + 2, 0, none⟩ = some (.slice WA 0 wc) ∧ w'.cell? ⟨w.heap.size + 2, 1, none⟩ = some (.bool true)) (by kernel_rfl) ?_ (fun hHeld => ?_)
      · exact ⟨HRG.out, HD.out⟩
      refine wpAnyH_take (i := 0) (oi := ?oi0_72) (v := ?v0_72) ?hi0_72 (by kernel_rfl) ?hf0_72 (by kernel_rfl) ?hq0_72 ?hy0_72 hHeld ?rest0_72
      case hi0_72 => (simp only [List.getElem?_toArray, List.getElem?_cons_zero]; try exact rfl)
      case hf0_72 => kernel_rfl
      case hq0_72 => exact fun _ _ _ h => h
      case hy0_72 => (refine yieldsIf_load_mid ?_ 31 (.tmp 5) ?_ (w.heap.size + 3) 0 ?_ (lnC r) _ ?_ Tryz.underlying31 rfl (by kernel_rfl) <;> first | exact fun _ h => h.1 | rfl)
      try simp only [Act.put, List.setIfInBounds_toArray, List.set_cons_zero, List.set_cons_succ]
      refine wpAnyH_take (i := 1) (oi := ?oi1_73) (v := ?v1_73) ?hi1_73 (by kernel_rfl) ?hf1_73 (by kernel_rfl) ?hq1_73 ?hy1_73 hHeld ?rest1_73
      case hi1_73 => (simp only [List.getElem?_toArray, List.getElem?_cons_succ, List.getElem?_cons_zero]; try exact rfl)
      case hf1_73 => kernel_rfl
      case hq1_73 => exact fun _ _ _ h => h
      case hy1_73 => (refine Or.inl ⟨rfl, ?_⟩; intro w hSw; (try dsimp only at hSw); go_simp; try with_reducible rfl)
      try simp only [Act.put, List.setIfInBounds_toArray, List.set_cons_zero, List.set_cons_succ]
      refine wpAnyH_take (i := 2) (oi := ?oi2_74) (v := ?v2_74) ?hi2_74 (by kernel_rfl) ?hf2_74 (by kernel_rfl) ?hq2_74 ?hy2_74 hHeld ?rest2_74
      case hi2_74 => (simp only [List.getElem?_toArray, List.getElem?_cons_succ, List.getElem?_cons_zero]; try exact rfl)
      case hf2_74 => kernel_rfl
      case hq2_74 => exact fun _ _ _ h => h
      case hy2_74 => (refine Or.inl ⟨rfl, ?_⟩; intro w hSw; (try dsimp only at hSw); go_simp; try with_reducible rfl)
      try simp only [Act.put, List.setIfInBounds_toArray, List.set_cons_zero, List.set_cons_succ]
      refine wpAnyH_take (i := 3) (oi := ?oi3_75) (v := ?v3_75) ?hi3_75 (by kernel_rfl) ?hf3_75 (by kernel_rfl) ?hq3_75 ?hy3_75 hHeld ?rest3_75
      case hi3_75 => (simp only [List.getElem?_toArray, List.getElem?_cons_succ, List.getElem?_cons_zero]; try exact rfl)
      case hf3_75 => kernel_rfl
      case hq3_75 => exact fun _ _ _ h => h
      case hy3_75 => (refine Or.inl ⟨rfl, ?_⟩; intro w hSw; (try dsimp only at hSw); go_simp; try with_reducible rfl)
      try simp only [Act.put, List.setIfInBounds_toArray, List.set_cons_zero, List.set_cons_succ]
      refine wpAnyH_take (i := 4) (oi := ?oi4_76) (v := ?v4_76) ?hi4_76 (by kernel_rfl) ?hf4_76 (by kernel_rfl) ?hq4_76 ?hy4_76 hHeld ?rest4_76
      case hi4_76 => (simp only [List.getElem?_toArray, List.getElem?_cons_succ, List.getElem?_cons_zero]; try exact rfl)
      case hf4_76 => kernel_rfl
      case hq4_76 => exact fun _ _ _ h => h
      case hy4_76 => (refine Or.inl ⟨rfl, ?_⟩; intro w hSw; (try dsimp only at hSw); go_simp; try with_reducible rfl)
      try simp only [Act.put, List.setIfInBounds_toArray, List.set_cons_zero, List.set_cons_succ]
      refine wpAnyH_take (i := 5) (oi := ?oi5_77) (v := ?v5_77) ?hi5_77 (by kernel_rfl) ?hf5_77 (by kernel_rfl) ?hq5_77 ?hy5_77 hHeld ?rest5_77
      case hi5_77 => (simp only [List.getElem?_toArray, List.getElem?_cons_succ, List.getElem?_cons_zero]; try exact rfl)
      case hf5_77 => kernel_rfl
      case hq5_77 => exact fun _ _ _ h => h
      case hy5_77 => (refine Or.inl ⟨rfl, ?_⟩; intro w hSw; (try dsimp only at hSw); go_simp; try with_reducible rfl)
      try simp only [Act.put, List.setIfInBounds_toArray, List.set_cons_zero, List.set_cons_succ]
      refine wpAnyH_take (i := 6) (oi := ?oi6_78) (v := ?v6_78) ?hi6_78 (by kernel_rfl) ?hf6_78 (by kernel_rfl) ?hq6_78 ?hy6_78 hHeld ?rest6_78
      case hi6_78 => (simp only [List.getElem?_toArray, List.getElem?_cons_succ, List.getElem?_cons_zero]; try exact rfl)
      case hf6_78 => kernel_rfl
      case hq6_78 => exact fun _ _ _ h => h
      case hy6_78 => (refine Or.inl ⟨rfl, ?_⟩; intro w hSw; (try dsimp only at hSw); go_simp; try with_reducible rfl)
      try simp only [Act.put, List.setIfInBounds_toArray, List.set_cons_zero, List.set_cons_succ]
      refine wpAnyH_take (i := 7) (oi := ?oi7_79) (v := ?v7_79) ?hi7_79 (by kernel_rfl) ?hf7_79 (by kernel_rfl) ?hq7_79 ?hy7_79 hHeld ?rest7_79
      case hi7_79 => (simp only [List.getElem?_toArray, List.getElem?_cons_succ, List.getElem?_cons_zero]; try exact rfl)
      case hf7_79 => kernel_rfl
      case hq7_79 => exact fun _ _ _ h => h
      case hy7_79 => (refine Or.inl ⟨rfl, ?_⟩; intro w hSw; (try dsimp only at hSw); go_simp; try with_reducible rfl)
      try simp only [Act.put, List.setIfInBounds_toArray, List.set_cons_zero, List.set_cons_succ]
      refine wpAnyH_take (i := 8) (oi := ?oi8_80) (v := ?v8_80) ?hi8_80 (by kernel_rfl) ?hf8_80 (by kernel_rfl) ?hq8_80 ?hy8_80 hHeld ?rest8_80
      case hi8_80 => (simp only [List.getElem?_toArray, List.getElem?_cons_succ, List.getElem?_cons_zero]; try exact rfl)
      case hf8_80 => kernel_rfl
      case hq8_80 => exact fun _ _ _ h => h
      case hy8_80 => (refine Or.inl ⟨rfl, ?_⟩; intro w hSw; (try dsimp only at hSw); go_simp; try with_reducible rfl)
      try simp only [Act.put, List.setIfInBounds_toArray, List.set_cons_zero, List.set_cons_succ]
      refine wpAnyH_take (i := 9) (oi := ?oi9_81) (v := ?v9_81) ?hi9_81 (by kernel_rfl) ?hf9_81 (by kernel_rfl) ?hq9_81 ?hy9_81 hHeld ?rest9_81
      case hi9_81 => (simp only [List.getElem?_toArray, List.getElem?_cons_succ, List.getElem?_cons_zero]; try exact rfl)
      case hf9_81 => kernel_rfl
      case hq9_81 => exact fun _ _ _ h => h
      case hy9_81 => (refine Or.inl ⟨rfl, ?_⟩; intro w hSw; (try dsimp only at hSw); go_simp; try with_reducible rfl)
      try simp only [Act.put, List.setIfInBounds_toArray, List.set_cons_zero, List.set_cons_succ]
      refine wpAnyH_take (i := 10) (oi := ?oi10_82) (v := ?v10_82) ?hi10_82 (by kernel_rfl) ?hf10_82 (by kernel_rfl) ?hq10_82 ?hy10_82 hHeld ?rest10_82
      case hi10_82 => (simp only [List.getElem?_toArray, List.getElem?_cons_succ, List.getElem?_cons_zero]; try exact rfl)
      case hf10_82 => kernel_rfl
      case hq10_82 => exact fun _ _ _ h => h
      case hy10_82 => (refine Or.inl ⟨rfl, ?_⟩; intro w hSw; (try dsimp only at hSw); go_simp; try with_reducible rfl)
      try simp only [Act.put, List.setIfInBounds_toArray, List.set_cons_zero, List.set_cons_succ]
      refine wpAnyH_take (i := 11) (oi := ?oi11_83) (v := ?v11_83) ?hi11_83 (by kernel_rfl) ?hf11_83 (by kernel_rfl) ?hq11_83 ?hy11_83 hHeld ?rest11_83
      case hi11_83 => (simp only [List.getElem?_toArray, List.getElem?_cons_succ, List.getElem?_cons_zero]; try exact rfl)
      case hf11_83 => kernel_rfl
      case hq11_83 => exact fun _ _ _ h => h
      case hy11_83 => (refine Or.inl ⟨rfl, ?_⟩; intro w hSw; (try dsimp only at hSw); go_simp; try with_reducible rfl)
      try simp only [Act.put, List.setIfInBounds_toArray, List.set_cons_zero, List.set_cons_succ]
      refine wpAnyH_take (i := 12) (oi := ?oi12_84) (v := ?v12_84) ?hi12_84 (by kernel_rfl) ?hf12_84 (by kernel_rfl) ?hq12_84 ?hy12_84 hHeld ?rest12_84
      case hi12_84 => (simp only [List.getElem?_toArray, List.getElem?_cons_succ, List.getElem?_cons_zero]; try exact rfl)
      case hf12_84 => kernel_rfl
      case hq12_84 => exact fun _ _ _ h => h
      case hy12_84 => (refine Or.inl ⟨rfl, ?_⟩; intro w hSw; (try dsimp only at hSw); go_simp; try with_reducible rfl)
      try simp only [Act.put, List.setIfInBounds_toArray, List.set_cons_zero, List.set_cons_succ]
      refine wpAnyH_take (i := 13) (oi := ?oi13_85) (v := ?v13_85) ?hi13_85 (by kernel_rfl) ?hf13_85 (by kernel_rfl) ?hq13_85 ?hy13_85 hHeld ?rest13_85
      case hi13_85 => (simp only [List.getElem?_toArray, List.getElem?_cons_succ, List.getElem?_cons_zero]; try exact rfl)
      case hf13_85 => kernel_rfl
      case hq13_85 => exact fun _ _ _ h => h
      case hy13_85 => (refine Or.inl ⟨rfl, ?_⟩; intro w hSw; (try dsimp only at hSw); go_simp; try with_reducible rfl)
      try simp only [Act.put, List.setIfInBounds_toArray, List.set_cons_zero, List.set_cons_succ]
      refine wpAnyH_take (i := 14) (oi := ?oi14_86) (v := ?v14_86) ?hi14_86 (by kernel_rfl) ?hf14_86 (by kernel_rfl) ?hq14_86 ?hy14_86 hHeld ?rest14_86
      case hi14_86 => (simp only [List.getElem?_toArray, List.getElem?_cons_succ, List.getElem?_cons_zero]; try exact rfl)
      case hf14_86 => kernel_rfl
      case hq14_86 => exact fun _ _ _ h => h
      case hy14_86 => (refine yieldsIf_load_mid ?_ 31 (.tmp 5) ?_ (w.heap.size + 3) 0 ?_ (lnC r) _ ?_ Tryz.underlying31 rfl (by kernel_rfl) <;> first | exact fun _ h => h.1 | rfl)
      try simp only [Act.put, List.setIfInBounds_toArray, List.set_cons_zero, List.set_cons_succ]
      refine wpAnyH_ready (rs := [15]) (by kernel_rfl) (by simp) ?_
      refine AllReadyH.cons (by simp only [List.getElem?_toArray, List.getElem?_cons_succ, List.getElem?_cons_zero]; try exact rfl) (fun K hK => ?_) AllReadyH.nil
      go_simp
      refine (Right_any r W1.heap.size Wz.drew (HINz.out.below (Below.refl _ _).drew).toIn HL7.out.2 HL7.out.1).mono ?_
      rintro e W5 ⟨rfl, hb5⟩
      have HB5 := Lib.hid (show Below Wz.heap.size Wz W5 from (Below.refl _ _).drew.trans hb5)
      clear hb5
      refine hK.out _ _ ⟨fun j v hj => keepA HB5.out (HRG.out j v hj), keepA HB5.out HD.out.1, keepA HB5.out HD.out.2⟩ (fun hHeld => ?_)
      clear hK K
      try simp only [Act.put, List.setIfInBounds_toArray, List.set_cons_zero, List.set_cons_succ]
      refine wpAnyH_take (i := 16) (oi := ?oi16_87) (v := ?v16_87) ?hi16_87 (by kernel_rfl) ?hf16_87 (by kernel_rfl) ?hq16_87 ?hy16_87 hHeld ?rest16_87
      case hi16_87 => (simp only [List.getElem?_toArray, List.getElem?_cons_succ, List.getElem?_cons_zero]; try exact rfl)
      case hf16_87 => kernel_rfl
      case hq16_87 => exact fun _ _ _ h => h
      case hy16_87 => (refine Or.inl ⟨rfl, ?_⟩; intro w hSw; (try dsimp only at hSw); go_simp; try with_reducible rfl)
      try simp only [Act.put, List.setIfInBounds_toArray, List.set_cons_zero, List.set_cons_succ]
      have HRC5 := Lib.hid ((HB5.out.block _ (Array.getElem?_eq_some_iff.1 HRCz.out).1).trans HRCz.out)
      refine wpAnyH_ready (rs := [17]) (by kernel_rfl) (by simp) ?_
      refine AllReadyH.cons (by simp only [List.getElem?_toArray, List.getElem?_cons_succ, List.getElem?_cons_zero]; try exact rfl) (fun K hK => ?_) AllReadyH.nil
      refine wp_store_row 31 (.tmp 2) (.tmp 60) rfl w.heap.size (lnC r).toArray (by rfl) (by rfl) 31 _ HRC5.out (by kernel_rfl) (by rfl) (by simpa using lnC_one HINz.out.toIn) ?_
      refine hK.out _ _ ⟨range_row hHeld.1 (by simp), (cell_setRow_other _ _ _ _ (by simp)).trans hHeld.2.1, (cell_setRow_other _ _ _ _ (by simp)).trans hHeld.2.2⟩ (fun hHeld => ?_)
      clear hK K
      try simp only [Act.put]
      refine wpAnyH_take (i := 18) (oi := ?oi18_88) (v := ?v18_88) ?hi18_88 (by kernel_rfl) ?hf18_88 (by kernel_rfl) ?hq18_88 ?hy18_88 hHeld ?rest18_88
      case hi18_88 => (simp only [List.getElem?_toArray, List.getElem?_cons_succ, List.getElem?_cons_zero]; try exact rfl)
      case hf18_88 => kernel_rfl
      case hq18_88 => exact fun _ _ _ h => h
      case hy18_88 => (refine Or.inl ⟨rfl, ?_⟩; intro w hSw; (try dsimp only at hSw); go_simp; try with_reducible rfl)
      try simp only [Act.put, List.setIfInBounds_toArray, List.set_cons_zero, List.set_cons_succ]
      refine wpAnyH_done (by kernel_rfl) ?_ _
      go_wp2_with fail
      have hF := setRow_heap _ _ _ (lnC r).toArray _ _ HRC5.out
      refine bodyPost_ret (v := .tuple #[.agg (lnC r).toArray, .bool (rightB r.ln)]) (results_cell_slot (p := 2) (q := 3) (by kernel_rfl) _ _ w.heap.size _ _ _ _ _ (by rfl) (by rfl) rfl hF Tryz.underlying31 (by kernel_rfl)) rfl ?_
      exact ⟨r, (rightB r.ln), rfl, below_setRow (bt HB5.out HRz.out.low) (Nat.le_refl _) _, lnC_one HINz.out.toIn, fun h => ⟨HLN.out W5 HB5.out, read_yes HLS.out rfl HWS.out (rightB_of h)⟩, fun h => read_no HLS.out (fun h2 => by rw [right_yes h2.2.2] at h; exact absurd h (by decide))⟩
    · have HNR := Lib.hid (read_no HLS.out (fun h => hws h.2.1))
      have hwn : 0 < wn := by rw [HDN.out]; exact List.length_pos_iff.2 hws
      have hwq : ((wn : Int) == 0) = false := beq_eq_false_iff_ne.2 (by omega)
      clear hws
      refine wp_region_held_drew (S := fun w' => w'.rangeAt (w.heap.size + 3) 0 (lnC r) ∧ w'.cell? ⟨w.heap.size + 2, 0, none⟩ = some (.slice WA wn wc) ∧ w'.cell? ⟨w.heap.size + 2, 1, none⟩ = some (.bool true)) (by kernel_rfl) ?_ (fun hHeld => ?_)
      · exact ⟨HRG.out, HD.out⟩
      refine wpAnyH_take (i := 0) (oi := ?oi0_89) (v := ?v0_89) ?hi0_89 (by kernel_rfl) ?hf0_89 (by kernel_rfl) ?hq0_89 ?hy0_89 hHeld ?rest0_89
      case hi0_89 => (simp only [List.getElem?_toArray, List.getElem?_cons_zero]; try exact rfl)
      case hf0_89 => kernel_rfl
      case hq0_89 => exact fun _ _ _ h => h
      case hy0_89 => (refine yieldsIf_load_mid ?_ 31 (.tmp 5) ?_ (w.heap.size + 3) 0 ?_ (lnC r) _ ?_ Tryz.underlying31 rfl (by kernel_rfl) <;> first | exact fun _ h => h.1 | rfl)
      try simp only [Act.put, List.setIfInBounds_toArray, List.set_cons_zero, List.set_cons_succ]
      refine wpAnyH_take (i := 1) (oi := ?oi1_90) (v := ?v1_90) ?hi1_90 (by kernel_rfl) ?hf1_90 (by kernel_rfl) ?hq1_90 ?hy1_90 hHeld ?rest1_90
      case hi1_90 => (simp only [List.getElem?_toArray, List.getElem?_cons_succ, List.getElem?_cons_zero]; try exact rfl)
      case hf1_90 => kernel_rfl
      case hq1_90 => exact fun _ _ _ h => h
      case hy1_90 => (refine Or.inl ⟨rfl, ?_⟩; intro w hSw; (try dsimp only at hSw); go_simp; try with_reducible rfl)
      try simp only [Act.put, List.setIfInBounds_toArray, List.set_cons_zero, List.set_cons_succ]
      refine wpAnyH_take (i := 2) (oi := ?oi2_91) (v := ?v2_91) ?hi2_91 (by kernel_rfl) ?hf2_91 (by kernel_rfl) ?hq2_91 ?hy2_91 hHeld ?rest2_91
      case hi2_91 => (simp only [List.getElem?_toArray, List.getElem?_cons_succ, List.getElem?_cons_zero]; try exact rfl)
      case hf2_91 => kernel_rfl
      case hq2_91 => exact fun _ _ _ h => h
      case hy2_91 => (refine Or.inl ⟨rfl, ?_⟩; intro w hSw; (try dsimp only at hSw); go_simp; try with_reducible rfl)
      try simp only [Act.put, List.setIfInBounds_toArray, List.set_cons_zero, List.set_cons_succ]
      refine wpAnyH_take (i := 3) (oi := ?oi3_92) (v := ?v3_92) ?hi3_92 (by kernel_rfl) ?hf3_92 (by kernel_rfl) ?hq3_92 ?hy3_92 hHeld ?rest3_92
      case hi3_92 => (simp only [List.getElem?_toArray, List.getElem?_cons_succ, List.getElem?_cons_zero]; try exact rfl)
      case hf3_92 => kernel_rfl
      case hq3_92 => exact fun _ _ _ h => h
      case hy3_92 => (refine Or.inl ⟨rfl, ?_⟩; intro w hSw; (try dsimp only at hSw); go_simp; try with_reducible rfl)
      try simp only [Act.put, List.setIfInBounds_toArray, List.set_cons_zero, List.set_cons_succ]
      refine wpAnyH_take (i := 4) (oi := ?oi4_93) (v := ?v4_93) ?hi4_93 (by kernel_rfl) ?hf4_93 (by kernel_rfl) ?hq4_93 ?hy4_93 hHeld ?rest4_93
      case hi4_93 => (simp only [List.getElem?_toArray, List.getElem?_cons_succ, List.getElem?_cons_zero]; try exact rfl)
      case hf4_93 => kernel_rfl
      case hq4_93 => exact fun _ _ _ h => h
      case hy4_93 => (refine Or.inl ⟨rfl, ?_⟩; intro w hSw; (try dsimp only at hSw); go_simp; try with_reducible rfl)
      try simp only [Act.put, List.setIfInBounds_toArray, List.set_cons_zero, List.set_cons_succ]
      refine wpAnyH_take (i := 5) (oi := ?oi5_94) (v := ?v5_94) ?hi5_94 (by kernel_rfl) ?hf5_94 (by kernel_rfl) ?hq5_94 ?hy5_94 hHeld ?rest5_94
      case hi5_94 => (simp only [List.getElem?_toArray, List.getElem?_cons_succ, List.getElem?_cons_zero]; try exact rfl)
      case hf5_94 => kernel_rfl
      case hq5_94 => exact fun _ _ _ h => h
      case hy5_94 => (refine Or.inl ⟨rfl, ?_⟩; intro w hSw; (try dsimp only at hSw); go_simp; try with_reducible rfl)
      try simp only [Act.put, List.setIfInBounds_toArray, List.set_cons_zero, List.set_cons_succ]
      refine wpAnyH_take (i := 6) (oi := ?oi6_95) (v := ?v6_95) ?hi6_95 (by kernel_rfl) ?hf6_95 (by kernel_rfl) ?hq6_95 ?hy6_95 hHeld ?rest6_95
      case hi6_95 => (simp only [List.getElem?_toArray, List.getElem?_cons_succ, List.getElem?_cons_zero]; try exact rfl)
      case hf6_95 => kernel_rfl
      case hq6_95 => exact fun _ _ _ h => h
      case hy6_95 => (refine Or.inl ⟨rfl, ?_⟩; intro w hSw; (try dsimp only at hSw); go_simp; try with_reducible rfl)
      try simp only [Act.put, List.setIfInBounds_toArray, List.set_cons_zero, List.set_cons_succ]
      refine wpAnyH_take (i := 7) (oi := ?oi7_96) (v := ?v7_96) ?hi7_96 (by kernel_rfl) ?hf7_96 (by kernel_rfl) ?hq7_96 ?hy7_96 hHeld ?rest7_96
      case hi7_96 => (simp only [List.getElem?_toArray, List.getElem?_cons_succ, List.getElem?_cons_zero]; try exact rfl)
      case hf7_96 => kernel_rfl
      case hq7_96 => exact fun _ _ _ h => h
      case hy7_96 => (refine Or.inl ⟨rfl, ?_⟩; intro w hSw; (try dsimp only at hSw); go_simp; try with_reducible rfl)
      try simp only [Act.put, List.setIfInBounds_toArray, List.set_cons_zero, List.set_cons_succ]
      refine wpAnyH_take (i := 8) (oi := ?oi8_97) (v := ?v8_97) ?hi8_97 (by kernel_rfl) ?hf8_97 (by kernel_rfl) ?hq8_97 ?hy8_97 hHeld ?rest8_97
      case hi8_97 => (simp only [List.getElem?_toArray, List.getElem?_cons_succ, List.getElem?_cons_zero]; try exact rfl)
      case hf8_97 => kernel_rfl
      case hq8_97 => exact fun _ _ _ h => h
      case hy8_97 => (refine Or.inl ⟨rfl, ?_⟩; intro w hSw; (try dsimp only at hSw); go_simp; try with_reducible rfl)
      try simp only [Act.put, List.setIfInBounds_toArray, List.set_cons_zero, List.set_cons_succ]
      refine wpAnyH_take (i := 9) (oi := ?oi9_98) (v := ?v9_98) ?hi9_98 (by kernel_rfl) ?hf9_98 (by kernel_rfl) ?hq9_98 ?hy9_98 hHeld ?rest9_98
      case hi9_98 => (simp only [List.getElem?_toArray, List.getElem?_cons_succ, List.getElem?_cons_zero]; try exact rfl)
      case hf9_98 => kernel_rfl
      case hq9_98 => exact fun _ _ _ h => h
      case hy9_98 => (refine Or.inl ⟨rfl, ?_⟩; intro w hSw; (try dsimp only at hSw); go_simp; try with_reducible rfl)
      try simp only [Act.put, List.setIfInBounds_toArray, List.set_cons_zero, List.set_cons_succ]
      refine wpAnyH_take (i := 10) (oi := ?oi10_99) (v := ?v10_99) ?hi10_99 (by kernel_rfl) ?hf10_99 (by kernel_rfl) ?hq10_99 ?hy10_99 hHeld ?rest10_99
      case hi10_99 => (simp only [List.getElem?_toArray, List.getElem?_cons_succ, List.getElem?_cons_zero]; try exact rfl)
      case hf10_99 => kernel_rfl
      case hq10_99 => exact fun _ _ _ h => h
      case hy10_99 => (refine Or.inl ⟨rfl, ?_⟩; intro w hSw; (try dsimp only at hSw); go_simp; try with_reducible rfl)
      try simp only [Act.put, List.setIfInBounds_toArray, List.set_cons_zero, List.set_cons_succ]
      refine wpAnyH_take (i := 11) (oi := ?oi11_100) (v := ?v11_100) ?hi11_100 (by kernel_rfl) ?hf11_100 (by kernel_rfl) ?hq11_100 ?hy11_100 hHeld ?rest11_100
      case hi11_100 => (simp only [List.getElem?_toArray, List.getElem?_cons_succ, List.getElem?_cons_zero]; try exact rfl)
      case hf11_100 => kernel_rfl
      case hq11_100 => exact fun _ _ _ h => h
      case hy11_100 => (refine Or.inl ⟨rfl, ?_⟩; intro w hSw; (try dsimp only at hSw); go_simp; try with_reducible rfl)
      try simp only [Act.put, List.setIfInBounds_toArray, List.set_cons_zero, List.set_cons_succ]
      refine wpAnyH_take (i := 12) (oi := ?oi12_101) (v := ?v12_101) ?hi12_101 (by kernel_rfl) ?hf12_101 (by kernel_rfl) ?hq12_101 ?hy12_101 hHeld ?rest12_101
      case hi12_101 => (simp only [List.getElem?_toArray, List.getElem?_cons_succ, List.getElem?_cons_zero]; try exact rfl)
      case hf12_101 => kernel_rfl
      case hq12_101 => exact fun _ _ _ h => h
      case hy12_101 => (refine Or.inl ⟨rfl, ?_⟩; intro w hSw; (try dsimp only at hSw); go_simp; try with_reducible rfl)
      try simp only [Act.put, List.setIfInBounds_toArray, List.set_cons_zero, List.set_cons_succ]
      refine wpAnyH_take (i := 13) (oi := ?oi13_102) (v := ?v13_102) ?hi13_102 (by kernel_rfl) ?hf13_102 (by kernel_rfl) ?hq13_102 ?hy13_102 hHeld ?rest13_102
      case hi13_102 => (simp only [List.getElem?_toArray, List.getElem?_cons_succ, List.getElem?_cons_zero]; try exact rfl)
      case hf13_102 => kernel_rfl
      case hq13_102 => exact fun _ _ _ h => h
      case hy13_102 => (refine Or.inl ⟨rfl, ?_⟩; intro w hSw; (try dsimp only at hSw); go_simp; try with_reducible rfl)
      try simp only [Act.put, List.setIfInBounds_toArray, List.set_cons_zero, List.set_cons_succ]
      refine wpAnyH_take (i := 14) (oi := ?oi14_103) (v := undef) ?hi14_103 (by kernel_rfl) ?hf14_103 (by kernel_rfl) ?hq14_103 ?hy14_103 hHeld ?rest14_103
      case hi14_103 => (simp only [List.getElem?_toArray, List.getElem?_cons_succ, List.getElem?_cons_zero]; try exact rfl)
      case hf14_103 => kernel_rfl
      case hq14_103 => exact fun _ _ _ h => h
      case hy14_103 => exact Or.inr ⟨rfl, rfl⟩
      try simp only [Act.put, List.setIfInBounds_toArray, List.set_cons_zero, List.set_cons_succ]
      refine wpAnyH_take (i := 15) (oi := ?oi15_104) (v := undef) ?hi15_104 (by kernel_rfl) ?hf15_104 (by kernel_rfl) ?hq15_104 ?hy15_104 hHeld ?rest15_104
      case hi15_104 => (simp only [List.getElem?_toArray, List.getElem?_cons_succ, List.getElem?_cons_zero]; try exact rfl)
      case hf15_104 => kernel_rfl
      case hq15_104 => exact fun _ _ _ h => h
      case hy15_104 => exact Or.inr ⟨rfl, rfl⟩
      try simp only [Act.put, List.setIfInBounds_toArray, List.set_cons_zero, List.set_cons_succ]
      refine wpAnyH_take (i := 16) (oi := ?oi16_105) (v := ?v16_105) ?hi16_105 (by kernel_rfl) ?hf16_105 (by kernel_rfl) ?hq16_105 ?hy16_105 hHeld ?rest16_105
      case hi16_105 => (simp only [List.getElem?_toArray, List.getElem?_cons_succ, List.getElem?_cons_zero]; try exact rfl)
      case hf16_105 => kernel_rfl
      case hq16_105 => exact fun _ _ _ h => h
      case hy16_105 => (refine Or.inl ⟨rfl, ?_⟩; intro w hSw; (try dsimp only at hSw); go_simp; try with_reducible rfl)
      try simp only [Act.put, List.setIfInBounds_toArray, List.set_cons_zero, List.set_cons_succ]
      refine wpAnyH_ready (rs := [17]) (by kernel_rfl) (by simp) ?_
      refine AllReadyH.cons (by simp only [List.getElem?_toArray, List.getElem?_cons_succ, List.getElem?_cons_zero]; try exact rfl) (fun K hK => ?_) AllReadyH.nil
      refine wp_store_row 31 (.tmp 2) (.tmp 60) rfl w.heap.size (lnC r).toArray (by rfl) (by rfl) 31 _ (show Wz.drew.heap[w.heap.size]? = some (.cells #[.int .i64 0, .int .i64 0, .int .i64 0, .int .i64 0, .int .i64 0, .int .i64 0, .int .i64 0, .int .i64 0, .int .i64 0, .int .i64 0, .int .i64 0, .int .i64 0, .int .i64 0, .int .i64 0, .slice none 0 0, .int .i64 0, .int .i64 0, .slice none 0 0, .int .i64 0, .slice none 0 0] 31 (0, 0)) from HRCz.out) (by kernel_rfl) (by rfl) (by simpa using lnC_one HINz.out.toIn) ?_
      refine hK.out _ _ ⟨range_row hHeld.1 (by simp), (cell_setRow_other _ _ _ _ (by simp)).trans hHeld.2.1, (cell_setRow_other _ _ _ _ (by simp)).trans hHeld.2.2⟩ (fun hHeld => ?_)
      clear hK K
      try simp only [Act.put]
      refine wpAnyH_take (i := 18) (oi := ?oi18_106) (v := ?v18_106) ?hi18_106 (by kernel_rfl) ?hf18_106 (by kernel_rfl) ?hq18_106 ?hy18_106 hHeld ?rest18_106
      case hi18_106 => (simp only [List.getElem?_toArray, List.getElem?_cons_succ, List.getElem?_cons_zero]; try exact rfl)
      case hf18_106 => kernel_rfl
      case hq18_106 => exact fun _ _ _ h => h
      case hy18_106 => (refine Or.inl ⟨rfl, ?_⟩; intro w hSw; (try dsimp only at hSw); go_simp; try with_reducible rfl)
      try simp only [Act.put, List.setIfInBounds_toArray, List.set_cons_zero, List.set_cons_succ]
      refine wpAnyH_done (by kernel_rfl) ?_ _
      go_wp2_with fail
      have hF := setRow_heap _ _ _ (lnC r).toArray _ _ (show Wz.drew.heap[w.heap.size]? = some (.cells #[.int .i64 0, .int .i64 0, .int .i64 0, .int .i64 0, .int .i64 0, .int .i64 0, .int .i64 0, .int .i64 0, .int .i64 0, .int .i64 0, .int .i64 0, .int .i64 0, .int .i64 0, .int .i64 0, .slice none 0 0, .int .i64 0, .int .i64 0, .slice none 0 0, .int .i64 0, .slice none 0 0] 31 (0, 0)) from HRCz.out)
      refine bodyPost_ret (v := .tuple #[.agg (lnC r).toArray, .bool false]) (results_cell_slot (p := 2) (q := 3) (by kernel_rfl) _ _ w.heap.size _ _ _ _ _ (by rfl) (by rfl) rfl hF Tryz.underlying31 (by kernel_rfl)) rfl ?_
      exact ⟨r, false, rfl, below_setRow (HRz.out.low.drew) (Nat.le_refl _) _, lnC_one HINz.out.toIn, fun h => absurd h (by decide), fun _ => HNR.out⟩
  | false =>
    obtain ⟨WA, wn, wc, d0, dn, d1, df, dz⟩ := HRz.out.cells
    have HRG := Lib.hid (range_of HLBz.out)
    have HD := Lib.hid (And.intro d0 d1)
    have HDN := Lib.hid dn
    clear dn
    have HNR := Lib.hid (read_no HLS.out (fun h => absurd h.1 (by decide)))
    refine wp_region_held_drew (S := fun w' => w'.rangeAt (w.heap.size + 3) 0 (lnC r) ∧ w'.cell? ⟨w.heap.size + 2, 0, none⟩ = some (.slice WA wn wc) ∧ w'.cell? ⟨w.heap.size + 2, 1, none⟩ = some (.bool false)) (by kernel_rfl) ?_ (fun hHeld => ?_)
    · exact ⟨HRG.out, HD.out⟩
    refine wpAnyH_take (i := 0) (oi := ?oi0_54) (v := ?v0_54) ?hi0_54 (by kernel_rfl) ?hf0_54 (by kernel_rfl) ?hq0_54 ?hy0_54 hHeld ?rest0_54
    case hi0_54 => (simp only [List.getElem?_toArray, List.getElem?_cons_zero]; try exact rfl)
    case hf0_54 => kernel_rfl
    case hq0_54 => exact fun _ _ _ h => h
    case hy0_54 => (refine yieldsIf_load_mid ?_ 31 (.tmp 5) ?_ (w.heap.size + 3) 0 ?_ (lnC r) _ ?_ Tryz.underlying31 rfl (by kernel_rfl) <;> first | exact fun _ h => h.1 | rfl)
    try simp only [Act.put, List.setIfInBounds_toArray, List.set_cons_zero, List.set_cons_succ]
    refine wpAnyH_take (i := 1) (oi := ?oi1_55) (v := ?v1_55) ?hi1_55 (by kernel_rfl) ?hf1_55 (by kernel_rfl) ?hq1_55 ?hy1_55 hHeld ?rest1_55
    case hi1_55 => (simp only [List.getElem?_toArray, List.getElem?_cons_succ, List.getElem?_cons_zero]; try exact rfl)
    case hf1_55 => kernel_rfl
    case hq1_55 => exact fun _ _ _ h => h
    case hy1_55 => (refine Or.inl ⟨rfl, ?_⟩; intro w hSw; (try dsimp only at hSw); go_simp; try with_reducible rfl)
    try simp only [Act.put, List.setIfInBounds_toArray, List.set_cons_zero, List.set_cons_succ]
    refine wpAnyH_take (i := 2) (oi := ?oi2_56) (v := ?v2_56) ?hi2_56 (by kernel_rfl) ?hf2_56 (by kernel_rfl) ?hq2_56 ?hy2_56 hHeld ?rest2_56
    case hi2_56 => (simp only [List.getElem?_toArray, List.getElem?_cons_succ, List.getElem?_cons_zero]; try exact rfl)
    case hf2_56 => kernel_rfl
    case hq2_56 => exact fun _ _ _ h => h
    case hy2_56 => (refine Or.inl ⟨rfl, ?_⟩; intro w hSw; (try dsimp only at hSw); go_simp; try with_reducible rfl)
    try simp only [Act.put, List.setIfInBounds_toArray, List.set_cons_zero, List.set_cons_succ]
    refine wpAnyH_take (i := 3) (oi := ?oi3_57) (v := ?v3_57) ?hi3_57 (by kernel_rfl) ?hf3_57 (by kernel_rfl) ?hq3_57 ?hy3_57 hHeld ?rest3_57
    case hi3_57 => (simp only [List.getElem?_toArray, List.getElem?_cons_succ, List.getElem?_cons_zero]; try exact rfl)
    case hf3_57 => kernel_rfl
    case hq3_57 => exact fun _ _ _ h => h
    case hy3_57 => (refine Or.inl ⟨rfl, ?_⟩; intro w hSw; (try dsimp only at hSw); go_simp; try with_reducible rfl)
    try simp only [Act.put, List.setIfInBounds_toArray, List.set_cons_zero, List.set_cons_succ]
    refine wpAnyH_take (i := 4) (oi := ?oi4_58) (v := ?v4_58) ?hi4_58 (by kernel_rfl) ?hf4_58 (by kernel_rfl) ?hq4_58 ?hy4_58 hHeld ?rest4_58
    case hi4_58 => (simp only [List.getElem?_toArray, List.getElem?_cons_succ, List.getElem?_cons_zero]; try exact rfl)
    case hf4_58 => kernel_rfl
    case hq4_58 => exact fun _ _ _ h => h
    case hy4_58 => (refine Or.inl ⟨rfl, ?_⟩; intro w hSw; (try dsimp only at hSw); go_simp; try with_reducible rfl)
    try simp only [Act.put, List.setIfInBounds_toArray, List.set_cons_zero, List.set_cons_succ]
    refine wpAnyH_take (i := 5) (oi := ?oi5_59) (v := ?v5_59) ?hi5_59 (by kernel_rfl) ?hf5_59 (by kernel_rfl) ?hq5_59 ?hy5_59 hHeld ?rest5_59
    case hi5_59 => (simp only [List.getElem?_toArray, List.getElem?_cons_succ, List.getElem?_cons_zero]; try exact rfl)
    case hf5_59 => kernel_rfl
    case hq5_59 => exact fun _ _ _ h => h
    case hy5_59 => (refine Or.inl ⟨rfl, ?_⟩; intro w hSw; (try dsimp only at hSw); go_simp; try with_reducible rfl)
    try simp only [Act.put, List.setIfInBounds_toArray, List.set_cons_zero, List.set_cons_succ]
    refine wpAnyH_take (i := 6) (oi := ?oi6_60) (v := undef) ?hi6_60 (by kernel_rfl) ?hf6_60 (by kernel_rfl) ?hq6_60 ?hy6_60 hHeld ?rest6_60
    case hi6_60 => (simp only [List.getElem?_toArray, List.getElem?_cons_succ, List.getElem?_cons_zero]; try exact rfl)
    case hf6_60 => kernel_rfl
    case hq6_60 => exact fun _ _ _ h => h
    case hy6_60 => exact Or.inr ⟨rfl, rfl⟩
    try simp only [Act.put, List.setIfInBounds_toArray, List.set_cons_zero, List.set_cons_succ]
    refine wpAnyH_take (i := 7) (oi := ?oi7_61) (v := undef) ?hi7_61 (by kernel_rfl) ?hf7_61 (by kernel_rfl) ?hq7_61 ?hy7_61 hHeld ?rest7_61
    case hi7_61 => (simp only [List.getElem?_toArray, List.getElem?_cons_succ, List.getElem?_cons_zero]; try exact rfl)
    case hf7_61 => kernel_rfl
    case hq7_61 => exact fun _ _ _ h => h
    case hy7_61 => exact Or.inr ⟨rfl, rfl⟩
    try simp only [Act.put, List.setIfInBounds_toArray, List.set_cons_zero, List.set_cons_succ]
    refine wpAnyH_take (i := 8) (oi := ?oi8_62) (v := undef) ?hi8_62 (by kernel_rfl) ?hf8_62 (by kernel_rfl) ?hq8_62 ?hy8_62 hHeld ?rest8_62
    case hi8_62 => (simp only [List.getElem?_toArray, List.getElem?_cons_succ, List.getElem?_cons_zero]; try exact rfl)
    case hf8_62 => kernel_rfl
    case hq8_62 => exact fun _ _ _ h => h
    case hy8_62 => exact Or.inr ⟨rfl, rfl⟩
    try simp only [Act.put, List.setIfInBounds_toArray, List.set_cons_zero, List.set_cons_succ]
    refine wpAnyH_take (i := 9) (oi := ?oi9_63) (v := undef) ?hi9_63 (by kernel_rfl) ?hf9_63 (by kernel_rfl) ?hq9_63 ?hy9_63 hHeld ?rest9_63
    case hi9_63 => (simp only [List.getElem?_toArray, List.getElem?_cons_succ, List.getElem?_cons_zero]; try exact rfl)
    case hf9_63 => kernel_rfl
    case hq9_63 => exact fun _ _ _ h => h
    case hy9_63 => exact Or.inr ⟨rfl, rfl⟩
    try simp only [Act.put, List.setIfInBounds_toArray, List.set_cons_zero, List.set_cons_succ]
    refine wpAnyH_take (i := 10) (oi := ?oi10_64) (v := undef) ?hi10_64 (by kernel_rfl) ?hf10_64 (by kernel_rfl) ?hq10_64 ?hy10_64 hHeld ?rest10_64
    case hi10_64 => (simp only [List.getElem?_toArray, List.getElem?_cons_succ, List.getElem?_cons_zero]; try exact rfl)
    case hf10_64 => kernel_rfl
    case hq10_64 => exact fun _ _ _ h => h
    case hy10_64 => exact Or.inr ⟨rfl, rfl⟩
    try simp only [Act.put, List.setIfInBounds_toArray, List.set_cons_zero, List.set_cons_succ]
    refine wpAnyH_take (i := 11) (oi := ?oi11_65) (v := undef) ?hi11_65 (by kernel_rfl) ?hf11_65 (by kernel_rfl) ?hq11_65 ?hy11_65 hHeld ?rest11_65
    case hi11_65 => (simp only [List.getElem?_toArray, List.getElem?_cons_succ, List.getElem?_cons_zero]; try exact rfl)
    case hf11_65 => kernel_rfl
    case hq11_65 => exact fun _ _ _ h => h
    case hy11_65 => exact Or.inr ⟨rfl, rfl⟩
    try simp only [Act.put, List.setIfInBounds_toArray, List.set_cons_zero, List.set_cons_succ]
    refine wpAnyH_take (i := 12) (oi := ?oi12_66) (v := ?v12_66) ?hi12_66 (by kernel_rfl) ?hf12_66 (by kernel_rfl) ?hq12_66 ?hy12_66 hHeld ?rest12_66
    case hi12_66 => (simp only [List.getElem?_toArray, List.getElem?_cons_succ, List.getElem?_cons_zero]; try exact rfl)
    case hf12_66 => kernel_rfl
    case hq12_66 => exact fun _ _ _ h => h
    case hy12_66 => (refine Or.inl ⟨rfl, ?_⟩; intro w hSw; (try dsimp only at hSw); go_simp; try with_reducible rfl)
    try simp only [Act.put, List.setIfInBounds_toArray, List.set_cons_zero, List.set_cons_succ]
    refine wpAnyH_take (i := 13) (oi := ?oi13_67) (v := ?v13_67) ?hi13_67 (by kernel_rfl) ?hf13_67 (by kernel_rfl) ?hq13_67 ?hy13_67 hHeld ?rest13_67
    case hi13_67 => (simp only [List.getElem?_toArray, List.getElem?_cons_succ, List.getElem?_cons_zero]; try exact rfl)
    case hf13_67 => kernel_rfl
    case hq13_67 => exact fun _ _ _ h => h
    case hy13_67 => (refine Or.inl ⟨rfl, ?_⟩; intro w hSw; (try dsimp only at hSw); go_simp; try with_reducible rfl)
    try simp only [Act.put, List.setIfInBounds_toArray, List.set_cons_zero, List.set_cons_succ]
    refine wpAnyH_take (i := 14) (oi := ?oi14_68) (v := undef) ?hi14_68 (by kernel_rfl) ?hf14_68 (by kernel_rfl) ?hq14_68 ?hy14_68 hHeld ?rest14_68
    case hi14_68 => (simp only [List.getElem?_toArray, List.getElem?_cons_succ, List.getElem?_cons_zero]; try exact rfl)
    case hf14_68 => kernel_rfl
    case hq14_68 => exact fun _ _ _ h => h
    case hy14_68 => exact Or.inr ⟨rfl, rfl⟩
    try simp only [Act.put, List.setIfInBounds_toArray, List.set_cons_zero, List.set_cons_succ]
    refine wpAnyH_take (i := 15) (oi := ?oi15_69) (v := undef) ?hi15_69 (by kernel_rfl) ?hf15_69 (by kernel_rfl) ?hq15_69 ?hy15_69 hHeld ?rest15_69
    case hi15_69 => (simp only [List.getElem?_toArray, List.getElem?_cons_succ, List.getElem?_cons_zero]; try exact rfl)
    case hf15_69 => kernel_rfl
    case hq15_69 => exact fun _ _ _ h => h
    case hy15_69 => exact Or.inr ⟨rfl, rfl⟩
    try simp only [Act.put, List.setIfInBounds_toArray, List.set_cons_zero, List.set_cons_succ]
    refine wpAnyH_take (i := 16) (oi := ?oi16_70) (v := ?v16_70) ?hi16_70 (by kernel_rfl) ?hf16_70 (by kernel_rfl) ?hq16_70 ?hy16_70 hHeld ?rest16_70
    case hi16_70 => (simp only [List.getElem?_toArray, List.getElem?_cons_succ, List.getElem?_cons_zero]; try exact rfl)
    case hf16_70 => kernel_rfl
    case hq16_70 => exact fun _ _ _ h => h
    case hy16_70 => (refine Or.inl ⟨rfl, ?_⟩; intro w hSw; (try dsimp only at hSw); go_simp; try with_reducible rfl)
    try simp only [Act.put, List.setIfInBounds_toArray, List.set_cons_zero, List.set_cons_succ]
    refine wpAnyH_ready (rs := [17]) (by kernel_rfl) (by simp) ?_
    refine AllReadyH.cons (by simp only [List.getElem?_toArray, List.getElem?_cons_succ, List.getElem?_cons_zero]; try exact rfl) (fun K hK => ?_) AllReadyH.nil
    refine wp_store_row 31 (.tmp 2) (.tmp 60) rfl w.heap.size (lnC r).toArray (by rfl) (by rfl) 31 _ (show Wz.drew.heap[w.heap.size]? = some (.cells #[.int .i64 0, .int .i64 0, .int .i64 0, .int .i64 0, .int .i64 0, .int .i64 0, .int .i64 0, .int .i64 0, .int .i64 0, .int .i64 0, .int .i64 0, .int .i64 0, .int .i64 0, .int .i64 0, .slice none 0 0, .int .i64 0, .int .i64 0, .slice none 0 0, .int .i64 0, .slice none 0 0] 31 (0, 0)) from HRCz.out) (by kernel_rfl) (by rfl) (by simpa using lnC_one HINz.out.toIn) ?_
    refine hK.out _ _ ⟨range_row hHeld.1 (by simp), (cell_setRow_other _ _ _ _ (by simp)).trans hHeld.2.1, (cell_setRow_other _ _ _ _ (by simp)).trans hHeld.2.2⟩ (fun hHeld => ?_)
    clear hK K
    try simp only [Act.put]
    refine wpAnyH_take (i := 18) (oi := ?oi18_71) (v := ?v18_71) ?hi18_71 (by kernel_rfl) ?hf18_71 (by kernel_rfl) ?hq18_71 ?hy18_71 hHeld ?rest18_71
    case hi18_71 => (simp only [List.getElem?_toArray, List.getElem?_cons_succ, List.getElem?_cons_zero]; try exact rfl)
    case hf18_71 => kernel_rfl
    case hq18_71 => exact fun _ _ _ h => h
    case hy18_71 => (refine Or.inl ⟨rfl, ?_⟩; intro w hSw; (try dsimp only at hSw); go_simp; try with_reducible rfl)
    try simp only [Act.put, List.setIfInBounds_toArray, List.set_cons_zero, List.set_cons_succ]
    refine wpAnyH_done (by kernel_rfl) ?_ _
    go_wp2_with fail
    have hF := setRow_heap _ _ _ (lnC r).toArray _ _ (show Wz.drew.heap[w.heap.size]? = some (.cells #[.int .i64 0, .int .i64 0, .int .i64 0, .int .i64 0, .int .i64 0, .int .i64 0, .int .i64 0, .int .i64 0, .int .i64 0, .int .i64 0, .int .i64 0, .int .i64 0, .int .i64 0, .int .i64 0, .slice none 0 0, .int .i64 0, .int .i64 0, .slice none 0 0, .int .i64 0, .slice none 0 0] 31 (0, 0)) from HRCz.out)
    refine bodyPost_ret (v := .tuple #[.agg (lnC r).toArray, .bool false]) (results_cell_slot (p := 2) (q := 3) (by kernel_rfl) _ _ w.heap.size _ _ _ _ _ (by rfl) (by rfl) rfl hF Tryz.underlying31 (by kernel_rfl)) rfl ?_
    exact ⟨r, false, rfl, below_setRow (HRz.out.low.drew) (Nat.le_refl _) _, lnC_one HINz.out.toIn, fun h => absurd h (by decide), fun _ => HNR.out⟩
set_option maxHeartbeats 8000000 in
set_option maxRecDepth 100000 in
theorem read_wCrash (text : List UInt8) (htl : text.length ≤ 900000) (w : World) (hG : G w) (hw : nextW (splitC 32 text) = wCrash) :
    Calls Tryz.prog 33 #[.string ⟨text.toArray⟩] w (ReadPost w (splitC 32 text)) := by
  have hmf : ∀ (fn : Fn) (first cap : Array Value) (w : World), (Instr.makeFunc fn first cap).run Tryz.prog w = .ok (.func fn first cap) w := fun _ _ _ _ => rfl
  obtain ⟨m, hm⟩ := hG.mx
  have HM := Lib.hid (fun (o : Obj) => keepA (below_a1 w o) hm)
  have HG := Lib.hid hG
  obtain ⟨sl1, sl2⟩ := split_lens 32 text
  have HL0 := Lib.hid (show ∀ x ∈ splitC 32 text, x.length ≤ 1000000 from fun x hx => by have := sl1 x hx; omega)
  have HSC := Lib.hid (split_count text)
  have HSS := Lib.hid (split_strings text)
  obtain ⟨n, hn⟩ : ∃ n, (splitC 32 text).length = n := ⟨_, rfl⟩
  have hn1 : n ≤ 1000000 := by omega
  have HN := Lib.hid hn
  rw [hn] at HSC
  clear hG hm sl1 sl2 hn
  go_enter Tryz.func33, Tryz.ntmps33
  go_wp2_with fail
  refine (Tryz.strings_Split ⟨text.toArray⟩ ⟨#[32]⟩ m _ (by show text.toArray.size < _; simp; omega) (HM.out _) (Nat.le_refl 1)).mono ?_
  rintro e W0 ⟨rfl, rfl⟩
  rw [HSC.out, HSS.out]
  have HA4 := Lib.hid (fun (S : Array Value) (v : Value) => alloc4 w (.cells #[.int .i64 0, .int .i64 0, .int .i64 0, .int .i64 0, .int .i64 0, .int .i64 0, .int .i64 0, .int .i64 0, .int .i64 0, .int .i64 0, .int .i64 0, .int .i64 0, .int .i64 0, .int .i64 0, .slice none 0 0, .int .i64 0, .int .i64 0, .slice none 0 0, .int .i64 0, .slice none 0 0] 31) (.cells S 9) (.cells #[v, .bool true] 92) (.cells #[.int .i64 0, .int .i64 0, .int .i64 0, .int .i64 0, .int .i64 0, .int .i64 0, .int .i64 0, .int .i64 0, .int .i64 0, .int .i64 0, .int .i64 0, .int .i64 0, .int .i64 0, .int .i64 0, .slice none 0 0, .int .i64 0, .int .i64 0, .slice none 0 0, .int .i64 0, .slice none 0 0] 31))
  go_wp2_with fail
  obtain ⟨Wa, hWa⟩ : ∃ Wa, (((w.alloc (.cells #[.int .i64 0, .int .i64 0, .int .i64 0, .int .i64 0, .int .i64 0, .int .i64 0, .int .i64 0, .int .i64 0, .int .i64 0, .int .i64 0, .int .i64 0, .int .i64 0, .int .i64 0, .int .i64 0, .slice none 0 0, .int .i64 0, .int .i64 0, .slice none 0 0, .int .i64 0, .slice none 0 0] 31)).alloc (.cells ((splitC 32 text).map fun x => Value.string ⟨x.toArray⟩).toArray 9)).alloc (.cells #[.slice (some ⟨w.heap.size + 1, 0, none⟩) n n, .bool true] 92)).alloc (.cells #[.int .i64 0, .int .i64 0, .int .i64 0, .int .i64 0, .int .i64 0, .int .i64 0, .int .i64 0, .int .i64 0, .int .i64 0, .int .i64 0, .int .i64 0, .int .i64 0, .int .i64 0, .int .i64 0, .slice none 0 0, .int .i64 0, .int .i64 0, .slice none 0 0, .int .i64 0, .slice none 0 0] 31) = Wa := ⟨_, rfl⟩
  obtain ⟨hrc, hsb, hrb, hlb, hbl⟩ := HA4.out ((splitC 32 text).map fun x => Value.string ⟨x.toArray⟩).toArray (.slice (some ⟨w.heap.size + 1, 0, none⟩) n n)
  rw [hWa] at hrc hsb hrb hlb hbl ⊢
  have H0 := Lib.hid (made (splitC 32 text) HN.out hn1 hsb hrb hbl)
  have HRC := Lib.hid hrc
  have HLB := Lib.hid hlb
  clear HA4 hWa hrc hsb hrb hlb hbl HM
  refine (next_any H0.out).mono ?_
  rintro e W1 ⟨rfl, h1, hk1⟩
  have H1 := Lib.hid h1
  have HRC1 := Lib.hid (hk1.cells (by omega) HRC.out)
  have HLB1 := Lib.hid (hk1.cells (by omega) HLB.out)
  clear HRC HLB h1 hk1 H0
  have hok : nextOk (splitC 32 text) true = true := by rw [split_first]; rfl
  rw [hok] at H1
  rw [hw, show (⟨List.toArray wCrash⟩ : ByteArray) = ⟨#[99, 114, 97, 115, 104]⟩ from rfl]
  have HW := Lib.hid hw
  have HL1 := Lib.hid (tail_len HL0.out)
  have hwl : (splitC 32 text).tail.length ≤ 1000000 := tail_le (by rw [HN.out]; exact hn1)
  have hz1 := H1.out.low.size
  have HLBS := Lib.hid (show w.heap.size + 3 < W1.heap.size from (Array.getElem?_eq_some_iff.1 HLB1.out).1)
  clear hw hok
  go_wp2_with fail
  refine (manyK_any HG.out [] HL1.out hwl H1.out).mono ?_
  rintro e W2 ⟨xs2, ws2, ok2, v2, rfl, ho2, h2, hk2, hm2, hs2, hl2, hle2⟩
  obtain ⟨A2, c2, rfl⟩ := slice_of ho2
  have H2 := Lib.hid h2
  have HRC2 := Lib.hid (hk2.cells (by omega) HRC1.out)
  have HLB2 := Lib.hid (hk2.cells (by omega) HLB1.out)
  have hz2 : W1.heap.size ≤ W2.heap.size := hk2.size
  clear h2 hk2 HRC1 HLB1
  have HQ2 := Lib.hid ho2
  have HM2 := Lib.hid hm2
  have HS2 := Lib.hid hs2
  obtain ⟨m2, hm2e⟩ : ∃ m, xs2.length = m := ⟨_, rfl⟩
  rw [hm2e] at ⊢
  have HE2 := Lib.hid hm2e
  clear ho2 hm2 hs2 hl2 hle2 hm2e
  go_wp2_with (first
    | (refine (id ?_ : wpList _ _ _ (⟨none, .store _ (.tmp 5) _, _, _, _, _⟩ :: _) _ _)
       refine wpList_store_row rfl 31 (.tmp 5) (.tmp 56) rfl (w.heap.size + 3) _ (by rfl) (by rfl) 31 _ HLB2.out (by kernel_rfl) (by rfl) (all_one _ (by rfl)) ?_))
  obtain ⟨r, hr⟩ : ∃ r : LnR, r = ⟨.slice none 0 0, .slice none 0 0, .slice A2 m2 c2, onlyKept xs2⟩ := ⟨_, rfl⟩
  rw [show #[.int .i64 4, .int .i64 0, .int .i64 0, .int .i64 0, .int .i64 0, .int .i64 0, .int .i64 0, .int .i64 0, .int .i64 0, .int .i64 0, .int .i64 0, .int .i64 0, .int .i64 0, .int .i64 0, .slice none 0 0, .int .i64 0, .int .i64 0, .slice none 0 0, .int .i64 0, .slice A2 m2 c2] = (lnC r).toArray by rw [hr]; rfl]
  obtain ⟨Wz, hWz⟩ : ∃ Wz, W2.setRow (w.heap.size + 3) (lnC r).toArray = Wz := ⟨_, rfl⟩
  rw [hWz]
  have HLBz := Lib.hid (show Wz.heap[w.heap.size + 3]? = some (.cells (lnC r).toArray 31 (0, 0)) by rw [← hWz]; exact setRow_heap _ _ _ _ _ _ HLB2.out)
  have HRCz := Lib.hid (show Wz.heap[w.heap.size]? = some (.cells #[.int .i64 0, .int .i64 0, .int .i64 0, .int .i64 0, .int .i64 0, .int .i64 0, .int .i64 0, .int .i64 0, .int .i64 0, .int .i64 0, .int .i64 0, .int .i64 0, .int .i64 0, .int .i64 0, .slice none 0 0, .int .i64 0, .int .i64 0, .slice none 0 0, .int .i64 0, .slice none 0 0] 31 (0, 0)) by rw [← hWz]; exact (setRow_other _ _ _ _ (by simp)).trans HRC2.out)
  have HRz := Lib.hid (show RSt w (w.heap.size + 2) ws2 ok2 Wz by rw [← hWz]; exact RdsRSt_row H2.out (by omega) _)
  have hlb1 : w.heap.size + 3 < W1.heap.size := HLBS.out
  have HINz := Lib.hid (show LnOw Wz W1.heap.size r by rw [← hWz]; exact LnOw.row (show LnOw W2 W1.heap.size r by rw [hr]; exact ⟨World.ownsRow_nil _ _ _ _, World.ownsRow_nil _ _ _ _, by dsimp only; rw [← HE2.out]; exact HQ2.out⟩) HLB2.out)
  have HLN := Lib.hid (fun W (hb : Below Wz.heap.size Wz W) => show LnOw (W.setRow w.heap.size (lnC r).toArray) w.heap.size r from ((HINz.out.below hb).row ((hb.block _ (Array.getElem?_eq_some_iff.1 HRCz.out).1).trans HRCz.out)).more (by omega))
  have HLS := Lib.hid (show LineS (splitC 32 text) true r.ln ws2 ok2 from by rw [hr]; exact line_at HW.out (lineS_crash HM2.out HS2.out))
  clear hr hWz HRC2 HLB2 H2
  cases ok2 with
  | true =>
    obtain ⟨WA, wn, wc, d0, dn, d1, df, dz⟩ := HRz.out.cells
    have HRG := Lib.hid (range_of HLBz.out)
    have HD := Lib.hid (And.intro d0 d1)
    have HDN := Lib.hid dn
    clear dn
    by_cases hws : ws2 = []
    · have HWS := Lib.hid hws
      have hwn : wn = 0 := by rw [HDN.out, hws]; rfl
      subst hwn
      have HL7 := Lib.hid (HLS.out.1 rfl hws).2.2
      clear hws
      refine wp_region_held_drew (S := fun w' => w'.rangeAt (w.heap.size + 3) 0 (lnC r) ∧ w'.cell? ⟨w.heap.size + 2, 0, none⟩ = some (.slice WA 0 wc) ∧ w'.cell? ⟨w.heap.size + 2, 1, none⟩ = some (.bool true)) (by kernel_rfl) ?_ (fun hHeld => ?_)
      · exact ⟨HRG.out, HD.out⟩
      refine wpAnyH_take (i := 0) (oi := ?oi0_125) (v := ?v0_125) ?hi0_125 (by kernel_rfl) ?hf0_125 (by kernel_rfl) ?hq0_125 ?hy0_125 hHeld ?rest0_125
      case hi0_125 => (simp only [List.getElem?_toArray, List.getElem?_cons_zero]; try exact rfl)
      case hf0_125 => kernel_rfl
      case hq0_125 => exact fun _ _ _ h => h
      case hy0_125 => (refine yieldsIf_load_mid ?_ 31 (.tmp 5) ?_ (w.heap.size + 3) 0 ?_ (lnC r) _ ?_ Tryz.underlying31 rfl (by kernel_rfl) <;> first | exact fun _ h => h.1 | rfl)
      try simp only [Act.put, List.setIfInBounds_toArray, List.set_cons_zero, List.set_cons_succ]
      refine wpAnyH_take (i := 1) (oi := ?oi1_126) (v := ?v1_126) ?hi1_126 (by kernel_rfl) ?hf1_126 (by kernel_rfl) ?hq1_126 ?hy1_126 hHeld ?rest1_126
      case hi1_126 => (simp only [List.getElem?_toArray, List.getElem?_cons_succ, List.getElem?_cons_zero]; try exact rfl)
      case hf1_126 => kernel_rfl
      case hq1_126 => exact fun _ _ _ h => h
      case hy1_126 => (refine Or.inl ⟨rfl, ?_⟩; intro w hSw; (try dsimp only at hSw); go_simp; try with_reducible rfl)
      try simp only [Act.put, List.setIfInBounds_toArray, List.set_cons_zero, List.set_cons_succ]
      refine wpAnyH_take (i := 2) (oi := ?oi2_127) (v := ?v2_127) ?hi2_127 (by kernel_rfl) ?hf2_127 (by kernel_rfl) ?hq2_127 ?hy2_127 hHeld ?rest2_127
      case hi2_127 => (simp only [List.getElem?_toArray, List.getElem?_cons_succ, List.getElem?_cons_zero]; try exact rfl)
      case hf2_127 => kernel_rfl
      case hq2_127 => exact fun _ _ _ h => h
      case hy2_127 => (refine Or.inl ⟨rfl, ?_⟩; intro w hSw; (try dsimp only at hSw); go_simp; try with_reducible rfl)
      try simp only [Act.put, List.setIfInBounds_toArray, List.set_cons_zero, List.set_cons_succ]
      refine wpAnyH_take (i := 3) (oi := ?oi3_128) (v := ?v3_128) ?hi3_128 (by kernel_rfl) ?hf3_128 (by kernel_rfl) ?hq3_128 ?hy3_128 hHeld ?rest3_128
      case hi3_128 => (simp only [List.getElem?_toArray, List.getElem?_cons_succ, List.getElem?_cons_zero]; try exact rfl)
      case hf3_128 => kernel_rfl
      case hq3_128 => exact fun _ _ _ h => h
      case hy3_128 => (refine Or.inl ⟨rfl, ?_⟩; intro w hSw; (try dsimp only at hSw); go_simp; try with_reducible rfl)
      try simp only [Act.put, List.setIfInBounds_toArray, List.set_cons_zero, List.set_cons_succ]
      refine wpAnyH_take (i := 4) (oi := ?oi4_129) (v := ?v4_129) ?hi4_129 (by kernel_rfl) ?hf4_129 (by kernel_rfl) ?hq4_129 ?hy4_129 hHeld ?rest4_129
      case hi4_129 => (simp only [List.getElem?_toArray, List.getElem?_cons_succ, List.getElem?_cons_zero]; try exact rfl)
      case hf4_129 => kernel_rfl
      case hq4_129 => exact fun _ _ _ h => h
      case hy4_129 => (refine Or.inl ⟨rfl, ?_⟩; intro w hSw; (try dsimp only at hSw); go_simp; try with_reducible rfl)
      try simp only [Act.put, List.setIfInBounds_toArray, List.set_cons_zero, List.set_cons_succ]
      refine wpAnyH_take (i := 5) (oi := ?oi5_130) (v := ?v5_130) ?hi5_130 (by kernel_rfl) ?hf5_130 (by kernel_rfl) ?hq5_130 ?hy5_130 hHeld ?rest5_130
      case hi5_130 => (simp only [List.getElem?_toArray, List.getElem?_cons_succ, List.getElem?_cons_zero]; try exact rfl)
      case hf5_130 => kernel_rfl
      case hq5_130 => exact fun _ _ _ h => h
      case hy5_130 => (refine Or.inl ⟨rfl, ?_⟩; intro w hSw; (try dsimp only at hSw); go_simp; try with_reducible rfl)
      try simp only [Act.put, List.setIfInBounds_toArray, List.set_cons_zero, List.set_cons_succ]
      refine wpAnyH_take (i := 6) (oi := ?oi6_131) (v := ?v6_131) ?hi6_131 (by kernel_rfl) ?hf6_131 (by kernel_rfl) ?hq6_131 ?hy6_131 hHeld ?rest6_131
      case hi6_131 => (simp only [List.getElem?_toArray, List.getElem?_cons_succ, List.getElem?_cons_zero]; try exact rfl)
      case hf6_131 => kernel_rfl
      case hq6_131 => exact fun _ _ _ h => h
      case hy6_131 => (refine Or.inl ⟨rfl, ?_⟩; intro w hSw; (try dsimp only at hSw); go_simp; try with_reducible rfl)
      try simp only [Act.put, List.setIfInBounds_toArray, List.set_cons_zero, List.set_cons_succ]
      refine wpAnyH_take (i := 7) (oi := ?oi7_132) (v := ?v7_132) ?hi7_132 (by kernel_rfl) ?hf7_132 (by kernel_rfl) ?hq7_132 ?hy7_132 hHeld ?rest7_132
      case hi7_132 => (simp only [List.getElem?_toArray, List.getElem?_cons_succ, List.getElem?_cons_zero]; try exact rfl)
      case hf7_132 => kernel_rfl
      case hq7_132 => exact fun _ _ _ h => h
      case hy7_132 => (refine Or.inl ⟨rfl, ?_⟩; intro w hSw; (try dsimp only at hSw); go_simp; try with_reducible rfl)
      try simp only [Act.put, List.setIfInBounds_toArray, List.set_cons_zero, List.set_cons_succ]
      refine wpAnyH_take (i := 8) (oi := ?oi8_133) (v := ?v8_133) ?hi8_133 (by kernel_rfl) ?hf8_133 (by kernel_rfl) ?hq8_133 ?hy8_133 hHeld ?rest8_133
      case hi8_133 => (simp only [List.getElem?_toArray, List.getElem?_cons_succ, List.getElem?_cons_zero]; try exact rfl)
      case hf8_133 => kernel_rfl
      case hq8_133 => exact fun _ _ _ h => h
      case hy8_133 => (refine Or.inl ⟨rfl, ?_⟩; intro w hSw; (try dsimp only at hSw); go_simp; try with_reducible rfl)
      try simp only [Act.put, List.setIfInBounds_toArray, List.set_cons_zero, List.set_cons_succ]
      refine wpAnyH_take (i := 9) (oi := ?oi9_134) (v := ?v9_134) ?hi9_134 (by kernel_rfl) ?hf9_134 (by kernel_rfl) ?hq9_134 ?hy9_134 hHeld ?rest9_134
      case hi9_134 => (simp only [List.getElem?_toArray, List.getElem?_cons_succ, List.getElem?_cons_zero]; try exact rfl)
      case hf9_134 => kernel_rfl
      case hq9_134 => exact fun _ _ _ h => h
      case hy9_134 => (refine Or.inl ⟨rfl, ?_⟩; intro w hSw; (try dsimp only at hSw); go_simp; try with_reducible rfl)
      try simp only [Act.put, List.setIfInBounds_toArray, List.set_cons_zero, List.set_cons_succ]
      refine wpAnyH_take (i := 10) (oi := ?oi10_135) (v := ?v10_135) ?hi10_135 (by kernel_rfl) ?hf10_135 (by kernel_rfl) ?hq10_135 ?hy10_135 hHeld ?rest10_135
      case hi10_135 => (simp only [List.getElem?_toArray, List.getElem?_cons_succ, List.getElem?_cons_zero]; try exact rfl)
      case hf10_135 => kernel_rfl
      case hq10_135 => exact fun _ _ _ h => h
      case hy10_135 => (refine Or.inl ⟨rfl, ?_⟩; intro w hSw; (try dsimp only at hSw); go_simp; try with_reducible rfl)
      try simp only [Act.put, List.setIfInBounds_toArray, List.set_cons_zero, List.set_cons_succ]
      refine wpAnyH_take (i := 11) (oi := ?oi11_136) (v := ?v11_136) ?hi11_136 (by kernel_rfl) ?hf11_136 (by kernel_rfl) ?hq11_136 ?hy11_136 hHeld ?rest11_136
      case hi11_136 => (simp only [List.getElem?_toArray, List.getElem?_cons_succ, List.getElem?_cons_zero]; try exact rfl)
      case hf11_136 => kernel_rfl
      case hq11_136 => exact fun _ _ _ h => h
      case hy11_136 => (refine Or.inl ⟨rfl, ?_⟩; intro w hSw; (try dsimp only at hSw); go_simp; try with_reducible rfl)
      try simp only [Act.put, List.setIfInBounds_toArray, List.set_cons_zero, List.set_cons_succ]
      refine wpAnyH_take (i := 12) (oi := ?oi12_137) (v := ?v12_137) ?hi12_137 (by kernel_rfl) ?hf12_137 (by kernel_rfl) ?hq12_137 ?hy12_137 hHeld ?rest12_137
      case hi12_137 => (simp only [List.getElem?_toArray, List.getElem?_cons_succ, List.getElem?_cons_zero]; try exact rfl)
      case hf12_137 => kernel_rfl
      case hq12_137 => exact fun _ _ _ h => h
      case hy12_137 => (refine Or.inl ⟨rfl, ?_⟩; intro w hSw; (try dsimp only at hSw); go_simp; try with_reducible rfl)
      try simp only [Act.put, List.setIfInBounds_toArray, List.set_cons_zero, List.set_cons_succ]
      refine wpAnyH_take (i := 13) (oi := ?oi13_138) (v := ?v13_138) ?hi13_138 (by kernel_rfl) ?hf13_138 (by kernel_rfl) ?hq13_138 ?hy13_138 hHeld ?rest13_138
      case hi13_138 => (simp only [List.getElem?_toArray, List.getElem?_cons_succ, List.getElem?_cons_zero]; try exact rfl)
      case hf13_138 => kernel_rfl
      case hq13_138 => exact fun _ _ _ h => h
      case hy13_138 => (refine Or.inl ⟨rfl, ?_⟩; intro w hSw; (try dsimp only at hSw); go_simp; try with_reducible rfl)
      try simp only [Act.put, List.setIfInBounds_toArray, List.set_cons_zero, List.set_cons_succ]
      refine wpAnyH_take (i := 14) (oi := ?oi14_139) (v := ?v14_139) ?hi14_139 (by kernel_rfl) ?hf14_139 (by kernel_rfl) ?hq14_139 ?hy14_139 hHeld ?rest14_139
      case hi14_139 => (simp only [List.getElem?_toArray, List.getElem?_cons_succ, List.getElem?_cons_zero]; try exact rfl)
      case hf14_139 => kernel_rfl
      case hq14_139 => exact fun _ _ _ h => h
      case hy14_139 => (refine yieldsIf_load_mid ?_ 31 (.tmp 5) ?_ (w.heap.size + 3) 0 ?_ (lnC r) _ ?_ Tryz.underlying31 rfl (by kernel_rfl) <;> first | exact fun _ h => h.1 | rfl)
      try simp only [Act.put, List.setIfInBounds_toArray, List.set_cons_zero, List.set_cons_succ]
      refine wpAnyH_ready (rs := [15]) (by kernel_rfl) (by simp) ?_
      refine AllReadyH.cons (by simp only [List.getElem?_toArray, List.getElem?_cons_succ, List.getElem?_cons_zero]; try exact rfl) (fun K hK => ?_) AllReadyH.nil
      go_simp
      refine (Right_any r W1.heap.size Wz.drew (HINz.out.below (Below.refl _ _).drew).toIn HL7.out.2 HL7.out.1).mono ?_
      rintro e W5 ⟨rfl, hb5⟩
      have HB5 := Lib.hid (show Below Wz.heap.size Wz W5 from (Below.refl _ _).drew.trans hb5)
      clear hb5
      refine hK.out _ _ ⟨fun j v hj => keepA HB5.out (HRG.out j v hj), keepA HB5.out HD.out.1, keepA HB5.out HD.out.2⟩ (fun hHeld => ?_)
      clear hK K
      try simp only [Act.put, List.setIfInBounds_toArray, List.set_cons_zero, List.set_cons_succ]
      refine wpAnyH_take (i := 16) (oi := ?oi16_140) (v := ?v16_140) ?hi16_140 (by kernel_rfl) ?hf16_140 (by kernel_rfl) ?hq16_140 ?hy16_140 hHeld ?rest16_140
      case hi16_140 => (simp only [List.getElem?_toArray, List.getElem?_cons_succ, List.getElem?_cons_zero]; try exact rfl)
      case hf16_140 => kernel_rfl
      case hq16_140 => exact fun _ _ _ h => h
      case hy16_140 => (refine Or.inl ⟨rfl, ?_⟩; intro w hSw; (try dsimp only at hSw); go_simp; try with_reducible rfl)
      try simp only [Act.put, List.setIfInBounds_toArray, List.set_cons_zero, List.set_cons_succ]
      have HRC5 := Lib.hid ((HB5.out.block _ (Array.getElem?_eq_some_iff.1 HRCz.out).1).trans HRCz.out)
      refine wpAnyH_ready (rs := [17]) (by kernel_rfl) (by simp) ?_
      refine AllReadyH.cons (by simp only [List.getElem?_toArray, List.getElem?_cons_succ, List.getElem?_cons_zero]; try exact rfl) (fun K hK => ?_) AllReadyH.nil
      refine wp_store_row 31 (.tmp 2) (.tmp 60) rfl w.heap.size (lnC r).toArray (by rfl) (by rfl) 31 _ HRC5.out (by kernel_rfl) (by rfl) (by simpa using lnC_one HINz.out.toIn) ?_
      refine hK.out _ _ ⟨range_row hHeld.1 (by simp), (cell_setRow_other _ _ _ _ (by simp)).trans hHeld.2.1, (cell_setRow_other _ _ _ _ (by simp)).trans hHeld.2.2⟩ (fun hHeld => ?_)
      clear hK K
      try simp only [Act.put]
      refine wpAnyH_take (i := 18) (oi := ?oi18_141) (v := ?v18_141) ?hi18_141 (by kernel_rfl) ?hf18_141 (by kernel_rfl) ?hq18_141 ?hy18_141 hHeld ?rest18_141
      case hi18_141 => (simp only [List.getElem?_toArray, List.getElem?_cons_succ, List.getElem?_cons_zero]; try exact rfl)
      case hf18_141 => kernel_rfl
      case hq18_141 => exact fun _ _ _ h => h
      case hy18_141 => (refine Or.inl ⟨rfl, ?_⟩; intro w hSw; (try dsimp only at hSw); go_simp; try with_reducible rfl)
      try simp only [Act.put, List.setIfInBounds_toArray, List.set_cons_zero, List.set_cons_succ]
      refine wpAnyH_done (by kernel_rfl) ?_ _
      go_wp2_with fail
      have hF := setRow_heap _ _ _ (lnC r).toArray _ _ HRC5.out
      refine bodyPost_ret (v := .tuple #[.agg (lnC r).toArray, .bool (rightB r.ln)]) (results_cell_slot (p := 2) (q := 3) (by kernel_rfl) _ _ w.heap.size _ _ _ _ _ (by rfl) (by rfl) rfl hF Tryz.underlying31 (by kernel_rfl)) rfl ?_
      exact ⟨r, (rightB r.ln), rfl, below_setRow (bt HB5.out HRz.out.low) (Nat.le_refl _) _, lnC_one HINz.out.toIn, fun h => ⟨HLN.out W5 HB5.out, read_yes HLS.out rfl HWS.out (rightB_of h)⟩, fun h => read_no HLS.out (fun h2 => by rw [right_yes h2.2.2] at h; exact absurd h (by decide))⟩
    · have HNR := Lib.hid (read_no HLS.out (fun h => hws h.2.1))
      have hwn : 0 < wn := by rw [HDN.out]; exact List.length_pos_iff.2 hws
      have hwq : ((wn : Int) == 0) = false := beq_eq_false_iff_ne.2 (by omega)
      clear hws
      refine wp_region_held_drew (S := fun w' => w'.rangeAt (w.heap.size + 3) 0 (lnC r) ∧ w'.cell? ⟨w.heap.size + 2, 0, none⟩ = some (.slice WA wn wc) ∧ w'.cell? ⟨w.heap.size + 2, 1, none⟩ = some (.bool true)) (by kernel_rfl) ?_ (fun hHeld => ?_)
      · exact ⟨HRG.out, HD.out⟩
      refine wpAnyH_take (i := 0) (oi := ?oi0_142) (v := ?v0_142) ?hi0_142 (by kernel_rfl) ?hf0_142 (by kernel_rfl) ?hq0_142 ?hy0_142 hHeld ?rest0_142
      case hi0_142 => (simp only [List.getElem?_toArray, List.getElem?_cons_zero]; try exact rfl)
      case hf0_142 => kernel_rfl
      case hq0_142 => exact fun _ _ _ h => h
      case hy0_142 => (refine yieldsIf_load_mid ?_ 31 (.tmp 5) ?_ (w.heap.size + 3) 0 ?_ (lnC r) _ ?_ Tryz.underlying31 rfl (by kernel_rfl) <;> first | exact fun _ h => h.1 | rfl)
      try simp only [Act.put, List.setIfInBounds_toArray, List.set_cons_zero, List.set_cons_succ]
      refine wpAnyH_take (i := 1) (oi := ?oi1_143) (v := ?v1_143) ?hi1_143 (by kernel_rfl) ?hf1_143 (by kernel_rfl) ?hq1_143 ?hy1_143 hHeld ?rest1_143
      case hi1_143 => (simp only [List.getElem?_toArray, List.getElem?_cons_succ, List.getElem?_cons_zero]; try exact rfl)
      case hf1_143 => kernel_rfl
      case hq1_143 => exact fun _ _ _ h => h
      case hy1_143 => (refine Or.inl ⟨rfl, ?_⟩; intro w hSw; (try dsimp only at hSw); go_simp; try with_reducible rfl)
      try simp only [Act.put, List.setIfInBounds_toArray, List.set_cons_zero, List.set_cons_succ]
      refine wpAnyH_take (i := 2) (oi := ?oi2_144) (v := ?v2_144) ?hi2_144 (by kernel_rfl) ?hf2_144 (by kernel_rfl) ?hq2_144 ?hy2_144 hHeld ?rest2_144
      case hi2_144 => (simp only [List.getElem?_toArray, List.getElem?_cons_succ, List.getElem?_cons_zero]; try exact rfl)
      case hf2_144 => kernel_rfl
      case hq2_144 => exact fun _ _ _ h => h
      case hy2_144 => (refine Or.inl ⟨rfl, ?_⟩; intro w hSw; (try dsimp only at hSw); go_simp; try with_reducible rfl)
      try simp only [Act.put, List.setIfInBounds_toArray, List.set_cons_zero, List.set_cons_succ]
      refine wpAnyH_take (i := 3) (oi := ?oi3_145) (v := ?v3_145) ?hi3_145 (by kernel_rfl) ?hf3_145 (by kernel_rfl) ?hq3_145 ?hy3_145 hHeld ?rest3_145
      case hi3_145 => (simp only [List.getElem?_toArray, List.getElem?_cons_succ, List.getElem?_cons_zero]; try exact rfl)
      case hf3_145 => kernel_rfl
      case hq3_145 => exact fun _ _ _ h => h
      case hy3_145 => (refine Or.inl ⟨rfl, ?_⟩; intro w hSw; (try dsimp only at hSw); go_simp; try with_reducible rfl)
      try simp only [Act.put, List.setIfInBounds_toArray, List.set_cons_zero, List.set_cons_succ]
      refine wpAnyH_take (i := 4) (oi := ?oi4_146) (v := ?v4_146) ?hi4_146 (by kernel_rfl) ?hf4_146 (by kernel_rfl) ?hq4_146 ?hy4_146 hHeld ?rest4_146
      case hi4_146 => (simp only [List.getElem?_toArray, List.getElem?_cons_succ, List.getElem?_cons_zero]; try exact rfl)
      case hf4_146 => kernel_rfl
      case hq4_146 => exact fun _ _ _ h => h
      case hy4_146 => (refine Or.inl ⟨rfl, ?_⟩; intro w hSw; (try dsimp only at hSw); go_simp; try with_reducible rfl)
      try simp only [Act.put, List.setIfInBounds_toArray, List.set_cons_zero, List.set_cons_succ]
      refine wpAnyH_take (i := 5) (oi := ?oi5_147) (v := ?v5_147) ?hi5_147 (by kernel_rfl) ?hf5_147 (by kernel_rfl) ?hq5_147 ?hy5_147 hHeld ?rest5_147
      case hi5_147 => (simp only [List.getElem?_toArray, List.getElem?_cons_succ, List.getElem?_cons_zero]; try exact rfl)
      case hf5_147 => kernel_rfl
      case hq5_147 => exact fun _ _ _ h => h
      case hy5_147 => (refine Or.inl ⟨rfl, ?_⟩; intro w hSw; (try dsimp only at hSw); go_simp; try with_reducible rfl)
      try simp only [Act.put, List.setIfInBounds_toArray, List.set_cons_zero, List.set_cons_succ]
      refine wpAnyH_take (i := 6) (oi := ?oi6_148) (v := ?v6_148) ?hi6_148 (by kernel_rfl) ?hf6_148 (by kernel_rfl) ?hq6_148 ?hy6_148 hHeld ?rest6_148
      case hi6_148 => (simp only [List.getElem?_toArray, List.getElem?_cons_succ, List.getElem?_cons_zero]; try exact rfl)
      case hf6_148 => kernel_rfl
      case hq6_148 => exact fun _ _ _ h => h
      case hy6_148 => (refine Or.inl ⟨rfl, ?_⟩; intro w hSw; (try dsimp only at hSw); go_simp; try with_reducible rfl)
      try simp only [Act.put, List.setIfInBounds_toArray, List.set_cons_zero, List.set_cons_succ]
      refine wpAnyH_take (i := 7) (oi := ?oi7_149) (v := ?v7_149) ?hi7_149 (by kernel_rfl) ?hf7_149 (by kernel_rfl) ?hq7_149 ?hy7_149 hHeld ?rest7_149
      case hi7_149 => (simp only [List.getElem?_toArray, List.getElem?_cons_succ, List.getElem?_cons_zero]; try exact rfl)
      case hf7_149 => kernel_rfl
      case hq7_149 => exact fun _ _ _ h => h
      case hy7_149 => (refine Or.inl ⟨rfl, ?_⟩; intro w hSw; (try dsimp only at hSw); go_simp; try with_reducible rfl)
      try simp only [Act.put, List.setIfInBounds_toArray, List.set_cons_zero, List.set_cons_succ]
      refine wpAnyH_take (i := 8) (oi := ?oi8_150) (v := ?v8_150) ?hi8_150 (by kernel_rfl) ?hf8_150 (by kernel_rfl) ?hq8_150 ?hy8_150 hHeld ?rest8_150
      case hi8_150 => (simp only [List.getElem?_toArray, List.getElem?_cons_succ, List.getElem?_cons_zero]; try exact rfl)
      case hf8_150 => kernel_rfl
      case hq8_150 => exact fun _ _ _ h => h
      case hy8_150 => (refine Or.inl ⟨rfl, ?_⟩; intro w hSw; (try dsimp only at hSw); go_simp; try with_reducible rfl)
      try simp only [Act.put, List.setIfInBounds_toArray, List.set_cons_zero, List.set_cons_succ]
      refine wpAnyH_take (i := 9) (oi := ?oi9_151) (v := ?v9_151) ?hi9_151 (by kernel_rfl) ?hf9_151 (by kernel_rfl) ?hq9_151 ?hy9_151 hHeld ?rest9_151
      case hi9_151 => (simp only [List.getElem?_toArray, List.getElem?_cons_succ, List.getElem?_cons_zero]; try exact rfl)
      case hf9_151 => kernel_rfl
      case hq9_151 => exact fun _ _ _ h => h
      case hy9_151 => (refine Or.inl ⟨rfl, ?_⟩; intro w hSw; (try dsimp only at hSw); go_simp; try with_reducible rfl)
      try simp only [Act.put, List.setIfInBounds_toArray, List.set_cons_zero, List.set_cons_succ]
      refine wpAnyH_take (i := 10) (oi := ?oi10_152) (v := ?v10_152) ?hi10_152 (by kernel_rfl) ?hf10_152 (by kernel_rfl) ?hq10_152 ?hy10_152 hHeld ?rest10_152
      case hi10_152 => (simp only [List.getElem?_toArray, List.getElem?_cons_succ, List.getElem?_cons_zero]; try exact rfl)
      case hf10_152 => kernel_rfl
      case hq10_152 => exact fun _ _ _ h => h
      case hy10_152 => (refine Or.inl ⟨rfl, ?_⟩; intro w hSw; (try dsimp only at hSw); go_simp; try with_reducible rfl)
      try simp only [Act.put, List.setIfInBounds_toArray, List.set_cons_zero, List.set_cons_succ]
      refine wpAnyH_take (i := 11) (oi := ?oi11_153) (v := ?v11_153) ?hi11_153 (by kernel_rfl) ?hf11_153 (by kernel_rfl) ?hq11_153 ?hy11_153 hHeld ?rest11_153
      case hi11_153 => (simp only [List.getElem?_toArray, List.getElem?_cons_succ, List.getElem?_cons_zero]; try exact rfl)
      case hf11_153 => kernel_rfl
      case hq11_153 => exact fun _ _ _ h => h
      case hy11_153 => (refine Or.inl ⟨rfl, ?_⟩; intro w hSw; (try dsimp only at hSw); go_simp; try with_reducible rfl)
      try simp only [Act.put, List.setIfInBounds_toArray, List.set_cons_zero, List.set_cons_succ]
      refine wpAnyH_take (i := 12) (oi := ?oi12_154) (v := ?v12_154) ?hi12_154 (by kernel_rfl) ?hf12_154 (by kernel_rfl) ?hq12_154 ?hy12_154 hHeld ?rest12_154
      case hi12_154 => (simp only [List.getElem?_toArray, List.getElem?_cons_succ, List.getElem?_cons_zero]; try exact rfl)
      case hf12_154 => kernel_rfl
      case hq12_154 => exact fun _ _ _ h => h
      case hy12_154 => (refine Or.inl ⟨rfl, ?_⟩; intro w hSw; (try dsimp only at hSw); go_simp; try with_reducible rfl)
      try simp only [Act.put, List.setIfInBounds_toArray, List.set_cons_zero, List.set_cons_succ]
      refine wpAnyH_take (i := 13) (oi := ?oi13_155) (v := ?v13_155) ?hi13_155 (by kernel_rfl) ?hf13_155 (by kernel_rfl) ?hq13_155 ?hy13_155 hHeld ?rest13_155
      case hi13_155 => (simp only [List.getElem?_toArray, List.getElem?_cons_succ, List.getElem?_cons_zero]; try exact rfl)
      case hf13_155 => kernel_rfl
      case hq13_155 => exact fun _ _ _ h => h
      case hy13_155 => (refine Or.inl ⟨rfl, ?_⟩; intro w hSw; (try dsimp only at hSw); go_simp; try with_reducible rfl)
      try simp only [Act.put, List.setIfInBounds_toArray, List.set_cons_zero, List.set_cons_succ]
      refine wpAnyH_take (i := 14) (oi := ?oi14_156) (v := undef) ?hi14_156 (by kernel_rfl) ?hf14_156 (by kernel_rfl) ?hq14_156 ?hy14_156 hHeld ?rest14_156
      case hi14_156 => (simp only [List.getElem?_toArray, List.getElem?_cons_succ, List.getElem?_cons_zero]; try exact rfl)
      case hf14_156 => kernel_rfl
      case hq14_156 => exact fun _ _ _ h => h
      case hy14_156 => exact Or.inr ⟨rfl, rfl⟩
      try simp only [Act.put, List.setIfInBounds_toArray, List.set_cons_zero, List.set_cons_succ]
      refine wpAnyH_take (i := 15) (oi := ?oi15_157) (v := undef) ?hi15_157 (by kernel_rfl) ?hf15_157 (by kernel_rfl) ?hq15_157 ?hy15_157 hHeld ?rest15_157
      case hi15_157 => (simp only [List.getElem?_toArray, List.getElem?_cons_succ, List.getElem?_cons_zero]; try exact rfl)
      case hf15_157 => kernel_rfl
      case hq15_157 => exact fun _ _ _ h => h
      case hy15_157 => exact Or.inr ⟨rfl, rfl⟩
      try simp only [Act.put, List.setIfInBounds_toArray, List.set_cons_zero, List.set_cons_succ]
      refine wpAnyH_take (i := 16) (oi := ?oi16_158) (v := ?v16_158) ?hi16_158 (by kernel_rfl) ?hf16_158 (by kernel_rfl) ?hq16_158 ?hy16_158 hHeld ?rest16_158
      case hi16_158 => (simp only [List.getElem?_toArray, List.getElem?_cons_succ, List.getElem?_cons_zero]; try exact rfl)
      case hf16_158 => kernel_rfl
      case hq16_158 => exact fun _ _ _ h => h
      case hy16_158 => (refine Or.inl ⟨rfl, ?_⟩; intro w hSw; (try dsimp only at hSw); go_simp; try with_reducible rfl)
      try simp only [Act.put, List.setIfInBounds_toArray, List.set_cons_zero, List.set_cons_succ]
      refine wpAnyH_ready (rs := [17]) (by kernel_rfl) (by simp) ?_
      refine AllReadyH.cons (by simp only [List.getElem?_toArray, List.getElem?_cons_succ, List.getElem?_cons_zero]; try exact rfl) (fun K hK => ?_) AllReadyH.nil
      refine wp_store_row 31 (.tmp 2) (.tmp 60) rfl w.heap.size (lnC r).toArray (by rfl) (by rfl) 31 _ (show Wz.drew.heap[w.heap.size]? = some (.cells #[.int .i64 0, .int .i64 0, .int .i64 0, .int .i64 0, .int .i64 0, .int .i64 0, .int .i64 0, .int .i64 0, .int .i64 0, .int .i64 0, .int .i64 0, .int .i64 0, .int .i64 0, .int .i64 0, .slice none 0 0, .int .i64 0, .int .i64 0, .slice none 0 0, .int .i64 0, .slice none 0 0] 31 (0, 0)) from HRCz.out) (by kernel_rfl) (by rfl) (by simpa using lnC_one HINz.out.toIn) ?_
      refine hK.out _ _ ⟨range_row hHeld.1 (by simp), (cell_setRow_other _ _ _ _ (by simp)).trans hHeld.2.1, (cell_setRow_other _ _ _ _ (by simp)).trans hHeld.2.2⟩ (fun hHeld => ?_)
      clear hK K
      try simp only [Act.put]
      refine wpAnyH_take (i := 18) (oi := ?oi18_159) (v := ?v18_159) ?hi18_159 (by kernel_rfl) ?hf18_159 (by kernel_rfl) ?hq18_159 ?hy18_159 hHeld ?rest18_159
      case hi18_159 => (simp only [List.getElem?_toArray, List.getElem?_cons_succ, List.getElem?_cons_zero]; try exact rfl)
      case hf18_159 => kernel_rfl
      case hq18_159 => exact fun _ _ _ h => h
      case hy18_159 => (refine Or.inl ⟨rfl, ?_⟩; intro w hSw; (try dsimp only at hSw); go_simp; try with_reducible rfl)
      try simp only [Act.put, List.setIfInBounds_toArray, List.set_cons_zero, List.set_cons_succ]
      refine wpAnyH_done (by kernel_rfl) ?_ _
      go_wp2_with fail
      have hF := setRow_heap _ _ _ (lnC r).toArray _ _ (show Wz.drew.heap[w.heap.size]? = some (.cells #[.int .i64 0, .int .i64 0, .int .i64 0, .int .i64 0, .int .i64 0, .int .i64 0, .int .i64 0, .int .i64 0, .int .i64 0, .int .i64 0, .int .i64 0, .int .i64 0, .int .i64 0, .int .i64 0, .slice none 0 0, .int .i64 0, .int .i64 0, .slice none 0 0, .int .i64 0, .slice none 0 0] 31 (0, 0)) from HRCz.out)
      refine bodyPost_ret (v := .tuple #[.agg (lnC r).toArray, .bool false]) (results_cell_slot (p := 2) (q := 3) (by kernel_rfl) _ _ w.heap.size _ _ _ _ _ (by rfl) (by rfl) rfl hF Tryz.underlying31 (by kernel_rfl)) rfl ?_
      exact ⟨r, false, rfl, below_setRow (HRz.out.low.drew) (Nat.le_refl _) _, lnC_one HINz.out.toIn, fun h => absurd h (by decide), fun _ => HNR.out⟩
  | false =>
    obtain ⟨WA, wn, wc, d0, dn, d1, df, dz⟩ := HRz.out.cells
    have HRG := Lib.hid (range_of HLBz.out)
    have HD := Lib.hid (And.intro d0 d1)
    have HDN := Lib.hid dn
    clear dn
    have HNR := Lib.hid (read_no HLS.out (fun h => absurd h.1 (by decide)))
    refine wp_region_held_drew (S := fun w' => w'.rangeAt (w.heap.size + 3) 0 (lnC r) ∧ w'.cell? ⟨w.heap.size + 2, 0, none⟩ = some (.slice WA wn wc) ∧ w'.cell? ⟨w.heap.size + 2, 1, none⟩ = some (.bool false)) (by kernel_rfl) ?_ (fun hHeld => ?_)
    · exact ⟨HRG.out, HD.out⟩
    refine wpAnyH_take (i := 0) (oi := ?oi0_107) (v := ?v0_107) ?hi0_107 (by kernel_rfl) ?hf0_107 (by kernel_rfl) ?hq0_107 ?hy0_107 hHeld ?rest0_107
    case hi0_107 => (simp only [List.getElem?_toArray, List.getElem?_cons_zero]; try exact rfl)
    case hf0_107 => kernel_rfl
    case hq0_107 => exact fun _ _ _ h => h
    case hy0_107 => (refine yieldsIf_load_mid ?_ 31 (.tmp 5) ?_ (w.heap.size + 3) 0 ?_ (lnC r) _ ?_ Tryz.underlying31 rfl (by kernel_rfl) <;> first | exact fun _ h => h.1 | rfl)
    try simp only [Act.put, List.setIfInBounds_toArray, List.set_cons_zero, List.set_cons_succ]
    refine wpAnyH_take (i := 1) (oi := ?oi1_108) (v := ?v1_108) ?hi1_108 (by kernel_rfl) ?hf1_108 (by kernel_rfl) ?hq1_108 ?hy1_108 hHeld ?rest1_108
    case hi1_108 => (simp only [List.getElem?_toArray, List.getElem?_cons_succ, List.getElem?_cons_zero]; try exact rfl)
    case hf1_108 => kernel_rfl
    case hq1_108 => exact fun _ _ _ h => h
    case hy1_108 => (refine Or.inl ⟨rfl, ?_⟩; intro w hSw; (try dsimp only at hSw); go_simp; try with_reducible rfl)
    try simp only [Act.put, List.setIfInBounds_toArray, List.set_cons_zero, List.set_cons_succ]
    refine wpAnyH_take (i := 2) (oi := ?oi2_109) (v := ?v2_109) ?hi2_109 (by kernel_rfl) ?hf2_109 (by kernel_rfl) ?hq2_109 ?hy2_109 hHeld ?rest2_109
    case hi2_109 => (simp only [List.getElem?_toArray, List.getElem?_cons_succ, List.getElem?_cons_zero]; try exact rfl)
    case hf2_109 => kernel_rfl
    case hq2_109 => exact fun _ _ _ h => h
    case hy2_109 => (refine Or.inl ⟨rfl, ?_⟩; intro w hSw; (try dsimp only at hSw); go_simp; try with_reducible rfl)
    try simp only [Act.put, List.setIfInBounds_toArray, List.set_cons_zero, List.set_cons_succ]
    refine wpAnyH_take (i := 3) (oi := ?oi3_110) (v := ?v3_110) ?hi3_110 (by kernel_rfl) ?hf3_110 (by kernel_rfl) ?hq3_110 ?hy3_110 hHeld ?rest3_110
    case hi3_110 => (simp only [List.getElem?_toArray, List.getElem?_cons_succ, List.getElem?_cons_zero]; try exact rfl)
    case hf3_110 => kernel_rfl
    case hq3_110 => exact fun _ _ _ h => h
    case hy3_110 => (refine Or.inl ⟨rfl, ?_⟩; intro w hSw; (try dsimp only at hSw); go_simp; try with_reducible rfl)
    try simp only [Act.put, List.setIfInBounds_toArray, List.set_cons_zero, List.set_cons_succ]
    refine wpAnyH_take (i := 4) (oi := ?oi4_111) (v := ?v4_111) ?hi4_111 (by kernel_rfl) ?hf4_111 (by kernel_rfl) ?hq4_111 ?hy4_111 hHeld ?rest4_111
    case hi4_111 => (simp only [List.getElem?_toArray, List.getElem?_cons_succ, List.getElem?_cons_zero]; try exact rfl)
    case hf4_111 => kernel_rfl
    case hq4_111 => exact fun _ _ _ h => h
    case hy4_111 => (refine Or.inl ⟨rfl, ?_⟩; intro w hSw; (try dsimp only at hSw); go_simp; try with_reducible rfl)
    try simp only [Act.put, List.setIfInBounds_toArray, List.set_cons_zero, List.set_cons_succ]
    refine wpAnyH_take (i := 5) (oi := ?oi5_112) (v := ?v5_112) ?hi5_112 (by kernel_rfl) ?hf5_112 (by kernel_rfl) ?hq5_112 ?hy5_112 hHeld ?rest5_112
    case hi5_112 => (simp only [List.getElem?_toArray, List.getElem?_cons_succ, List.getElem?_cons_zero]; try exact rfl)
    case hf5_112 => kernel_rfl
    case hq5_112 => exact fun _ _ _ h => h
    case hy5_112 => (refine Or.inl ⟨rfl, ?_⟩; intro w hSw; (try dsimp only at hSw); go_simp; try with_reducible rfl)
    try simp only [Act.put, List.setIfInBounds_toArray, List.set_cons_zero, List.set_cons_succ]
    refine wpAnyH_take (i := 6) (oi := ?oi6_113) (v := undef) ?hi6_113 (by kernel_rfl) ?hf6_113 (by kernel_rfl) ?hq6_113 ?hy6_113 hHeld ?rest6_113
    case hi6_113 => (simp only [List.getElem?_toArray, List.getElem?_cons_succ, List.getElem?_cons_zero]; try exact rfl)
    case hf6_113 => kernel_rfl
    case hq6_113 => exact fun _ _ _ h => h
    case hy6_113 => exact Or.inr ⟨rfl, rfl⟩
    try simp only [Act.put, List.setIfInBounds_toArray, List.set_cons_zero, List.set_cons_succ]
    refine wpAnyH_take (i := 7) (oi := ?oi7_114) (v := undef) ?hi7_114 (by kernel_rfl) ?hf7_114 (by kernel_rfl) ?hq7_114 ?hy7_114 hHeld ?rest7_114
    case hi7_114 => (simp only [List.getElem?_toArray, List.getElem?_cons_succ, List.getElem?_cons_zero]; try exact rfl)
    case hf7_114 => kernel_rfl
    case hq7_114 => exact fun _ _ _ h => h
    case hy7_114 => exact Or.inr ⟨rfl, rfl⟩
    try simp only [Act.put, List.setIfInBounds_toArray, List.set_cons_zero, List.set_cons_succ]
    refine wpAnyH_take (i := 8) (oi := ?oi8_115) (v := undef) ?hi8_115 (by kernel_rfl) ?hf8_115 (by kernel_rfl) ?hq8_115 ?hy8_115 hHeld ?rest8_115
    case hi8_115 => (simp only [List.getElem?_toArray, List.getElem?_cons_succ, List.getElem?_cons_zero]; try exact rfl)
    case hf8_115 => kernel_rfl
    case hq8_115 => exact fun _ _ _ h => h
    case hy8_115 => exact Or.inr ⟨rfl, rfl⟩
    try simp only [Act.put, List.setIfInBounds_toArray, List.set_cons_zero, List.set_cons_succ]
    refine wpAnyH_take (i := 9) (oi := ?oi9_116) (v := undef) ?hi9_116 (by kernel_rfl) ?hf9_116 (by kernel_rfl) ?hq9_116 ?hy9_116 hHeld ?rest9_116
    case hi9_116 => (simp only [List.getElem?_toArray, List.getElem?_cons_succ, List.getElem?_cons_zero]; try exact rfl)
    case hf9_116 => kernel_rfl
    case hq9_116 => exact fun _ _ _ h => h
    case hy9_116 => exact Or.inr ⟨rfl, rfl⟩
    try simp only [Act.put, List.setIfInBounds_toArray, List.set_cons_zero, List.set_cons_succ]
    refine wpAnyH_take (i := 10) (oi := ?oi10_117) (v := undef) ?hi10_117 (by kernel_rfl) ?hf10_117 (by kernel_rfl) ?hq10_117 ?hy10_117 hHeld ?rest10_117
    case hi10_117 => (simp only [List.getElem?_toArray, List.getElem?_cons_succ, List.getElem?_cons_zero]; try exact rfl)
    case hf10_117 => kernel_rfl
    case hq10_117 => exact fun _ _ _ h => h
    case hy10_117 => exact Or.inr ⟨rfl, rfl⟩
    try simp only [Act.put, List.setIfInBounds_toArray, List.set_cons_zero, List.set_cons_succ]
    refine wpAnyH_take (i := 11) (oi := ?oi11_118) (v := undef) ?hi11_118 (by kernel_rfl) ?hf11_118 (by kernel_rfl) ?hq11_118 ?hy11_118 hHeld ?rest11_118
    case hi11_118 => (simp only [List.getElem?_toArray, List.getElem?_cons_succ, List.getElem?_cons_zero]; try exact rfl)
    case hf11_118 => kernel_rfl
    case hq11_118 => exact fun _ _ _ h => h
    case hy11_118 => exact Or.inr ⟨rfl, rfl⟩
    try simp only [Act.put, List.setIfInBounds_toArray, List.set_cons_zero, List.set_cons_succ]
    refine wpAnyH_take (i := 12) (oi := ?oi12_119) (v := ?v12_119) ?hi12_119 (by kernel_rfl) ?hf12_119 (by kernel_rfl) ?hq12_119 ?hy12_119 hHeld ?rest12_119
    case hi12_119 => (simp only [List.getElem?_toArray, List.getElem?_cons_succ, List.getElem?_cons_zero]; try exact rfl)
    case hf12_119 => kernel_rfl
    case hq12_119 => exact fun _ _ _ h => h
    case hy12_119 => (refine Or.inl ⟨rfl, ?_⟩; intro w hSw; (try dsimp only at hSw); go_simp; try with_reducible rfl)
    try simp only [Act.put, List.setIfInBounds_toArray, List.set_cons_zero, List.set_cons_succ]
    refine wpAnyH_take (i := 13) (oi := ?oi13_120) (v := ?v13_120) ?hi13_120 (by kernel_rfl) ?hf13_120 (by kernel_rfl) ?hq13_120 ?hy13_120 hHeld ?rest13_120
    case hi13_120 => (simp only [List.getElem?_toArray, List.getElem?_cons_succ, List.getElem?_cons_zero]; try exact rfl)
    case hf13_120 => kernel_rfl
    case hq13_120 => exact fun _ _ _ h => h
    case hy13_120 => (refine Or.inl ⟨rfl, ?_⟩; intro w hSw; (try dsimp only at hSw); go_simp; try with_reducible rfl)
    try simp only [Act.put, List.setIfInBounds_toArray, List.set_cons_zero, List.set_cons_succ]
    refine wpAnyH_take (i := 14) (oi := ?oi14_121) (v := undef) ?hi14_121 (by kernel_rfl) ?hf14_121 (by kernel_rfl) ?hq14_121 ?hy14_121 hHeld ?rest14_121
    case hi14_121 => (simp only [List.getElem?_toArray, List.getElem?_cons_succ, List.getElem?_cons_zero]; try exact rfl)
    case hf14_121 => kernel_rfl
    case hq14_121 => exact fun _ _ _ h => h
    case hy14_121 => exact Or.inr ⟨rfl, rfl⟩
    try simp only [Act.put, List.setIfInBounds_toArray, List.set_cons_zero, List.set_cons_succ]
    refine wpAnyH_take (i := 15) (oi := ?oi15_122) (v := undef) ?hi15_122 (by kernel_rfl) ?hf15_122 (by kernel_rfl) ?hq15_122 ?hy15_122 hHeld ?rest15_122
    case hi15_122 => (simp only [List.getElem?_toArray, List.getElem?_cons_succ, List.getElem?_cons_zero]; try exact rfl)
    case hf15_122 => kernel_rfl
    case hq15_122 => exact fun _ _ _ h => h
    case hy15_122 => exact Or.inr ⟨rfl, rfl⟩
    try simp only [Act.put, List.setIfInBounds_toArray, List.set_cons_zero, List.set_cons_succ]
    refine wpAnyH_take (i := 16) (oi := ?oi16_123) (v := ?v16_123) ?hi16_123 (by kernel_rfl) ?hf16_123 (by kernel_rfl) ?hq16_123 ?hy16_123 hHeld ?rest16_123
    case hi16_123 => (simp only [List.getElem?_toArray, List.getElem?_cons_succ, List.getElem?_cons_zero]; try exact rfl)
    case hf16_123 => kernel_rfl
    case hq16_123 => exact fun _ _ _ h => h
    case hy16_123 => (refine Or.inl ⟨rfl, ?_⟩; intro w hSw; (try dsimp only at hSw); go_simp; try with_reducible rfl)
    try simp only [Act.put, List.setIfInBounds_toArray, List.set_cons_zero, List.set_cons_succ]
    refine wpAnyH_ready (rs := [17]) (by kernel_rfl) (by simp) ?_
    refine AllReadyH.cons (by simp only [List.getElem?_toArray, List.getElem?_cons_succ, List.getElem?_cons_zero]; try exact rfl) (fun K hK => ?_) AllReadyH.nil
    refine wp_store_row 31 (.tmp 2) (.tmp 60) rfl w.heap.size (lnC r).toArray (by rfl) (by rfl) 31 _ (show Wz.drew.heap[w.heap.size]? = some (.cells #[.int .i64 0, .int .i64 0, .int .i64 0, .int .i64 0, .int .i64 0, .int .i64 0, .int .i64 0, .int .i64 0, .int .i64 0, .int .i64 0, .int .i64 0, .int .i64 0, .int .i64 0, .int .i64 0, .slice none 0 0, .int .i64 0, .int .i64 0, .slice none 0 0, .int .i64 0, .slice none 0 0] 31 (0, 0)) from HRCz.out) (by kernel_rfl) (by rfl) (by simpa using lnC_one HINz.out.toIn) ?_
    refine hK.out _ _ ⟨range_row hHeld.1 (by simp), (cell_setRow_other _ _ _ _ (by simp)).trans hHeld.2.1, (cell_setRow_other _ _ _ _ (by simp)).trans hHeld.2.2⟩ (fun hHeld => ?_)
    clear hK K
    try simp only [Act.put]
    refine wpAnyH_take (i := 18) (oi := ?oi18_124) (v := ?v18_124) ?hi18_124 (by kernel_rfl) ?hf18_124 (by kernel_rfl) ?hq18_124 ?hy18_124 hHeld ?rest18_124
    case hi18_124 => (simp only [List.getElem?_toArray, List.getElem?_cons_succ, List.getElem?_cons_zero]; try exact rfl)
    case hf18_124 => kernel_rfl
    case hq18_124 => exact fun _ _ _ h => h
    case hy18_124 => (refine Or.inl ⟨rfl, ?_⟩; intro w hSw; (try dsimp only at hSw); go_simp; try with_reducible rfl)
    try simp only [Act.put, List.setIfInBounds_toArray, List.set_cons_zero, List.set_cons_succ]
    refine wpAnyH_done (by kernel_rfl) ?_ _
    go_wp2_with fail
    have hF := setRow_heap _ _ _ (lnC r).toArray _ _ (show Wz.drew.heap[w.heap.size]? = some (.cells #[.int .i64 0, .int .i64 0, .int .i64 0, .int .i64 0, .int .i64 0, .int .i64 0, .int .i64 0, .int .i64 0, .int .i64 0, .int .i64 0, .int .i64 0, .int .i64 0, .int .i64 0, .int .i64 0, .slice none 0 0, .int .i64 0, .int .i64 0, .slice none 0 0, .int .i64 0, .slice none 0 0] 31 (0, 0)) from HRCz.out)
    refine bodyPost_ret (v := .tuple #[.agg (lnC r).toArray, .bool false]) (results_cell_slot (p := 2) (q := 3) (by kernel_rfl) _ _ w.heap.size _ _ _ _ _ (by rfl) (by rfl) rfl hF Tryz.underlying31 (by kernel_rfl)) rfl ?_
    exact ⟨r, false, rfl, below_setRow (HRz.out.low.drew) (Nat.le_refl _) _, lnC_one HINz.out.toIn, fun h => absurd h (by decide), fun _ => HNR.out⟩
set_option maxHeartbeats 8000000 in
set_option maxRecDepth 100000 in
theorem read_wOpen (text : List UInt8) (htl : text.length ≤ 900000) (w : World) (hG : G w) (hw : nextW (splitC 32 text) = wOpen) :
    Calls Tryz.prog 33 #[.string ⟨text.toArray⟩] w (ReadPost w (splitC 32 text)) := by
  obtain ⟨m, hm⟩ := hG.mx
  have HM := Lib.hid (fun (o : Obj) => keepA (below_a1 w o) hm)
  have HG := Lib.hid hG
  obtain ⟨sl1, sl2⟩ := split_lens 32 text
  have HL0 := Lib.hid (show ∀ x ∈ splitC 32 text, x.length ≤ 1000000 from fun x hx => by have := sl1 x hx; omega)
  have HSC := Lib.hid (split_count text)
  have HSS := Lib.hid (split_strings text)
  obtain ⟨n, hn⟩ : ∃ n, (splitC 32 text).length = n := ⟨_, rfl⟩
  have hn1 : n ≤ 1000000 := by omega
  have HN := Lib.hid hn
  rw [hn] at HSC
  clear hG hm sl1 sl2 hn
  go_enter Tryz.func33, Tryz.ntmps33
  go_wp2_with fail
  refine (Tryz.strings_Split ⟨text.toArray⟩ ⟨#[32]⟩ m _ (by show text.toArray.size < _; simp; omega) (HM.out _) (Nat.le_refl 1)).mono ?_
  rintro e W0 ⟨rfl, rfl⟩
  rw [HSC.out, HSS.out]
  have HA4 := Lib.hid (fun (S : Array Value) (v : Value) => alloc4 w (.cells #[.int .i64 0, .int .i64 0, .int .i64 0, .int .i64 0, .int .i64 0, .int .i64 0, .int .i64 0, .int .i64 0, .int .i64 0, .int .i64 0, .int .i64 0, .int .i64 0, .int .i64 0, .int .i64 0, .slice none 0 0, .int .i64 0, .int .i64 0, .slice none 0 0, .int .i64 0, .slice none 0 0] 31) (.cells S 9) (.cells #[v, .bool true] 92) (.cells #[.int .i64 0, .int .i64 0, .int .i64 0, .int .i64 0, .int .i64 0, .int .i64 0, .int .i64 0, .int .i64 0, .int .i64 0, .int .i64 0, .int .i64 0, .int .i64 0, .int .i64 0, .int .i64 0, .slice none 0 0, .int .i64 0, .int .i64 0, .slice none 0 0, .int .i64 0, .slice none 0 0] 31))
  go_wp2_with fail
  obtain ⟨Wa, hWa⟩ : ∃ Wa, (((w.alloc (.cells #[.int .i64 0, .int .i64 0, .int .i64 0, .int .i64 0, .int .i64 0, .int .i64 0, .int .i64 0, .int .i64 0, .int .i64 0, .int .i64 0, .int .i64 0, .int .i64 0, .int .i64 0, .int .i64 0, .slice none 0 0, .int .i64 0, .int .i64 0, .slice none 0 0, .int .i64 0, .slice none 0 0] 31)).alloc (.cells ((splitC 32 text).map fun x => Value.string ⟨x.toArray⟩).toArray 9)).alloc (.cells #[.slice (some ⟨w.heap.size + 1, 0, none⟩) n n, .bool true] 92)).alloc (.cells #[.int .i64 0, .int .i64 0, .int .i64 0, .int .i64 0, .int .i64 0, .int .i64 0, .int .i64 0, .int .i64 0, .int .i64 0, .int .i64 0, .int .i64 0, .int .i64 0, .int .i64 0, .int .i64 0, .slice none 0 0, .int .i64 0, .int .i64 0, .slice none 0 0, .int .i64 0, .slice none 0 0] 31) = Wa := ⟨_, rfl⟩
  obtain ⟨hrc, hsb, hrb, hlb, hbl⟩ := HA4.out ((splitC 32 text).map fun x => Value.string ⟨x.toArray⟩).toArray (.slice (some ⟨w.heap.size + 1, 0, none⟩) n n)
  rw [hWa] at hrc hsb hrb hlb hbl ⊢
  have H0 := Lib.hid (made (splitC 32 text) HN.out hn1 hsb hrb hbl)
  have HRC := Lib.hid hrc
  have HLB := Lib.hid hlb
  clear HA4 hWa hrc hsb hrb hlb hbl HM
  refine (next_any H0.out).mono ?_
  rintro e W1 ⟨rfl, h1, hk1⟩
  have H1 := Lib.hid h1
  have HRC1 := Lib.hid (hk1.cells (by omega) HRC.out)
  have HLB1 := Lib.hid (hk1.cells (by omega) HLB.out)
  clear HRC HLB h1 hk1 H0
  have hok : nextOk (splitC 32 text) true = true := by rw [split_first]; rfl
  rw [hok] at H1
  rw [hw, show (⟨List.toArray wOpen⟩ : ByteArray) = ⟨#[111, 112, 101, 110]⟩ from rfl]
  have HW := Lib.hid hw
  have HL1 := Lib.hid (tail_len HL0.out)
  have hwl : (splitC 32 text).tail.length ≤ 1000000 := tail_le (by rw [HN.out]; exact hn1)
  have hz1 := H1.out.low.size
  have HLBS := Lib.hid (show w.heap.size + 3 < W1.heap.size from (Array.getElem?_eq_some_iff.1 HLB1.out).1)
  clear hw hok
  have H2 := Lib.hid H1.out
  have HRC2 := Lib.hid HRC1.out
  have HLB2 := Lib.hid HLB1.out
  clear H1 HRC1 HLB1
  go_wp2_with (first
    | (refine (id ?_ : wpList _ _ _ (⟨none, .store _ (.tmp 5) _, _, _, _, _⟩ :: _) _ _)
       refine wpList_store_row rfl 31 (.tmp 5) (.tmp 59) rfl (w.heap.size + 3) _ (by rfl) (by rfl) 31 _ HLB2.out (by kernel_rfl) (by rfl) (all_one _ (by rfl)) ?_))
  obtain ⟨r, hr⟩ : ∃ r : LnR, r = ⟨.slice none 0 0, .slice none 0 0, .slice none 0 0, ln0 5⟩ := ⟨_, rfl⟩
  rw [show #[.int .i64 5, .int .i64 0, .int .i64 0, .int .i64 0, .int .i64 0, .int .i64 0, .int .i64 0, .int .i64 0, .int .i64 0, .int .i64 0, .int .i64 0, .int .i64 0, .int .i64 0, .int .i64 0, .slice none 0 0, .int .i64 0, .int .i64 0, .slice none 0 0, .int .i64 0, .slice none 0 0] = (lnC r).toArray by rw [hr]; rfl]
  obtain ⟨Wz, hWz⟩ : ∃ Wz, W1.setRow (w.heap.size + 3) (lnC r).toArray = Wz := ⟨_, rfl⟩
  rw [hWz]
  have HLBz := Lib.hid (show Wz.heap[w.heap.size + 3]? = some (.cells (lnC r).toArray 31 (0, 0)) by rw [← hWz]; exact setRow_heap _ _ _ _ _ _ HLB2.out)
  have HRCz := Lib.hid (show Wz.heap[w.heap.size]? = some (.cells #[.int .i64 0, .int .i64 0, .int .i64 0, .int .i64 0, .int .i64 0, .int .i64 0, .int .i64 0, .int .i64 0, .int .i64 0, .int .i64 0, .int .i64 0, .int .i64 0, .int .i64 0, .int .i64 0, .slice none 0 0, .int .i64 0, .int .i64 0, .slice none 0 0, .int .i64 0, .slice none 0 0] 31 (0, 0)) by rw [← hWz]; exact (setRow_other _ _ _ _ (by simp)).trans HRC2.out)
  have HRz := Lib.hid (show RSt w (w.heap.size + 2) (splitC 32 text).tail true Wz by rw [← hWz]; exact RdsRSt_row H2.out (by omega) _)
  have hlb1 : w.heap.size + 3 < W1.heap.size := HLBS.out
  have HINz := Lib.hid (show LnOw Wz W1.heap.size r by rw [← hWz]; exact LnOw.row (show LnOw W1 W1.heap.size r by rw [hr]; exact LnOw.nil_ ⟨rfl, rfl, rfl⟩) HLB2.out)
  have HLN := Lib.hid (fun W (hb : Below Wz.heap.size Wz W) => show LnOw (W.setRow w.heap.size (lnC r).toArray) w.heap.size r from ((HINz.out.below hb).row ((hb.block _ (Array.getElem?_eq_some_iff.1 HRCz.out).1).trans HRCz.out)).more (by omega))
  have HLS := Lib.hid (show LineS (splitC 32 text) true r.ln (splitC 32 text).tail true from by rw [hr]; exact line_at HW.out lineS_open)
  clear hr hWz HRC2 HLB2 H2
  obtain ⟨WA, wn, wc, d0, dn, d1, df, dz⟩ := HRz.out.cells
  have HRG := Lib.hid (range_of HLBz.out)
  have HD := Lib.hid (And.intro d0 d1)
  have HDN := Lib.hid dn
  clear dn
  by_cases hws : (splitC 32 text).tail = []
  · have HWS := Lib.hid hws
    have hwn : wn = 0 := by rw [HDN.out, hws]; rfl
    subst hwn
    have HL7 := Lib.hid (HLS.out.1 rfl hws).2.2
    clear hws
    refine wp_region_held_drew (S := fun w' => w'.rangeAt (w.heap.size + 3) 0 (lnC r) ∧ w'.cell? ⟨w.heap.size + 2, 0, none⟩ = some (.slice WA 0 wc) ∧ w'.cell? ⟨w.heap.size + 2, 1, none⟩ = some (.bool true)) (by kernel_rfl) ?_ (fun hHeld => ?_)
    · exact ⟨HRG.out, HD.out⟩
    refine wpAnyH_take (i := 0) (oi := ?oi0_160) (v := ?v0_160) ?hi0_160 (by kernel_rfl) ?hf0_160 (by kernel_rfl) ?hq0_160 ?hy0_160 hHeld ?rest0_160
    case hi0_160 => (simp only [List.getElem?_toArray, List.getElem?_cons_zero]; try exact rfl)
    case hf0_160 => kernel_rfl
    case hq0_160 => exact fun _ _ _ h => h
    case hy0_160 => (refine yieldsIf_load_mid ?_ 31 (.tmp 5) ?_ (w.heap.size + 3) 0 ?_ (lnC r) _ ?_ Tryz.underlying31 rfl (by kernel_rfl) <;> first | exact fun _ h => h.1 | rfl)
    try simp only [Act.put, List.setIfInBounds_toArray, List.set_cons_zero, List.set_cons_succ]
    refine wpAnyH_take (i := 1) (oi := ?oi1_161) (v := ?v1_161) ?hi1_161 (by kernel_rfl) ?hf1_161 (by kernel_rfl) ?hq1_161 ?hy1_161 hHeld ?rest1_161
    case hi1_161 => (simp only [List.getElem?_toArray, List.getElem?_cons_succ, List.getElem?_cons_zero]; try exact rfl)
    case hf1_161 => kernel_rfl
    case hq1_161 => exact fun _ _ _ h => h
    case hy1_161 => (refine Or.inl ⟨rfl, ?_⟩; intro w hSw; (try dsimp only at hSw); go_simp; try with_reducible rfl)
    try simp only [Act.put, List.setIfInBounds_toArray, List.set_cons_zero, List.set_cons_succ]
    refine wpAnyH_take (i := 2) (oi := ?oi2_162) (v := ?v2_162) ?hi2_162 (by kernel_rfl) ?hf2_162 (by kernel_rfl) ?hq2_162 ?hy2_162 hHeld ?rest2_162
    case hi2_162 => (simp only [List.getElem?_toArray, List.getElem?_cons_succ, List.getElem?_cons_zero]; try exact rfl)
    case hf2_162 => kernel_rfl
    case hq2_162 => exact fun _ _ _ h => h
    case hy2_162 => (refine Or.inl ⟨rfl, ?_⟩; intro w hSw; (try dsimp only at hSw); go_simp; try with_reducible rfl)
    try simp only [Act.put, List.setIfInBounds_toArray, List.set_cons_zero, List.set_cons_succ]
    refine wpAnyH_take (i := 3) (oi := ?oi3_163) (v := ?v3_163) ?hi3_163 (by kernel_rfl) ?hf3_163 (by kernel_rfl) ?hq3_163 ?hy3_163 hHeld ?rest3_163
    case hi3_163 => (simp only [List.getElem?_toArray, List.getElem?_cons_succ, List.getElem?_cons_zero]; try exact rfl)
    case hf3_163 => kernel_rfl
    case hq3_163 => exact fun _ _ _ h => h
    case hy3_163 => (refine Or.inl ⟨rfl, ?_⟩; intro w hSw; (try dsimp only at hSw); go_simp; try with_reducible rfl)
    try simp only [Act.put, List.setIfInBounds_toArray, List.set_cons_zero, List.set_cons_succ]
    refine wpAnyH_take (i := 4) (oi := ?oi4_164) (v := ?v4_164) ?hi4_164 (by kernel_rfl) ?hf4_164 (by kernel_rfl) ?hq4_164 ?hy4_164 hHeld ?rest4_164
    case hi4_164 => (simp only [List.getElem?_toArray, List.getElem?_cons_succ, List.getElem?_cons_zero]; try exact rfl)
    case hf4_164 => kernel_rfl
    case hq4_164 => exact fun _ _ _ h => h
    case hy4_164 => (refine Or.inl ⟨rfl, ?_⟩; intro w hSw; (try dsimp only at hSw); go_simp; try with_reducible rfl)
    try simp only [Act.put, List.setIfInBounds_toArray, List.set_cons_zero, List.set_cons_succ]
    refine wpAnyH_take (i := 5) (oi := ?oi5_165) (v := ?v5_165) ?hi5_165 (by kernel_rfl) ?hf5_165 (by kernel_rfl) ?hq5_165 ?hy5_165 hHeld ?rest5_165
    case hi5_165 => (simp only [List.getElem?_toArray, List.getElem?_cons_succ, List.getElem?_cons_zero]; try exact rfl)
    case hf5_165 => kernel_rfl
    case hq5_165 => exact fun _ _ _ h => h
    case hy5_165 => (refine Or.inl ⟨rfl, ?_⟩; intro w hSw; (try dsimp only at hSw); go_simp; try with_reducible rfl)
    try simp only [Act.put, List.setIfInBounds_toArray, List.set_cons_zero, List.set_cons_succ]
    refine wpAnyH_take (i := 6) (oi := ?oi6_166) (v := ?v6_166) ?hi6_166 (by kernel_rfl) ?hf6_166 (by kernel_rfl) ?hq6_166 ?hy6_166 hHeld ?rest6_166
    case hi6_166 => (simp only [List.getElem?_toArray, List.getElem?_cons_succ, List.getElem?_cons_zero]; try exact rfl)
    case hf6_166 => kernel_rfl
    case hq6_166 => exact fun _ _ _ h => h
    case hy6_166 => (refine Or.inl ⟨rfl, ?_⟩; intro w hSw; (try dsimp only at hSw); go_simp; try with_reducible rfl)
    try simp only [Act.put, List.setIfInBounds_toArray, List.set_cons_zero, List.set_cons_succ]
    refine wpAnyH_take (i := 7) (oi := ?oi7_167) (v := ?v7_167) ?hi7_167 (by kernel_rfl) ?hf7_167 (by kernel_rfl) ?hq7_167 ?hy7_167 hHeld ?rest7_167
    case hi7_167 => (simp only [List.getElem?_toArray, List.getElem?_cons_succ, List.getElem?_cons_zero]; try exact rfl)
    case hf7_167 => kernel_rfl
    case hq7_167 => exact fun _ _ _ h => h
    case hy7_167 => (refine Or.inl ⟨rfl, ?_⟩; intro w hSw; (try dsimp only at hSw); go_simp; try with_reducible rfl)
    try simp only [Act.put, List.setIfInBounds_toArray, List.set_cons_zero, List.set_cons_succ]
    refine wpAnyH_take (i := 8) (oi := ?oi8_168) (v := ?v8_168) ?hi8_168 (by kernel_rfl) ?hf8_168 (by kernel_rfl) ?hq8_168 ?hy8_168 hHeld ?rest8_168
    case hi8_168 => (simp only [List.getElem?_toArray, List.getElem?_cons_succ, List.getElem?_cons_zero]; try exact rfl)
    case hf8_168 => kernel_rfl
    case hq8_168 => exact fun _ _ _ h => h
    case hy8_168 => (refine Or.inl ⟨rfl, ?_⟩; intro w hSw; (try dsimp only at hSw); go_simp; try with_reducible rfl)
    try simp only [Act.put, List.setIfInBounds_toArray, List.set_cons_zero, List.set_cons_succ]
    refine wpAnyH_take (i := 9) (oi := ?oi9_169) (v := ?v9_169) ?hi9_169 (by kernel_rfl) ?hf9_169 (by kernel_rfl) ?hq9_169 ?hy9_169 hHeld ?rest9_169
    case hi9_169 => (simp only [List.getElem?_toArray, List.getElem?_cons_succ, List.getElem?_cons_zero]; try exact rfl)
    case hf9_169 => kernel_rfl
    case hq9_169 => exact fun _ _ _ h => h
    case hy9_169 => (refine Or.inl ⟨rfl, ?_⟩; intro w hSw; (try dsimp only at hSw); go_simp; try with_reducible rfl)
    try simp only [Act.put, List.setIfInBounds_toArray, List.set_cons_zero, List.set_cons_succ]
    refine wpAnyH_take (i := 10) (oi := ?oi10_170) (v := ?v10_170) ?hi10_170 (by kernel_rfl) ?hf10_170 (by kernel_rfl) ?hq10_170 ?hy10_170 hHeld ?rest10_170
    case hi10_170 => (simp only [List.getElem?_toArray, List.getElem?_cons_succ, List.getElem?_cons_zero]; try exact rfl)
    case hf10_170 => kernel_rfl
    case hq10_170 => exact fun _ _ _ h => h
    case hy10_170 => (refine Or.inl ⟨rfl, ?_⟩; intro w hSw; (try dsimp only at hSw); go_simp; try with_reducible rfl)
    try simp only [Act.put, List.setIfInBounds_toArray, List.set_cons_zero, List.set_cons_succ]
    refine wpAnyH_take (i := 11) (oi := ?oi11_171) (v := ?v11_171) ?hi11_171 (by kernel_rfl) ?hf11_171 (by kernel_rfl) ?hq11_171 ?hy11_171 hHeld ?rest11_171
    case hi11_171 => (simp only [List.getElem?_toArray, List.getElem?_cons_succ, List.getElem?_cons_zero]; try exact rfl)
    case hf11_171 => kernel_rfl
    case hq11_171 => exact fun _ _ _ h => h
    case hy11_171 => (refine Or.inl ⟨rfl, ?_⟩; intro w hSw; (try dsimp only at hSw); go_simp; try with_reducible rfl)
    try simp only [Act.put, List.setIfInBounds_toArray, List.set_cons_zero, List.set_cons_succ]
    refine wpAnyH_take (i := 12) (oi := ?oi12_172) (v := ?v12_172) ?hi12_172 (by kernel_rfl) ?hf12_172 (by kernel_rfl) ?hq12_172 ?hy12_172 hHeld ?rest12_172
    case hi12_172 => (simp only [List.getElem?_toArray, List.getElem?_cons_succ, List.getElem?_cons_zero]; try exact rfl)
    case hf12_172 => kernel_rfl
    case hq12_172 => exact fun _ _ _ h => h
    case hy12_172 => (refine Or.inl ⟨rfl, ?_⟩; intro w hSw; (try dsimp only at hSw); go_simp; try with_reducible rfl)
    try simp only [Act.put, List.setIfInBounds_toArray, List.set_cons_zero, List.set_cons_succ]
    refine wpAnyH_take (i := 13) (oi := ?oi13_173) (v := ?v13_173) ?hi13_173 (by kernel_rfl) ?hf13_173 (by kernel_rfl) ?hq13_173 ?hy13_173 hHeld ?rest13_173
    case hi13_173 => (simp only [List.getElem?_toArray, List.getElem?_cons_succ, List.getElem?_cons_zero]; try exact rfl)
    case hf13_173 => kernel_rfl
    case hq13_173 => exact fun _ _ _ h => h
    case hy13_173 => (refine Or.inl ⟨rfl, ?_⟩; intro w hSw; (try dsimp only at hSw); go_simp; try with_reducible rfl)
    try simp only [Act.put, List.setIfInBounds_toArray, List.set_cons_zero, List.set_cons_succ]
    refine wpAnyH_take (i := 14) (oi := ?oi14_174) (v := ?v14_174) ?hi14_174 (by kernel_rfl) ?hf14_174 (by kernel_rfl) ?hq14_174 ?hy14_174 hHeld ?rest14_174
    case hi14_174 => (simp only [List.getElem?_toArray, List.getElem?_cons_succ, List.getElem?_cons_zero]; try exact rfl)
    case hf14_174 => kernel_rfl
    case hq14_174 => exact fun _ _ _ h => h
    case hy14_174 => (refine yieldsIf_load_mid ?_ 31 (.tmp 5) ?_ (w.heap.size + 3) 0 ?_ (lnC r) _ ?_ Tryz.underlying31 rfl (by kernel_rfl) <;> first | exact fun _ h => h.1 | rfl)
    try simp only [Act.put, List.setIfInBounds_toArray, List.set_cons_zero, List.set_cons_succ]
    refine wpAnyH_ready (rs := [15]) (by kernel_rfl) (by simp) ?_
    refine AllReadyH.cons (by simp only [List.getElem?_toArray, List.getElem?_cons_succ, List.getElem?_cons_zero]; try exact rfl) (fun K hK => ?_) AllReadyH.nil
    go_simp
    refine (Right_any r W1.heap.size Wz.drew (HINz.out.below (Below.refl _ _).drew).toIn HL7.out.2 HL7.out.1).mono ?_
    rintro e W5 ⟨rfl, hb5⟩
    have HB5 := Lib.hid (show Below Wz.heap.size Wz W5 from (Below.refl _ _).drew.trans hb5)
    clear hb5
    refine hK.out _ _ ⟨fun j v hj => keepA HB5.out (HRG.out j v hj), keepA HB5.out HD.out.1, keepA HB5.out HD.out.2⟩ (fun hHeld => ?_)
    clear hK K
    try simp only [Act.put, List.setIfInBounds_toArray, List.set_cons_zero, List.set_cons_succ]
    refine wpAnyH_take (i := 16) (oi := ?oi16_175) (v := ?v16_175) ?hi16_175 (by kernel_rfl) ?hf16_175 (by kernel_rfl) ?hq16_175 ?hy16_175 hHeld ?rest16_175
    case hi16_175 => (simp only [List.getElem?_toArray, List.getElem?_cons_succ, List.getElem?_cons_zero]; try exact rfl)
    case hf16_175 => kernel_rfl
    case hq16_175 => exact fun _ _ _ h => h
    case hy16_175 => (refine Or.inl ⟨rfl, ?_⟩; intro w hSw; (try dsimp only at hSw); go_simp; try with_reducible rfl)
    try simp only [Act.put, List.setIfInBounds_toArray, List.set_cons_zero, List.set_cons_succ]
    have HRC5 := Lib.hid ((HB5.out.block _ (Array.getElem?_eq_some_iff.1 HRCz.out).1).trans HRCz.out)
    refine wpAnyH_ready (rs := [17]) (by kernel_rfl) (by simp) ?_
    refine AllReadyH.cons (by simp only [List.getElem?_toArray, List.getElem?_cons_succ, List.getElem?_cons_zero]; try exact rfl) (fun K hK => ?_) AllReadyH.nil
    refine wp_store_row 31 (.tmp 2) (.tmp 60) rfl w.heap.size (lnC r).toArray (by rfl) (by rfl) 31 _ HRC5.out (by kernel_rfl) (by rfl) (by simpa using lnC_one HINz.out.toIn) ?_
    refine hK.out _ _ ⟨range_row hHeld.1 (by simp), (cell_setRow_other _ _ _ _ (by simp)).trans hHeld.2.1, (cell_setRow_other _ _ _ _ (by simp)).trans hHeld.2.2⟩ (fun hHeld => ?_)
    clear hK K
    try simp only [Act.put]
    refine wpAnyH_take (i := 18) (oi := ?oi18_176) (v := ?v18_176) ?hi18_176 (by kernel_rfl) ?hf18_176 (by kernel_rfl) ?hq18_176 ?hy18_176 hHeld ?rest18_176
    case hi18_176 => (simp only [List.getElem?_toArray, List.getElem?_cons_succ, List.getElem?_cons_zero]; try exact rfl)
    case hf18_176 => kernel_rfl
    case hq18_176 => exact fun _ _ _ h => h
    case hy18_176 => (refine Or.inl ⟨rfl, ?_⟩; intro w hSw; (try dsimp only at hSw); go_simp; try with_reducible rfl)
    try simp only [Act.put, List.setIfInBounds_toArray, List.set_cons_zero, List.set_cons_succ]
    refine wpAnyH_done (by kernel_rfl) ?_ _
    go_wp2_with fail
    have hF := setRow_heap _ _ _ (lnC r).toArray _ _ HRC5.out
    refine bodyPost_ret (v := .tuple #[.agg (lnC r).toArray, .bool (rightB r.ln)]) (results_cell_slot (p := 2) (q := 3) (by kernel_rfl) _ _ w.heap.size _ _ _ _ _ (by rfl) (by rfl) rfl hF Tryz.underlying31 (by kernel_rfl)) rfl ?_
    exact ⟨r, (rightB r.ln), rfl, below_setRow (bt HB5.out HRz.out.low) (Nat.le_refl _) _, lnC_one HINz.out.toIn, fun h => ⟨HLN.out W5 HB5.out, read_yes HLS.out rfl HWS.out (rightB_of h)⟩, fun h => read_no HLS.out (fun h2 => by rw [right_yes h2.2.2] at h; exact absurd h (by decide))⟩
  · have HNR := Lib.hid (read_no HLS.out (fun h => hws h.2.1))
    have hwn : 0 < wn := by rw [HDN.out]; exact List.length_pos_iff.2 hws
    have hwq : ((wn : Int) == 0) = false := beq_eq_false_iff_ne.2 (by omega)
    clear hws
    refine wp_region_held_drew (S := fun w' => w'.rangeAt (w.heap.size + 3) 0 (lnC r) ∧ w'.cell? ⟨w.heap.size + 2, 0, none⟩ = some (.slice WA wn wc) ∧ w'.cell? ⟨w.heap.size + 2, 1, none⟩ = some (.bool true)) (by kernel_rfl) ?_ (fun hHeld => ?_)
    · exact ⟨HRG.out, HD.out⟩
    refine wpAnyH_take (i := 0) (oi := ?oi0_177) (v := ?v0_177) ?hi0_177 (by kernel_rfl) ?hf0_177 (by kernel_rfl) ?hq0_177 ?hy0_177 hHeld ?rest0_177
    case hi0_177 => (simp only [List.getElem?_toArray, List.getElem?_cons_zero]; try exact rfl)
    case hf0_177 => kernel_rfl
    case hq0_177 => exact fun _ _ _ h => h
    case hy0_177 => (refine yieldsIf_load_mid ?_ 31 (.tmp 5) ?_ (w.heap.size + 3) 0 ?_ (lnC r) _ ?_ Tryz.underlying31 rfl (by kernel_rfl) <;> first | exact fun _ h => h.1 | rfl)
    try simp only [Act.put, List.setIfInBounds_toArray, List.set_cons_zero, List.set_cons_succ]
    refine wpAnyH_take (i := 1) (oi := ?oi1_178) (v := ?v1_178) ?hi1_178 (by kernel_rfl) ?hf1_178 (by kernel_rfl) ?hq1_178 ?hy1_178 hHeld ?rest1_178
    case hi1_178 => (simp only [List.getElem?_toArray, List.getElem?_cons_succ, List.getElem?_cons_zero]; try exact rfl)
    case hf1_178 => kernel_rfl
    case hq1_178 => exact fun _ _ _ h => h
    case hy1_178 => (refine Or.inl ⟨rfl, ?_⟩; intro w hSw; (try dsimp only at hSw); go_simp; try with_reducible rfl)
    try simp only [Act.put, List.setIfInBounds_toArray, List.set_cons_zero, List.set_cons_succ]
    refine wpAnyH_take (i := 2) (oi := ?oi2_179) (v := ?v2_179) ?hi2_179 (by kernel_rfl) ?hf2_179 (by kernel_rfl) ?hq2_179 ?hy2_179 hHeld ?rest2_179
    case hi2_179 => (simp only [List.getElem?_toArray, List.getElem?_cons_succ, List.getElem?_cons_zero]; try exact rfl)
    case hf2_179 => kernel_rfl
    case hq2_179 => exact fun _ _ _ h => h
    case hy2_179 => (refine Or.inl ⟨rfl, ?_⟩; intro w hSw; (try dsimp only at hSw); go_simp; try with_reducible rfl)
    try simp only [Act.put, List.setIfInBounds_toArray, List.set_cons_zero, List.set_cons_succ]
    refine wpAnyH_take (i := 3) (oi := ?oi3_180) (v := ?v3_180) ?hi3_180 (by kernel_rfl) ?hf3_180 (by kernel_rfl) ?hq3_180 ?hy3_180 hHeld ?rest3_180
    case hi3_180 => (simp only [List.getElem?_toArray, List.getElem?_cons_succ, List.getElem?_cons_zero]; try exact rfl)
    case hf3_180 => kernel_rfl
    case hq3_180 => exact fun _ _ _ h => h
    case hy3_180 => (refine Or.inl ⟨rfl, ?_⟩; intro w hSw; (try dsimp only at hSw); go_simp; try with_reducible rfl)
    try simp only [Act.put, List.setIfInBounds_toArray, List.set_cons_zero, List.set_cons_succ]
    refine wpAnyH_take (i := 4) (oi := ?oi4_181) (v := ?v4_181) ?hi4_181 (by kernel_rfl) ?hf4_181 (by kernel_rfl) ?hq4_181 ?hy4_181 hHeld ?rest4_181
    case hi4_181 => (simp only [List.getElem?_toArray, List.getElem?_cons_succ, List.getElem?_cons_zero]; try exact rfl)
    case hf4_181 => kernel_rfl
    case hq4_181 => exact fun _ _ _ h => h
    case hy4_181 => (refine Or.inl ⟨rfl, ?_⟩; intro w hSw; (try dsimp only at hSw); go_simp; try with_reducible rfl)
    try simp only [Act.put, List.setIfInBounds_toArray, List.set_cons_zero, List.set_cons_succ]
    refine wpAnyH_take (i := 5) (oi := ?oi5_182) (v := ?v5_182) ?hi5_182 (by kernel_rfl) ?hf5_182 (by kernel_rfl) ?hq5_182 ?hy5_182 hHeld ?rest5_182
    case hi5_182 => (simp only [List.getElem?_toArray, List.getElem?_cons_succ, List.getElem?_cons_zero]; try exact rfl)
    case hf5_182 => kernel_rfl
    case hq5_182 => exact fun _ _ _ h => h
    case hy5_182 => (refine Or.inl ⟨rfl, ?_⟩; intro w hSw; (try dsimp only at hSw); go_simp; try with_reducible rfl)
    try simp only [Act.put, List.setIfInBounds_toArray, List.set_cons_zero, List.set_cons_succ]
    refine wpAnyH_take (i := 6) (oi := ?oi6_183) (v := ?v6_183) ?hi6_183 (by kernel_rfl) ?hf6_183 (by kernel_rfl) ?hq6_183 ?hy6_183 hHeld ?rest6_183
    case hi6_183 => (simp only [List.getElem?_toArray, List.getElem?_cons_succ, List.getElem?_cons_zero]; try exact rfl)
    case hf6_183 => kernel_rfl
    case hq6_183 => exact fun _ _ _ h => h
    case hy6_183 => (refine Or.inl ⟨rfl, ?_⟩; intro w hSw; (try dsimp only at hSw); go_simp; try with_reducible rfl)
    try simp only [Act.put, List.setIfInBounds_toArray, List.set_cons_zero, List.set_cons_succ]
    refine wpAnyH_take (i := 7) (oi := ?oi7_184) (v := ?v7_184) ?hi7_184 (by kernel_rfl) ?hf7_184 (by kernel_rfl) ?hq7_184 ?hy7_184 hHeld ?rest7_184
    case hi7_184 => (simp only [List.getElem?_toArray, List.getElem?_cons_succ, List.getElem?_cons_zero]; try exact rfl)
    case hf7_184 => kernel_rfl
    case hq7_184 => exact fun _ _ _ h => h
    case hy7_184 => (refine Or.inl ⟨rfl, ?_⟩; intro w hSw; (try dsimp only at hSw); go_simp; try with_reducible rfl)
    try simp only [Act.put, List.setIfInBounds_toArray, List.set_cons_zero, List.set_cons_succ]
    refine wpAnyH_take (i := 8) (oi := ?oi8_185) (v := ?v8_185) ?hi8_185 (by kernel_rfl) ?hf8_185 (by kernel_rfl) ?hq8_185 ?hy8_185 hHeld ?rest8_185
    case hi8_185 => (simp only [List.getElem?_toArray, List.getElem?_cons_succ, List.getElem?_cons_zero]; try exact rfl)
    case hf8_185 => kernel_rfl
    case hq8_185 => exact fun _ _ _ h => h
    case hy8_185 => (refine Or.inl ⟨rfl, ?_⟩; intro w hSw; (try dsimp only at hSw); go_simp; try with_reducible rfl)
    try simp only [Act.put, List.setIfInBounds_toArray, List.set_cons_zero, List.set_cons_succ]
    refine wpAnyH_take (i := 9) (oi := ?oi9_186) (v := ?v9_186) ?hi9_186 (by kernel_rfl) ?hf9_186 (by kernel_rfl) ?hq9_186 ?hy9_186 hHeld ?rest9_186
    case hi9_186 => (simp only [List.getElem?_toArray, List.getElem?_cons_succ, List.getElem?_cons_zero]; try exact rfl)
    case hf9_186 => kernel_rfl
    case hq9_186 => exact fun _ _ _ h => h
    case hy9_186 => (refine Or.inl ⟨rfl, ?_⟩; intro w hSw; (try dsimp only at hSw); go_simp; try with_reducible rfl)
    try simp only [Act.put, List.setIfInBounds_toArray, List.set_cons_zero, List.set_cons_succ]
    refine wpAnyH_take (i := 10) (oi := ?oi10_187) (v := ?v10_187) ?hi10_187 (by kernel_rfl) ?hf10_187 (by kernel_rfl) ?hq10_187 ?hy10_187 hHeld ?rest10_187
    case hi10_187 => (simp only [List.getElem?_toArray, List.getElem?_cons_succ, List.getElem?_cons_zero]; try exact rfl)
    case hf10_187 => kernel_rfl
    case hq10_187 => exact fun _ _ _ h => h
    case hy10_187 => (refine Or.inl ⟨rfl, ?_⟩; intro w hSw; (try dsimp only at hSw); go_simp; try with_reducible rfl)
    try simp only [Act.put, List.setIfInBounds_toArray, List.set_cons_zero, List.set_cons_succ]
    refine wpAnyH_take (i := 11) (oi := ?oi11_188) (v := ?v11_188) ?hi11_188 (by kernel_rfl) ?hf11_188 (by kernel_rfl) ?hq11_188 ?hy11_188 hHeld ?rest11_188
    case hi11_188 => (simp only [List.getElem?_toArray, List.getElem?_cons_succ, List.getElem?_cons_zero]; try exact rfl)
    case hf11_188 => kernel_rfl
    case hq11_188 => exact fun _ _ _ h => h
    case hy11_188 => (refine Or.inl ⟨rfl, ?_⟩; intro w hSw; (try dsimp only at hSw); go_simp; try with_reducible rfl)
    try simp only [Act.put, List.setIfInBounds_toArray, List.set_cons_zero, List.set_cons_succ]
    refine wpAnyH_take (i := 12) (oi := ?oi12_189) (v := ?v12_189) ?hi12_189 (by kernel_rfl) ?hf12_189 (by kernel_rfl) ?hq12_189 ?hy12_189 hHeld ?rest12_189
    case hi12_189 => (simp only [List.getElem?_toArray, List.getElem?_cons_succ, List.getElem?_cons_zero]; try exact rfl)
    case hf12_189 => kernel_rfl
    case hq12_189 => exact fun _ _ _ h => h
    case hy12_189 => (refine Or.inl ⟨rfl, ?_⟩; intro w hSw; (try dsimp only at hSw); go_simp; try with_reducible rfl)
    try simp only [Act.put, List.setIfInBounds_toArray, List.set_cons_zero, List.set_cons_succ]
    refine wpAnyH_take (i := 13) (oi := ?oi13_190) (v := ?v13_190) ?hi13_190 (by kernel_rfl) ?hf13_190 (by kernel_rfl) ?hq13_190 ?hy13_190 hHeld ?rest13_190
    case hi13_190 => (simp only [List.getElem?_toArray, List.getElem?_cons_succ, List.getElem?_cons_zero]; try exact rfl)
    case hf13_190 => kernel_rfl
    case hq13_190 => exact fun _ _ _ h => h
    case hy13_190 => (refine Or.inl ⟨rfl, ?_⟩; intro w hSw; (try dsimp only at hSw); go_simp; try with_reducible rfl)
    try simp only [Act.put, List.setIfInBounds_toArray, List.set_cons_zero, List.set_cons_succ]
    refine wpAnyH_take (i := 14) (oi := ?oi14_191) (v := undef) ?hi14_191 (by kernel_rfl) ?hf14_191 (by kernel_rfl) ?hq14_191 ?hy14_191 hHeld ?rest14_191
    case hi14_191 => (simp only [List.getElem?_toArray, List.getElem?_cons_succ, List.getElem?_cons_zero]; try exact rfl)
    case hf14_191 => kernel_rfl
    case hq14_191 => exact fun _ _ _ h => h
    case hy14_191 => exact Or.inr ⟨rfl, rfl⟩
    try simp only [Act.put, List.setIfInBounds_toArray, List.set_cons_zero, List.set_cons_succ]
    refine wpAnyH_take (i := 15) (oi := ?oi15_192) (v := undef) ?hi15_192 (by kernel_rfl) ?hf15_192 (by kernel_rfl) ?hq15_192 ?hy15_192 hHeld ?rest15_192
    case hi15_192 => (simp only [List.getElem?_toArray, List.getElem?_cons_succ, List.getElem?_cons_zero]; try exact rfl)
    case hf15_192 => kernel_rfl
    case hq15_192 => exact fun _ _ _ h => h
    case hy15_192 => exact Or.inr ⟨rfl, rfl⟩
    try simp only [Act.put, List.setIfInBounds_toArray, List.set_cons_zero, List.set_cons_succ]
    refine wpAnyH_take (i := 16) (oi := ?oi16_193) (v := ?v16_193) ?hi16_193 (by kernel_rfl) ?hf16_193 (by kernel_rfl) ?hq16_193 ?hy16_193 hHeld ?rest16_193
    case hi16_193 => (simp only [List.getElem?_toArray, List.getElem?_cons_succ, List.getElem?_cons_zero]; try exact rfl)
    case hf16_193 => kernel_rfl
    case hq16_193 => exact fun _ _ _ h => h
    case hy16_193 => (refine Or.inl ⟨rfl, ?_⟩; intro w hSw; (try dsimp only at hSw); go_simp; try with_reducible rfl)
    try simp only [Act.put, List.setIfInBounds_toArray, List.set_cons_zero, List.set_cons_succ]
    refine wpAnyH_ready (rs := [17]) (by kernel_rfl) (by simp) ?_
    refine AllReadyH.cons (by simp only [List.getElem?_toArray, List.getElem?_cons_succ, List.getElem?_cons_zero]; try exact rfl) (fun K hK => ?_) AllReadyH.nil
    refine wp_store_row 31 (.tmp 2) (.tmp 60) rfl w.heap.size (lnC r).toArray (by rfl) (by rfl) 31 _ (show Wz.drew.heap[w.heap.size]? = some (.cells #[.int .i64 0, .int .i64 0, .int .i64 0, .int .i64 0, .int .i64 0, .int .i64 0, .int .i64 0, .int .i64 0, .int .i64 0, .int .i64 0, .int .i64 0, .int .i64 0, .int .i64 0, .int .i64 0, .slice none 0 0, .int .i64 0, .int .i64 0, .slice none 0 0, .int .i64 0, .slice none 0 0] 31 (0, 0)) from HRCz.out) (by kernel_rfl) (by rfl) (by simpa using lnC_one HINz.out.toIn) ?_
    refine hK.out _ _ ⟨range_row hHeld.1 (by simp), (cell_setRow_other _ _ _ _ (by simp)).trans hHeld.2.1, (cell_setRow_other _ _ _ _ (by simp)).trans hHeld.2.2⟩ (fun hHeld => ?_)
    clear hK K
    try simp only [Act.put]
    refine wpAnyH_take (i := 18) (oi := ?oi18_194) (v := ?v18_194) ?hi18_194 (by kernel_rfl) ?hf18_194 (by kernel_rfl) ?hq18_194 ?hy18_194 hHeld ?rest18_194
    case hi18_194 => (simp only [List.getElem?_toArray, List.getElem?_cons_succ, List.getElem?_cons_zero]; try exact rfl)
    case hf18_194 => kernel_rfl
    case hq18_194 => exact fun _ _ _ h => h
    case hy18_194 => (refine Or.inl ⟨rfl, ?_⟩; intro w hSw; (try dsimp only at hSw); go_simp; try with_reducible rfl)
    try simp only [Act.put, List.setIfInBounds_toArray, List.set_cons_zero, List.set_cons_succ]
    refine wpAnyH_done (by kernel_rfl) ?_ _
    go_wp2_with fail
    have hF := setRow_heap _ _ _ (lnC r).toArray _ _ (show Wz.drew.heap[w.heap.size]? = some (.cells #[.int .i64 0, .int .i64 0, .int .i64 0, .int .i64 0, .int .i64 0, .int .i64 0, .int .i64 0, .int .i64 0, .int .i64 0, .int .i64 0, .int .i64 0, .int .i64 0, .int .i64 0, .int .i64 0, .slice none 0 0, .int .i64 0, .int .i64 0, .slice none 0 0, .int .i64 0, .slice none 0 0] 31 (0, 0)) from HRCz.out)
    refine bodyPost_ret (v := .tuple #[.agg (lnC r).toArray, .bool false]) (results_cell_slot (p := 2) (q := 3) (by kernel_rfl) _ _ w.heap.size _ _ _ _ _ (by rfl) (by rfl) rfl hF Tryz.underlying31 (by kernel_rfl)) rfl ?_
    exact ⟨r, false, rfl, below_setRow (HRz.out.low.drew) (Nat.le_refl _) _, lnC_one HINz.out.toIn, fun h => absurd h (by decide), fun _ => HNR.out⟩
end Go.Proofs.YtchgfabgighbfaaGreatDoor.RedW
