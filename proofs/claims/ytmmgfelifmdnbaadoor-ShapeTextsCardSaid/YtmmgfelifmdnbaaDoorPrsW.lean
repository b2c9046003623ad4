/- shape's reader: a node, and what comes of it. -/
import Derived.Test.YtmmgfelifmdnbaaDoorPrsS
import Derived.StillTailTactics
import Derived.Deep.DeepMust
namespace Go.Proofs.YtmmgfelifmdnbaaDoor.PrsW
set_option linter.unusedVariables false
open Go.RowKit Go.Shelf Base SeqM ShpM ShpT ItrD ItrG TxtM GlbS WrtM RdrW NumW PrsM PruW PrsS

def NPost (w0 : World) (rb tb : Nat) (dim : Int) (r : List UInt8 × Bool × List Nd) (e : Ending) (w' : World) : Prop := e = .returned (.tuple #[]) ∧ ∃ (nv' : Value) (rs' : List (Value × Nd)), PSt w0 rb tb dim r.1 r.2.1 nv' rs' w' ∧ rs'.map (·.2) = r.2.2
theorem prefix_open (s : List UInt8) : Lib.hasPrefix s [40] = decide (s.head? = some 40) := by
  cases s with
  | nil => rfl
  | cons c r =>
    unfold Lib.hasPrefix
    rw [Bool.eq_iff_iff]
    simp
    exact eq_comm
theorem slice_of {w : World} {base : Nat} {e : TypeId} {size n : Nat} {v : Value} {xs : List Value} (h : w.ownsRow base e size v n xs) : ∃ A cap, v = .slice A n cap := by
  rcases h.2 with ⟨e, e0⟩ | ⟨g, cp, cur, e, _⟩
  · exact ⟨none, 0, by rw [e, e0]⟩
  · exact ⟨_, _, e⟩
/-- within a fork's head: the reader, the cut's box, its row; all else is as it was -/
structure LS (W1 : World) (rb cb : Nat) (s : List UInt8) (ok : Bool) (c : List Int) (n : Nat) (CA : Option Addr) (cc : Nat) (x : Int) (W : World) : Prop where
  rd : RAt W rb s ok
  kr : KR rb W1 W
  box : W.heap[cb]? = some (.cells #[.slice CA n cc, .int .i64 x] 37 (0, 0))
  row : W.ownsRow (cb + 1) 3 1 (.slice CA n cc) n (c.map (Value.int .i64))
  lt : rb < cb
theorem LS.read {W1 : World} {rb cb : Nat} {s s' : List UInt8} {ok ok' : Bool} {c : List Int} {n : Nat} {CA : Option Addr} {cc : Nat} {x : Int} {W W' : World} (h : LS W1 rb cb s ok c n CA cc x W) (hk : KR rb W W') (hr : RAt W' rb s' ok') : LS W1 rb cb s' ok' c n CA cc x W' :=
  ⟨hr, h.kr.trans hk, (hk.2 cb (Array.getElem?_eq_some_iff.1 h.box).1 (by have := h.lt; omega)).trans h.box, own_keep h.row (fun k hk' hT => hk.2 k hk' (fun e => by subst e; have := hT.eq ⟨_, _, h.rd⟩; revert this; decide)), h.lt⟩
theorem LS.below {W1 : World} {rb cb : Nat} {s : List UInt8} {ok : Bool} {c : List Int} {n : Nat} {CA : Option Addr} {cc : Nat} {x : Int} {W W' : World} (h : LS W1 rb cb s ok c n CA cc x W) (hb : Below W.heap.size W W') : LS W1 rb cb s ok c n CA cc x W' :=
  h.read (KR.of_below hb (Nat.le_of_lt (Array.getElem?_eq_some_iff.1 h.rd).1)) (h.rd.below hb)
theorem LS.cells {W1 : World} {rb cb : Nat} {s : List UInt8} {ok : Bool} {c : List Int} {n : Nat} {CA : Option Addr} {cc : Nat} {x : Int} {W : World} (h : LS W1 rb cb s ok c n CA cc x W) : W.cell? ⟨cb, 0, none⟩ = some (.slice CA n cc) ∧ W.cell? ⟨cb, 1, none⟩ = some (.int .i64 x) ∧ ∀ o, W.frozen? ⟨cb, o, none⟩ = false :=
  ⟨cell_heap h.box rfl, cell_heap h.box rfl, fun o => by simp [World.frozen?, show W.heap[cb]? = _ from h.box]⟩
theorem LS.app {W1 : World} {rb cb : Nat} {s : List UInt8} {ok : Bool} {c : List Int} {n : Nat} {CA : Option Addr} {cc : Nat} {x : Int} {W w6 : World} {g cap' : Nat} {v : Int} {cs : Array Value} {t : TypeId} (h : LS W1 rb cb s ok c n CA cc x W) (hz : W1.heap.size = cb)
    (hown : w6.ownsRow (cb + 1) 3 1 (.slice (some ⟨g, 0, none⟩) (n + 1) cap') (n + 1) (c.map (Value.int .i64) ++ [.int .i64 v])) (hgrow : (W.alloc (.cells cs t)).grownBy w6 (Value.slice CA n cc).ownBlock) :
    LS W1 rb cb s ok (c ++ [v]) (n + 1) (some ⟨g, 0, none⟩) cap' x (w6.setCell ⟨cb, 0, none⟩ (.slice (some ⟨g, 0, none⟩) (n + 1) cap')) ∧ w6.cell? ⟨cb, 0, none⟩ = some (.slice CA n cc) ∧ w6.frozen? ⟨cb, 0, none⟩ = false ∧ cb < w6.heap.size := by
  have hrow := own_typ h.row
  have lcb := (Array.getElem?_eq_some_iff.1 h.box).1
  have lrb := h.lt
  have hw : ∀ k, k < W.heap.size → k ≤ cb → w6.heap[k]? = W.heap[k]? := fun k hk hc => (hgrow.block k (by simp; omega) (fun e => by have := (hrow k e.symm).2.1; omega)).trans (Below.heap_alloc W _ k hk)
  have hb6 : w6.heap[cb]? = some (.cells #[.slice CA n cc, .int .i64 x] 37 (0, 0)) := (hw cb lcb (Nat.le_refl _)).trans h.box
  have hset : ∀ k, k ≠ cb → (w6.setCell ⟨cb, 0, none⟩ (.slice (some ⟨g, 0, none⟩) (n + 1) cap')).heap[k]? = w6.heap[k]? := fun k hk => Below.heap_setCell _ _ _ k hk
  refine ⟨⟨?_, ⟨?_, ?_⟩, ?_, ?_, lrb⟩, cell_heap hb6 rfl, by simp [World.frozen?, hb6], (Array.getElem?_eq_some_iff.1 hb6).1⟩
  · exact (hset rb (by omega)).trans ((hw rb (Array.getElem?_eq_some_iff.1 h.rd).1 (by omega)).trans h.rd)
  · exact (((h.kr.1.alloc (by omega) (.cells cs t)).grown hgrow (by simp; omega) (fun k e => by have := (hrow k e).2.1; omega)).setCell (p := ⟨cb, 0, none⟩) (by show rb ≤ cb; omega) _)
  · intro k hk hne
    exact (hset k (by omega)).trans ((hw k (by have := h.kr.1.size; omega) (by omega)).trans (h.kr.2 k hk hne))
  · have := Go.heap_setCell_same w6 cb 0 _ _ (.slice (some ⟨g, 0, none⟩) (n + 1) cap') hb6
    exact this.trans (by simp)
  · refine own_keep (by simpa using hown) (fun k _ hT => hset k fun e' => ?_)
    subst e'
    have := hT.eq ⟨_, _, hb6⟩
    revert this
    decide
theorem LS.setAt {W1 : World} {rb cb : Nat} {s : List UInt8} {ok : Bool} {c : List Int} {n : Nat} {CA : Option Addr} {cc : Nat} {x : Int} {W : World} (h : LS W1 rb cb s ok c n CA cc x W) (hz : W1.heap.size = cb) (y : Int) : LS W1 rb cb s ok c n CA cc y (W.setCell ⟨cb, 1, none⟩ (.int .i64 y)) := by
  have hset : ∀ k, k ≠ cb → (W.setCell ⟨cb, 1, none⟩ (.int .i64 y)).heap[k]? = W.heap[k]? := fun k hk => Below.heap_setCell _ _ _ k hk
  have lrb := h.lt
  refine ⟨(hset rb (by omega)).trans h.rd, ⟨h.kr.1.setCell (p := ⟨cb, 1, none⟩) (by show rb ≤ cb; omega) _, fun k hk hne => (hset k (by omega)).trans (h.kr.2 k hk hne)⟩, ?_, own_keep h.row (fun k _ hT => hset k fun e' => ?_), lrb⟩
  · have := Go.heap_setCell_same W cb 1 _ _ (Value.int .i64 y) h.box
    exact this.trans (by simp)
  · subst e'
    have := hT.eq ⟨_, _, h.box⟩
    revert this
    decide
theorem nodeM_true {dim k : Nat} {s : List UInt8} {ok : Bool} {out : List Nd} (h : (nodeM dim k s ok out).2.1 = true) : ok = true := by
  cases ok with
  | true => rfl
  | false => rw [nodeM_no] at h; cases h
theorem endM_eq {out : List Nd} {a r : Nat} {x l y : Nd} (hx : out[a]? = some x) (hl : out[a + 1]? = some l) (hr : out[r]? = some y) : endM out a r = out.set a { x with right := (r : Int), size := wrap64 (l.size + y.size) } := by
  unfold endM
  rw [hx, hl, hr]
theorem get_map {rs : List (Value × Nd)} {i : Nat} {x : Value × Nd} (h : rs[i]? = some x) : (rs.map (·.2))[i]? = some x.2 := by rw [List.getElem?_map, h]; rfl
theorem own_low {w : World} {b b' : Nat} {e : TypeId} {size n : Nat} {v : Value} {xs : List Value} (h : w.ownsRow b e size v n xs) (hb : b' ≤ b) : w.ownsRow b' e size v n xs := by
  refine ⟨h.1, ?_⟩
  rcases h.2 with h0 | ⟨g, cap, cur, hv, hg, hr⟩
  · exact .inl h0
  · exact .inr ⟨g, cap, cur, hv, Nat.le_trans hb hg, hr⟩
def LR (W1 : World) (rb cb dn : Nat) (a : List UInt8 × Bool) (i : Value) (wr : World) : Prop :=
  ∃ (j : Nat) (CA : Option Addr) (cc : Nat), j ≤ dn ∧ i = .int .i64 j ∧ LS W1 rb cb (coefM j [] a.1 a.2).2.1 (coefM j [] a.1 a.2).2.2 (coefM j [] a.1 a.2).1 j CA cc 0 wr
set_option maxHeartbeats 8000000 in
set_option maxRecDepth 100000 in
theorem node_any {w0 : World} {rb tb : Nat} {dn : Nat} (hrb : w0.heap.size ≤ rb) (htb : w0.heap.size ≤ tb) (hG : G w0) (hd1 : 1 ≤ dn) (hd2 : dn ≤ 8) : ∀ (k : Nat) (s : List UInt8) (ok : Bool) (nv : Value) (rs : List (Value × Nd)) (w : World) (st : Int), st = (k : Int) - 1 → k ≤ 7 →
    PSt w0 rb tb (dn : Int) s ok nv rs w → s.length ≤ 1000000 → rs.length + 2 ^ k ≤ 1000 →
    Calls Tryd.prog 46 #[.pointer (some ⟨rb, 0, none⟩), .pointer (some ⟨tb, 0, none⟩), .int .i64 st] w (NPost w0 rb tb (dn : Int) (nodeM dn k s ok (rs.map (·.2)))) := by
  intro k
  induction k with
  | zero =>
    rintro s ok nv rs w st rfl hk hP hs hl
    obtain ⟨c0, c1, hf⟩ := hP.rd.cells
    obtain ⟨t0, t1, tf⟩ := hP.box
    have HP := Lib.hid hP
    have lr := (Array.getElem?_eq_some_iff.1 hP.rd).1
    obtain ⟨NA, nc, rfl⟩ := slice_of hP.pt.own
    have F := Lib.hid (show nodeM dn 0 s ok (rs.map (·.2)) = (s, false, rs.map (·.2)) from rfl)
    clear hP
    rw [show ((0 : Nat) : Int) - 1 = -1 from rfl]
    cases ok with
    | false =>
      go_enter Tryd.func46, Tryd.ntmps46
      go_wp2_with fail
      (try simp only [Exit.inBlock, Exit.then])
      refine bodyPost_ret (results_none rfl _ _ _) rfl ?_
      rw [F.out]
      exact ⟨rfl, _, rs, HP.out.read (KR.set (KR.refl _ _) _ _) (HP.out.rd.setOk false) hrb, rfl⟩
    | true =>
      go_enter Tryd.func46, Tryd.ntmps46
      go_wp2_with fail
      (try simp only [Exit.inBlock, Exit.then])
      refine bodyPost_ret (results_none rfl _ _ _) rfl ?_
      rw [F.out]
      exact ⟨rfl, _, rs, HP.out.read (KR.set (KR.refl _ _) _ _) (HP.out.rd.setOk false) hrb, rfl⟩
  | succ k IH =>
    rintro s ok nv rs w st rfl hk hP hs hl
    obtain ⟨c0, c1, hf⟩ := hP.rd.cells
    obtain ⟨t0, t1, tf⟩ := hP.box
    have HP := Lib.hid hP
    have HG := Lib.hid hG
    have lr := (Array.getElem?_eq_some_iff.1 hP.rd).1
    obtain ⟨NA, nc, rfl⟩ := slice_of hP.pt.own
    obtain ⟨nn, hnn⟩ : ∃ nn, rs.length = nn := ⟨_, rfl⟩
    have HRL := Lib.hid hnn
    rw [hnn] at t1 HP hl
    have hp1 := Nat.one_le_two_pow (n := k)
    have hp2 : 2 ^ (k + 1) = 2 ^ k + 2 ^ k := by rw [Nat.pow_succ]; omega
    rw [hp2] at hl
    clear hP hnn
    rw [show ((k + 1 : Nat) : Int) - 1 = (k : Int) by omega]
    cases ok with
    | false =>
      have F := Lib.hid (show nodeM dn (k + 1) s false (rs.map (·.2)) = (s, false, rs.map (·.2)) from rfl)
      go_enter Tryd.func46, Tryd.ntmps46
      go_wp2_with fail
      (try simp only [Exit.inBlock, Exit.then])
      refine bodyPost_ret (results_none rfl _ _ _) rfl ?_
      rw [F.out]
      exact ⟨rfl, _, rs, HP.out.read (KR.set (KR.refl _ _) _ _) (HP.out.rd.setOk false) hrb, rfl⟩
    | true =>
      have hk0 : ¬ (k : Int) < 0 := by omega
      have HPO := Lib.hid (fun w => Tryd.strings_HasPrefix ⟨s.toArray⟩ ⟨#[40]⟩ w)
      have HPX := Lib.hid (show Lib.hasPrefix (⟨s.toArray⟩ : ByteArray).data.toList (⟨#[40]⟩ : ByteArray).data.toList = decide (s.head? = some 40) from prefix_open s)
      by_cases hh : s.head? = some 40
      · have hhd : decide (s.head? = some 40) = true := decide_eq_true hh
        have F := Lib.hid (show nodeM dn (k + 1) s true (rs.map (·.2)) = _ by simp only [nodeM]; rw [if_pos hh])
        go_enter Tryd.func46, Tryd.ntmps46
        go_wp2_with fail
        refine (HPO.out _).mono ?_
        rintro e w1 ⟨rfl, rfl⟩
        rw [HPX.out, hhd]
        go_wp2_with fail
        refine (byte_any rb s true 40 _ rfl _ HP.out.rd hs).mono ?_
        rintro e W1 ⟨rfl, hr1, hk1⟩
        obtain ⟨a, ha⟩ : ∃ a, byteM 40 s true = a := ⟨_, rfl⟩
        rw [ha] at hr1
        have hal := byteM_le 40 s true
        rw [ha] at hal
        have hP1 := HP.out.read hk1 hr1 hrb
        have HP1 := Lib.hid hP1
        have HA := Lib.hid ha
        clear c0 c1 hf t0 t1 tf hr1 hk1 lr ha
        obtain ⟨t0, t1, tf⟩ := hP1.box
        have lt1 := (Array.getElem?_eq_some_iff.1 hP1.pt.box).1
        clear hP1
        obtain ⟨cb, hcb⟩ : ∃ cb, W1.heap.size = cb := ⟨_, rfl⟩
        have lrc : rb < cb := by rw [← hcb]; exact (Array.getElem?_eq_some_iff.1 HP1.out.rd).1
        have H0 := Lib.hid (show LR W1 rb cb dn a (.int .i64 0) (W1.alloc (.cells #[.slice none 0 0, .int .i64 0] 37)) from ⟨0, none, 0, Nat.zero_le _, rfl, HP1.out.rd.below (below_a1 _ _), KR.of_below (below_a1 _ _) (by omega), by rw [← hcb]; exact heap_alloc_new W1 _, World.ownsRow_nil _ _ _ _, lrc⟩)
        have HCB := Lib.hid hcb
        rw [hcb] at lt1
        go_wp2_with fail
        (try rw [hcb])
        clear hcb
        go_loopw [54] (fun i wr => LR W1 rb cb dn a i wr) (fun i _ => dn - (intOf i).toNat)
        case atStart => exact H0.out
        case round =>
          obtain ⟨j, CA, cc, hj, rfl, hS⟩ := hrel
          have HS := Lib.hid hS
          obtain ⟨x0, x1, xf⟩ := hS.cells
          have lx := (Array.getElem?_eq_some_iff.1 hS.box).1
          obtain ⟨hCl, hCn⟩ := coefM_le j [] a.1 a.2
          obtain ⟨C, hC⟩ : ∃ C, coefM j [] a.1 a.2 = C := ⟨_, rfl⟩
          rw [hC] at HS hCl hCn
          have HC := Lib.hid hC
          clear hS hC
          by_cases hjn : j = dn
          · subst hjn
            clear t0 t1 tf
            go_wp2_with fail
            refine (byte_any rb _ _ 60 _ rfl _ HS.out.rd (by omega)).mono ?_
            rintro e V1 ⟨rfl, hr, hkk⟩
            obtain ⟨c1, hc1⟩ : ∃ c1, byteM 60 C.2.1 C.2.2 = c1 := ⟨_, rfl⟩
            have hl1 := byteM_le 60 C.2.1 C.2.2
            rw [hc1] at hr hl1
            have HC1 := Lib.hid hc1
            have HS1 := Lib.hid (HS.out.read hkk hr)
            clear hr hkk hc1 x0 x1 xf
            go_wp2_with fail
            refine (byte_any rb _ _ 32 _ rfl _ HS1.out.rd (by omega)).mono ?_
            rintro e V2 ⟨rfl, hr, hkk⟩
            obtain ⟨d, hd⟩ : ∃ d, byteM 32 c1.1 c1.2 = d := ⟨_, rfl⟩
            have hl2 := byteM_le 32 c1.1 c1.2
            rw [hd] at hr hl2
            have HD := Lib.hid hd
            have HS2 := Lib.hid (HS1.out.read hkk hr)
            clear hr hkk hd
            go_wp2_with fail
            refine (number_any rb d.1 d.2 _ HS2.out.rd (by omega) (HG.out.below (HP1.out.low.trans (HS2.out.kr.1.mono hrb)))).mono ?_
            rintro e V3 ⟨rfl, hr, hkk⟩
            obtain ⟨E, hE⟩ : ∃ E, numM d.1 d.2 = E := ⟨_, rfl⟩
            have hl3 := numM_le d.1 d.2
            rw [hE] at hr hl3 ⊢
            have HE := Lib.hid hE
            have hS3 := HS2.out.read hkk hr
            have HS3 := Lib.hid hS3
            have lx3 := (Array.getElem?_eq_some_iff.1 hS3.box).1
            obtain ⟨x0, x1, xf⟩ := hS3.cells
            clear hr hkk hE hS3
            go_wp2_with fail
            have HS4 := Lib.hid (HS3.out.setAt HCB.out E.1)
            clear x0 x1 xf
            obtain ⟨V4, hV4⟩ : ∃ V4, V3.setCell ⟨cb, 1, none⟩ (.int .i64 E.1) = V4 := ⟨_, rfl⟩
            rw [hV4] at HS4 ⊢
            clear hV4
            refine (byte_any rb _ _ 32 _ rfl _ HS4.out.rd (by omega)).mono ?_
            rintro e V5 ⟨rfl, hr, hkk⟩
            obtain ⟨f, hf⟩ : ∃ f, byteM 32 E.2.1 E.2.2 = f := ⟨_, rfl⟩
            have hl5 := byteM_le 32 E.2.1 E.2.2
            rw [hf] at hr hl5
            have HF := Lib.hid hf
            have HS5 := Lib.hid (HS4.out.read hkk hr)
            clear hr hkk hf
            have HP5 := Lib.hid (HP1.out.read HS5.out.kr HS5.out.rd hrb)
            have lb5 := (Array.getElem?_eq_some_iff.1 HP5.out.pt.box).1
            have lx5 := (Array.getElem?_eq_some_iff.1 HS5.out.box).1
            go_wp2_with fail
            refine wp_region_held_drew (S := fun _ => True) (by kernel_rfl) trivial (fun hHeld => ?_)
            have hP6 := HP5.out.below (Below.refl _ _).drew
            have hS6 := HS5.out.below (Below.refl _ _).drew
            obtain ⟨Wd, hWd⟩ : ∃ Wd, V5.drew = Wd := ⟨_, rfl⟩
            rw [hWd] at hP6 hS6 ⊢
            have HP6 := Lib.hid hP6
            have HS6 := Lib.hid hS6
            clear hWd
            obtain ⟨t0, t1, tf⟩ := hP6.box
            obtain ⟨x0, x1, xf⟩ := hS6.cells
            have lb6 := (Array.getElem?_eq_some_iff.1 hP6.pt.box).1
            have lx6 := (Array.getElem?_eq_some_iff.1 hS6.box).1
            have hOWN := hP6.pt.own.alloc (.cells #[.slice CA j cc, .int .i64 E.1, .int .i64 ((nn : Int) + 1), .int .i64 0, .int .i64 0] 39)
            have hNEWS := World.news_of_block (heap_alloc_new Wd (.cells #[.slice CA j cc, .int .i64 E.1, .int .i64 ((nn : Int) + 1), .int .i64 0, .int .i64 0] 39))
            rw [HRL.out] at hOWN
            have HOWN := Lib.hid hOWN
            have HNEWS := Lib.hid hNEWS
            have hwn : IntKind.i64.wrap ((nn : Int) + 1) = (nn : Int) + 1 := IntWalk.i64_in _ (by omega)
            clear hP6 hS6 hOWN hNEWS
            refine wpAnyH_take (i := 0) (oi := ?oi0_19) (v := ?v0_19) ?hi0_19 (by kernel_rfl) ?hf0_19 (by kernel_rfl) ?hq0_19 ?hy0_19 hHeld ?rest0_19
            case hi0_19 => (simp only [List.getElem?_toArray, List.getElem?_cons_zero]; try exact rfl)
            case hf0_19 => kernel_rfl
            case hq0_19 => exact fun _ _ _ h => h
            case hy0_19 => (refine Or.inl ⟨rfl, ?_⟩; intro w hSw; (try dsimp only at hSw); go_simp; try with_reducible rfl)
            try simp only [Act.put, List.setIfInBounds_toArray, List.set_cons_zero, List.set_cons_succ]
            refine wpAnyH_take (i := 1) (oi := ?oi1_20) (v := ?v1_20) ?hi1_20 (by kernel_rfl) ?hf1_20 (by kernel_rfl) ?hq1_20 ?hy1_20 hHeld ?rest1_20
            case hi1_20 => (simp only [List.getElem?_toArray, List.getElem?_cons_succ, List.getElem?_cons_zero]; try exact rfl)
            case hf1_20 => kernel_rfl
            case hq1_20 => exact fun _ _ _ h => h
            case hy1_20 => (refine Or.inl ⟨rfl, ?_⟩; intro w hSw; (try dsimp only at hSw); go_simp; try with_reducible rfl)
            try simp only [Act.put, List.setIfInBounds_toArray, List.set_cons_zero, List.set_cons_succ]
            refine wpAnyH_take (i := 2) (oi := ?oi2_21) (v := ?v2_21) ?hi2_21 (by kernel_rfl) ?hf2_21 (by kernel_rfl) ?hq2_21 ?hy2_21 hHeld ?rest2_21
            case hi2_21 => (simp only [List.getElem?_toArray, List.getElem?_cons_succ, List.getElem?_cons_zero]; try exact rfl)
            case hf2_21 => kernel_rfl
            case hq2_21 => exact fun _ _ _ h => h
            case hy2_21 => (refine Or.inl ⟨rfl, ?_⟩; intro w hSw; (try dsimp only at hSw); go_simp; try with_reducible rfl)
            try simp only [Act.put, List.setIfInBounds_toArray, List.set_cons_zero, List.set_cons_succ]
            refine wpAnyH_take (i := 3) (oi := ?oi3_22) (v := ?v3_22) ?hi3_22 (by kernel_rfl) ?hf3_22 (by kernel_rfl) ?hq3_22 ?hy3_22 hHeld ?rest3_22
            case hi3_22 => (simp only [List.getElem?_toArray, List.getElem?_cons_succ, List.getElem?_cons_zero]; try exact rfl)
            case hf3_22 => kernel_rfl
            case hq3_22 => exact fun _ _ _ h => h
            case hy3_22 => (refine Or.inl ⟨rfl, ?_⟩; intro w hSw; (try dsimp only at hSw); go_simp; try with_reducible rfl)
            try simp only [Act.put, List.setIfInBounds_toArray, List.set_cons_zero, List.set_cons_succ]
            refine wpAnyH_take (i := 6) (oi := ?oi6_23) (v := ?v6_23) ?hi6_23 (by kernel_rfl) ?hf6_23 (by kernel_rfl) ?hq6_23 ?hy6_23 hHeld ?rest6_23
            case hi6_23 => (simp only [List.getElem?_toArray, List.getElem?_cons_succ, List.getElem?_cons_zero]; try exact rfl)
            case hf6_23 => kernel_rfl
            case hq6_23 => exact fun _ _ _ h => h
            case hy6_23 => (refine Or.inl ⟨rfl, ?_⟩; intro w hSw; (try dsimp only at hSw); go_simp; try with_reducible rfl)
            try simp only [Act.put, List.setIfInBounds_toArray, List.set_cons_zero, List.set_cons_succ]
            refine wpAnyH_take (i := 7) (oi := ?oi7_24) (v := ?v7_24) ?hi7_24 (by kernel_rfl) ?hf7_24 (by kernel_rfl) ?hq7_24 ?hy7_24 hHeld ?rest7_24
            case hi7_24 => (simp only [List.getElem?_toArray, List.getElem?_cons_succ, List.getElem?_cons_zero]; try exact rfl)
            case hf7_24 => kernel_rfl
            case hq7_24 => exact fun _ _ _ h => h
            case hy7_24 => (refine Or.inl ⟨rfl, ?_⟩; intro w hSw; (try dsimp only at hSw); go_simp; try with_reducible rfl)
            try simp only [Act.put, List.setIfInBounds_toArray, List.set_cons_zero, List.set_cons_succ]
            refine wpAnyH_ready (rs := [4, 5]) (by kernel_rfl) (by simp) ?_
            refine AllReadyH.cons (by simp only [List.getElem?_toArray, List.getElem?_cons_succ, List.getElem?_cons_zero]; try exact rfl) (fun K hK => ?_) (AllReadyH.cons (by simp only [List.getElem?_toArray, List.getElem?_cons_succ, List.getElem?_cons_zero]; try exact rfl) (fun K hK => ?_) AllReadyH.nil)
            · go_simp
              refine hK.out _ _ trivial (fun hHeld => ?_)
              clear hK K
              try simp only [Act.put, List.setIfInBounds_toArray, List.set_cons_zero, List.set_cons_succ]
              refine wpAnyH_ready (rs := [5]) (by kernel_rfl) (by simp) ?_
              refine AllReadyH.cons (by simp only [List.getElem?_toArray, List.getElem?_cons_succ, List.getElem?_cons_zero]; try exact rfl) (fun K hK => ?_) AllReadyH.nil
              go_simp
              refine hK.out _ _ trivial (fun hHeld => ?_)
              clear hK K
              try simp only [Act.put, List.setIfInBounds_toArray, List.set_cons_zero, List.set_cons_succ]
              refine wpAnyH_take (i := 8) (oi := ?oi8_25) (v := ?v8_25) ?hi8_25 (by kernel_rfl) ?hf8_25 (by kernel_rfl) ?hq8_25 ?hy8_25 hHeld ?rest8_25
              case hi8_25 => (simp only [List.getElem?_toArray, List.getElem?_cons_succ, List.getElem?_cons_zero]; try exact rfl)
              case hf8_25 => kernel_rfl
              case hq8_25 => exact fun _ _ _ h => h
              case hy8_25 => (refine Or.inl ⟨rfl, ?_⟩; intro w hSw; (try dsimp only at hSw); go_simp; try with_reducible rfl)
              try simp only [Act.put, List.setIfInBounds_toArray, List.set_cons_zero, List.set_cons_succ]
              refine wpAnyH_ready (rs := [9]) (by kernel_rfl) (by simp) ?_
              refine AllReadyH.cons (by simp only [List.getElem?_toArray, List.getElem?_cons_succ, List.getElem?_cons_zero]; try exact rfl) (fun K hK => ?_) AllReadyH.nil
              go_simp
              refine hK.out _ _ trivial (fun hHeld => ?_)
              clear hK K
              try simp only [Act.put, List.setIfInBounds_toArray, List.set_cons_zero, List.set_cons_succ]
              refine wpAnyH_ready (rs := [10]) (by kernel_rfl) (by simp) ?_
              refine AllReadyH.cons (by simp only [List.getElem?_toArray, List.getElem?_cons_succ, List.getElem?_cons_zero]; try exact rfl) (fun K hK => ?_) AllReadyH.nil
              refine stepL rfl (.tmp 79) (.tmp 84) _ rfl eltN w0.heap.size (.slice NA nn nc) nn 1 1 ⟨Wd.heap.size, 0, none⟩ (rs.flatMap ndC) (ndC (.slice CA j cc, ⟨C.1, E.1, (nn : Int) + 1, 0, 0⟩)) ?hs26 HOWN.out ?hx26 rfl HNEWS.out (ndC_one _ _ _ _ _ rfl) (by omega) (by omega) (by have := HP6.out.low.size; simp; omega) ?_
              case hs26 => (simp only [Act.eval]; first | rfl | (go_simp; done))
              case hx26 => (simp only [Act.eval]; first | rfl | (go_simp; done))
              intro g cap' w1 hown' hgrow hat hlt
              obtain ⟨hP7, hq1, hq2⟩ := HP6.out.app HRL.out htb (cv := .slice CA j cc) (nd := ⟨C.1, E.1, (nn : Int) + 1, 0, 0⟩) (by rw [show (⟨C.1, E.1, (nn : Int) + 1, 0, 0⟩ : Nd).coef.length = j by show C.1.length = j; rw [hCn]; simp]; exact own_low HS6.out.row (by have := HP1.out.low.size; have := HCB.out; omega)) hown' (fun k hk hne => (hgrow.block k (by simp; omega) (fun e => hne e.symm)).trans (Below.heap_alloc Wd _ k hk)) (((Below.refl _ _).alloc HP6.out.low.size _).grown hgrow (by have := HP6.out.low.size; simp; omega) (fun k e => (own_typ HP6.out.pt.own k e).2.1))
              have HP7 := Lib.hid hP7
              clear hP7
              refine hK.out _ _ trivial (fun hHeld => ?_)
              clear hK K
              try simp only [Act.put, List.setIfInBounds_toArray, List.set_cons_zero, List.set_cons_succ]
              refine wpAnyH_take (i := 11) (oi := ?oi11_27) (v := ?v11_27) ?hi11_27 (by kernel_rfl) ?hf11_27 (by kernel_rfl) ?hq11_27 ?hy11_27 hHeld ?rest11_27
              case hi11_27 => (simp only [List.getElem?_toArray, List.getElem?_cons_succ, List.getElem?_cons_zero]; try exact rfl)
              case hf11_27 => kernel_rfl
              case hq11_27 => exact fun _ _ _ h => h
              case hy11_27 => (refine Or.inl ⟨rfl, ?_⟩; intro w hSw; (try dsimp only at hSw); go_simp; try with_reducible rfl)
              try simp only [Act.put, List.setIfInBounds_toArray, List.set_cons_zero, List.set_cons_succ]
              refine wpAnyH_take (i := 12) (oi := ?oi12_28) (v := ?v12_28) ?hi12_28 (by kernel_rfl) ?hf12_28 (by kernel_rfl) ?hq12_28 ?hy12_28 hHeld ?rest12_28
              case hi12_28 => (simp only [List.getElem?_toArray, List.getElem?_cons_succ, List.getElem?_cons_zero]; try exact rfl)
              case hf12_28 => kernel_rfl
              case hq12_28 => exact fun _ _ _ h => h
              case hy12_28 => (refine Or.inl ⟨rfl, ?_⟩; intro w hSw; (try dsimp only at hSw); go_simp; try with_reducible rfl)
              try simp only [Act.put, List.setIfInBounds_toArray, List.set_cons_zero, List.set_cons_succ]
              refine wpAnyH_ready (rs := [13]) (by kernel_rfl) (by simp) ?_
              refine AllReadyH.cons (by simp only [List.getElem?_toArray, List.getElem?_cons_succ, List.getElem?_cons_zero]; try exact rfl) (fun K hK => ?_) AllReadyH.nil
              go_simp
              refine hK.out _ _ trivial (fun hHeld => ?_)
              clear hK K
              try simp only [Act.put, List.setIfInBounds_toArray, List.set_cons_zero, List.set_cons_succ]
              refine wpAnyH_done (by kernel_rfl) ?_ _
              go_wp2_with fail
              obtain ⟨rs1, hrs1⟩ : ∃ rs1, rs ++ [((.slice CA j cc : Value), (⟨C.1, E.1, (nn : Int) + 1, 0, 0⟩ : Nd))] = rs1 := ⟨_, rfl⟩
              rw [hrs1] at HP7
              have hln1 : rs1.length = nn + 1 := by rw [← hrs1]; simp [HRL.out]
              have hms1 : rs1.map (·.2) = rs.map (·.2) ++ [⟨C.1, E.1, (nn : Int) + 1, 0, 0⟩] := by rw [← hrs1]; simp
              refine (IH f.1 f.2 _ rs1 _ _ rfl (by omega) HP7.out (by omega) (by rw [hln1]; omega)).mono ?_
              rintro e V8 ⟨rfl, nv2, rs2, hP8, hm8⟩
              obtain ⟨n1, e1, ll1, o1⟩ := nodeM_ext j k f.1 f.2 (rs1.map (·.2))
              have hlp := nodeM_le j k f.1 f.2 (rs1.map (·.2))
              obtain ⟨p, hp⟩ : ∃ p, nodeM j k f.1 f.2 (rs1.map (·.2)) = p := ⟨_, rfl⟩
              rw [hp] at hP8 hm8 e1 o1 hlp
              have HP := Lib.hid hp
              have hl2' : rs2.length = nn + 1 + n1.length := by have := congrArg List.length hm8; rw [e1] at this; simpa [hln1] using this
              have HP8 := Lib.hid hP8
              have HM8 := Lib.hid hm8
              have HE1 := Lib.hid e1
              have HO1 := Lib.hid o1
              have HMS1 := Lib.hid hms1
              have HL2 := Lib.hid hl2'
              obtain ⟨r, hr2⟩ : ∃ r, rs2.length = r := ⟨_, rfl⟩
              have HR := Lib.hid hr2
              rw [hr2] at hl2'
              have hrb1 : r + 2 ^ k ≤ 1000 := by omega
              have hrn : nn + 1 ≤ r := by omega
              clear hp hm8 e1 o1 hms1 hP8 hrs1 t0 t1 tf x0 x1 xf hl2' hr2 hq1 hq2
              go_wp2_with fail
              refine (byte_any rb _ _ 32 _ rfl _ HP8.out.rd (by omega)).mono ?_
              rintro e V9 ⟨rfl, hr, hkk⟩
              obtain ⟨b, hb⟩ : ∃ b, byteM 32 p.1 p.2.1 = b := ⟨_, rfl⟩
              have hl9 := byteM_le 32 p.1 p.2.1
              rw [hb] at hr hl9
              have HBY := Lib.hid hb
              have hP9 := HP8.out.read hkk hr hrb
              obtain ⟨NA2, nc2, rfl⟩ := slice_of hP9.pt.own
              have HP9 := Lib.hid hP9
              obtain ⟨t0, t1, tf⟩ := hP9.box
              rw [HR.out] at t1
              clear hr hkk hb hP9
              go_wp2_with fail
              refine (IH b.1 b.2 _ rs2 _ _ rfl (by omega) HP9.out (by omega) (by rw [HR.out]; exact hrb1)).mono ?_
              rintro e V10 ⟨rfl, nv3, rs3, hP10, hm10⟩
              obtain ⟨n2, e2, ll2, o2⟩ := nodeM_ext j k b.1 b.2 (rs2.map (·.2))
              have hlq := nodeM_le j k b.1 b.2 (rs2.map (·.2))
              obtain ⟨q, hq⟩ : ∃ q, nodeM j k b.1 b.2 (rs2.map (·.2)) = q := ⟨_, rfl⟩
              have hqt := nodeM_true (dim := j) (k := k) (s := b.1) (ok := b.2) (out := rs2.map (·.2))
              rw [hq] at hP10 hm10 e2 o2 hlq hqt
              have HQ := Lib.hid hq
              have hl3' : rs3.length = r + n2.length := by have := congrArg List.length hm10; rw [e2] at this; simpa [HR.out] using this
              have HP10 := Lib.hid hP10
              have HM10 := Lib.hid hm10
              have HE2 := Lib.hid e2
              have HO2 := Lib.hid o2
              have HQT := Lib.hid hqt
              have HL3 := Lib.hid hl3'
              clear hq hm10 e2 o2 hP10 hqt hl3' t0 t1 tf
              go_wp2_with fail
              refine (byte_any rb _ _ 41 _ rfl _ HP10.out.rd (by omega)).mono ?_
              rintro e V11 ⟨rfl, hr, hkk⟩
              obtain ⟨y, hy⟩ : ∃ y, byteM 41 q.1 q.2.1 = y := ⟨_, rfl⟩
              have hyt := byteM_ok (c := 41) (s := q.1) (ok := q.2.1)
              rw [hy] at hr hyt
              have HY := Lib.hid hy
              have hP11 := HP10.out.read hkk hr hrb
              have HP11 := Lib.hid hP11
              obtain ⟨r0, r1, rf⟩ := hP11.rd.cells
              clear hr hkk hy
              have FF := Lib.hid (show nodeM j (k + 1) s true (rs.map (·.2)) = (y.1, y.2, if y.2 = true then endM q.2.2 nn r else q.2.2) from by
                rw [F.out]
                simp only [headM, HA.out, HC.out, HC1.out, HD.out, HE.out, HF.out, List.length_map, HRL.out, ← HMS1.out, HP.out, HBY.out, ← HM8.out, HQ.out, HY.out, HR.out])
              cases hy2 : y.2 with
              | false =>
                rw [hy2] at r1
                clear hP11
                go_wp2_with fail
                go_end0
                rw [FF.out, hy2]
                exact ⟨rfl, _, rs3, by have := HP11.out; rw [hy2] at this; exact this, HM10.out⟩
              | true =>
                have hqq : q.2.1 = true := (hyt hy2).1
                have hn2 := HO2.out hqq
                have hb2 : b.2 = true := HQT.out hqq
                have hp2' : p.2.1 = true := (byteM_ok (c := 32) (s := p.1) (ok := p.2.1) (by rw [HBY.out]; exact hb2)).1
                have hn1 := HO1.out hp2'
                have hll2 := HL2.out
                rw [HR.out] at hll2
                have hll3 := HL3.out
                rw [hy2] at r1
                have hown := hP11.pt.own
                obtain ⟨m3, hm3⟩ : ∃ m3, rs3.length = m3 := ⟨_, rfl⟩
                rw [hm3] at hown hll3
                obtain ⟨g3, c3, hv3, hgb, hgl⟩ := hown.form (by omega)
                subst hv3
                obtain ⟨X0, hX0⟩ : ∃ x, rs3[nn]? = some x := ⟨_, List.getElem?_eq_getElem (by omega)⟩
                obtain ⟨XL, hXL⟩ : ∃ x, rs3[nn + 1]? = some x := ⟨_, List.getElem?_eq_getElem (by omega)⟩
                obtain ⟨XR, hXR⟩ : ∃ x, rs3[r]? = some x := ⟨_, List.getElem?_eq_getElem (by omega)⟩
                have z3 := own_cell hown hX0 (o := 3) (u := .int .i64 X0.2.right) rfl
                have zf := own_free hown
                obtain ⟨t0, t1, tf⟩ := hP11.box
                have hnm : nn < m3 := by omega
                have hHM := hm3
                have HMM := Lib.hid hm3
                have HP12 := Lib.hid (hP11.set hm3 3 (by omega) (.int .i64 (r : Int)) { X0.2 with right := (r : Int) } nn hX0 rfl rfl)
                have HX0 := Lib.hid hX0
                have HXL := Lib.hid hXL
                have HXR := Lib.hid hXR
                have HLN := Lib.hid hll3
                have hb3 : nn + 1 < r ∧ r < m3 := by omega
                clear hown hP11 hm3 hHM hX0 hXL hXR hll3 hll2 hn1 hn2
                obtain ⟨hb31, hb32⟩ := hb3
                go_wp2_with fail
                obtain ⟨rs4, hrs4⟩ : ∃ rs4, rs3.set nn (X0.1, { X0.2 with right := (r : Int) }) = rs4 := ⟨_, rfl⟩
                obtain ⟨V12, hV12⟩ : ∃ V12, V11.setCell ⟨g3, nn * 5 + 3, none⟩ (.int .i64 (r : Int)) = V12 := ⟨_, rfl⟩
                rw [hrs4, hV12] at HP12
                rw [hV12]
                have hl4 : rs4.length = m3 := by rw [← hrs4, List.length_set]; exact HMM.out
                have hY0 : rs4[nn]? = some (X0.1, { X0.2 with right := (r : Int) }) := by rw [← hrs4]; exact List.getElem?_set_self (by rw [HMM.out]; exact hnm)
                have hYL : rs4[nn + 1]? = some XL := by rw [← hrs4, List.getElem?_set_ne (by omega)]; exact HXL.out
                have hYR : rs4[r]? = some XR := by rw [← hrs4, List.getElem?_set_ne (by omega)]; exact HXR.out
                clear hV12 z3 zf t0 t1 tf
                have hP12 := HP12.out
                have hown := hP12.pt.own
                rw [hl4] at hown
                have zl := own_cell hown hYL (o := 4) (u := .int .i64 XL.2.size) rfl
                have zr := own_cell hown hYR (o := 4) (u := .int .i64 XR.2.size) rfl
                have z0 := own_cell hown hY0 (o := 4) (u := .int .i64 X0.2.size) rfl
                have zf := own_free hown
                obtain ⟨t0, t1, tf⟩ := hP12.box
                have HY0 := Lib.hid hY0
                have HYL := Lib.hid hYL
                have HYR := Lib.hid hYR
                have HL4 := Lib.hid hl4
                have HRS4 := Lib.hid hrs4
                clear hP12 hown hY0 hYL hYR hl4 hrs4
                have hi1 : ((nn : Int) + 1) = ((nn + 1 : Nat) : Int) := by omega
                have hwn1 : IntKind.i64.wrap ((nn : Int) + 1) = ((nn + 1 : Nat) : Int) := by rw [← hi1]; exact IntWalk.i64_in _ (by omega)
                clear hwn hi1
                have hws : IntKind.i64.wrap (XL.2.size + XR.2.size) = wrap64 (XL.2.size + XR.2.size) := IntWalk.i64_left _
                have hL1 : nn + 1 < m3 := by omega
                obtain ⟨nl, hnl⟩ : ∃ nl, nn + 1 = nl := ⟨_, rfl⟩
                rw [hnl] at hwn1 zl hL1 HYL
                refine wp_region_held_drew (S := fun w' => w'.cell? ⟨tb, 1, none⟩ = some (.slice (some ⟨g3, 0, none⟩) m3 c3) ∧ w'.cell? ⟨g3, nl * 5 + 4, none⟩ = some (.int .i64 XL.2.size) ∧ w'.cell? ⟨g3, r * 5 + 4, none⟩ = some (.int .i64 XR.2.size) ∧ w'.frozen? ⟨g3, nn * 5 + 4, none⟩ = false ∧ (∃ u, w'.cell? ⟨g3, nn * 5 + 4, none⟩ = some u)) (by kernel_rfl) ⟨t1, zl, zr, zf _, _, z0⟩ (fun hHeld => ?_)
                clear t0 t1 tf zl zr z0 zf
                refine wpAnyH_take (i := 0) (oi := ?oi0_29) (v := ?v0_29) ?hi0_29 (by kernel_rfl) ?hf0_29 (by kernel_rfl) ?hq0_29 ?hy0_29 hHeld ?rest0_29
                case hi0_29 => (simp only [List.getElem?_toArray, List.getElem?_cons_zero]; try exact rfl)
                case hf0_29 => kernel_rfl
                case hq0_29 => exact fun _ _ _ h => h
                case hy0_29 => (refine Or.inl ⟨rfl, ?_⟩; intro w hSw; (try dsimp only at hSw); go_simp; try with_reducible rfl)
                try simp only [Act.put, List.setIfInBounds_toArray, List.set_cons_zero, List.set_cons_succ]
                refine wpAnyH_take (i := 1) (oi := ?oi1_30) (v := ?v1_30) ?hi1_30 (by kernel_rfl) ?hf1_30 (by kernel_rfl) ?hq1_30 ?hy1_30 hHeld ?rest1_30
                case hi1_30 => (simp only [List.getElem?_toArray, List.getElem?_cons_succ, List.getElem?_cons_zero]; try exact rfl)
                case hf1_30 => kernel_rfl
                case hq1_30 => exact fun _ _ _ h => h
                case hy1_30 => (refine Or.inl ⟨rfl, ?_⟩; intro w hSw; (try dsimp only at hSw); go_simp; try with_reducible rfl)
                try simp only [Act.put, List.setIfInBounds_toArray, List.set_cons_zero, List.set_cons_succ]
                refine wpAnyH_take (i := 2) (oi := ?oi2_31) (v := ?v2_31) ?hi2_31 (by kernel_rfl) ?hf2_31 (by kernel_rfl) ?hq2_31 ?hy2_31 hHeld ?rest2_31
                case hi2_31 => (simp only [List.getElem?_toArray, List.getElem?_cons_succ, List.getElem?_cons_zero]; try exact rfl)
                case hf2_31 => kernel_rfl
                case hq2_31 => exact fun _ _ _ h => h
                case hy2_31 => (refine Or.inl ⟨rfl, ?_⟩; intro w hSw; (try dsimp only at hSw); go_simp; try with_reducible rfl)
                try simp only [Act.put, List.setIfInBounds_toArray, List.set_cons_zero, List.set_cons_succ]
                refine wpAnyH_take (i := 3) (oi := ?oi3_32) (v := ?v3_32) ?hi3_32 (by kernel_rfl) ?hf3_32 (by kernel_rfl) ?hq3_32 ?hy3_32 hHeld ?rest3_32
                case hi3_32 => (simp only [List.getElem?_toArray, List.getElem?_cons_succ, List.getElem?_cons_zero]; try exact rfl)
                case hf3_32 => kernel_rfl
                case hq3_32 => exact fun _ _ _ h => h
                case hy3_32 => (refine Or.inl ⟨rfl, ?_⟩; intro w hSw; (try dsimp only at hSw); go_simp; try with_reducible rfl)
                try simp only [Act.put, List.setIfInBounds_toArray, List.set_cons_zero, List.set_cons_succ]
                refine wpAnyH_take (i := 4) (oi := ?oi4_33) (v := ?v4_33) ?hi4_33 (by kernel_rfl) ?hf4_33 (by kernel_rfl) ?hq4_33 ?hy4_33 hHeld ?rest4_33
                case hi4_33 => (simp only [List.getElem?_toArray, List.getElem?_cons_succ, List.getElem?_cons_zero]; try exact rfl)
                case hf4_33 => kernel_rfl
                case hq4_33 => exact fun _ _ _ h => h
                case hy4_33 => (refine Or.inl ⟨rfl, ?_⟩; intro w hSw; (try dsimp only at hSw); go_simp; try with_reducible rfl)
                try simp only [Act.put, List.setIfInBounds_toArray, List.set_cons_zero, List.set_cons_succ]
                refine wpAnyH_take (i := 5) (oi := ?oi5_34) (v := ?v5_34) ?hi5_34 (by kernel_rfl) ?hf5_34 (by kernel_rfl) ?hq5_34 ?hy5_34 hHeld ?rest5_34
                case hi5_34 => (simp only [List.getElem?_toArray, List.getElem?_cons_succ, List.getElem?_cons_zero]; try exact rfl)
                case hf5_34 => kernel_rfl
                case hq5_34 => exact fun _ _ _ h => h
                case hy5_34 => (refine Or.inl ⟨rfl, ?_⟩; intro w hSw; (try dsimp only at hSw); go_simp; try with_reducible rfl)
                try simp only [Act.put, List.setIfInBounds_toArray, List.set_cons_zero, List.set_cons_succ]
                refine wpAnyH_take (i := 6) (oi := ?oi6_35) (v := ?v6_35) ?hi6_35 (by kernel_rfl) ?hf6_35 (by kernel_rfl) ?hq6_35 ?hy6_35 hHeld ?rest6_35
                case hi6_35 => (simp only [List.getElem?_toArray, List.getElem?_cons_succ, List.getElem?_cons_zero]; try exact rfl)
                case hf6_35 => kernel_rfl
                case hq6_35 => exact fun _ _ _ h => h
                case hy6_35 => (refine Or.inl ⟨rfl, ?_⟩; intro w hSw; (try dsimp only at hSw); go_simp; try with_reducible rfl)
                try simp only [Act.put, List.setIfInBounds_toArray, List.set_cons_zero, List.set_cons_succ]
                refine wpAnyH_take (i := 7) (oi := ?oi7_36) (v := ?v7_36) ?hi7_36 (by kernel_rfl) ?hf7_36 (by kernel_rfl) ?hq7_36 ?hy7_36 hHeld ?rest7_36
                case hi7_36 => (simp only [List.getElem?_toArray, List.getElem?_cons_succ, List.getElem?_cons_zero]; try exact rfl)
                case hf7_36 => kernel_rfl
                case hq7_36 => exact fun _ _ _ h => h
                case hy7_36 => (refine Or.inl ⟨rfl, ?_⟩; intro w hSw; (try dsimp only at hSw); go_simp; try with_reducible rfl)
                try simp only [Act.put, List.setIfInBounds_toArray, List.set_cons_zero, List.set_cons_succ]
                refine wpAnyH_take (i := 8) (oi := ?oi8_37) (v := ?v8_37) ?hi8_37 (by kernel_rfl) ?hf8_37 (by kernel_rfl) ?hq8_37 ?hy8_37 hHeld ?rest8_37
                case hi8_37 => (simp only [List.getElem?_toArray, List.getElem?_cons_succ, List.getElem?_cons_zero]; try exact rfl)
                case hf8_37 => kernel_rfl
                case hq8_37 => exact fun _ _ _ h => h
                case hy8_37 => (refine Or.inl ⟨rfl, ?_⟩; intro w hSw; (try dsimp only at hSw); go_simp; try with_reducible rfl)
                try simp only [Act.put, List.setIfInBounds_toArray, List.set_cons_zero, List.set_cons_succ]
                refine wpAnyH_take (i := 9) (oi := ?oi9_38) (v := ?v9_38) ?hi9_38 (by kernel_rfl) ?hf9_38 (by kernel_rfl) ?hq9_38 ?hy9_38 hHeld ?rest9_38
                case hi9_38 => (simp only [List.getElem?_toArray, List.getElem?_cons_succ, List.getElem?_cons_zero]; try exact rfl)
                case hf9_38 => kernel_rfl
                case hq9_38 => exact fun _ _ _ h => h
                case hy9_38 => (refine Or.inl ⟨rfl, ?_⟩; intro w hSw; (try dsimp only at hSw); go_simp; try with_reducible rfl)
                try simp only [Act.put, List.setIfInBounds_toArray, List.set_cons_zero, List.set_cons_succ]
                refine wpAnyH_take (i := 10) (oi := ?oi10_39) (v := ?v10_39) ?hi10_39 (by kernel_rfl) ?hf10_39 (by kernel_rfl) ?hq10_39 ?hy10_39 hHeld ?rest10_39
                case hi10_39 => (simp only [List.getElem?_toArray, List.getElem?_cons_succ, List.getElem?_cons_zero]; try exact rfl)
                case hf10_39 => kernel_rfl
                case hq10_39 => exact fun _ _ _ h => h
                case hy10_39 => (refine Or.inl ⟨rfl, ?_⟩; intro w hSw; (try dsimp only at hSw); go_simp; try with_reducible rfl)
                try simp only [Act.put, List.setIfInBounds_toArray, List.set_cons_zero, List.set_cons_succ]
                refine wpAnyH_take (i := 11) (oi := ?oi11_40) (v := ?v11_40) ?hi11_40 (by kernel_rfl) ?hf11_40 (by kernel_rfl) ?hq11_40 ?hy11_40 hHeld ?rest11_40
                case hi11_40 => (simp only [List.getElem?_toArray, List.getElem?_cons_succ, List.getElem?_cons_zero]; try exact rfl)
                case hf11_40 => kernel_rfl
                case hq11_40 => exact fun _ _ _ h => h
                case hy11_40 => (refine Or.inl ⟨rfl, ?_⟩; intro w hSw; (try dsimp only at hSw); go_simp; try with_reducible rfl)
                try simp only [Act.put, List.setIfInBounds_toArray, List.set_cons_zero, List.set_cons_succ]
                refine wpAnyH_take (i := 12) (oi := ?oi12_41) (v := ?v12_41) ?hi12_41 (by kernel_rfl) ?hf12_41 (by kernel_rfl) ?hq12_41 ?hy12_41 hHeld ?rest12_41
                case hi12_41 => (simp only [List.getElem?_toArray, List.getElem?_cons_succ, List.getElem?_cons_zero]; try exact rfl)
                case hf12_41 => kernel_rfl
                case hq12_41 => exact fun _ _ _ h => h
                case hy12_41 => (refine Or.inl ⟨rfl, ?_⟩; intro w hSw; (try dsimp only at hSw); go_simp; try with_reducible rfl)
                try simp only [Act.put, List.setIfInBounds_toArray, List.set_cons_zero, List.set_cons_succ]
                refine wpAnyH_take (i := 13) (oi := ?oi13_42) (v := ?v13_42) ?hi13_42 (by kernel_rfl) ?hf13_42 (by kernel_rfl) ?hq13_42 ?hy13_42 hHeld ?rest13_42
                case hi13_42 => (simp only [List.getElem?_toArray, List.getElem?_cons_succ, List.getElem?_cons_zero]; try exact rfl)
                case hf13_42 => kernel_rfl
                case hq13_42 => exact fun _ _ _ h => h
                case hy13_42 => (refine Or.inl ⟨rfl, ?_⟩; intro w hSw; (try dsimp only at hSw); go_simp; try with_reducible rfl)
                try simp only [Act.put, List.setIfInBounds_toArray, List.set_cons_zero, List.set_cons_succ]
                refine wpAnyH_take (i := 14) (oi := ?oi14_43) (v := ?v14_43) ?hi14_43 (by kernel_rfl) ?hf14_43 (by kernel_rfl) ?hq14_43 ?hy14_43 hHeld ?rest14_43
                case hi14_43 => (simp only [List.getElem?_toArray, List.getElem?_cons_succ, List.getElem?_cons_zero]; try exact rfl)
                case hf14_43 => kernel_rfl
                case hq14_43 => exact fun _ _ _ h => h
                case hy14_43 => (refine Or.inl ⟨rfl, ?_⟩; intro w hSw; (try dsimp only at hSw); go_simp; try with_reducible rfl)
                try simp only [Act.put, List.setIfInBounds_toArray, List.set_cons_zero, List.set_cons_succ]
                refine wpAnyH_take (i := 15) (oi := ?oi15_44) (v := ?v15_44) ?hi15_44 (by kernel_rfl) ?hf15_44 (by kernel_rfl) ?hq15_44 ?hy15_44 hHeld ?rest15_44
                case hi15_44 => (simp only [List.getElem?_toArray, List.getElem?_cons_succ, List.getElem?_cons_zero]; try exact rfl)
                case hf15_44 => kernel_rfl
                case hq15_44 => exact fun _ _ _ h => h
                case hy15_44 => (refine Or.inl ⟨rfl, ?_⟩; intro w hSw; (try dsimp only at hSw); go_simp; try with_reducible rfl)
                try simp only [Act.put, List.setIfInBounds_toArray, List.set_cons_zero, List.set_cons_succ]
                refine wpAnyH_take (i := 16) (oi := ?oi16_45) (v := ?v16_45) ?hi16_45 (by kernel_rfl) ?hf16_45 (by kernel_rfl) ?hq16_45 ?hy16_45 hHeld ?rest16_45
                case hi16_45 => (simp only [List.getElem?_toArray, List.getElem?_cons_succ, List.getElem?_cons_zero]; try exact rfl)
                case hf16_45 => kernel_rfl
                case hq16_45 => exact fun _ _ _ h => h
                case hy16_45 => (refine Or.inl ⟨rfl, ?_⟩; intro w hSw; (try dsimp only at hSw); go_simp; try with_reducible rfl)
                try simp only [Act.put, List.setIfInBounds_toArray, List.set_cons_zero, List.set_cons_succ]
                refine wpAnyH_take (i := 17) (oi := ?oi17_46) (v := ?v17_46) ?hi17_46 (by kernel_rfl) ?hf17_46 (by kernel_rfl) ?hq17_46 ?hy17_46 hHeld ?rest17_46
                case hi17_46 => (simp only [List.getElem?_toArray, List.getElem?_cons_succ, List.getElem?_cons_zero]; try exact rfl)
                case hf17_46 => kernel_rfl
                case hq17_46 => exact fun _ _ _ h => h
                case hy17_46 => (refine Or.inl ⟨rfl, ?_⟩; intro w hSw; (try dsimp only at hSw); go_simp; try with_reducible rfl)
                try simp only [Act.put, List.setIfInBounds_toArray, List.set_cons_zero, List.set_cons_succ]
                refine wpAnyH_take (i := 18) (oi := ?oi18_47) (v := ?v18_47) ?hi18_47 (by kernel_rfl) ?hf18_47 (by kernel_rfl) ?hq18_47 ?hy18_47 hHeld ?rest18_47
                case hi18_47 => (simp only [List.getElem?_toArray, List.getElem?_cons_succ, List.getElem?_cons_zero]; try exact rfl)
                case hf18_47 => kernel_rfl
                case hq18_47 => exact fun _ _ _ h => h
                case hy18_47 => (refine Or.inl ⟨rfl, ?_⟩; intro w hSw; (try dsimp only at hSw); go_simp; try with_reducible rfl)
                try simp only [Act.put, List.setIfInBounds_toArray, List.set_cons_zero, List.set_cons_succ]
                refine wpAnyH_take (i := 19) (oi := ?oi19_48) (v := ?v19_48) ?hi19_48 (by kernel_rfl) ?hf19_48 (by kernel_rfl) ?hq19_48 ?hy19_48 hHeld ?rest19_48
                case hi19_48 => (simp only [List.getElem?_toArray, List.getElem?_cons_succ, List.getElem?_cons_zero]; try exact rfl)
                case hf19_48 => kernel_rfl
                case hq19_48 => exact fun _ _ _ h => h
                case hy19_48 => (refine Or.inl ⟨rfl, ?_⟩; intro w hSw; (try dsimp only at hSw); go_simp; try with_reducible rfl)
                try simp only [Act.put, List.setIfInBounds_toArray, List.set_cons_zero, List.set_cons_succ]
                refine wpAnyH_take (i := 20) (oi := ?oi20_49) (v := ?v20_49) ?hi20_49 (by kernel_rfl) ?hf20_49 (by kernel_rfl) ?hq20_49 ?hy20_49 hHeld ?rest20_49
                case hi20_49 => (simp only [List.getElem?_toArray, List.getElem?_cons_succ, List.getElem?_cons_zero]; try exact rfl)
                case hf20_49 => kernel_rfl
                case hq20_49 => exact fun _ _ _ h => h
                case hy20_49 => (refine Or.inl ⟨rfl, ?_⟩; intro w hSw; (try dsimp only at hSw); go_simp; try with_reducible rfl)
                try simp only [Act.put, List.setIfInBounds_toArray, List.set_cons_zero, List.set_cons_succ]
                refine wpAnyH_take (i := 21) (oi := ?oi21_50) (v := ?v21_50) ?hi21_50 (by kernel_rfl) ?hf21_50 (by kernel_rfl) ?hq21_50 ?hy21_50 hHeld ?rest21_50
                case hi21_50 => (simp only [List.getElem?_toArray, List.getElem?_cons_succ, List.getElem?_cons_zero]; try exact rfl)
                case hf21_50 => kernel_rfl
                case hq21_50 => exact fun _ _ _ h => h
                case hy21_50 => (refine Or.inl ⟨rfl, ?_⟩; intro w hSw; (try dsimp only at hSw); go_simp; try with_reducible rfl)
                try simp only [Act.put, List.setIfInBounds_toArray, List.set_cons_zero, List.set_cons_succ]
                refine wpAnyH_take (i := 22) (oi := ?oi22_51) (v := ?v22_51) ?hi22_51 (by kernel_rfl) ?hf22_51 (by kernel_rfl) ?hq22_51 ?hy22_51 hHeld ?rest22_51
                case hi22_51 => (simp only [List.getElem?_toArray, List.getElem?_cons_succ, List.getElem?_cons_zero]; try exact rfl)
                case hf22_51 => kernel_rfl
                case hq22_51 => exact fun _ _ _ h => h
                case hy22_51 => (refine Or.inl ⟨rfl, ?_⟩; intro w hSw; (try dsimp only at hSw); go_simp; try with_reducible rfl)
                try simp only [Act.put, List.setIfInBounds_toArray, List.set_cons_zero, List.set_cons_succ]
                refine wpAnyH_take (i := 23) (oi := ?oi23_52) (v := ?v23_52) ?hi23_52 (by kernel_rfl) ?hf23_52 (by kernel_rfl) ?hq23_52 ?hy23_52 hHeld ?rest23_52
                case hi23_52 => (simp only [List.getElem?_toArray, List.getElem?_cons_succ, List.getElem?_cons_zero]; try exact rfl)
                case hf23_52 => kernel_rfl
                case hq23_52 => exact fun _ _ _ h => h
                case hy23_52 => (refine Or.inl ⟨rfl, ?_⟩; intro w hSw; (try dsimp only at hSw); go_simp; try with_reducible rfl)
                try simp only [Act.put, List.setIfInBounds_toArray, List.set_cons_zero, List.set_cons_succ]
                refine wpAnyH_take (i := 24) (oi := ?oi24_53) (v := ?v24_53) ?hi24_53 (by kernel_rfl) ?hf24_53 (by kernel_rfl) ?hq24_53 ?hy24_53 hHeld ?rest24_53
                case hi24_53 => (simp only [List.getElem?_toArray, List.getElem?_cons_succ, List.getElem?_cons_zero]; try exact rfl)
                case hf24_53 => kernel_rfl
                case hq24_53 => exact fun _ _ _ h => h
                case hy24_53 => (refine Or.inl ⟨rfl, ?_⟩; intro w hSw; (try dsimp only at hSw); go_simp; try with_reducible rfl)
                try simp only [Act.put, List.setIfInBounds_toArray, List.set_cons_zero, List.set_cons_succ]
                refine wpAnyH_ready (rs := [25]) (by kernel_rfl) (by simp) ?_
                refine AllReadyH.cons (by simp only [List.getElem?_toArray, List.getElem?_cons_succ, List.getElem?_cons_zero]; try exact rfl) (fun K hK => ?_) AllReadyH.nil
                obtain ⟨e0', e1', e2', e3', ⟨u, e4'⟩⟩ := hHeld
                go_simp
                have hP13 := (HP12.out.set HL4.out 4 (by omega) (.int .i64 (wrap64 (XL.2.size + XR.2.size))) { X0.2 with right := (r : Int), size := wrap64 (XL.2.size + XR.2.size) } nn HY0.out rfl rfl).below (Below.refl _ _).drew
                have hl5 : (rs4.set nn (X0.1, { X0.2 with right := (r : Int), size := wrap64 (XL.2.size + XR.2.size) })).length = m3 := by rw [List.length_set]; exact HL4.out
                have hown := hP13.pt.own
                rw [hl5] at hown
                have HP13 := Lib.hid hP13
                refine hK.out _ _ ⟨hP13.box.2.1, own_cell hown (x := XL) (by rw [List.getElem?_set_ne (by omega)]; exact HYL.out) (o := 4) rfl, own_cell hown (x := XR) (by rw [List.getElem?_set_ne (by omega)]; exact HYR.out) (o := 4) rfl, own_free hown _, _, own_cell hown (List.getElem?_set_self (by rw [HL4.out]; exact hnm)) (o := 4) rfl⟩ (fun hHeld => ?_)
                clear hK K hP13 hown hHeld e0' e1' e2' e3' e4'
                try simp only [Act.put, List.setIfInBounds_toArray, List.set_cons_zero, List.set_cons_succ]
                refine wpAnyH_done (by kernel_rfl) ?_ _
                go_wp2_with fail
                go_end0
                have FF' : nodeM j (k + 1) s true (rs.map (·.2)) = (y.1, true, endM q.2.2 nn r) := by rw [FF.out, hy2, if_pos rfl]
                rw [FF']
                refine ⟨rfl, _, _, by have := HP13.out; rw [hy2] at this; exact this, ?_⟩
                rw [← HM10.out, endM_eq (get_map HX0.out) (get_map HXL.out) (get_map HXR.out), ← HRS4.out, List.set_set, List.map_set]
            · go_simp
              refine hK.out _ _ trivial (fun hHeld => ?_)
              clear hK K
              try simp only [Act.put, List.setIfInBounds_toArray, List.set_cons_zero, List.set_cons_succ]
              refine wpAnyH_take (i := 8) (oi := ?oi8_54) (v := ?v8_54) ?hi8_54 (by kernel_rfl) ?hf8_54 (by kernel_rfl) ?hq8_54 ?hy8_54 hHeld ?rest8_54
              case hi8_54 => (simp only [List.getElem?_toArray, List.getElem?_cons_succ, List.getElem?_cons_zero]; try exact rfl)
              case hf8_54 => kernel_rfl
              case hq8_54 => exact fun _ _ _ h => h
              case hy8_54 => (refine Or.inl ⟨rfl, ?_⟩; intro w hSw; (try dsimp only at hSw); go_simp; try with_reducible rfl)
              try simp only [Act.put, List.setIfInBounds_toArray, List.set_cons_zero, List.set_cons_succ]
              refine wpAnyH_ready (rs := [4, 9]) (by kernel_rfl) (by simp) ?_
              refine AllReadyH.cons (by simp only [List.getElem?_toArray, List.getElem?_cons_succ, List.getElem?_cons_zero]; try exact rfl) (fun K hK => ?_) (AllReadyH.cons (by simp only [List.getElem?_toArray, List.getElem?_cons_succ, List.getElem?_cons_zero]; try exact rfl) (fun K hK => ?_) AllReadyH.nil)
              · go_simp
                refine hK.out _ _ trivial (fun hHeld => ?_)
                clear hK K
                try simp only [Act.put, List.setIfInBounds_toArray, List.set_cons_zero, List.set_cons_succ]
                refine wpAnyH_ready (rs := [9]) (by kernel_rfl) (by simp) ?_
                refine AllReadyH.cons (by simp only [List.getElem?_toArray, List.getElem?_cons_succ, List.getElem?_cons_zero]; try exact rfl) (fun K hK => ?_) AllReadyH.nil
                go_simp
                refine hK.out _ _ trivial (fun hHeld => ?_)
                clear hK K
                try simp only [Act.put, List.setIfInBounds_toArray, List.set_cons_zero, List.set_cons_succ]
                refine wpAnyH_ready (rs := [10]) (by kernel_rfl) (by simp) ?_
                refine AllReadyH.cons (by simp only [List.getElem?_toArray, List.getElem?_cons_succ, List.getElem?_cons_zero]; try exact rfl) (fun K hK => ?_) AllReadyH.nil
                refine stepL rfl (.tmp 79) (.tmp 84) _ rfl eltN w0.heap.size (.slice NA nn nc) nn 1 1 ⟨Wd.heap.size, 0, none⟩ (rs.flatMap ndC) (ndC (.slice CA j cc, ⟨C.1, E.1, (nn : Int) + 1, 0, 0⟩)) ?hs55 HOWN.out ?hx55 rfl HNEWS.out (ndC_one _ _ _ _ _ rfl) (by omega) (by omega) (by have := HP6.out.low.size; simp; omega) ?_
                case hs55 => (simp only [Act.eval]; first | rfl | (go_simp; done))
                case hx55 => (simp only [Act.eval]; first | rfl | (go_simp; done))
                intro g cap' w1 hown' hgrow hat hlt
                obtain ⟨hP7, hq1, hq2⟩ := HP6.out.app HRL.out htb (cv := .slice CA j cc) (nd := ⟨C.1, E.1, (nn : Int) + 1, 0, 0⟩) (by rw [show (⟨C.1, E.1, (nn : Int) + 1, 0, 0⟩ : Nd).coef.length = j by show C.1.length = j; rw [hCn]; simp]; exact own_low HS6.out.row (by have := HP1.out.low.size; have := HCB.out; omega)) hown' (fun k hk hne => (hgrow.block k (by simp; omega) (fun e => hne e.symm)).trans (Below.heap_alloc Wd _ k hk)) (((Below.refl _ _).alloc HP6.out.low.size _).grown hgrow (by have := HP6.out.low.size; simp; omega) (fun k e => (own_typ HP6.out.pt.own k e).2.1))
                have HP7 := Lib.hid hP7
                clear hP7
                refine hK.out _ _ trivial (fun hHeld => ?_)
                clear hK K
                try simp only [Act.put, List.setIfInBounds_toArray, List.set_cons_zero, List.set_cons_succ]
                refine wpAnyH_take (i := 11) (oi := ?oi11_56) (v := ?v11_56) ?hi11_56 (by kernel_rfl) ?hf11_56 (by kernel_rfl) ?hq11_56 ?hy11_56 hHeld ?rest11_56
                case hi11_56 => (simp only [List.getElem?_toArray, List.getElem?_cons_succ, List.getElem?_cons_zero]; try exact rfl)
                case hf11_56 => kernel_rfl
                case hq11_56 => exact fun _ _ _ h => h
                case hy11_56 => (refine Or.inl ⟨rfl, ?_⟩; intro w hSw; (try dsimp only at hSw); go_simp; try with_reducible rfl)
                try simp only [Act.put, List.setIfInBounds_toArray, List.set_cons_zero, List.set_cons_succ]
                refine wpAnyH_take (i := 12) (oi := ?oi12_57) (v := ?v12_57) ?hi12_57 (by kernel_rfl) ?hf12_57 (by kernel_rfl) ?hq12_57 ?hy12_57 hHeld ?rest12_57
                case hi12_57 => (simp only [List.getElem?_toArray, List.getElem?_cons_succ, List.getElem?_cons_zero]; try exact rfl)
                case hf12_57 => kernel_rfl
                case hq12_57 => exact fun _ _ _ h => h
                case hy12_57 => (refine Or.inl ⟨rfl, ?_⟩; intro w hSw; (try dsimp only at hSw); go_simp; try with_reducible rfl)
                try simp only [Act.put, List.setIfInBounds_toArray, List.set_cons_zero, List.set_cons_succ]
                refine wpAnyH_ready (rs := [13]) (by kernel_rfl) (by simp) ?_
                refine AllReadyH.cons (by simp only [List.getElem?_toArray, List.getElem?_cons_succ, List.getElem?_cons_zero]; try exact rfl) (fun K hK => ?_) AllReadyH.nil
                go_simp
                refine hK.out _ _ trivial (fun hHeld => ?_)
                clear hK K
                try simp only [Act.put, List.setIfInBounds_toArray, List.set_cons_zero, List.set_cons_succ]
                refine wpAnyH_done (by kernel_rfl) ?_ _
                go_wp2_with fail
                obtain ⟨rs1, hrs1⟩ : ∃ rs1, rs ++ [((.slice CA j cc : Value), (⟨C.1, E.1, (nn : Int) + 1, 0, 0⟩ : Nd))] = rs1 := ⟨_, rfl⟩
                rw [hrs1] at HP7
                have hln1 : rs1.length = nn + 1 := by rw [← hrs1]; simp [HRL.out]
                have hms1 : rs1.map (·.2) = rs.map (·.2) ++ [⟨C.1, E.1, (nn : Int) + 1, 0, 0⟩] := by rw [← hrs1]; simp
                refine (IH f.1 f.2 _ rs1 _ _ rfl (by omega) HP7.out (by omega) (by rw [hln1]; omega)).mono ?_
                rintro e V8 ⟨rfl, nv2, rs2, hP8, hm8⟩
                obtain ⟨n1, e1, ll1, o1⟩ := nodeM_ext j k f.1 f.2 (rs1.map (·.2))
                have hlp := nodeM_le j k f.1 f.2 (rs1.map (·.2))
                obtain ⟨p, hp⟩ : ∃ p, nodeM j k f.1 f.2 (rs1.map (·.2)) = p := ⟨_, rfl⟩
                rw [hp] at hP8 hm8 e1 o1 hlp
                have HP := Lib.hid hp
                have hl2' : rs2.length = nn + 1 + n1.length := by have := congrArg List.length hm8; rw [e1] at this; simpa [hln1] using this
                have HP8 := Lib.hid hP8
                have HM8 := Lib.hid hm8
                have HE1 := Lib.hid e1
                have HO1 := Lib.hid o1
                have HMS1 := Lib.hid hms1
                have HL2 := Lib.hid hl2'
                obtain ⟨r, hr2⟩ : ∃ r, rs2.length = r := ⟨_, rfl⟩
                have HR := Lib.hid hr2
                rw [hr2] at hl2'
                have hrb1 : r + 2 ^ k ≤ 1000 := by omega
                have hrn : nn + 1 ≤ r := by omega
                clear hp hm8 e1 o1 hms1 hP8 hrs1 t0 t1 tf x0 x1 xf hl2' hr2 hq1 hq2
                go_wp2_with fail
                refine (byte_any rb _ _ 32 _ rfl _ HP8.out.rd (by omega)).mono ?_
                rintro e V9 ⟨rfl, hr, hkk⟩
                obtain ⟨b, hb⟩ : ∃ b, byteM 32 p.1 p.2.1 = b := ⟨_, rfl⟩
                have hl9 := byteM_le 32 p.1 p.2.1
                rw [hb] at hr hl9
                have HBY := Lib.hid hb
                have hP9 := HP8.out.read hkk hr hrb
                obtain ⟨NA2, nc2, rfl⟩ := slice_of hP9.pt.own
                have HP9 := Lib.hid hP9
                obtain ⟨t0, t1, tf⟩ := hP9.box
                rw [HR.out] at t1
                clear hr hkk hb hP9
                go_wp2_with fail
                refine (IH b.1 b.2 _ rs2 _ _ rfl (by omega) HP9.out (by omega) (by rw [HR.out]; exact hrb1)).mono ?_
                rintro e V10 ⟨rfl, nv3, rs3, hP10, hm10⟩
                obtain ⟨n2, e2, ll2, o2⟩ := nodeM_ext j k b.1 b.2 (rs2.map (·.2))
                have hlq := nodeM_le j k b.1 b.2 (rs2.map (·.2))
                obtain ⟨q, hq⟩ : ∃ q, nodeM j k b.1 b.2 (rs2.map (·.2)) = q := ⟨_, rfl⟩
                have hqt := nodeM_true (dim := j) (k := k) (s := b.1) (ok := b.2) (out := rs2.map (·.2))
                rw [hq] at hP10 hm10 e2 o2 hlq hqt
                have HQ := Lib.hid hq
                have hl3' : rs3.length = r + n2.length := by have := congrArg List.length hm10; rw [e2] at this; simpa [HR.out] using this
                have HP10 := Lib.hid hP10
                have HM10 := Lib.hid hm10
                have HE2 := Lib.hid e2
                have HO2 := Lib.hid o2
                have HQT := Lib.hid hqt
                have HL3 := Lib.hid hl3'
                clear hq hm10 e2 o2 hP10 hqt hl3' t0 t1 tf
                go_wp2_with fail
                refine (byte_any rb _ _ 41 _ rfl _ HP10.out.rd (by omega)).mono ?_
                rintro e V11 ⟨rfl, hr, hkk⟩
                obtain ⟨y, hy⟩ : ∃ y, byteM 41 q.1 q.2.1 = y := ⟨_, rfl⟩
                have hyt := byteM_ok (c := 41) (s := q.1) (ok := q.2.1)
                rw [hy] at hr hyt
                have HY := Lib.hid hy
                have hP11 := HP10.out.read hkk hr hrb
                have HP11 := Lib.hid hP11
                obtain ⟨r0, r1, rf⟩ := hP11.rd.cells
                clear hr hkk hy
                have FF := Lib.hid (show nodeM j (k + 1) s true (rs.map (·.2)) = (y.1, y.2, if y.2 = true then endM q.2.2 nn r else q.2.2) from by
                  rw [F.out]
                  simp only [headM, HA.out, HC.out, HC1.out, HD.out, HE.out, HF.out, List.length_map, HRL.out, ← HMS1.out, HP.out, HBY.out, ← HM8.out, HQ.out, HY.out, HR.out])
                cases hy2 : y.2 with
                | false =>
                  rw [hy2] at r1
                  clear hP11
                  go_wp2_with fail
                  go_end0
                  rw [FF.out, hy2]
                  exact ⟨rfl, _, rs3, by have := HP11.out; rw [hy2] at this; exact this, HM10.out⟩
                | true =>
                  have hqq : q.2.1 = true := (hyt hy2).1
                  have hn2 := HO2.out hqq
                  have hb2 : b.2 = true := HQT.out hqq
                  have hp2' : p.2.1 = true := (byteM_ok (c := 32) (s := p.1) (ok := p.2.1) (by rw [HBY.out]; exact hb2)).1
                  have hn1 := HO1.out hp2'
                  have hll2 := HL2.out
                  rw [HR.out] at hll2
                  have hll3 := HL3.out
                  rw [hy2] at r1
                  have hown := hP11.pt.own
                  obtain ⟨m3, hm3⟩ : ∃ m3, rs3.length = m3 := ⟨_, rfl⟩
                  rw [hm3] at hown hll3
                  obtain ⟨g3, c3, hv3, hgb, hgl⟩ := hown.form (by omega)
                  subst hv3
                  obtain ⟨X0, hX0⟩ : ∃ x, rs3[nn]? = some x := ⟨_, List.getElem?_eq_getElem (by omega)⟩
                  obtain ⟨XL, hXL⟩ : ∃ x, rs3[nn + 1]? = some x := ⟨_, List.getElem?_eq_getElem (by omega)⟩
                  obtain ⟨XR, hXR⟩ : ∃ x, rs3[r]? = some x := ⟨_, List.getElem?_eq_getElem (by omega)⟩
                  have z3 := own_cell hown hX0 (o := 3) (u := .int .i64 X0.2.right) rfl
                  have zf := own_free hown
                  obtain ⟨t0, t1, tf⟩ := hP11.box
                  have hnm : nn < m3 := by omega
                  have hHM := hm3
                  have HMM := Lib.hid hm3
                  have HP12 := Lib.hid (hP11.set hm3 3 (by omega) (.int .i64 (r : Int)) { X0.2 with right := (r : Int) } nn hX0 rfl rfl)
                  have HX0 := Lib.hid hX0
                  have HXL := Lib.hid hXL
                  have HXR := Lib.hid hXR
                  have HLN := Lib.hid hll3
                  have hb3 : nn + 1 < r ∧ r < m3 := by omega
                  clear hown hP11 hm3 hHM hX0 hXL hXR hll3 hll2 hn1 hn2
                  obtain ⟨hb31, hb32⟩ := hb3
                  go_wp2_with fail
                  obtain ⟨rs4, hrs4⟩ : ∃ rs4, rs3.set nn (X0.1, { X0.2 with right := (r : Int) }) = rs4 := ⟨_, rfl⟩
                  obtain ⟨V12, hV12⟩ : ∃ V12, V11.setCell ⟨g3, nn * 5 + 3, none⟩ (.int .i64 (r : Int)) = V12 := ⟨_, rfl⟩
                  rw [hrs4, hV12] at HP12
                  rw [hV12]
                  have hl4 : rs4.length = m3 := by rw [← hrs4, List.length_set]; exact HMM.out
                  have hY0 : rs4[nn]? = some (X0.1, { X0.2 with right := (r : Int) }) := by rw [← hrs4]; exact List.getElem?_set_self (by rw [HMM.out]; exact hnm)
                  have hYL : rs4[nn + 1]? = some XL := by rw [← hrs4, List.getElem?_set_ne (by omega)]; exact HXL.out
                  have hYR : rs4[r]? = some XR := by rw [← hrs4, List.getElem?_set_ne (by omega)]; exact HXR.out
                  clear hV12 z3 zf t0 t1 tf
                  have hP12 := HP12.out
                  have hown := hP12.pt.own
                  rw [hl4] at hown
                  have zl := own_cell hown hYL (o := 4) (u := .int .i64 XL.2.size) rfl
                  have zr := own_cell hown hYR (o := 4) (u := .int .i64 XR.2.size) rfl
                  have z0 := own_cell hown hY0 (o := 4) (u := .int .i64 X0.2.size) rfl
                  have zf := own_free hown
                  obtain ⟨t0, t1, tf⟩ := hP12.box
                  have HY0 := Lib.hid hY0
                  have HYL := Lib.hid hYL
                  have HYR := Lib.hid hYR
                  have HL4 := Lib.hid hl4
                  have HRS4 := Lib.hid hrs4
                  clear hP12 hown hY0 hYL hYR hl4 hrs4
                  have hi1 : ((nn : Int) + 1) = ((nn + 1 : Nat) : Int) := by omega
                  have hwn1 : IntKind.i64.wrap ((nn : Int) + 1) = ((nn + 1 : Nat) : Int) := by rw [← hi1]; exact IntWalk.i64_in _ (by omega)
                  clear hwn hi1
                  have hws : IntKind.i64.wrap (XL.2.size + XR.2.size) = wrap64 (XL.2.size + XR.2.size) := IntWalk.i64_left _
                  have hL1 : nn + 1 < m3 := by omega
                  obtain ⟨nl, hnl⟩ : ∃ nl, nn + 1 = nl := ⟨_, rfl⟩
                  rw [hnl] at hwn1 zl hL1 HYL
                  refine wp_region_held_drew (S := fun w' => w'.cell? ⟨tb, 1, none⟩ = some (.slice (some ⟨g3, 0, none⟩) m3 c3) ∧ w'.cell? ⟨g3, nl * 5 + 4, none⟩ = some (.int .i64 XL.2.size) ∧ w'.cell? ⟨g3, r * 5 + 4, none⟩ = some (.int .i64 XR.2.size) ∧ w'.frozen? ⟨g3, nn * 5 + 4, none⟩ = false ∧ (∃ u, w'.cell? ⟨g3, nn * 5 + 4, none⟩ = some u)) (by kernel_rfl) ⟨t1, zl, zr, zf _, _, z0⟩ (fun hHeld => ?_)
                  clear t0 t1 tf zl zr z0 zf
                  refine wpAnyH_take (i := 0) (oi := ?oi0_58) (v := ?v0_58) ?hi0_58 (by kernel_rfl) ?hf0_58 (by kernel_rfl) ?hq0_58 ?hy0_58 hHeld ?rest0_58
                  case hi0_58 => (simp only [List.getElem?_toArray, List.getElem?_cons_zero]; try exact rfl)
                  case hf0_58 => kernel_rfl
                  case hq0_58 => exact fun _ _ _ h => h
                  case hy0_58 => (refine Or.inl ⟨rfl, ?_⟩; intro w hSw; (try dsimp only at hSw); go_simp; try with_reducible rfl)
                  try simp only [Act.put, List.setIfInBounds_toArray, List.set_cons_zero, List.set_cons_succ]
                  refine wpAnyH_take (i := 1) (oi := ?oi1_59) (v := ?v1_59) ?hi1_59 (by kernel_rfl) ?hf1_59 (by kernel_rfl) ?hq1_59 ?hy1_59 hHeld ?rest1_59
                  case hi1_59 => (simp only [List.getElem?_toArray, List.getElem?_cons_succ, List.getElem?_cons_zero]; try exact rfl)
                  case hf1_59 => kernel_rfl
                  case hq1_59 => exact fun _ _ _ h => h
                  case hy1_59 => (refine Or.inl ⟨rfl, ?_⟩; intro w hSw; (try dsimp only at hSw); go_simp; try with_reducible rfl)
                  try simp only [Act.put, List.setIfInBounds_toArray, List.set_cons_zero, List.set_cons_succ]
                  refine wpAnyH_take (i := 2) (oi := ?oi2_60) (v := ?v2_60) ?hi2_60 (by kernel_rfl) ?hf2_60 (by kernel_rfl) ?hq2_60 ?hy2_60 hHeld ?rest2_60
                  case hi2_60 => (simp only [List.getElem?_toArray, List.getElem?_cons_succ, List.getElem?_cons_zero]; try exact rfl)
                  case hf2_60 => kernel_rfl
                  case hq2_60 => exact fun _ _ _ h => h
                  case hy2_60 => (refine Or.inl ⟨rfl, ?_⟩; intro w hSw; (try dsimp only at hSw); go_simp; try with_reducible rfl)
                  try simp only [Act.put, List.setIfInBounds_toArray, List.set_cons_zero, List.set_cons_succ]
                  refine wpAnyH_take (i := 3) (oi := ?oi3_61) (v := ?v3_61) ?hi3_61 (by kernel_rfl) ?hf3_61 (by kernel_rfl) ?hq3_61 ?hy3_61 hHeld ?rest3_61
                  case hi3_61 => (simp only [List.getElem?_toArray, List.getElem?_cons_succ, List.getElem?_cons_zero]; try exact rfl)
                  case hf3_61 => kernel_rfl
                  case hq3_61 => exact fun _ _ _ h => h
                  case hy3_61 => (refine Or.inl ⟨rfl, ?_⟩; intro w hSw; (try dsimp only at hSw); go_simp; try with_reducible rfl)
                  try simp only [Act.put, List.setIfInBounds_toArray, List.set_cons_zero, List.set_cons_succ]
                  refine wpAnyH_take (i := 4) (oi := ?oi4_62) (v := ?v4_62) ?hi4_62 (by kernel_rfl) ?hf4_62 (by kernel_rfl) ?hq4_62 ?hy4_62 hHeld ?rest4_62
                  case hi4_62 => (simp only [List.getElem?_toArray, List.getElem?_cons_succ, List.getElem?_cons_zero]; try exact rfl)
                  case hf4_62 => kernel_rfl
                  case hq4_62 => exact fun _ _ _ h => h
                  case hy4_62 => (refine Or.inl ⟨rfl, ?_⟩; intro w hSw; (try dsimp only at hSw); go_simp; try with_reducible rfl)
                  try simp only [Act.put, List.setIfInBounds_toArray, List.set_cons_zero, List.set_cons_succ]
                  refine wpAnyH_take (i := 5) (oi := ?oi5_63) (v := ?v5_63) ?hi5_63 (by kernel_rfl) ?hf5_63 (by kernel_rfl) ?hq5_63 ?hy5_63 hHeld ?rest5_63
                  case hi5_63 => (simp only [List.getElem?_toArray, List.getElem?_cons_succ, List.getElem?_cons_zero]; try exact rfl)
                  case hf5_63 => kernel_rfl
                  case hq5_63 => exact fun _ _ _ h => h
                  case hy5_63 => (refine Or.inl ⟨rfl, ?_⟩; intro w hSw; (try dsimp only at hSw); go_simp; try with_reducible rfl)
                  try simp only [Act.put, List.setIfInBounds_toArray, List.set_cons_zero, List.set_cons_succ]
                  refine wpAnyH_take (i := 6) (oi := ?oi6_64) (v := ?v6_64) ?hi6_64 (by kernel_rfl) ?hf6_64 (by kernel_rfl) ?hq6_64 ?hy6_64 hHeld ?rest6_64
                  case hi6_64 => (simp only [List.getElem?_toArray, List.getElem?_cons_succ, List.getElem?_cons_zero]; try exact rfl)
                  case hf6_64 => kernel_rfl
                  case hq6_64 => exact fun _ _ _ h => h
                  case hy6_64 => (refine Or.inl ⟨rfl, ?_⟩; intro w hSw; (try dsimp only at hSw); go_simp; try with_reducible rfl)
                  try simp only [Act.put, List.setIfInBounds_toArray, List.set_cons_zero, List.set_cons_succ]
                  refine wpAnyH_take (i := 7) (oi := ?oi7_65) (v := ?v7_65) ?hi7_65 (by kernel_rfl) ?hf7_65 (by kernel_rfl) ?hq7_65 ?hy7_65 hHeld ?rest7_65
                  case hi7_65 => (simp only [List.getElem?_toArray, List.getElem?_cons_succ, List.getElem?_cons_zero]; try exact rfl)
                  case hf7_65 => kernel_rfl
                  case hq7_65 => exact fun _ _ _ h => h
                  case hy7_65 => (refine Or.inl ⟨rfl, ?_⟩; intro w hSw; (try dsimp only at hSw); go_simp; try with_reducible rfl)
                  try simp only [Act.put, List.setIfInBounds_toArray, List.set_cons_zero, List.set_cons_succ]
                  refine wpAnyH_take (i := 8) (oi := ?oi8_66) (v := ?v8_66) ?hi8_66 (by kernel_rfl) ?hf8_66 (by kernel_rfl) ?hq8_66 ?hy8_66 hHeld ?rest8_66
                  case hi8_66 => (simp only [List.getElem?_toArray, List.getElem?_cons_succ, List.getElem?_cons_zero]; try exact rfl)
                  case hf8_66 => kernel_rfl
                  case hq8_66 => exact fun _ _ _ h => h
                  case hy8_66 => (refine Or.inl ⟨rfl, ?_⟩; intro w hSw; (try dsimp only at hSw); go_simp; try with_reducible rfl)
                  try simp only [Act.put, List.setIfInBounds_toArray, List.set_cons_zero, List.set_cons_succ]
                  refine wpAnyH_take (i := 9) (oi := ?oi9_67) (v := ?v9_67) ?hi9_67 (by kernel_rfl) ?hf9_67 (by kernel_rfl) ?hq9_67 ?hy9_67 hHeld ?rest9_67
                  case hi9_67 => (simp only [List.getElem?_toArray, List.getElem?_cons_succ, List.getElem?_cons_zero]; try exact rfl)
                  case hf9_67 => kernel_rfl
                  case hq9_67 => exact fun _ _ _ h => h
                  case hy9_67 => (refine Or.inl ⟨rfl, ?_⟩; intro w hSw; (try dsimp only at hSw); go_simp; try with_reducible rfl)
                  try simp only [Act.put, List.setIfInBounds_toArray, List.set_cons_zero, List.set_cons_succ]
                  refine wpAnyH_take (i := 10) (oi := ?oi10_68) (v := ?v10_68) ?hi10_68 (by kernel_rfl) ?hf10_68 (by kernel_rfl) ?hq10_68 ?hy10_68 hHeld ?rest10_68
                  case hi10_68 => (simp only [List.getElem?_toArray, List.getElem?_cons_succ, List.getElem?_cons_zero]; try exact rfl)
                  case hf10_68 => kernel_rfl
                  case hq10_68 => exact fun _ _ _ h => h
                  case hy10_68 => (refine Or.inl ⟨rfl, ?_⟩; intro w hSw; (try dsimp only at hSw); go_simp; try with_reducible rfl)
                  try simp only [Act.put, List.setIfInBounds_toArray, List.set_cons_zero, List.set_cons_succ]
                  refine wpAnyH_take (i := 11) (oi := ?oi11_69) (v := ?v11_69) ?hi11_69 (by kernel_rfl) ?hf11_69 (by kernel_rfl) ?hq11_69 ?hy11_69 hHeld ?rest11_69
                  case hi11_69 => (simp only [List.getElem?_toArray, List.getElem?_cons_succ, List.getElem?_cons_zero]; try exact rfl)
                  case hf11_69 => kernel_rfl
                  case hq11_69 => exact fun _ _ _ h => h
                  case hy11_69 => (refine Or.inl ⟨rfl, ?_⟩; intro w hSw; (try dsimp only at hSw); go_simp; try with_reducible rfl)
                  try simp only [Act.put, List.setIfInBounds_toArray, List.set_cons_zero, List.set_cons_succ]
                  refine wpAnyH_take (i := 12) (oi := ?oi12_70) (v := ?v12_70) ?hi12_70 (by kernel_rfl) ?hf12_70 (by kernel_rfl) ?hq12_70 ?hy12_70 hHeld ?rest12_70
                  case hi12_70 => (simp only [List.getElem?_toArray, List.getElem?_cons_succ, List.getElem?_cons_zero]; try exact rfl)
                  case hf12_70 => kernel_rfl
                  case hq12_70 => exact fun _ _ _ h => h
                  case hy12_70 => (refine Or.inl ⟨rfl, ?_⟩; intro w hSw; (try dsimp only at hSw); go_simp; try with_reducible rfl)
                  try simp only [Act.put, List.setIfInBounds_toArray, List.set_cons_zero, List.set_cons_succ]
                  refine wpAnyH_take (i := 13) (oi := ?oi13_71) (v := ?v13_71) ?hi13_71 (by kernel_rfl) ?hf13_71 (by kernel_rfl) ?hq13_71 ?hy13_71 hHeld ?rest13_71
                  case hi13_71 => (simp only [List.getElem?_toArray, List.getElem?_cons_succ, List.getElem?_cons_zero]; try exact rfl)
                  case hf13_71 => kernel_rfl
                  case hq13_71 => exact fun _ _ _ h => h
                  case hy13_71 => (refine Or.inl ⟨rfl, ?_⟩; intro w hSw; (try dsimp only at hSw); go_simp; try with_reducible rfl)
                  try simp only [Act.put, List.setIfInBounds_toArray, List.set_cons_zero, List.set_cons_succ]
                  refine wpAnyH_take (i := 14) (oi := ?oi14_72) (v := ?v14_72) ?hi14_72 (by kernel_rfl) ?hf14_72 (by kernel_rfl) ?hq14_72 ?hy14_72 hHeld ?rest14_72
                  case hi14_72 => (simp only [List.getElem?_toArray, List.getElem?_cons_succ, List.getElem?_cons_zero]; try exact rfl)
                  case hf14_72 => kernel_rfl
                  case hq14_72 => exact fun _ _ _ h => h
                  case hy14_72 => (refine Or.inl ⟨rfl, ?_⟩; intro w hSw; (try dsimp only at hSw); go_simp; try with_reducible rfl)
                  try simp only [Act.put, List.setIfInBounds_toArray, List.set_cons_zero, List.set_cons_succ]
                  refine wpAnyH_take (i := 15) (oi := ?oi15_73) (v := ?v15_73) ?hi15_73 (by kernel_rfl) ?hf15_73 (by kernel_rfl) ?hq15_73 ?hy15_73 hHeld ?rest15_73
                  case hi15_73 => (simp only [List.getElem?_toArray, List.getElem?_cons_succ, List.getElem?_cons_zero]; try exact rfl)
                  case hf15_73 => kernel_rfl
                  case hq15_73 => exact fun _ _ _ h => h
                  case hy15_73 => (refine Or.inl ⟨rfl, ?_⟩; intro w hSw; (try dsimp only at hSw); go_simp; try with_reducible rfl)
                  try simp only [Act.put, List.setIfInBounds_toArray, List.set_cons_zero, List.set_cons_succ]
                  refine wpAnyH_take (i := 16) (oi := ?oi16_74) (v := ?v16_74) ?hi16_74 (by kernel_rfl) ?hf16_74 (by kernel_rfl) ?hq16_74 ?hy16_74 hHeld ?rest16_74
                  case hi16_74 => (simp only [List.getElem?_toArray, List.getElem?_cons_succ, List.getElem?_cons_zero]; try exact rfl)
                  case hf16_74 => kernel_rfl
                  case hq16_74 => exact fun _ _ _ h => h
                  case hy16_74 => (refine Or.inl ⟨rfl, ?_⟩; intro w hSw; (try dsimp only at hSw); go_simp; try with_reducible rfl)
                  try simp only [Act.put, List.setIfInBounds_toArray, List.set_cons_zero, List.set_cons_succ]
                  refine wpAnyH_take (i := 17) (oi := ?oi17_75) (v := ?v17_75) ?hi17_75 (by kernel_rfl) ?hf17_75 (by kernel_rfl) ?hq17_75 ?hy17_75 hHeld ?rest17_75
                  case hi17_75 => (simp only [List.getElem?_toArray, List.getElem?_cons_succ, List.getElem?_cons_zero]; try exact rfl)
                  case hf17_75 => kernel_rfl
                  case hq17_75 => exact fun _ _ _ h => h
                  case hy17_75 => (refine Or.inl ⟨rfl, ?_⟩; intro w hSw; (try dsimp only at hSw); go_simp; try with_reducible rfl)
                  try simp only [Act.put, List.setIfInBounds_toArray, List.set_cons_zero, List.set_cons_succ]
                  refine wpAnyH_take (i := 18) (oi := ?oi18_76) (v := ?v18_76) ?hi18_76 (by kernel_rfl) ?hf18_76 (by kernel_rfl) ?hq18_76 ?hy18_76 hHeld ?rest18_76
                  case hi18_76 => (simp only [List.getElem?_toArray, List.getElem?_cons_succ, List.getElem?_cons_zero]; try exact rfl)
                  case hf18_76 => kernel_rfl
                  case hq18_76 => exact fun _ _ _ h => h
                  case hy18_76 => (refine Or.inl ⟨rfl, ?_⟩; intro w hSw; (try dsimp only at hSw); go_simp; try with_reducible rfl)
                  try simp only [Act.put, List.setIfInBounds_toArray, List.set_cons_zero, List.set_cons_succ]
                  refine wpAnyH_take (i := 19) (oi := ?oi19_77) (v := ?v19_77) ?hi19_77 (by kernel_rfl) ?hf19_77 (by kernel_rfl) ?hq19_77 ?hy19_77 hHeld ?rest19_77
                  case hi19_77 => (simp only [List.getElem?_toArray, List.getElem?_cons_succ, List.getElem?_cons_zero]; try exact rfl)
                  case hf19_77 => kernel_rfl
                  case hq19_77 => exact fun _ _ _ h => h
                  case hy19_77 => (refine Or.inl ⟨rfl, ?_⟩; intro w hSw; (try dsimp only at hSw); go_simp; try with_reducible rfl)
                  try simp only [Act.put, List.setIfInBounds_toArray, List.set_cons_zero, List.set_cons_succ]
                  refine wpAnyH_take (i := 20) (oi := ?oi20_78) (v := ?v20_78) ?hi20_78 (by kernel_rfl) ?hf20_78 (by kernel_rfl) ?hq20_78 ?hy20_78 hHeld ?rest20_78
                  case hi20_78 => (simp only [List.getElem?_toArray, List.getElem?_cons_succ, List.getElem?_cons_zero]; try exact rfl)
                  case hf20_78 => kernel_rfl
                  case hq20_78 => exact fun _ _ _ h => h
                  case hy20_78 => (refine Or.inl ⟨rfl, ?_⟩; intro w hSw; (try dsimp only at hSw); go_simp; try with_reducible rfl)
                  try simp only [Act.put, List.setIfInBounds_toArray, List.set_cons_zero, List.set_cons_succ]
                  refine wpAnyH_take (i := 21) (oi := ?oi21_79) (v := ?v21_79) ?hi21_79 (by kernel_rfl) ?hf21_79 (by kernel_rfl) ?hq21_79 ?hy21_79 hHeld ?rest21_79
                  case hi21_79 => (simp only [List.getElem?_toArray, List.getElem?_cons_succ, List.getElem?_cons_zero]; try exact rfl)
                  case hf21_79 => kernel_rfl
                  case hq21_79 => exact fun _ _ _ h => h
                  case hy21_79 => (refine Or.inl ⟨rfl, ?_⟩; intro w hSw; (try dsimp only at hSw); go_simp; try with_reducible rfl)
                  try simp only [Act.put, List.setIfInBounds_toArray, List.set_cons_zero, List.set_cons_succ]
                  refine wpAnyH_take (i := 22) (oi := ?oi22_80) (v := ?v22_80) ?hi22_80 (by kernel_rfl) ?hf22_80 (by kernel_rfl) ?hq22_80 ?hy22_80 hHeld ?rest22_80
                  case hi22_80 => (simp only [List.getElem?_toArray, List.getElem?_cons_succ, List.getElem?_cons_zero]; try exact rfl)
                  case hf22_80 => kernel_rfl
                  case hq22_80 => exact fun _ _ _ h => h
                  case hy22_80 => (refine Or.inl ⟨rfl, ?_⟩; intro w hSw; (try dsimp only at hSw); go_simp; try with_reducible rfl)
                  try simp only [Act.put, List.setIfInBounds_toArray, List.set_cons_zero, List.set_cons_succ]
                  refine wpAnyH_take (i := 23) (oi := ?oi23_81) (v := ?v23_81) ?hi23_81 (by kernel_rfl) ?hf23_81 (by kernel_rfl) ?hq23_81 ?hy23_81 hHeld ?rest23_81
                  case hi23_81 => (simp only [List.getElem?_toArray, List.getElem?_cons_succ, List.getElem?_cons_zero]; try exact rfl)
                  case hf23_81 => kernel_rfl
                  case hq23_81 => exact fun _ _ _ h => h
                  case hy23_81 => (refine Or.inl ⟨rfl, ?_⟩; intro w hSw; (try dsimp only at hSw); go_simp; try with_reducible rfl)
                  try simp only [Act.put, List.setIfInBounds_toArray, List.set_cons_zero, List.set_cons_succ]
                  refine wpAnyH_take (i := 24) (oi := ?oi24_82) (v := ?v24_82) ?hi24_82 (by kernel_rfl) ?hf24_82 (by kernel_rfl) ?hq24_82 ?hy24_82 hHeld ?rest24_82
                  case hi24_82 => (simp only [List.getElem?_toArray, List.getElem?_cons_succ, List.getElem?_cons_zero]; try exact rfl)
                  case hf24_82 => kernel_rfl
                  case hq24_82 => exact fun _ _ _ h => h
                  case hy24_82 => (refine Or.inl ⟨rfl, ?_⟩; intro w hSw; (try dsimp only at hSw); go_simp; try with_reducible rfl)
                  try simp only [Act.put, List.setIfInBounds_toArray, List.set_cons_zero, List.set_cons_succ]
                  refine wpAnyH_ready (rs := [25]) (by kernel_rfl) (by simp) ?_
                  refine AllReadyH.cons (by simp only [List.getElem?_toArray, List.getElem?_cons_succ, List.getElem?_cons_zero]; try exact rfl) (fun K hK => ?_) AllReadyH.nil
                  obtain ⟨e0', e1', e2', e3', ⟨u, e4'⟩⟩ := hHeld
                  go_simp
                  have hP13 := (HP12.out.set HL4.out 4 (by omega) (.int .i64 (wrap64 (XL.2.size + XR.2.size))) { X0.2 with right := (r : Int), size := wrap64 (XL.2.size + XR.2.size) } nn HY0.out rfl rfl).below (Below.refl _ _).drew
                  have hl5 : (rs4.set nn (X0.1, { X0.2 with right := (r : Int), size := wrap64 (XL.2.size + XR.2.size) })).length = m3 := by rw [List.length_set]; exact HL4.out
                  have hown := hP13.pt.own
                  rw [hl5] at hown
                  have HP13 := Lib.hid hP13
                  refine hK.out _ _ ⟨hP13.box.2.1, own_cell hown (x := XL) (by rw [List.getElem?_set_ne (by omega)]; exact HYL.out) (o := 4) rfl, own_cell hown (x := XR) (by rw [List.getElem?_set_ne (by omega)]; exact HYR.out) (o := 4) rfl, own_free hown _, _, own_cell hown (List.getElem?_set_self (by rw [HL4.out]; exact hnm)) (o := 4) rfl⟩ (fun hHeld => ?_)
                  clear hK K hP13 hown hHeld e0' e1' e2' e3' e4'
                  try simp only [Act.put, List.setIfInBounds_toArray, List.set_cons_zero, List.set_cons_succ]
                  refine wpAnyH_done (by kernel_rfl) ?_ _
                  go_wp2_with fail
                  go_end0
                  have FF' : nodeM j (k + 1) s true (rs.map (·.2)) = (y.1, true, endM q.2.2 nn r) := by rw [FF.out, hy2, if_pos rfl]
                  rw [FF']
                  refine ⟨rfl, _, _, by have := HP13.out; rw [hy2] at this; exact this, ?_⟩
                  rw [← HM10.out, endM_eq (get_map HX0.out) (get_map HXL.out) (get_map HXR.out), ← HRS4.out, List.set_set, List.map_set]
              · go_simp
                refine hK.out _ _ trivial (fun hHeld => ?_)
                clear hK K
                try simp only [Act.put, List.setIfInBounds_toArray, List.set_cons_zero, List.set_cons_succ]
                refine wpAnyH_ready (rs := [4]) (by kernel_rfl) (by simp) ?_
                refine AllReadyH.cons (by simp only [List.getElem?_toArray, List.getElem?_cons_succ, List.getElem?_cons_zero]; try exact rfl) (fun K hK => ?_) AllReadyH.nil
                go_simp
                refine hK.out _ _ trivial (fun hHeld => ?_)
                clear hK K
                try simp only [Act.put, List.setIfInBounds_toArray, List.set_cons_zero, List.set_cons_succ]
                refine wpAnyH_ready (rs := [10]) (by kernel_rfl) (by simp) ?_
                refine AllReadyH.cons (by simp only [List.getElem?_toArray, List.getElem?_cons_succ, List.getElem?_cons_zero]; try exact rfl) (fun K hK => ?_) AllReadyH.nil
                refine stepL rfl (.tmp 79) (.tmp 84) _ rfl eltN w0.heap.size (.slice NA nn nc) nn 1 1 ⟨Wd.heap.size, 0, none⟩ (rs.flatMap ndC) (ndC (.slice CA j cc, ⟨C.1, E.1, (nn : Int) + 1, 0, 0⟩)) ?hs83 HOWN.out ?hx83 rfl HNEWS.out (ndC_one _ _ _ _ _ rfl) (by omega) (by omega) (by have := HP6.out.low.size; simp; omega) ?_
                case hs83 => (simp only [Act.eval]; first | rfl | (go_simp; done))
                case hx83 => (simp only [Act.eval]; first | rfl | (go_simp; done))
                intro g cap' w1 hown' hgrow hat hlt
                obtain ⟨hP7, hq1, hq2⟩ := HP6.out.app HRL.out htb (cv := .slice CA j cc) (nd := ⟨C.1, E.1, (nn : Int) + 1, 0, 0⟩) (by rw [show (⟨C.1, E.1, (nn : Int) + 1, 0, 0⟩ : Nd).coef.length = j by show C.1.length = j; rw [hCn]; simp]; exact own_low HS6.out.row (by have := HP1.out.low.size; have := HCB.out; omega)) hown' (fun k hk hne => (hgrow.block k (by simp; omega) (fun e => hne e.symm)).trans (Below.heap_alloc Wd _ k hk)) (((Below.refl _ _).alloc HP6.out.low.size _).grown hgrow (by have := HP6.out.low.size; simp; omega) (fun k e => (own_typ HP6.out.pt.own k e).2.1))
                have HP7 := Lib.hid hP7
                clear hP7
                refine hK.out _ _ trivial (fun hHeld => ?_)
                clear hK K
                try simp only [Act.put, List.setIfInBounds_toArray, List.set_cons_zero, List.set_cons_succ]
                refine wpAnyH_take (i := 11) (oi := ?oi11_84) (v := ?v11_84) ?hi11_84 (by kernel_rfl) ?hf11_84 (by kernel_rfl) ?hq11_84 ?hy11_84 hHeld ?rest11_84
                case hi11_84 => (simp only [List.getElem?_toArray, List.getElem?_cons_succ, List.getElem?_cons_zero]; try exact rfl)
                case hf11_84 => kernel_rfl
                case hq11_84 => exact fun _ _ _ h => h
                case hy11_84 => (refine Or.inl ⟨rfl, ?_⟩; intro w hSw; (try dsimp only at hSw); go_simp; try with_reducible rfl)
                try simp only [Act.put, List.setIfInBounds_toArray, List.set_cons_zero, List.set_cons_succ]
                refine wpAnyH_take (i := 12) (oi := ?oi12_85) (v := ?v12_85) ?hi12_85 (by kernel_rfl) ?hf12_85 (by kernel_rfl) ?hq12_85 ?hy12_85 hHeld ?rest12_85
                case hi12_85 => (simp only [List.getElem?_toArray, List.getElem?_cons_succ, List.getElem?_cons_zero]; try exact rfl)
                case hf12_85 => kernel_rfl
                case hq12_85 => exact fun _ _ _ h => h
                case hy12_85 => (refine Or.inl ⟨rfl, ?_⟩; intro w hSw; (try dsimp only at hSw); go_simp; try with_reducible rfl)
                try simp only [Act.put, List.setIfInBounds_toArray, List.set_cons_zero, List.set_cons_succ]
                refine wpAnyH_ready (rs := [13]) (by kernel_rfl) (by simp) ?_
                refine AllReadyH.cons (by simp only [List.getElem?_toArray, List.getElem?_cons_succ, List.getElem?_cons_zero]; try exact rfl) (fun K hK => ?_) AllReadyH.nil
                go_simp
                refine hK.out _ _ trivial (fun hHeld => ?_)
                clear hK K
                try simp only [Act.put, List.setIfInBounds_toArray, List.set_cons_zero, List.set_cons_succ]
                refine wpAnyH_done (by kernel_rfl) ?_ _
                go_wp2_with fail
                obtain ⟨rs1, hrs1⟩ : ∃ rs1, rs ++ [((.slice CA j cc : Value), (⟨C.1, E.1, (nn : Int) + 1, 0, 0⟩ : Nd))] = rs1 := ⟨_, rfl⟩
                rw [hrs1] at HP7
                have hln1 : rs1.length = nn + 1 := by rw [← hrs1]; simp [HRL.out]
                have hms1 : rs1.map (·.2) = rs.map (·.2) ++ [⟨C.1, E.1, (nn : Int) + 1, 0, 0⟩] := by rw [← hrs1]; simp
                refine (IH f.1 f.2 _ rs1 _ _ rfl (by omega) HP7.out (by omega) (by rw [hln1]; omega)).mono ?_
                rintro e V8 ⟨rfl, nv2, rs2, hP8, hm8⟩
                obtain ⟨n1, e1, ll1, o1⟩ := nodeM_ext j k f.1 f.2 (rs1.map (·.2))
                have hlp := nodeM_le j k f.1 f.2 (rs1.map (·.2))
                obtain ⟨p, hp⟩ : ∃ p, nodeM j k f.1 f.2 (rs1.map (·.2)) = p := ⟨_, rfl⟩
                rw [hp] at hP8 hm8 e1 o1 hlp
                have HP := Lib.hid hp
                have hl2' : rs2.length = nn + 1 + n1.length := by have := congrArg List.length hm8; rw [e1] at this; simpa [hln1] using this
                have HP8 := Lib.hid hP8
                have HM8 := Lib.hid hm8
                have HE1 := Lib.hid e1
                have HO1 := Lib.hid o1
                have HMS1 := Lib.hid hms1
                have HL2 := Lib.hid hl2'
                obtain ⟨r, hr2⟩ : ∃ r, rs2.length = r := ⟨_, rfl⟩
                have HR := Lib.hid hr2
                rw [hr2] at hl2'
                have hrb1 : r + 2 ^ k ≤ 1000 := by omega
                have hrn : nn + 1 ≤ r := by omega
                clear hp hm8 e1 o1 hms1 hP8 hrs1 t0 t1 tf x0 x1 xf hl2' hr2 hq1 hq2
                go_wp2_with fail
                refine (byte_any rb _ _ 32 _ rfl _ HP8.out.rd (by omega)).mono ?_
                rintro e V9 ⟨rfl, hr, hkk⟩
                obtain ⟨b, hb⟩ : ∃ b, byteM 32 p.1 p.2.1 = b := ⟨_, rfl⟩
                have hl9 := byteM_le 32 p.1 p.2.1
                rw [hb] at hr hl9
                have HBY := Lib.hid hb
                have hP9 := HP8.out.read hkk hr hrb
                obtain ⟨NA2, nc2, rfl⟩ := slice_of hP9.pt.own
                have HP9 := Lib.hid hP9
                obtain ⟨t0, t1, tf⟩ := hP9.box
                rw [HR.out] at t1
                clear hr hkk hb hP9
                go_wp2_with fail
                refine (IH b.1 b.2 _ rs2 _ _ rfl (by omega) HP9.out (by omega) (by rw [HR.out]; exact hrb1)).mono ?_
                rintro e V10 ⟨rfl, nv3, rs3, hP10, hm10⟩
                obtain ⟨n2, e2, ll2, o2⟩ := nodeM_ext j k b.1 b.2 (rs2.map (·.2))
                have hlq := nodeM_le j k b.1 b.2 (rs2.map (·.2))
                obtain ⟨q, hq⟩ : ∃ q, nodeM j k b.1 b.2 (rs2.map (·.2)) = q := ⟨_, rfl⟩
                have hqt := nodeM_true (dim := j) (k := k) (s := b.1) (ok := b.2) (out := rs2.map (·.2))
                rw [hq] at hP10 hm10 e2 o2 hlq hqt
                have HQ := Lib.hid hq
                have hl3' : rs3.length = r + n2.length := by have := congrArg List.length hm10; rw [e2] at this; simpa [HR.out] using this
                have HP10 := Lib.hid hP10
                have HM10 := Lib.hid hm10
                have HE2 := Lib.hid e2
                have HO2 := Lib.hid o2
                have HQT := Lib.hid hqt
                have HL3 := Lib.hid hl3'
                clear hq hm10 e2 o2 hP10 hqt hl3' t0 t1 tf
                go_wp2_with fail
                refine (byte_any rb _ _ 41 _ rfl _ HP10.out.rd (by omega)).mono ?_
                rintro e V11 ⟨rfl, hr, hkk⟩
                obtain ⟨y, hy⟩ : ∃ y, byteM 41 q.1 q.2.1 = y := ⟨_, rfl⟩
                have hyt := byteM_ok (c := 41) (s := q.1) (ok := q.2.1)
                rw [hy] at hr hyt
                have HY := Lib.hid hy
                have hP11 := HP10.out.read hkk hr hrb
                have HP11 := Lib.hid hP11
                obtain ⟨r0, r1, rf⟩ := hP11.rd.cells
                clear hr hkk hy
                have FF := Lib.hid (show nodeM j (k + 1) s true (rs.map (·.2)) = (y.1, y.2, if y.2 = true then endM q.2.2 nn r else q.2.2) from by
                  rw [F.out]
                  simp only [headM, HA.out, HC.out, HC1.out, HD.out, HE.out, HF.out, List.length_map, HRL.out, ← HMS1.out, HP.out, HBY.out, ← HM8.out, HQ.out, HY.out, HR.out])
                cases hy2 : y.2 with
                | false =>
                  rw [hy2] at r1
                  clear hP11
                  go_wp2_with fail
                  go_end0
                  rw [FF.out, hy2]
                  exact ⟨rfl, _, rs3, by have := HP11.out; rw [hy2] at this; exact this, HM10.out⟩
                | true =>
                  have hqq : q.2.1 = true := (hyt hy2).1
                  have hn2 := HO2.out hqq
                  have hb2 : b.2 = true := HQT.out hqq
                  have hp2' : p.2.1 = true := (byteM_ok (c := 32) (s := p.1) (ok := p.2.1) (by rw [HBY.out]; exact hb2)).1
                  have hn1 := HO1.out hp2'
                  have hll2 := HL2.out
                  rw [HR.out] at hll2
                  have hll3 := HL3.out
                  rw [hy2] at r1
                  have hown := hP11.pt.own
                  obtain ⟨m3, hm3⟩ : ∃ m3, rs3.length = m3 := ⟨_, rfl⟩
                  rw [hm3] at hown hll3
                  obtain ⟨g3, c3, hv3, hgb, hgl⟩ := hown.form (by omega)
                  subst hv3
                  obtain ⟨X0, hX0⟩ : ∃ x, rs3[nn]? = some x := ⟨_, List.getElem?_eq_getElem (by omega)⟩
                  obtain ⟨XL, hXL⟩ : ∃ x, rs3[nn + 1]? = some x := ⟨_, List.getElem?_eq_getElem (by omega)⟩
                  obtain ⟨XR, hXR⟩ : ∃ x, rs3[r]? = some x := ⟨_, List.getElem?_eq_getElem (by omega)⟩
                  have z3 := own_cell hown hX0 (o := 3) (u := .int .i64 X0.2.right) rfl
                  have zf := own_free hown
                  obtain ⟨t0, t1, tf⟩ := hP11.box
                  have hnm : nn < m3 := by omega
                  have hHM := hm3
                  have HMM := Lib.hid hm3
                  have HP12 := Lib.hid (hP11.set hm3 3 (by omega) (.int .i64 (r : Int)) { X0.2 with right := (r : Int) } nn hX0 rfl rfl)
                  have HX0 := Lib.hid hX0
                  have HXL := Lib.hid hXL
                  have HXR := Lib.hid hXR
                  have HLN := Lib.hid hll3
                  have hb3 : nn + 1 < r ∧ r < m3 := by omega
                  clear hown hP11 hm3 hHM hX0 hXL hXR hll3 hll2 hn1 hn2
                  obtain ⟨hb31, hb32⟩ := hb3
                  go_wp2_with fail
                  obtain ⟨rs4, hrs4⟩ : ∃ rs4, rs3.set nn (X0.1, { X0.2 with right := (r : Int) }) = rs4 := ⟨_, rfl⟩
                  obtain ⟨V12, hV12⟩ : ∃ V12, V11.setCell ⟨g3, nn * 5 + 3, none⟩ (.int .i64 (r : Int)) = V12 := ⟨_, rfl⟩
                  rw [hrs4, hV12] at HP12
                  rw [hV12]
                  have hl4 : rs4.length = m3 := by rw [← hrs4, List.length_set]; exact HMM.out
                  have hY0 : rs4[nn]? = some (X0.1, { X0.2 with right := (r : Int) }) := by rw [← hrs4]; exact List.getElem?_set_self (by rw [HMM.out]; exact hnm)
                  have hYL : rs4[nn + 1]? = some XL := by rw [← hrs4, List.getElem?_set_ne (by omega)]; exact HXL.out
                  have hYR : rs4[r]? = some XR := by rw [← hrs4, List.getElem?_set_ne (by omega)]; exact HXR.out
                  clear hV12 z3 zf t0 t1 tf
                  have hP12 := HP12.out
                  have hown := hP12.pt.own
                  rw [hl4] at hown
                  have zl := own_cell hown hYL (o := 4) (u := .int .i64 XL.2.size) rfl
                  have zr := own_cell hown hYR (o := 4) (u := .int .i64 XR.2.size) rfl
                  have z0 := own_cell hown hY0 (o := 4) (u := .int .i64 X0.2.size) rfl
                  have zf := own_free hown
                  obtain ⟨t0, t1, tf⟩ := hP12.box
                  have HY0 := Lib.hid hY0
                  have HYL := Lib.hid hYL
                  have HYR := Lib.hid hYR
                  have HL4 := Lib.hid hl4
                  have HRS4 := Lib.hid hrs4
                  clear hP12 hown hY0 hYL hYR hl4 hrs4
                  have hi1 : ((nn : Int) + 1) = ((nn + 1 : Nat) : Int) := by omega
                  have hwn1 : IntKind.i64.wrap ((nn : Int) + 1) = ((nn + 1 : Nat) : Int) := by rw [← hi1]; exact IntWalk.i64_in _ (by omega)
                  clear hwn hi1
                  have hws : IntKind.i64.wrap (XL.2.size + XR.2.size) = wrap64 (XL.2.size + XR.2.size) := IntWalk.i64_left _
                  have hL1 : nn + 1 < m3 := by omega
                  obtain ⟨nl, hnl⟩ : ∃ nl, nn + 1 = nl := ⟨_, rfl⟩
                  rw [hnl] at hwn1 zl hL1 HYL
                  refine wp_region_held_drew (S := fun w' => w'.cell? ⟨tb, 1, none⟩ = some (.slice (some ⟨g3, 0, none⟩) m3 c3) ∧ w'.cell? ⟨g3, nl * 5 + 4, none⟩ = some (.int .i64 XL.2.size) ∧ w'.cell? ⟨g3, r * 5 + 4, none⟩ = some (.int .i64 XR.2.size) ∧ w'.frozen? ⟨g3, nn * 5 + 4, none⟩ = false ∧ (∃ u, w'.cell? ⟨g3, nn * 5 + 4, none⟩ = some u)) (by kernel_rfl) ⟨t1, zl, zr, zf _, _, z0⟩ (fun hHeld => ?_)
                  clear t0 t1 tf zl zr z0 zf
                  refine wpAnyH_take (i := 0) (oi := ?oi0_86) (v := ?v0_86) ?hi0_86 (by kernel_rfl) ?hf0_86 (by kernel_rfl) ?hq0_86 ?hy0_86 hHeld ?rest0_86
                  case hi0_86 => (simp only [List.getElem?_toArray, List.getElem?_cons_zero]; try exact rfl)
                  case hf0_86 => kernel_rfl
                  case hq0_86 => exact fun _ _ _ h => h
                  case hy0_86 => (refine Or.inl ⟨rfl, ?_⟩; intro w hSw; (try dsimp only at hSw); go_simp; try with_reducible rfl)
                  try simp only [Act.put, List.setIfInBounds_toArray, List.set_cons_zero, List.set_cons_succ]
                  refine wpAnyH_take (i := 1) (oi := ?oi1_87) (v := ?v1_87) ?hi1_87 (by kernel_rfl) ?hf1_87 (by kernel_rfl) ?hq1_87 ?hy1_87 hHeld ?rest1_87
                  case hi1_87 => (simp only [List.getElem?_toArray, List.getElem?_cons_succ, List.getElem?_cons_zero]; try exact rfl)
                  case hf1_87 => kernel_rfl
                  case hq1_87 => exact fun _ _ _ h => h
                  case hy1_87 => (refine Or.inl ⟨rfl, ?_⟩; intro w hSw; (try dsimp only at hSw); go_simp; try with_reducible rfl)
                  try simp only [Act.put, List.setIfInBounds_toArray, List.set_cons_zero, List.set_cons_succ]
                  refine wpAnyH_take (i := 2) (oi := ?oi2_88) (v := ?v2_88) ?hi2_88 (by kernel_rfl) ?hf2_88 (by kernel_rfl) ?hq2_88 ?hy2_88 hHeld ?rest2_88
                  case hi2_88 => (simp only [List.getElem?_toArray, List.getElem?_cons_succ, List.getElem?_cons_zero]; try exact rfl)
                  case hf2_88 => kernel_rfl
                  case hq2_88 => exact fun _ _ _ h => h
                  case hy2_88 => (refine Or.inl ⟨rfl, ?_⟩; intro w hSw; (try dsimp only at hSw); go_simp; try with_reducible rfl)
                  try simp only [Act.put, List.setIfInBounds_toArray, List.set_cons_zero, List.set_cons_succ]
                  refine wpAnyH_take (i := 3) (oi := ?oi3_89) (v := ?v3_89) ?hi3_89 (by kernel_rfl) ?hf3_89 (by kernel_rfl) ?hq3_89 ?hy3_89 hHeld ?rest3_89
                  case hi3_89 => (simp only [List.getElem?_toArray, List.getElem?_cons_succ, List.getElem?_cons_zero]; try exact rfl)
                  case hf3_89 => kernel_rfl
                  case hq3_89 => exact fun _ _ _ h => h
                  case hy3_89 => (refine Or.inl ⟨rfl, ?_⟩; intro w hSw; (try dsimp only at hSw); go_simp; try with_reducible rfl)
                  try simp only [Act.put, List.setIfInBounds_toArray, List.set_cons_zero, List.set_cons_succ]
                  refine wpAnyH_take (i := 4) (oi := ?oi4_90) (v := ?v4_90) ?hi4_90 (by kernel_rfl) ?hf4_90 (by kernel_rfl) ?hq4_90 ?hy4_90 hHeld ?rest4_90
                  case hi4_90 => (simp only [List.getElem?_toArray, List.getElem?_cons_succ, List.getElem?_cons_zero]; try exact rfl)
                  case hf4_90 => kernel_rfl
                  case hq4_90 => exact fun _ _ _ h => h
                  case hy4_90 => (refine Or.inl ⟨rfl, ?_⟩; intro w hSw; (try dsimp only at hSw); go_simp; try with_reducible rfl)
                  try simp only [Act.put, List.setIfInBounds_toArray, List.set_cons_zero, List.set_cons_succ]
                  refine wpAnyH_take (i := 5) (oi := ?oi5_91) (v := ?v5_91) ?hi5_91 (by kernel_rfl) ?hf5_91 (by kernel_rfl) ?hq5_91 ?hy5_91 hHeld ?rest5_91
                  case hi5_91 => (simp only [List.getElem?_toArray, List.getElem?_cons_succ, List.getElem?_cons_zero]; try exact rfl)
                  case hf5_91 => kernel_rfl
                  case hq5_91 => exact fun _ _ _ h => h
                  case hy5_91 => (refine Or.inl ⟨rfl, ?_⟩; intro w hSw; (try dsimp only at hSw); go_simp; try with_reducible rfl)
                  try simp only [Act.put, List.setIfInBounds_toArray, List.set_cons_zero, List.set_cons_succ]
                  refine wpAnyH_take (i := 6) (oi := ?oi6_92) (v := ?v6_92) ?hi6_92 (by kernel_rfl) ?hf6_92 (by kernel_rfl) ?hq6_92 ?hy6_92 hHeld ?rest6_92
                  case hi6_92 => (simp only [List.getElem?_toArray, List.getElem?_cons_succ, List.getElem?_cons_zero]; try exact rfl)
                  case hf6_92 => kernel_rfl
                  case hq6_92 => exact fun _ _ _ h => h
                  case hy6_92 => (refine Or.inl ⟨rfl, ?_⟩; intro w hSw; (try dsimp only at hSw); go_simp; try with_reducible rfl)
                  try simp only [Act.put, List.setIfInBounds_toArray, List.set_cons_zero, List.set_cons_succ]
                  refine wpAnyH_take (i := 7) (oi := ?oi7_93) (v := ?v7_93) ?hi7_93 (by kernel_rfl) ?hf7_93 (by kernel_rfl) ?hq7_93 ?hy7_93 hHeld ?rest7_93
                  case hi7_93 => (simp only [List.getElem?_toArray, List.getElem?_cons_succ, List.getElem?_cons_zero]; try exact rfl)
                  case hf7_93 => kernel_rfl
                  case hq7_93 => exact fun _ _ _ h => h
                  case hy7_93 => (refine Or.inl ⟨rfl, ?_⟩; intro w hSw; (try dsimp only at hSw); go_simp; try with_reducible rfl)
                  try simp only [Act.put, List.setIfInBounds_toArray, List.set_cons_zero, List.set_cons_succ]
                  refine wpAnyH_take (i := 8) (oi := ?oi8_94) (v := ?v8_94) ?hi8_94 (by kernel_rfl) ?hf8_94 (by kernel_rfl) ?hq8_94 ?hy8_94 hHeld ?rest8_94
                  case hi8_94 => (simp only [List.getElem?_toArray, List.getElem?_cons_succ, List.getElem?_cons_zero]; try exact rfl)
                  case hf8_94 => kernel_rfl
                  case hq8_94 => exact fun _ _ _ h => h
                  case hy8_94 => (refine Or.inl ⟨rfl, ?_⟩; intro w hSw; (try dsimp only at hSw); go_simp; try with_reducible rfl)
                  try simp only [Act.put, List.setIfInBounds_toArray, List.set_cons_zero, List.set_cons_succ]
                  refine wpAnyH_take (i := 9) (oi := ?oi9_95) (v := ?v9_95) ?hi9_95 (by kernel_rfl) ?hf9_95 (by kernel_rfl) ?hq9_95 ?hy9_95 hHeld ?rest9_95
                  case hi9_95 => (simp only [List.getElem?_toArray, List.getElem?_cons_succ, List.getElem?_cons_zero]; try exact rfl)
                  case hf9_95 => kernel_rfl
                  case hq9_95 => exact fun _ _ _ h => h
                  case hy9_95 => (refine Or.inl ⟨rfl, ?_⟩; intro w hSw; (try dsimp only at hSw); go_simp; try with_reducible rfl)
                  try simp only [Act.put, List.setIfInBounds_toArray, List.set_cons_zero, List.set_cons_succ]
                  refine wpAnyH_take (i := 10) (oi := ?oi10_96) (v := ?v10_96) ?hi10_96 (by kernel_rfl) ?hf10_96 (by kernel_rfl) ?hq10_96 ?hy10_96 hHeld ?rest10_96
                  case hi10_96 => (simp only [List.getElem?_toArray, List.getElem?_cons_succ, List.getElem?_cons_zero]; try exact rfl)
                  case hf10_96 => kernel_rfl
                  case hq10_96 => exact fun _ _ _ h => h
                  case hy10_96 => (refine Or.inl ⟨rfl, ?_⟩; intro w hSw; (try dsimp only at hSw); go_simp; try with_reducible rfl)
                  try simp only [Act.put, List.setIfInBounds_toArray, List.set_cons_zero, List.set_cons_succ]
                  refine wpAnyH_take (i := 11) (oi := ?oi11_97) (v := ?v11_97) ?hi11_97 (by kernel_rfl) ?hf11_97 (by kernel_rfl) ?hq11_97 ?hy11_97 hHeld ?rest11_97
                  case hi11_97 => (simp only [List.getElem?_toArray, List.getElem?_cons_succ, List.getElem?_cons_zero]; try exact rfl)
                  case hf11_97 => kernel_rfl
                  case hq11_97 => exact fun _ _ _ h => h
                  case hy11_97 => (refine Or.inl ⟨rfl, ?_⟩; intro w hSw; (try dsimp only at hSw); go_simp; try with_reducible rfl)
                  try simp only [Act.put, List.setIfInBounds_toArray, List.set_cons_zero, List.set_cons_succ]
                  refine wpAnyH_take (i := 12) (oi := ?oi12_98) (v := ?v12_98) ?hi12_98 (by kernel_rfl) ?hf12_98 (by kernel_rfl) ?hq12_98 ?hy12_98 hHeld ?rest12_98
                  case hi12_98 => (simp only [List.getElem?_toArray, List.getElem?_cons_succ, List.getElem?_cons_zero]; try exact rfl)
                  case hf12_98 => kernel_rfl
                  case hq12_98 => exact fun _ _ _ h => h
                  case hy12_98 => (refine Or.inl ⟨rfl, ?_⟩; intro w hSw; (try dsimp only at hSw); go_simp; try with_reducible rfl)
                  try simp only [Act.put, List.setIfInBounds_toArray, List.set_cons_zero, List.set_cons_succ]
                  refine wpAnyH_take (i := 13) (oi := ?oi13_99) (v := ?v13_99) ?hi13_99 (by kernel_rfl) ?hf13_99 (by kernel_rfl) ?hq13_99 ?hy13_99 hHeld ?rest13_99
                  case hi13_99 => (simp only [List.getElem?_toArray, List.getElem?_cons_succ, List.getElem?_cons_zero]; try exact rfl)
                  case hf13_99 => kernel_rfl
                  case hq13_99 => exact fun _ _ _ h => h
                  case hy13_99 => (refine Or.inl ⟨rfl, ?_⟩; intro w hSw; (try dsimp only at hSw); go_simp; try with_reducible rfl)
                  try simp only [Act.put, List.setIfInBounds_toArray, List.set_cons_zero, List.set_cons_succ]
                  refine wpAnyH_take (i := 14) (oi := ?oi14_100) (v := ?v14_100) ?hi14_100 (by kernel_rfl) ?hf14_100 (by kernel_rfl) ?hq14_100 ?hy14_100 hHeld ?rest14_100
                  case hi14_100 => (simp only [List.getElem?_toArray, List.getElem?_cons_succ, List.getElem?_cons_zero]; try exact rfl)
                  case hf14_100 => kernel_rfl
                  case hq14_100 => exact fun _ _ _ h => h
                  case hy14_100 => (refine Or.inl ⟨rfl, ?_⟩; intro w hSw; (try dsimp only at hSw); go_simp; try with_reducible rfl)
                  try simp only [Act.put, List.setIfInBounds_toArray, List.set_cons_zero, List.set_cons_succ]
                  refine wpAnyH_take (i := 15) (oi := ?oi15_101) (v := ?v15_101) ?hi15_101 (by kernel_rfl) ?hf15_101 (by kernel_rfl) ?hq15_101 ?hy15_101 hHeld ?rest15_101
                  case hi15_101 => (simp only [List.getElem?_toArray, List.getElem?_cons_succ, List.getElem?_cons_zero]; try exact rfl)
                  case hf15_101 => kernel_rfl
                  case hq15_101 => exact fun _ _ _ h => h
                  case hy15_101 => (refine Or.inl ⟨rfl, ?_⟩; intro w hSw; (try dsimp only at hSw); go_simp; try with_reducible rfl)
                  try simp only [Act.put, List.setIfInBounds_toArray, List.set_cons_zero, List.set_cons_succ]
                  refine wpAnyH_take (i := 16) (oi := ?oi16_102) (v := ?v16_102) ?hi16_102 (by kernel_rfl) ?hf16_102 (by kernel_rfl) ?hq16_102 ?hy16_102 hHeld ?rest16_102
                  case hi16_102 => (simp only [List.getElem?_toArray, List.getElem?_cons_succ, List.getElem?_cons_zero]; try exact rfl)
                  case hf16_102 => kernel_rfl
                  case hq16_102 => exact fun _ _ _ h => h
                  case hy16_102 => (refine Or.inl ⟨rfl, ?_⟩; intro w hSw; (try dsimp only at hSw); go_simp; try with_reducible rfl)
                  try simp only [Act.put, List.setIfInBounds_toArray, List.set_cons_zero, List.set_cons_succ]
                  refine wpAnyH_take (i := 17) (oi := ?oi17_103) (v := ?v17_103) ?hi17_103 (by kernel_rfl) ?hf17_103 (by kernel_rfl) ?hq17_103 ?hy17_103 hHeld ?rest17_103
                  case hi17_103 => (simp only [List.getElem?_toArray, List.getElem?_cons_succ, List.getElem?_cons_zero]; try exact rfl)
                  case hf17_103 => kernel_rfl
                  case hq17_103 => exact fun _ _ _ h => h
                  case hy17_103 => (refine Or.inl ⟨rfl, ?_⟩; intro w hSw; (try dsimp only at hSw); go_simp; try with_reducible rfl)
                  try simp only [Act.put, List.setIfInBounds_toArray, List.set_cons_zero, List.set_cons_succ]
                  refine wpAnyH_take (i := 18) (oi := ?oi18_104) (v := ?v18_104) ?hi18_104 (by kernel_rfl) ?hf18_104 (by kernel_rfl) ?hq18_104 ?hy18_104 hHeld ?rest18_104
                  case hi18_104 => (simp only [List.getElem?_toArray, List.getElem?_cons_succ, List.getElem?_cons_zero]; try exact rfl)
                  case hf18_104 => kernel_rfl
                  case hq18_104 => exact fun _ _ _ h => h
                  case hy18_104 => (refine Or.inl ⟨rfl, ?_⟩; intro w hSw; (try dsimp only at hSw); go_simp; try with_reducible rfl)
                  try simp only [Act.put, List.setIfInBounds_toArray, List.set_cons_zero, List.set_cons_succ]
                  refine wpAnyH_take (i := 19) (oi := ?oi19_105) (v := ?v19_105) ?hi19_105 (by kernel_rfl) ?hf19_105 (by kernel_rfl) ?hq19_105 ?hy19_105 hHeld ?rest19_105
                  case hi19_105 => (simp only [List.getElem?_toArray, List.getElem?_cons_succ, List.getElem?_cons_zero]; try exact rfl)
                  case hf19_105 => kernel_rfl
                  case hq19_105 => exact fun _ _ _ h => h
                  case hy19_105 => (refine Or.inl ⟨rfl, ?_⟩; intro w hSw; (try dsimp only at hSw); go_simp; try with_reducible rfl)
                  try simp only [Act.put, List.setIfInBounds_toArray, List.set_cons_zero, List.set_cons_succ]
                  refine wpAnyH_take (i := 20) (oi := ?oi20_106) (v := ?v20_106) ?hi20_106 (by kernel_rfl) ?hf20_106 (by kernel_rfl) ?hq20_106 ?hy20_106 hHeld ?rest20_106
                  case hi20_106 => (simp only [List.getElem?_toArray, List.getElem?_cons_succ, List.getElem?_cons_zero]; try exact rfl)
                  case hf20_106 => kernel_rfl
                  case hq20_106 => exact fun _ _ _ h => h
                  case hy20_106 => (refine Or.inl ⟨rfl, ?_⟩; intro w hSw; (try dsimp only at hSw); go_simp; try with_reducible rfl)
                  try simp only [Act.put, List.setIfInBounds_toArray, List.set_cons_zero, List.set_cons_succ]
                  refine wpAnyH_take (i := 21) (oi := ?oi21_107) (v := ?v21_107) ?hi21_107 (by kernel_rfl) ?hf21_107 (by kernel_rfl) ?hq21_107 ?hy21_107 hHeld ?rest21_107
                  case hi21_107 => (simp only [List.getElem?_toArray, List.getElem?_cons_succ, List.getElem?_cons_zero]; try exact rfl)
                  case hf21_107 => kernel_rfl
                  case hq21_107 => exact fun _ _ _ h => h
                  case hy21_107 => (refine Or.inl ⟨rfl, ?_⟩; intro w hSw; (try dsimp only at hSw); go_simp; try with_reducible rfl)
                  try simp only [Act.put, List.setIfInBounds_toArray, List.set_cons_zero, List.set_cons_succ]
                  refine wpAnyH_take (i := 22) (oi := ?oi22_108) (v := ?v22_108) ?hi22_108 (by kernel_rfl) ?hf22_108 (by kernel_rfl) ?hq22_108 ?hy22_108 hHeld ?rest22_108
                  case hi22_108 => (simp only [List.getElem?_toArray, List.getElem?_cons_succ, List.getElem?_cons_zero]; try exact rfl)
                  case hf22_108 => kernel_rfl
                  case hq22_108 => exact fun _ _ _ h => h
                  case hy22_108 => (refine Or.inl ⟨rfl, ?_⟩; intro w hSw; (try dsimp only at hSw); go_simp; try with_reducible rfl)
                  try simp only [Act.put, List.setIfInBounds_toArray, List.set_cons_zero, List.set_cons_succ]
                  refine wpAnyH_take (i := 23) (oi := ?oi23_109) (v := ?v23_109) ?hi23_109 (by kernel_rfl) ?hf23_109 (by kernel_rfl) ?hq23_109 ?hy23_109 hHeld ?rest23_109
                  case hi23_109 => (simp only [List.getElem?_toArray, List.getElem?_cons_succ, List.getElem?_cons_zero]; try exact rfl)
                  case hf23_109 => kernel_rfl
                  case hq23_109 => exact fun _ _ _ h => h
                  case hy23_109 => (refine Or.inl ⟨rfl, ?_⟩; intro w hSw; (try dsimp only at hSw); go_simp; try with_reducible rfl)
                  try simp only [Act.put, List.setIfInBounds_toArray, List.set_cons_zero, List.set_cons_succ]
                  refine wpAnyH_take (i := 24) (oi := ?oi24_110) (v := ?v24_110) ?hi24_110 (by kernel_rfl) ?hf24_110 (by kernel_rfl) ?hq24_110 ?hy24_110 hHeld ?rest24_110
                  case hi24_110 => (simp only [List.getElem?_toArray, List.getElem?_cons_succ, List.getElem?_cons_zero]; try exact rfl)
                  case hf24_110 => kernel_rfl
                  case hq24_110 => exact fun _ _ _ h => h
                  case hy24_110 => (refine Or.inl ⟨rfl, ?_⟩; intro w hSw; (try dsimp only at hSw); go_simp; try with_reducible rfl)
                  try simp only [Act.put, List.setIfInBounds_toArray, List.set_cons_zero, List.set_cons_succ]
                  refine wpAnyH_ready (rs := [25]) (by kernel_rfl) (by simp) ?_
                  refine AllReadyH.cons (by simp only [List.getElem?_toArray, List.getElem?_cons_succ, List.getElem?_cons_zero]; try exact rfl) (fun K hK => ?_) AllReadyH.nil
                  obtain ⟨e0', e1', e2', e3', ⟨u, e4'⟩⟩ := hHeld
                  go_simp
                  have hP13 := (HP12.out.set HL4.out 4 (by omega) (.int .i64 (wrap64 (XL.2.size + XR.2.size))) { X0.2 with right := (r : Int), size := wrap64 (XL.2.size + XR.2.size) } nn HY0.out rfl rfl).below (Below.refl _ _).drew
                  have hl5 : (rs4.set nn (X0.1, { X0.2 with right := (r : Int), size := wrap64 (XL.2.size + XR.2.size) })).length = m3 := by rw [List.length_set]; exact HL4.out
                  have hown := hP13.pt.own
                  rw [hl5] at hown
                  have HP13 := Lib.hid hP13
                  refine hK.out _ _ ⟨hP13.box.2.1, own_cell hown (x := XL) (by rw [List.getElem?_set_ne (by omega)]; exact HYL.out) (o := 4) rfl, own_cell hown (x := XR) (by rw [List.getElem?_set_ne (by omega)]; exact HYR.out) (o := 4) rfl, own_free hown _, _, own_cell hown (List.getElem?_set_self (by rw [HL4.out]; exact hnm)) (o := 4) rfl⟩ (fun hHeld => ?_)
                  clear hK K hP13 hown hHeld e0' e1' e2' e3' e4'
                  try simp only [Act.put, List.setIfInBounds_toArray, List.set_cons_zero, List.set_cons_succ]
                  refine wpAnyH_done (by kernel_rfl) ?_ _
                  go_wp2_with fail
                  go_end0
                  have FF' : nodeM j (k + 1) s true (rs.map (·.2)) = (y.1, true, endM q.2.2 nn r) := by rw [FF.out, hy2, if_pos rfl]
                  rw [FF']
                  refine ⟨rfl, _, _, by have := HP13.out; rw [hy2] at this; exact this, ?_⟩
                  rw [← HM10.out, endM_eq (get_map HX0.out) (get_map HXL.out) (get_map HXR.out), ← HRS4.out, List.set_set, List.map_set]
          · have hjl : j < dn := by omega
            clear t0 t1 tf
            go_wp2_with fail
            refine wp_region_held_drew (S := fun _ => True) (by kernel_rfl) trivial (fun hHeld => ?_)
            have hS2 := HS.out.below (Below.refl _ _).drew
            obtain ⟨Wd, hWd⟩ : ∃ Wd, wr.drew = Wd := ⟨_, rfl⟩
            rw [hWd] at hS2 ⊢
            have HS2 := Lib.hid hS2
            clear hWd x0 x1 xf
            obtain ⟨x0, x1, xf⟩ := hS2.cells
            clear hS2
            refine wpAnyH_take (i := 0) (oi := ?oi0_14) (v := ?v0_14) ?hi0_14 (by kernel_rfl) ?hf0_14 (by kernel_rfl) ?hq0_14 ?hy0_14 hHeld ?rest0_14
            case hi0_14 => (simp only [List.getElem?_toArray, List.getElem?_cons_zero]; try exact rfl)
            case hf0_14 => kernel_rfl
            case hq0_14 => exact fun _ _ _ h => h
            case hy0_14 => (refine Or.inl ⟨rfl, ?_⟩; intro w hSw; (try dsimp only at hSw); go_simp; try with_reducible rfl)
            try simp only [Act.put, List.setIfInBounds_toArray, List.set_cons_zero, List.set_cons_succ]
            refine wpAnyH_take (i := 2) (oi := ?oi2_15) (v := ?v2_15) ?hi2_15 (by kernel_rfl) ?hf2_15 (by kernel_rfl) ?hq2_15 ?hy2_15 hHeld ?rest2_15
            case hi2_15 => (simp only [List.getElem?_toArray, List.getElem?_cons_succ, List.getElem?_cons_zero]; try exact rfl)
            case hf2_15 => kernel_rfl
            case hq2_15 => exact fun _ _ _ h => h
            case hy2_15 => (refine Or.inl ⟨rfl, ?_⟩; intro w hSw; (try dsimp only at hSw); go_simp; try with_reducible rfl)
            try simp only [Act.put, List.setIfInBounds_toArray, List.set_cons_zero, List.set_cons_succ]
            refine wpAnyH_ready (rs := [1, 3]) (by kernel_rfl) (by simp) ?_
            refine AllReadyH.cons (by simp only [List.getElem?_toArray, List.getElem?_cons_succ, List.getElem?_cons_zero]; try exact rfl) (fun K hK => ?_) (AllReadyH.cons (by simp only [List.getElem?_toArray, List.getElem?_cons_succ, List.getElem?_cons_zero]; try exact rfl) (fun K hK => ?_) AllReadyH.nil)
            · go_simp
              refine hK.out _ _ trivial (fun hHeld => ?_)
              clear hK K
              try simp only [Act.put, List.setIfInBounds_toArray, List.set_cons_zero, List.set_cons_succ]
              refine wpAnyH_ready (rs := [3]) (by kernel_rfl) (by simp) ?_
              refine AllReadyH.cons (by simp only [List.getElem?_toArray, List.getElem?_cons_succ, List.getElem?_cons_zero]; try exact rfl) (fun K hK => ?_) AllReadyH.nil
              go_simp
              refine (number_any rb C.2.1 C.2.2 _ HS2.out.rd (by omega) (HG.out.below (HP1.out.low.trans (HS2.out.kr.1.mono hrb)))).mono ?_
              rintro e W5 ⟨rfl, hr5, hk5⟩
              have hS5 := HS2.out.read hk5 hr5
              have HS5 := Lib.hid hS5
              have lx5 := (Array.getElem?_eq_some_iff.1 hS5.box).1
              have HOWN := Lib.hid (hS5.row.alloc (.cells #[.int .i64 (numM C.2.1 C.2.2).1] 3))
              have HNEWS := Lib.hid (World.news_of_block (heap_alloc_new W5 (.cells #[.int .i64 (numM C.2.1 C.2.2).1] 3)))
              (try clear x0 x1 xf)
              obtain ⟨x0, x1, xf⟩ := hS5.cells
              clear hS5 hr5 hk5
              refine hK.out _ _ trivial (fun hHeld => ?_)
              clear hK K
              try simp only [Act.put, List.setIfInBounds_toArray, List.set_cons_zero, List.set_cons_succ]
              refine wpAnyH_ready (rs := [4]) (by kernel_rfl) (by simp) ?_
              refine AllReadyH.cons (by simp only [List.getElem?_toArray, List.getElem?_cons_succ, List.getElem?_cons_zero]; try exact rfl) (fun K hK => ?_) AllReadyH.nil
              go_simp
              refine hK.out _ _ trivial (fun hHeld => ?_)
              clear hK K
              try simp only [Act.put, List.setIfInBounds_toArray, List.set_cons_zero, List.set_cons_succ]
              refine wpAnyH_ready (rs := [5]) (by kernel_rfl) (by simp) ?_
              refine AllReadyH.cons (by simp only [List.getElem?_toArray, List.getElem?_cons_succ, List.getElem?_cons_zero]; try exact rfl) (fun K hK => ?_) AllReadyH.nil
              refine stepL rfl (.tmp 57) (.tmp 60) _ rfl eltI (cb + 1) (.slice CA j cc) j 1 1 ⟨W5.heap.size, 0, none⟩ (C.1.map (Value.int .i64)) [.int .i64 (numM C.2.1 C.2.2).1] rfl HOWN.out rfl rfl HNEWS.out (by simp [Value.oneCell']) (by omega) (by omega) (by simp; omega) ?_
              intro g cap' w6 hown6 hgrow6 hat hlt
              obtain ⟨hS6, hq1, hq2, lx6⟩ := HS5.out.app HCB.out hown6 hgrow6
              have HS6 := Lib.hid hS6
              clear hS6
              refine hK.out _ _ trivial (fun hHeld => ?_)
              clear hK K
              try simp only [Act.put, List.setIfInBounds_toArray, List.set_cons_zero, List.set_cons_succ]
              refine wpAnyH_take (i := 6) (oi := ?oi6_16) (v := ?v6_16) ?hi6_16 (by kernel_rfl) ?hf6_16 (by kernel_rfl) ?hq6_16 ?hy6_16 hHeld ?rest6_16
              case hi6_16 => (simp only [List.getElem?_toArray, List.getElem?_cons_succ, List.getElem?_cons_zero]; try exact rfl)
              case hf6_16 => kernel_rfl
              case hq6_16 => exact fun _ _ _ h => h
              case hy6_16 => (refine Or.inl ⟨rfl, ?_⟩; intro w hSw; (try dsimp only at hSw); go_simp; try with_reducible rfl)
              try simp only [Act.put, List.setIfInBounds_toArray, List.set_cons_zero, List.set_cons_succ]
              refine wpAnyH_ready (rs := [7]) (by kernel_rfl) (by simp) ?_
              refine AllReadyH.cons (by simp only [List.getElem?_toArray, List.getElem?_cons_succ, List.getElem?_cons_zero]; try exact rfl) (fun K hK => ?_) AllReadyH.nil
              go_simp
              refine hK.out _ _ trivial (fun hHeld => ?_)
              clear hK K
              try simp only [Act.put, List.setIfInBounds_toArray, List.set_cons_zero, List.set_cons_succ]
              refine wpAnyH_done (by kernel_rfl) ?_ _
              go_wp2_with fail
              have hnl := numM_le C.2.1 C.2.2
              refine (byte_any rb _ _ 32 _ rfl _ HS6.out.rd (by omega)).mono ?_
              rintro e W7 ⟨rfl, hr7, hk7⟩
              have HS7 := Lib.hid (HS6.out.read hk7 hr7)
              clear hr7 hk7
              go_wp2_with fail
              exact ⟨⟨j + 1, _, cap', by omega, by go_num, by rw [coefM_next, HC.out]; exact HS7.out⟩, by simp [intOf]; omega⟩
            · go_simp
              refine (number_any rb C.2.1 C.2.2 _ HS2.out.rd (by omega) (HG.out.below (HP1.out.low.trans (HS2.out.kr.1.mono hrb)))).mono ?_
              rintro e W5 ⟨rfl, hr5, hk5⟩
              have hS5 := HS2.out.read hk5 hr5
              have HS5 := Lib.hid hS5
              have lx5 := (Array.getElem?_eq_some_iff.1 hS5.box).1
              have HOWN := Lib.hid (hS5.row.alloc (.cells #[.int .i64 (numM C.2.1 C.2.2).1] 3))
              have HNEWS := Lib.hid (World.news_of_block (heap_alloc_new W5 (.cells #[.int .i64 (numM C.2.1 C.2.2).1] 3)))
              (try clear x0 x1 xf)
              obtain ⟨x0, x1, xf⟩ := hS5.cells
              clear hS5 hr5 hk5
              refine hK.out _ _ trivial (fun hHeld => ?_)
              clear hK K
              try simp only [Act.put, List.setIfInBounds_toArray, List.set_cons_zero, List.set_cons_succ]
              refine wpAnyH_ready (rs := [1, 4]) (by kernel_rfl) (by simp) ?_
              refine AllReadyH.cons (by simp only [List.getElem?_toArray, List.getElem?_cons_succ, List.getElem?_cons_zero]; try exact rfl) (fun K hK => ?_) (AllReadyH.cons (by simp only [List.getElem?_toArray, List.getElem?_cons_succ, List.getElem?_cons_zero]; try exact rfl) (fun K hK => ?_) AllReadyH.nil)
              · go_simp
                refine hK.out _ _ trivial (fun hHeld => ?_)
                clear hK K
                try simp only [Act.put, List.setIfInBounds_toArray, List.set_cons_zero, List.set_cons_succ]
                refine wpAnyH_ready (rs := [4]) (by kernel_rfl) (by simp) ?_
                refine AllReadyH.cons (by simp only [List.getElem?_toArray, List.getElem?_cons_succ, List.getElem?_cons_zero]; try exact rfl) (fun K hK => ?_) AllReadyH.nil
                go_simp
                refine hK.out _ _ trivial (fun hHeld => ?_)
                clear hK K
                try simp only [Act.put, List.setIfInBounds_toArray, List.set_cons_zero, List.set_cons_succ]
                refine wpAnyH_ready (rs := [5]) (by kernel_rfl) (by simp) ?_
                refine AllReadyH.cons (by simp only [List.getElem?_toArray, List.getElem?_cons_succ, List.getElem?_cons_zero]; try exact rfl) (fun K hK => ?_) AllReadyH.nil
                refine stepL rfl (.tmp 57) (.tmp 60) _ rfl eltI (cb + 1) (.slice CA j cc) j 1 1 ⟨W5.heap.size, 0, none⟩ (C.1.map (Value.int .i64)) [.int .i64 (numM C.2.1 C.2.2).1] rfl HOWN.out rfl rfl HNEWS.out (by simp [Value.oneCell']) (by omega) (by omega) (by simp; omega) ?_
                intro g cap' w6 hown6 hgrow6 hat hlt
                obtain ⟨hS6, hq1, hq2, lx6⟩ := HS5.out.app HCB.out hown6 hgrow6
                have HS6 := Lib.hid hS6
                clear hS6
                refine hK.out _ _ trivial (fun hHeld => ?_)
                clear hK K
                try simp only [Act.put, List.setIfInBounds_toArray, List.set_cons_zero, List.set_cons_succ]
                refine wpAnyH_take (i := 6) (oi := ?oi6_17) (v := ?v6_17) ?hi6_17 (by kernel_rfl) ?hf6_17 (by kernel_rfl) ?hq6_17 ?hy6_17 hHeld ?rest6_17
                case hi6_17 => (simp only [List.getElem?_toArray, List.getElem?_cons_succ, List.getElem?_cons_zero]; try exact rfl)
                case hf6_17 => kernel_rfl
                case hq6_17 => exact fun _ _ _ h => h
                case hy6_17 => (refine Or.inl ⟨rfl, ?_⟩; intro w hSw; (try dsimp only at hSw); go_simp; try with_reducible rfl)
                try simp only [Act.put, List.setIfInBounds_toArray, List.set_cons_zero, List.set_cons_succ]
                refine wpAnyH_ready (rs := [7]) (by kernel_rfl) (by simp) ?_
                refine AllReadyH.cons (by simp only [List.getElem?_toArray, List.getElem?_cons_succ, List.getElem?_cons_zero]; try exact rfl) (fun K hK => ?_) AllReadyH.nil
                go_simp
                refine hK.out _ _ trivial (fun hHeld => ?_)
                clear hK K
                try simp only [Act.put, List.setIfInBounds_toArray, List.set_cons_zero, List.set_cons_succ]
                refine wpAnyH_done (by kernel_rfl) ?_ _
                go_wp2_with fail
                have hnl := numM_le C.2.1 C.2.2
                refine (byte_any rb _ _ 32 _ rfl _ HS6.out.rd (by omega)).mono ?_
                rintro e W7 ⟨rfl, hr7, hk7⟩
                have HS7 := Lib.hid (HS6.out.read hk7 hr7)
                clear hr7 hk7
                go_wp2_with fail
                exact ⟨⟨j + 1, _, cap', by omega, by go_num, by rw [coefM_next, HC.out]; exact HS7.out⟩, by simp [intOf]; omega⟩
              · go_simp
                refine hK.out _ _ trivial (fun hHeld => ?_)
                clear hK K
                try simp only [Act.put, List.setIfInBounds_toArray, List.set_cons_zero, List.set_cons_succ]
                refine wpAnyH_ready (rs := [1]) (by kernel_rfl) (by simp) ?_
                refine AllReadyH.cons (by simp only [List.getElem?_toArray, List.getElem?_cons_succ, List.getElem?_cons_zero]; try exact rfl) (fun K hK => ?_) AllReadyH.nil
                go_simp
                refine hK.out _ _ trivial (fun hHeld => ?_)
                clear hK K
                try simp only [Act.put, List.setIfInBounds_toArray, List.set_cons_zero, List.set_cons_succ]
                refine wpAnyH_ready (rs := [5]) (by kernel_rfl) (by simp) ?_
                refine AllReadyH.cons (by simp only [List.getElem?_toArray, List.getElem?_cons_succ, List.getElem?_cons_zero]; try exact rfl) (fun K hK => ?_) AllReadyH.nil
                refine stepL rfl (.tmp 57) (.tmp 60) _ rfl eltI (cb + 1) (.slice CA j cc) j 1 1 ⟨W5.heap.size, 0, none⟩ (C.1.map (Value.int .i64)) [.int .i64 (numM C.2.1 C.2.2).1] rfl HOWN.out rfl rfl HNEWS.out (by simp [Value.oneCell']) (by omega) (by omega) (by simp; omega) ?_
                intro g cap' w6 hown6 hgrow6 hat hlt
                obtain ⟨hS6, hq1, hq2, lx6⟩ := HS5.out.app HCB.out hown6 hgrow6
                have HS6 := Lib.hid hS6
                clear hS6
                refine hK.out _ _ trivial (fun hHeld => ?_)
                clear hK K
                try simp only [Act.put, List.setIfInBounds_toArray, List.set_cons_zero, List.set_cons_succ]
                refine wpAnyH_take (i := 6) (oi := ?oi6_18) (v := ?v6_18) ?hi6_18 (by kernel_rfl) ?hf6_18 (by kernel_rfl) ?hq6_18 ?hy6_18 hHeld ?rest6_18
                case hi6_18 => (simp only [List.getElem?_toArray, List.getElem?_cons_succ, List.getElem?_cons_zero]; try exact rfl)
                case hf6_18 => kernel_rfl
                case hq6_18 => exact fun _ _ _ h => h
                case hy6_18 => (refine Or.inl ⟨rfl, ?_⟩; intro w hSw; (try dsimp only at hSw); go_simp; try with_reducible rfl)
                try simp only [Act.put, List.setIfInBounds_toArray, List.set_cons_zero, List.set_cons_succ]
                refine wpAnyH_ready (rs := [7]) (by kernel_rfl) (by simp) ?_
                refine AllReadyH.cons (by simp only [List.getElem?_toArray, List.getElem?_cons_succ, List.getElem?_cons_zero]; try exact rfl) (fun K hK => ?_) AllReadyH.nil
                go_simp
                refine hK.out _ _ trivial (fun hHeld => ?_)
                clear hK K
                try simp only [Act.put, List.setIfInBounds_toArray, List.set_cons_zero, List.set_cons_succ]
                refine wpAnyH_done (by kernel_rfl) ?_ _
                go_wp2_with fail
                have hnl := numM_le C.2.1 C.2.2
                refine (byte_any rb _ _ 32 _ rfl _ HS6.out.rd (by omega)).mono ?_
                rintro e W7 ⟨rfl, hr7, hk7⟩
                have HS7 := Lib.hid (HS6.out.read hk7 hr7)
                clear hr7 hk7
                go_wp2_with fail
                exact ⟨⟨j + 1, _, cap', by omega, by go_num, by rw [coefM_next, HC.out]; exact HS7.out⟩, by simp [intOf]; omega⟩
      · have F := Lib.hid (show nodeM dn (k + 1) s true (rs.map (·.2)) = ((numM s true).2.1, (numM s true).2.2, rs.map (·.2) ++ [⟨[], 0, 0, 0, clamp (numM s true).1 0 65⟩]) by simp only [nodeM]; rw [if_neg hh])
        have hhd : decide (s.head? = some 40) = false := decide_eq_false hh
        go_enter Tryd.func46, Tryd.ntmps46
        go_wp2_with fail
        refine (HPO.out _).mono ?_
        rintro e w1 ⟨rfl, rfl⟩
        rw [HPX.out, hhd]
        go_wp2_with fail
        refine (number_any rb s true _ HP.out.rd hs (HG.out.below HP.out.low)).mono ?_
        rintro e W1 ⟨rfl, hr1, hk1⟩
        have hP1 := HP.out.read hk1 hr1 hrb
        have HP1 := Lib.hid hP1
        clear c0 c1 hf t0 t1 tf hr1 hk1
        obtain ⟨t0, t1, tf⟩ := hP1.box
        clear hP1
        obtain ⟨num, hnum⟩ : ∃ num, (numM s true).1 = num := ⟨_, rfl⟩
        go_wp2_with fail
        refine wp_region_held_drew (S := fun _ => True) (by kernel_rfl) trivial (fun hHeld => ?_)
        have hP2 := HP1.out.below (Below.refl _ _).drew
        obtain ⟨Wd, hWd⟩ : ∃ Wd, W1.drew = Wd := ⟨_, rfl⟩
        rw [hWd] at hP2 ⊢
        have HP2 := Lib.hid hP2
        clear hWd t0 t1 tf
        obtain ⟨t0, t1, tf⟩ := hP2.box
        have lt2 := (Array.getElem?_eq_some_iff.1 hP2.pt.box).1
        have hOWN := hP2.pt.own.alloc (.cells #[.slice none 0 0, .int .i64 0, .int .i64 0, .int .i64 0, .int .i64 (clamp num 0 65)] 39)
        have hNEWS := World.news_of_block (heap_alloc_new Wd (.cells #[.slice none 0 0, .int .i64 0, .int .i64 0, .int .i64 0, .int .i64 (clamp num 0 65)] 39))
        rw [HRL.out] at hOWN
        have HOWN := Lib.hid hOWN
        have HNEWS := Lib.hid hNEWS
        clear hP2 hOWN hNEWS
        refine wpAnyH_take (i := 0) (oi := ?oi0_1) (v := ?v0_1) ?hi0_1 (by kernel_rfl) ?hf0_1 (by kernel_rfl) ?hq0_1 ?hy0_1 hHeld ?rest0_1
        case hi0_1 => (simp only [List.getElem?_toArray, List.getElem?_cons_zero]; try exact rfl)
        case hf0_1 => kernel_rfl
        case hq0_1 => exact fun _ _ _ h => h
        case hy0_1 => (refine Or.inl ⟨rfl, ?_⟩; intro w hSw; (try dsimp only at hSw); go_simp; try with_reducible rfl)
        try simp only [Act.put, List.setIfInBounds_toArray, List.set_cons_zero, List.set_cons_succ]
        refine wpAnyH_take (i := 1) (oi := ?oi1_2) (v := ?v1_2) ?hi1_2 (by kernel_rfl) ?hf1_2 (by kernel_rfl) ?hq1_2 ?hy1_2 hHeld ?rest1_2
        case hi1_2 => (simp only [List.getElem?_toArray, List.getElem?_cons_succ, List.getElem?_cons_zero]; try exact rfl)
        case hf1_2 => kernel_rfl
        case hq1_2 => exact fun _ _ _ h => h
        case hy1_2 => (refine Or.inl ⟨rfl, ?_⟩; intro w hSw; (try dsimp only at hSw); go_simp; try with_reducible rfl)
        try simp only [Act.put, List.setIfInBounds_toArray, List.set_cons_zero, List.set_cons_succ]
        refine wpAnyH_take (i := 2) (oi := ?oi2_3) (v := ?v2_3) ?hi2_3 (by kernel_rfl) ?hf2_3 (by kernel_rfl) ?hq2_3 ?hy2_3 hHeld ?rest2_3
        case hi2_3 => (simp only [List.getElem?_toArray, List.getElem?_cons_succ, List.getElem?_cons_zero]; try exact rfl)
        case hf2_3 => kernel_rfl
        case hq2_3 => exact fun _ _ _ h => h
        case hy2_3 => (refine Or.inl ⟨rfl, ?_⟩; intro w hSw; (try dsimp only at hSw); go_simp; try with_reducible rfl)
        try simp only [Act.put, List.setIfInBounds_toArray, List.set_cons_zero, List.set_cons_succ]
        refine wpAnyH_take (i := 3) (oi := ?oi3_4) (v := ?v3_4) ?hi3_4 (by kernel_rfl) ?hf3_4 (by kernel_rfl) ?hq3_4 ?hy3_4 hHeld ?rest3_4
        case hi3_4 => (simp only [List.getElem?_toArray, List.getElem?_cons_succ, List.getElem?_cons_zero]; try exact rfl)
        case hf3_4 => kernel_rfl
        case hq3_4 => exact fun _ _ _ h => h
        case hy3_4 => (refine Or.inl ⟨rfl, ?_⟩; intro w hSw; (try dsimp only at hSw); go_simp; try with_reducible rfl)
        try simp only [Act.put, List.setIfInBounds_toArray, List.set_cons_zero, List.set_cons_succ]
        refine wpAnyH_take (i := 5) (oi := ?oi5_5) (v := ?v5_5) ?hi5_5 (by kernel_rfl) ?hf5_5 (by kernel_rfl) ?hq5_5 ?hy5_5 hHeld ?rest5_5
        case hi5_5 => (simp only [List.getElem?_toArray, List.getElem?_cons_succ, List.getElem?_cons_zero]; try exact rfl)
        case hf5_5 => kernel_rfl
        case hq5_5 => exact fun _ _ _ h => h
        case hy5_5 => (refine Or.inl ⟨rfl, ?_⟩; intro w hSw; (try dsimp only at hSw); go_simp; try with_reducible rfl)
        try simp only [Act.put, List.setIfInBounds_toArray, List.set_cons_zero, List.set_cons_succ]
        refine wpAnyH_ready (rs := [4, 6]) (by kernel_rfl) (by simp) ?_
        refine AllReadyH.cons (by simp only [List.getElem?_toArray, List.getElem?_cons_succ, List.getElem?_cons_zero]; try exact rfl) (fun K hK => ?_) (AllReadyH.cons (by simp only [List.getElem?_toArray, List.getElem?_cons_succ, List.getElem?_cons_zero]; try exact rfl) (fun K hK => ?_) AllReadyH.nil)
        · go_simp
          refine hK.out _ _ trivial (fun hHeld => ?_)
          clear hK K
          try simp only [Act.put, List.setIfInBounds_toArray, List.set_cons_zero, List.set_cons_succ]
          refine wpAnyH_ready (rs := [6]) (by kernel_rfl) (by simp) ?_
          refine AllReadyH.cons (by simp only [List.getElem?_toArray, List.getElem?_cons_succ, List.getElem?_cons_zero]; try exact rfl) (fun K hK => ?_) AllReadyH.nil
          go_simp
          refine (clamp_any _ _ _ _).mono ?_
          rintro e w5 ⟨rfl, rfl⟩
          refine hK.out _ _ trivial (fun hHeld => ?_)
          clear hK K
          try simp only [Act.put, List.setIfInBounds_toArray, List.set_cons_zero, List.set_cons_succ]
          refine wpAnyH_take (i := 7) (oi := ?oi7_6) (v := ?v7_6) ?hi7_6 (by kernel_rfl) ?hf7_6 (by kernel_rfl) ?hq7_6 ?hy7_6 hHeld ?rest7_6
          case hi7_6 => (simp only [List.getElem?_toArray, List.getElem?_cons_succ, List.getElem?_cons_zero]; try exact rfl)
          case hf7_6 => kernel_rfl
          case hq7_6 => exact fun _ _ _ h => h
          case hy7_6 => (refine Or.inl ⟨rfl, ?_⟩; intro w hSw; (try dsimp only at hSw); go_simp; try with_reducible rfl)
          try simp only [Act.put, List.setIfInBounds_toArray, List.set_cons_zero, List.set_cons_succ]
          refine wpAnyH_ready (rs := [8]) (by kernel_rfl) (by simp) ?_
          refine AllReadyH.cons (by simp only [List.getElem?_toArray, List.getElem?_cons_succ, List.getElem?_cons_zero]; try exact rfl) (fun K hK => ?_) AllReadyH.nil
          go_simp
          refine hK.out _ _ trivial (fun hHeld => ?_)
          clear hK K
          try simp only [Act.put, List.setIfInBounds_toArray, List.set_cons_zero, List.set_cons_succ]
          refine wpAnyH_ready (rs := [9]) (by kernel_rfl) (by simp) ?_
          refine AllReadyH.cons (by simp only [List.getElem?_toArray, List.getElem?_cons_succ, List.getElem?_cons_zero]; try exact rfl) (fun K hK => ?_) AllReadyH.nil
          refine stepL rfl (.tmp 39) (.tmp 43) _ rfl eltN w0.heap.size (.slice NA nn nc) nn 1 1 ⟨Wd.heap.size, 0, none⟩ (rs.flatMap ndC) (ndC (.slice none 0 0, ⟨[], 0, 0, 0, clamp num 0 65⟩)) rfl HOWN.out rfl rfl HNEWS.out (ndC_one _ _ _ _ _ rfl) (by omega) (by omega) (by have := HP2.out.low.size; simp; omega) ?_
          intro g cap' w1 hown' hgrow hat hlt
          obtain ⟨hP3, hq1, hq2⟩ := HP2.out.app HRL.out htb (cv := .slice none 0 0) (nd := ⟨[], 0, 0, 0, clamp num 0 65⟩) (World.ownsRow_nil _ _ _ _) hown' (fun k hk hne => (hgrow.block k (by simp; omega) (fun e => hne e.symm)).trans (Below.heap_alloc Wd _ k hk)) (((Below.refl _ _).alloc HP2.out.low.size _).grown hgrow (by have := HP2.out.low.size; simp; omega) (fun k e => (own_typ HP2.out.pt.own k e).2.1))
          have HP3 := Lib.hid hP3
          clear hP3
          refine hK.out _ _ trivial (fun hHeld => ?_)
          clear hK K
          try simp only [Act.put, List.setIfInBounds_toArray, List.set_cons_zero, List.set_cons_succ]
          refine wpAnyH_take (i := 10) (oi := ?oi10_7) (v := ?v10_7) ?hi10_7 (by kernel_rfl) ?hf10_7 (by kernel_rfl) ?hq10_7 ?hy10_7 hHeld ?rest10_7
          case hi10_7 => (simp only [List.getElem?_toArray, List.getElem?_cons_succ, List.getElem?_cons_zero]; try exact rfl)
          case hf10_7 => kernel_rfl
          case hq10_7 => exact fun _ _ _ h => h
          case hy10_7 => (refine Or.inl ⟨rfl, ?_⟩; intro w hSw; (try dsimp only at hSw); go_simp; try with_reducible rfl)
          try simp only [Act.put, List.setIfInBounds_toArray, List.set_cons_zero, List.set_cons_succ]
          refine wpAnyH_take (i := 11) (oi := ?oi11_8) (v := ?v11_8) ?hi11_8 (by kernel_rfl) ?hf11_8 (by kernel_rfl) ?hq11_8 ?hy11_8 hHeld ?rest11_8
          case hi11_8 => (simp only [List.getElem?_toArray, List.getElem?_cons_succ, List.getElem?_cons_zero]; try exact rfl)
          case hf11_8 => kernel_rfl
          case hq11_8 => exact fun _ _ _ h => h
          case hy11_8 => (refine Or.inl ⟨rfl, ?_⟩; intro w hSw; (try dsimp only at hSw); go_simp; try with_reducible rfl)
          try simp only [Act.put, List.setIfInBounds_toArray, List.set_cons_zero, List.set_cons_succ]
          refine wpAnyH_ready (rs := [12]) (by kernel_rfl) (by simp) ?_
          refine AllReadyH.cons (by simp only [List.getElem?_toArray, List.getElem?_cons_succ, List.getElem?_cons_zero]; try exact rfl) (fun K hK => ?_) AllReadyH.nil
          go_simp
          refine hK.out _ _ trivial (fun hHeld => ?_)
          clear hK K
          try simp only [Act.put, List.setIfInBounds_toArray, List.set_cons_zero, List.set_cons_succ]
          refine wpAnyH_done (by kernel_rfl) ?_ _
          go_wp2_with fail
          (try simp only [Exit.inBlock, Exit.then])
          refine bodyPost_ret (results_none rfl _ _ _) rfl ?_
          rw [F.out, hnum]
          exact ⟨rfl, _, _, HP3.out, by simp⟩
        · go_simp
          refine (clamp_any _ _ _ _).mono ?_
          rintro e w5 ⟨rfl, rfl⟩
          refine hK.out _ _ trivial (fun hHeld => ?_)
          clear hK K
          try simp only [Act.put, List.setIfInBounds_toArray, List.set_cons_zero, List.set_cons_succ]
          refine wpAnyH_take (i := 7) (oi := ?oi7_9) (v := ?v7_9) ?hi7_9 (by kernel_rfl) ?hf7_9 (by kernel_rfl) ?hq7_9 ?hy7_9 hHeld ?rest7_9
          case hi7_9 => (simp only [List.getElem?_toArray, List.getElem?_cons_succ, List.getElem?_cons_zero]; try exact rfl)
          case hf7_9 => kernel_rfl
          case hq7_9 => exact fun _ _ _ h => h
          case hy7_9 => (refine Or.inl ⟨rfl, ?_⟩; intro w hSw; (try dsimp only at hSw); go_simp; try with_reducible rfl)
          try simp only [Act.put, List.setIfInBounds_toArray, List.set_cons_zero, List.set_cons_succ]
          refine wpAnyH_ready (rs := [4, 8]) (by kernel_rfl) (by simp) ?_
          refine AllReadyH.cons (by simp only [List.getElem?_toArray, List.getElem?_cons_succ, List.getElem?_cons_zero]; try exact rfl) (fun K hK => ?_) (AllReadyH.cons (by simp only [List.getElem?_toArray, List.getElem?_cons_succ, List.getElem?_cons_zero]; try exact rfl) (fun K hK => ?_) AllReadyH.nil)
          · go_simp
            refine hK.out _ _ trivial (fun hHeld => ?_)
            clear hK K
            try simp only [Act.put, List.setIfInBounds_toArray, List.set_cons_zero, List.set_cons_succ]
            refine wpAnyH_ready (rs := [8]) (by kernel_rfl) (by simp) ?_
            refine AllReadyH.cons (by simp only [List.getElem?_toArray, List.getElem?_cons_succ, List.getElem?_cons_zero]; try exact rfl) (fun K hK => ?_) AllReadyH.nil
            go_simp
            refine hK.out _ _ trivial (fun hHeld => ?_)
            clear hK K
            try simp only [Act.put, List.setIfInBounds_toArray, List.set_cons_zero, List.set_cons_succ]
            refine wpAnyH_ready (rs := [9]) (by kernel_rfl) (by simp) ?_
            refine AllReadyH.cons (by simp only [List.getElem?_toArray, List.getElem?_cons_succ, List.getElem?_cons_zero]; try exact rfl) (fun K hK => ?_) AllReadyH.nil
            refine stepL rfl (.tmp 39) (.tmp 43) _ rfl eltN w0.heap.size (.slice NA nn nc) nn 1 1 ⟨Wd.heap.size, 0, none⟩ (rs.flatMap ndC) (ndC (.slice none 0 0, ⟨[], 0, 0, 0, clamp num 0 65⟩)) rfl HOWN.out rfl rfl HNEWS.out (ndC_one _ _ _ _ _ rfl) (by omega) (by omega) (by have := HP2.out.low.size; simp; omega) ?_
            intro g cap' w1 hown' hgrow hat hlt
            obtain ⟨hP3, hq1, hq2⟩ := HP2.out.app HRL.out htb (cv := .slice none 0 0) (nd := ⟨[], 0, 0, 0, clamp num 0 65⟩) (World.ownsRow_nil _ _ _ _) hown' (fun k hk hne => (hgrow.block k (by simp; omega) (fun e => hne e.symm)).trans (Below.heap_alloc Wd _ k hk)) (((Below.refl _ _).alloc HP2.out.low.size _).grown hgrow (by have := HP2.out.low.size; simp; omega) (fun k e => (own_typ HP2.out.pt.own k e).2.1))
            have HP3 := Lib.hid hP3
            clear hP3
            refine hK.out _ _ trivial (fun hHeld => ?_)
            clear hK K
            try simp only [Act.put, List.setIfInBounds_toArray, List.set_cons_zero, List.set_cons_succ]
            refine wpAnyH_take (i := 10) (oi := ?oi10_10) (v := ?v10_10) ?hi10_10 (by kernel_rfl) ?hf10_10 (by kernel_rfl) ?hq10_10 ?hy10_10 hHeld ?rest10_10
            case hi10_10 => (simp only [List.getElem?_toArray, List.getElem?_cons_succ, List.getElem?_cons_zero]; try exact rfl)
            case hf10_10 => kernel_rfl
            case hq10_10 => exact fun _ _ _ h => h
            case hy10_10 => (refine Or.inl ⟨rfl, ?_⟩; intro w hSw; (try dsimp only at hSw); go_simp; try with_reducible rfl)
            try simp only [Act.put, List.setIfInBounds_toArray, List.set_cons_zero, List.set_cons_succ]
            refine wpAnyH_take (i := 11) (oi := ?oi11_11) (v := ?v11_11) ?hi11_11 (by kernel_rfl) ?hf11_11 (by kernel_rfl) ?hq11_11 ?hy11_11 hHeld ?rest11_11
            case hi11_11 => (simp only [List.getElem?_toArray, List.getElem?_cons_succ, List.getElem?_cons_zero]; try exact rfl)
            case hf11_11 => kernel_rfl
            case hq11_11 => exact fun _ _ _ h => h
            case hy11_11 => (refine Or.inl ⟨rfl, ?_⟩; intro w hSw; (try dsimp only at hSw); go_simp; try with_reducible rfl)
            try simp only [Act.put, List.setIfInBounds_toArray, List.set_cons_zero, List.set_cons_succ]
            refine wpAnyH_ready (rs := [12]) (by kernel_rfl) (by simp) ?_
            refine AllReadyH.cons (by simp only [List.getElem?_toArray, List.getElem?_cons_succ, List.getElem?_cons_zero]; try exact rfl) (fun K hK => ?_) AllReadyH.nil
            go_simp
            refine hK.out _ _ trivial (fun hHeld => ?_)
            clear hK K
            try simp only [Act.put, List.setIfInBounds_toArray, List.set_cons_zero, List.set_cons_succ]
            refine wpAnyH_done (by kernel_rfl) ?_ _
            go_wp2_with fail
            (try simp only [Exit.inBlock, Exit.then])
            refine bodyPost_ret (results_none rfl _ _ _) rfl ?_
            rw [F.out, hnum]
            exact ⟨rfl, _, _, HP3.out, by simp⟩
          · go_simp
            refine hK.out _ _ trivial (fun hHeld => ?_)
            clear hK K
            try simp only [Act.put, List.setIfInBounds_toArray, List.set_cons_zero, List.set_cons_succ]
            refine wpAnyH_ready (rs := [4]) (by kernel_rfl) (by simp) ?_
            refine AllReadyH.cons (by simp only [List.getElem?_toArray, List.getElem?_cons_succ, List.getElem?_cons_zero]; try exact rfl) (fun K hK => ?_) AllReadyH.nil
            go_simp
            refine hK.out _ _ trivial (fun hHeld => ?_)
            clear hK K
            try simp only [Act.put, List.setIfInBounds_toArray, List.set_cons_zero, List.set_cons_succ]
            refine wpAnyH_ready (rs := [9]) (by kernel_rfl) (by simp) ?_
            refine AllReadyH.cons (by simp only [List.getElem?_toArray, List.getElem?_cons_succ, List.getElem?_cons_zero]; try exact rfl) (fun K hK => ?_) AllReadyH.nil
            refine stepL rfl (.tmp 39) (.tmp 43) _ rfl eltN w0.heap.size (.slice NA nn nc) nn 1 1 ⟨Wd.heap.size, 0, none⟩ (rs.flatMap ndC) (ndC (.slice none 0 0, ⟨[], 0, 0, 0, clamp num 0 65⟩)) rfl HOWN.out rfl rfl HNEWS.out (ndC_one _ _ _ _ _ rfl) (by omega) (by omega) (by have := HP2.out.low.size; simp; omega) ?_
            intro g cap' w1 hown' hgrow hat hlt
            obtain ⟨hP3, hq1, hq2⟩ := HP2.out.app HRL.out htb (cv := .slice none 0 0) (nd := ⟨[], 0, 0, 0, clamp num 0 65⟩) (World.ownsRow_nil _ _ _ _) hown' (fun k hk hne => (hgrow.block k (by simp; omega) (fun e => hne e.symm)).trans (Below.heap_alloc Wd _ k hk)) (((Below.refl _ _).alloc HP2.out.low.size _).grown hgrow (by have := HP2.out.low.size; simp; omega) (fun k e => (own_typ HP2.out.pt.own k e).2.1))
            have HP3 := Lib.hid hP3
            clear hP3
            refine hK.out _ _ trivial (fun hHeld => ?_)
            clear hK K
            try simp only [Act.put, List.setIfInBounds_toArray, List.set_cons_zero, List.set_cons_succ]
            refine wpAnyH_take (i := 10) (oi := ?oi10_12) (v := ?v10_12) ?hi10_12 (by kernel_rfl) ?hf10_12 (by kernel_rfl) ?hq10_12 ?hy10_12 hHeld ?rest10_12
            case hi10_12 => (simp only [List.getElem?_toArray, List.getElem?_cons_succ, List.getElem?_cons_zero]; try exact rfl)
            case hf10_12 => kernel_rfl
            case hq10_12 => exact fun _ _ _ h => h
            case hy10_12 => (refine Or.inl ⟨rfl, ?_⟩; intro w hSw; (try dsimp only at hSw); go_simp; try with_reducible rfl)
            try simp only [Act.put, List.setIfInBounds_toArray, List.set_cons_zero, List.set_cons_succ]
            refine wpAnyH_take (i := 11) (oi := ?oi11_13) (v := ?v11_13) ?hi11_13 (by kernel_rfl) ?hf11_13 (by kernel_rfl) ?hq11_13 ?hy11_13 hHeld ?rest11_13
            case hi11_13 => (simp only [List.getElem?_toArray, List.getElem?_cons_succ, List.getElem?_cons_zero]; try exact rfl)
            case hf11_13 => kernel_rfl
            case hq11_13 => exact fun _ _ _ h => h
            case hy11_13 => (refine Or.inl ⟨rfl, ?_⟩; intro w hSw; (try dsimp only at hSw); go_simp; try with_reducible rfl)
            try simp only [Act.put, List.setIfInBounds_toArray, List.set_cons_zero, List.set_cons_succ]
            refine wpAnyH_ready (rs := [12]) (by kernel_rfl) (by simp) ?_
            refine AllReadyH.cons (by simp only [List.getElem?_toArray, List.getElem?_cons_succ, List.getElem?_cons_zero]; try exact rfl) (fun K hK => ?_) AllReadyH.nil
            go_simp
            refine hK.out _ _ trivial (fun hHeld => ?_)
            clear hK K
            try simp only [Act.put, List.setIfInBounds_toArray, List.set_cons_zero, List.set_cons_succ]
            refine wpAnyH_done (by kernel_rfl) ?_ _
            go_wp2_with fail
            (try simp only [Exit.inBlock, Exit.then])
            refine bodyPost_ret (results_none rfl _ _ _) rfl ?_
            rw [F.out, hnum]
            exact ⟨rfl, _, _, HP3.out, by simp⟩
end Go.Proofs.YtmmgfelifmdnbaaDoor.PrsW
