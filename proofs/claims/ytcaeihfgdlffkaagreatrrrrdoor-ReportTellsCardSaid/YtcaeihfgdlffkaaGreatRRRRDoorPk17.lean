/- tree.Is: the walk. -/
import Derived.Test.YtcaeihfgdlffkaaGreatRRRRDoorPk15
import Derived.Deep.RegionHeld3
import Derived.Deep.OwnRows
import Derived.BigRegion
import Derived.OwnWalk
namespace Go.Proofs.YtcaeihfgdlffkaaGreatRRRRDoor.ShpI
set_option linter.unusedVariables false
open Go.RowKit Base SeqM ShpM ShpV ShpW ShpD ShpT

theorem eltP : Elt Tryz.prog 194 197 (.agg #[.int .i64 0, .int .i64 0]) 2 16 := elt_mk (z := .agg #[.int .i64 0, .int .i64 0]) Tryz.underlying194 (by kernel_rfl) rfl (by omega) (by omega)
section
variable {P : Program}
/-- 'make([]T, n)', T of k cells: a row of the call's own, whatever it holds. -/
theorem mkRow {ops : Array Oper} {rest : List Oper} {o : Oper} {a : Act} {Q : Exit → Act → World → Prop} (w : World) (hgd : o.guard = none) (l c : Operand) (t : TypeId) (ho : o.op = Op.makeSlice t l c)
    {e : TypeId} {z : Value} {size bytes : Nat} (E : Elt P t e z size bytes) (n : Nat) (hl : a.eval l = .int .i64 n) (hc : a.eval c = .int .i64 n) (hn : n ≤ 1073741824)
    (h : ∀ w' F, w'.rowIs w.heap.size e (n * size) F → Below w.heap.size w w' → wpList P ops Q rest (a.put o.dst (.slice (some ⟨w.heap.size, 0, none⟩) n n)) w') :
    wpList P ops Q (o :: rest) a w := by
  obtain ⟨ht, h0, hby, i, hi, hz, hsz, hbs, hzs⟩ := E
  refine wpList_make_full w hgd l c t ho w.heap.size e i z size ht hi hz hsz .i64 .i64 n n n hl hc rfl rfl ?_ (by unfold maxLen; omega) (Nat.le_refl _) ?_
  · have h2 : i.bytes * n ≤ 131072 * n := Nat.mul_le_mul_right _ (by omega)
    omega
  · intro w' hown hg
    have hb : Below w.heap.size w w' := (Below.refl _ _).grown hg (Nat.le_refl _) (fun k hk => by cases hk)
    rcases hown.2 with ⟨hv, _⟩ | ⟨g, cap, cur, hv, _, hh, _, _, hcs, _⟩
    · cases hv
    · injection hv with h1 h2 h3
      injection h1 with h1; injection h1 with h1
      subst h1; subst h3
      exact h w' (fun j => cur.getD j .nilIface) ⟨cur, hh, hcs, fun j hj => by simp [Array.getD, hcs, hj]⟩ hb
end
/-- what is known behind place k -/
def Known (dim : Int) (l : List Nd) (n k : Nat) (F : Nat → Value) : Prop := ∀ j, k ≤ j → j < n → ∃ b, At l j b ∧ b.ok dim ∧ F (j * 2) = .int .i64 ((j + b.count : Nat) : Int) ∧ F (j * 2 + 1) = .int .i64 b.high
def TRel (dim : Int) (l : List Nd) (n pb : Nat) (wm : World) (i : Value) (wr : World) : Prop :=
  ∃ (k : Nat) (F : Nat → Value), k ≤ n ∧ i = .int .i64 ((k : Int) - 1) ∧ wr.rowIs pb 197 (n * 2) F ∧ Known dim l n k F ∧ Below pb wm wr
theorem isT_sub {dim : Int} {l : List Nd} {x0 : Nd} (h : IsT dim l) (h0 : l[0]? = some x0) {i : Nat} (hi : i < l.length) : ∃ b, At l i b ∧ b.ok dim ∧ b.size ≤ x0.size := by
  obtain ⟨_, _, b, hat, hc, hok, _, _⟩ := h
  obtain ⟨x, hx, hs⟩ := at_size hat
  rw [h0] at hx
  obtain rfl := Option.some.inj hx
  obtain ⟨b', h1, h2, h3, _, _⟩ := sub_at hat hok (Nat.zero_le i) (by omega)
  exact ⟨b', h1, h2, by omega⟩
/-- a node that is no leaf: what it must be in a right tree -/
theorem fork_of {dim : Int} {l : List Nd} {x0 x : Nd} (h : IsT dim l) (h0 : l[0]? = some x0) {i : Nat} (hx : l[i]? = some x) (hl : leafB x = false) :
    ∃ a b : B, At l (i + 1) a ∧ At l (i + 1 + a.count) b ∧ a.ok dim ∧ b.ok dim ∧ x.left = ((i + 1 : Nat) : Int) ∧ x.right = ((i + 1 + a.count : Nat) : Int) ∧ cutOk x.coef x.at_ dim ∧ x.size = a.size + b.size ∧ a.size ≤ x0.size ∧ b.size ≤ x0.size ∧ i + 1 + a.count < l.length := by
  obtain ⟨t, h1, h2, h3⟩ := isT_sub h h0 (List.getElem?_eq_some_iff.1 hx).1
  cases t with
  | leaf m =>
    rw [at_leaf, hx] at h1
    obtain rfl := Option.some.inj h1
    have h2 : 1 ≤ m := h2
    rw [show leafB ⟨[], 0, 0, 0, m⟩ = true from decide_eq_true ⟨rfl, rfl, rfl, rfl, h2⟩] at hl
    cases hl
  | fork c a p q =>
    rw [at_fork, hx] at h1
    obtain ⟨h1, hp, hq⟩ := h1
    obtain rfl := Option.some.inj h1
    have pp := size_pos h2.2.1
    have pq := size_pos h2.2.2
    simp only [B.size] at h3
    have := at_le hq
    have := count_pos q
    exact ⟨p, q, hp, hq, h2.2.1, h2.2.2, rfl, rfl, h2.1, rfl, by omega, by omega, by omega⟩
theorem known_set {dim : Int} {l : List Nd} {n k : Nat} {F : Nat → Value} (h : Known dim l n (k + 1) F) {b : B} (hb : At l k b) (ho : b.ok dim) {u v : Value} (hu : u = .int .i64 ((k + b.count : Nat) : Int)) (hv : v = .int .i64 b.high) :
    Known dim l n k (fun j => if j = k * 2 + 1 then v else if j = k * 2 then u else F j) := by
  intro j h1 h2
  by_cases e : j = k
  · subst e
    exact ⟨b, hb, ho, by simp [hu], by simp [hv]⟩
  · obtain ⟨b', g1, g2, g3, g4⟩ := h j (by omega) h2
    exact ⟨b', g1, g2, by simp only; rw [if_neg (by omega), if_neg (by omega)]; exact g3, by simp only; rw [if_neg (by omega), if_neg (by omega)]; exact g4⟩
theorem high_le : ∀ b : B, b.high < b.count
  | .leaf _ => by simp [B.high, B.count]
  | .fork _ _ l r => by have := high_le l; have := high_le r; simp only [B.high, B.count]; omega
theorem rel_set {dim : Int} {l : List Nd} {n pb i : Nat} {wm wr w2 : World} {F : Nat → Value} (hF : w2.rowIs pb 197 (n * 2) F) (hK : Known dim l n (i + 1) F) (hi : i + 1 ≤ n) {b : B} (hb : At l i b) (ho : b.ok dim) {u v : Int} (hu : u = ((i + b.count : Nat) : Int)) (hv : v = b.high)
    (hbr : Below pb wm wr) (hw : Below wr.heap.size wr w2) (hz : pb < wr.heap.size) :
    TRel dim l n pb wm (.int .i64 ((i : Int) - 1)) ((w2.setCell ⟨pb, i * 2, none⟩ (.int .i64 u)).setCell ⟨pb, i * 2 + 1, none⟩ (.int .i64 v)) := by
  refine ⟨i, _, by omega, rfl, (hF.set (i * 2) _).set (i * 2 + 1) _, known_set hK hb ho (by rw [hu]) (by rw [hv]), ?_⟩
  exact ((hbr.trans (hw.mono (by omega))).setCell (p := ⟨pb, i * 2, none⟩) (Nat.le_refl _) _).setCell (p := ⟨pb, i * 2 + 1, none⟩) (Nat.le_refl _) _
theorem rel_more {dim : Int} {l : List Nd} {n pb : Nat} {wm W : World} {i : Value} {a b : Obj} (h : TRel dim l n pb wm i W) (hz : pb < W.heap.size) : TRel dim l n pb wm i ((W.alloc a).alloc b).drew := by
  obtain ⟨k, F, h1, h2, h3, h4, h5⟩ := h
  exact ⟨k, F, h1, h2, ((h3.alloc a).alloc b).drew, h4, ((h5.alloc (by omega) a).alloc (by simp; omega) b).drew⟩
set_option maxHeartbeats 4000000 in
set_option maxRecDepth 100000 in
theorem TIs_in (ad : Addr) (l : List Nd) (dim : Int) (lo n cap : Nat) (w : World) (h : Nds w lo w.heap.size (.slice (some ad) n cap) l) (hn : l.length = n) (hc1 : n ≤ cap) (hc2 : cap ≤ 9223372036854775807) (hd1 : ¬ dim < 1) (hd2 : ¬ 8 < dim) (hn0 : ¬ n = 0) (hn1 : ¬ 127 < n) (x0 : Nd) (hx0 : l[0]? = some x0) (hs1 : ¬ x0.size < 1) (hs2 : ¬ 64 < x0.size) :
    Calls Tryz.prog 136 #[.agg #[.int .i64 dim, .slice (some ad) n cap]] w fun e w' => e = .returned (.bool (isTB dim l)) ∧ Below w.heap.size w w' := by
  have HS := Lib.hid h
  have HN := Lib.hid hn
  have HX0 := Lib.hid hx0
  have hn0b : ((n : Int) == 0) = false := by rw [beq_eq_false_iff_ne]; omega
  have hn1b : ¬ (127 : Int) < (n : Int) := by omega
  obtain ⟨ad', cv0, e, hbk, c0, c1, c2, c3, c4, _⟩ := h.get hx0
  obtain rfl := Option.some.inj e
  have c4 : w.cell? ⟨ad.block, ad.off + 4, none⟩ = some (.int .i64 x0.size) := c4
  clear hx0 h hn c0 c1 c2 c3 e
  go_enter Tryz.func136, Tryz.ntmps136
  go_wp2_with (at_make; refine mkRow _ rfl (.tmp 44) (.tmp 44) _ rfl eltP n rfl rfl (by omega) ?_; intro wm F hF hbm; have b0 : wm.cell? ⟨w.heap.size, 0, none⟩ = some (.int .i64 dim) := keepA hbm (by go_simp); have b1 : wm.cell? ⟨w.heap.size, 1, none⟩ = some (.slice (some ad) n cap) := keepA hbm (by go_simp))
  have hF : wm.rowIs (w.heap.size + 1) 197 (n * 2) F := by simpa using hF
  have hzm : w.heap.size + 1 < wm.heap.size := hF.lt
  have HBM := Lib.hid (bt hbm (below_a1 w _))
  have H0 := Lib.hid (show TRel dim l n (w.heap.size + 1) wm (.int .i64 ((n : Int) - 1)) wm from ⟨n, F, Nat.le_refl _, rfl, hF, fun j h1 h2 => absurd h2 (by omega), Below.refl _ _⟩)
  clear hbm hF
  go_loopw [5] (fun i wr => TRel dim l n (w.heap.size + 1) wm i wr) (fun i _ => (intOf i + 1).toNat)
  case atStart => exact H0.out
  case round =>
    obtain ⟨k, F, hk, rfl, hF, hkn, hbr⟩ := hrel
    have HF := Lib.hid hF
    have HK := Lib.hid hkn
    have HB := Lib.hid hbr
    have b0 := (hbr.cell (p := ⟨w.heap.size, 0, none⟩) (by show w.heap.size < _; omega)).trans b0
    have b1 := (hbr.cell (p := ⟨w.heap.size, 1, none⟩) (by show w.heap.size < _; omega)).trans b1
    have HW := Lib.hid (show Below w.heap.size w wr from HBM.out.trans (hbr.mono (by omega)))
    have hzr : w.heap.size + 1 < wr.heap.size := hF.lt
    clear hF hkn hbr H0
    by_cases hk0 : k = 0
    · subst hk0
      obtain ⟨b, hat, hok, f0, f1⟩ := HK.out 0 (Nat.le_refl _) (by omega)
      have hsz : b.size = x0.size := by
        obtain ⟨y, hy, hs⟩ := at_size hat
        rw [HX0.out] at hy
        obtain rfl := Option.some.inj hy
        exact hs.symm
      have s0 : wr.cell? ⟨w.heap.size + 1, 0, none⟩ = some (.int .i64 (b.count : Int)) := by have := HF.out.cell (i := 0) (by omega); rw [this]; simpa using f0
      have s1 : wr.cell? ⟨w.heap.size + 1, 1, none⟩ = some (.int .i64 (b.high : Int)) := by have := HF.out.cell (i := 1) (by omega); rw [this]; simpa using f1
      have HAT := Lib.hid hat
      have HOK := Lib.hid hok
      have HSZ := Lib.hid hsz
      have HLG := Lib.hid (fun W => Log_any x0.size W (by omega) (by omega))
      obtain ⟨bc, hbc⟩ : ∃ bc, b.count = bc := ⟨_, rfl⟩
      obtain ⟨bh, hbh⟩ : ∃ bh, b.high = bh := ⟨_, rfl⟩
      have HBC := Lib.hid hbc
      have HBH := Lib.hid hbh
      rw [hbc] at s0
      rw [hbh] at s1
      clear hat hok hsz f0 f1 hbc hbh
      rw [show (((0 : Nat) : Int) - 1) = -1 from rfl]
      by_cases hcn : bc = n
      · have hcb : ((bc : Int) == (n : Int)) = true := by rw [beq_iff_eq]; omega
        have HCN := Lib.hid hcn
        clear hcn
        go_wp2_with fail
        go_quiet ((go_at_call 162; exact Calls.quiet_of_same (quiet_of_left (HLG.out _))))
        by_cases hh : bh ≤ lg x0.size
        · have F := Lib.hid (show isTB dim l = true from isTB_true.2 ⟨by omega, by omega, b, HAT.out, by rw [HBC.out, HCN.out, HN.out], HOK.out, by rw [HSZ.out]; omega, by rw [HSZ.out, HBH.out]; omega⟩)
          have HH := Lib.hid (decide_eq_true hh)
          go_wp2_with fail
          go_ret
          exact ⟨ret_bool (by rw [F.out]; exact HH.out), below_drewN HW.out nq⟩
        · have F := Lib.hid (show isTB dim l = false from isTB_false.2 (fun h => by
            obtain ⟨_, _, b', h1, _, _, _, h5⟩ := h
            obtain rfl := at_unique HAT.out h1
            rw [HSZ.out, HBH.out] at h5; omega))
          have HH := Lib.hid (decide_eq_false hh)
          go_wp2_with fail
          go_ret
          exact ⟨ret_bool (by rw [F.out]; exact HH.out), below_drewN HW.out nq⟩
      · have hcb : ((bc : Int) == (n : Int)) = false := by rw [beq_eq_false_iff_ne]; omega
        have F := Lib.hid (show isTB dim l = false from isTB_false.2 (fun h => by
            obtain ⟨_, _, b', h1, h2, _, _, _⟩ := h
            obtain rfl := at_unique HAT.out h1
            rw [HBC.out, HN.out] at h2; exact hcn h2))
        clear hcn
        go_wp2_with fail
        go_quiet (fail)
        go_wp2_with fail
        go_ret
        exact ⟨ret_bool F.out.symm, below_drewN HW.out nq⟩
    · obtain ⟨i, rfl⟩ : ∃ i, k = i + 1 := ⟨k - 1, by omega⟩
      have ei : ((i + 1 : Nat) : Int) - 1 = (i : Int) := by omega
      rw [ei]
      obtain ⟨x, hx⟩ : ∃ x, l[i]? = some x := ⟨_, List.getElem?_eq_getElem (by rw [HN.out]; omega)⟩
      have HX := Lib.hid hx
      obtain ⟨ad', cv, e, _, d0, d1, d2, d3, d4, hcv⟩ := (HS.out.below HW.out).get hx
      obtain rfl := Option.some.inj e
      obtain ⟨AC, cc, rfl, hcc1, hcc2, _, _⟩ := id hcv
      have HCV := Lib.hid hcv
      unfold maxLen at hcc2
      obtain ⟨cn, hcn⟩ : ∃ cn, x.coef.length = cn := ⟨_, rfl⟩
      have HCN := Lib.hid hcn
      clear hcv hx e
      have HLF := Lib.hid (fun W => leaf_any AC cc x W)
      unfold ndV at HLF
      rw [hcn] at HLF hcc1 d0
      clear hcn
      cases hlf : leafB x
      · skip
        have hwi : IntKind.i64.wrap ((i : Int) + 1) = (i : Int) + 1 := IntWalk.i64_in _ (by omega)
        have FK := Lib.hid (fun (h : IsT dim l) => fork_of h HX0.out HX.out hlf)
        by_cases hle : x.left = ((i + 1 : Nat) : Int)
        · obtain ⟨j, hj⟩ : ∃ j, i + 1 = j := ⟨_, rfl⟩
          rw [hj] at hle
          rw [hle] at HLF d2
          have HJ := Lib.hid hj
          have HLE := Lib.hid hle
          have t1 : ((j : Int) != (i : Int) + 1) = false := by rw [bne_eq_false_iff_eq]; omega
          clear hle
          by_cases hjn : (n : Int) ≤ (j : Int)
          · have F := Lib.hid (show isTB dim l = false from isTB_false.2 (fun h => by obtain ⟨a, b, _, _, _, _, _, _, _, _, _, _, g⟩ := FK.out h; rw [HN.out] at g; omega))
            clear hj
            go_wp2_with fail
            refine (HLF.out _).mono ?_
            rintro e w2 ⟨rfl, hb2⟩
            rw [hlf]
            have X2 := Lib.hid (bt hb2 (below_a1 wr _))
            have HF2 := Lib.hid (HF.out.of_block (X2.out.block _ hzr))
            have m0 : w2.cell? ⟨wr.heap.size, 0, none⟩ = some (.slice AC cn cc) := keepA hb2 (by go_simp)
            have m1 : w2.cell? ⟨wr.heap.size, 1, none⟩ = some (.int .i64 x.at_) := keepA hb2 (by go_simp)
            have m2 : w2.cell? ⟨wr.heap.size, 2, none⟩ = some (.int .i64 (j : Int)) := keepA hb2 (by go_simp)
            have m3 : w2.cell? ⟨wr.heap.size, 3, none⟩ = some (.int .i64 x.right) := keepA hb2 (by go_simp)
            have m4 : w2.cell? ⟨wr.heap.size, 4, none⟩ = some (.int .i64 x.size) := keepA hb2 (by go_simp)
            have q0 := keepA X2.out b0
            have q1 := keepA X2.out b1
            have hz2 : w.heap.size + 1 < w2.heap.size := Nat.lt_of_lt_of_le hzr X2.out.size
            go_wp2_with fail
            go_quiet (fail)
            go_wp2_with fail
            go_ret
            exact ⟨ret_bool F.out.symm, below_drewN (bt X2.out HW.out) nq⟩
          · have hjn2 : j < n := by omega
            have hjn3 : ¬ n ≤ j := by omega
            obtain ⟨bl, hatl, hokl, fl0, fl1⟩ := HK.out j (by omega) (by omega)
            have HATL := Lib.hid hatl
            have HOKL := Lib.hid hokl
            obtain ⟨ee, hee⟩ : ∃ ee, j + bl.count = ee := ⟨_, rfl⟩
            have HEE := Lib.hid hee
            obtain ⟨hl, hhl⟩ : ∃ hl, bl.high = hl := ⟨_, rfl⟩
            have HHL := Lib.hid hhl
            rw [hee] at fl0
            rw [hhl] at fl1
            have p0 : wr.cell? ⟨w.heap.size + 1, j * 2, none⟩ = some (.int .i64 (ee : Int)) := by rw [HF.out.cell (by omega)]; rw [fl0]
            have p1 : wr.cell? ⟨w.heap.size + 1, j * 2 + 1, none⟩ = some (.int .i64 (hl : Int)) := by rw [HF.out.cell (by omega)]; rw [fl1]
            have hpos := count_pos bl
            clear hatl hokl fl0 fl1 hhl
            by_cases hri : x.right = (ee : Int)
            · rw [hri] at HLF d3
              have HRI := Lib.hid hri
              have t2 : ((ee : Int) != (ee : Int)) = false := by simp
              clear hri
              by_cases hen : (n : Int) ≤ (ee : Int)
              · have hen2 : n ≤ ee := by omega
                have F := Lib.hid (show isTB dim l = false from isTB_false.2 (fun h => by
                  obtain ⟨a, b, g1, _, _, _, _, _, _, _, _, _, g⟩ := FK.out h
                  rw [HJ.out] at g1
                  obtain rfl := at_unique HATL.out g1
                  rw [HN.out] at g; omega))
                clear hj hee
                go_wp2_with fail
                refine (HLF.out _).mono ?_
                rintro e w2 ⟨rfl, hb2⟩
                rw [hlf]
                have X2 := Lib.hid (bt hb2 (below_a1 wr _))
                have HF2 := Lib.hid (HF.out.of_block (X2.out.block _ hzr))
                have m0 : w2.cell? ⟨wr.heap.size, 0, none⟩ = some (.slice AC cn cc) := keepA hb2 (by go_simp)
                have m1 : w2.cell? ⟨wr.heap.size, 1, none⟩ = some (.int .i64 x.at_) := keepA hb2 (by go_simp)
                have m2 : w2.cell? ⟨wr.heap.size, 2, none⟩ = some (.int .i64 (j : Int)) := keepA hb2 (by go_simp)
                have m3 : w2.cell? ⟨wr.heap.size, 3, none⟩ = some (.int .i64 (ee : Int)) := keepA hb2 (by go_simp)
                have m4 : w2.cell? ⟨wr.heap.size, 4, none⟩ = some (.int .i64 x.size) := keepA hb2 (by go_simp)
                have q0 := keepA X2.out b0
                have q1 := keepA X2.out b1
                have hz2 : w.heap.size + 1 < w2.heap.size := Nat.lt_of_lt_of_le hzr X2.out.size
                have q2 := keepA X2.out p0
                go_wp2_with fail
                go_quiet (fail)
                go_wp2_with fail
                go_ret
                exact ⟨ret_bool F.out.symm, below_drewN (bt X2.out HW.out) nq⟩
              · obtain ⟨br, hatr, hokr, fr0, fr1⟩ := HK.out ee (by omega) (by omega)
                have hen2 : ee < n := by omega
                have hen3 : ¬ n ≤ ee := by omega
                obtain ⟨er, her⟩ : ∃ er, ee + br.count = er := ⟨_, rfl⟩
                obtain ⟨hr, hhr⟩ : ∃ hr, br.high = hr := ⟨_, rfl⟩
                have HER := Lib.hid her
                have HHR := Lib.hid hhr
                rw [her] at fr0
                rw [hhr] at fr1
                have p2 : wr.cell? ⟨w.heap.size + 1, ee * 2, none⟩ = some (.int .i64 (er : Int)) := by rw [HF.out.cell (by omega)]; rw [fr0]
                have p3 : wr.cell? ⟨w.heap.size + 1, ee * 2 + 1, none⟩ = some (.int .i64 (hr : Int)) := by rw [HF.out.cell (by omega)]; rw [fr1]
                have HATR := Lib.hid hatr
                have HOKR := Lib.hid hokr
                obtain ⟨xl, hxl, hsl⟩ := at_size HATL.out
                obtain ⟨xr, hxr, hsr⟩ := at_size hatr
                obtain ⟨_, _, el, _, _, _, _, _, el4, _⟩ := (HS.out.below HW.out).get hxl
                obtain rfl := Option.some.inj el
                obtain ⟨_, _, er', _, _, _, _, _, er4, _⟩ := (HS.out.below HW.out).get hxr
                obtain rfl := Option.some.inj er'
                rw [hsl] at el4
                rw [hsr] at er4
                have pl := size_pos HOKL.out
                have pr := size_pos hokr
                obtain ⟨sl, hsl'⟩ : ∃ s, bl.size = s := ⟨_, rfl⟩
                obtain ⟨sr, hsr'⟩ : ∃ s, br.size = s := ⟨_, rfl⟩
                rw [hsl'] at el4 pl
                rw [hsr'] at er4 pr
                have HSL := Lib.hid hsl'
                have HSR := Lib.hid hsr'
                clear hatr hokr fr0 fr1 her hhr hxl hxr hsl hsr el er' hsl' hsr' hj hee
                go_wp2_with fail
                refine (HLF.out _).mono ?_
                rintro e w2 ⟨rfl, hb2⟩
                rw [hlf]
                have X2 := Lib.hid (bt hb2 (below_a1 wr _))
                have m0 : w2.cell? ⟨wr.heap.size, 0, none⟩ = some (.slice AC cn cc) := keepA hb2 (by go_simp)
                have m1 : w2.cell? ⟨wr.heap.size, 1, none⟩ = some (.int .i64 x.at_) := keepA hb2 (by go_simp)
                have m2 : w2.cell? ⟨wr.heap.size, 2, none⟩ = some (.int .i64 (j : Int)) := keepA hb2 (by go_simp)
                have m3 : w2.cell? ⟨wr.heap.size, 3, none⟩ = some (.int .i64 (ee : Int)) := keepA hb2 (by go_simp)
                have m4 : w2.cell? ⟨wr.heap.size, 4, none⟩ = some (.int .i64 x.size) := keepA hb2 (by go_simp)
                have q0 := keepA X2.out b0
                have q1 := keepA X2.out b1
                have q2 := keepA X2.out p0
                have HC2 := Lib.hid (show Seq 1 inC w2 lo w2.heap.size (.slice AC cn cc) x.coef by have := (HCV.out.below (X2.out.mono HW.out.size)).more (Nat.le_refl _) (Nat.le_trans HW.out.size X2.out.size); rw [HCN.out] at this; exact this)
                clear hb2
                cases hcut : cutB x.coef x.at_ dim
                · have F := Lib.hid (show isTB dim l = false from isTB_false.2 (fun h => by
                      obtain ⟨a, b, _, _, _, _, _, _, g, _⟩ := FK.out h
                      rw [cutB_iff.2 g] at hcut; cases hcut))
                  go_wp2_with fail
                  go_region_held3 (fun w' => w'.cell? ⟨wr.heap.size, 0, none⟩ = some (.slice AC cn cc) ∧ w'.cell? ⟨wr.heap.size, 1, none⟩ = some (.int .i64 x.at_) ∧ w'.cell? ⟨wr.heap.size, 2, none⟩ = some (.int .i64 (j : Int)) ∧ w'.cell? ⟨wr.heap.size, 3, none⟩ = some (.int .i64 (ee : Int)) ∧ w'.cell? ⟨w.heap.size, 0, none⟩ = some (.int .i64 dim) ∧ w'.cell? ⟨w.heap.size, 1, none⟩ = some (.slice (some ad) n cap) ∧ w'.cell? ⟨w.heap.size + 1, j * 2, none⟩ = some (.int .i64 (ee : Int))) (first | (go_keep; done) | (exact ⟨k0, k1, k2, k3, k4, k5, k6⟩)) ((go_at_call 161; refine (CIs_any _ x.coef x.at_ dim lo _ (by exact HC2.out)).mono ?_; rintro e w3 ⟨rfl, hb3⟩; rw [hcut]; have k0 := keepA hb3 m0; have k1 := keepA hb3 m1; have k2 := keepA hb3 m2; have k3 := keepA hb3 m3; have k4 := keepA hb3 q0; have k5 := keepA hb3 q1; have k6 := keepA hb3 q2; have X3 := Lib.hid (bt hb3 X2.out.drew)))
                  clear hb3
                  go_wp2_with fail
                  go_ret
                  exact ⟨ret_bool F.out.symm, bt X3.out HW.out⟩
                · have HCUT := Lib.hid (cutB_iff.1 hcut)
                  go_wp2_with fail
                  go_region_held3 (fun w' => w'.cell? ⟨wr.heap.size, 0, none⟩ = some (.slice AC cn cc) ∧ w'.cell? ⟨wr.heap.size, 1, none⟩ = some (.int .i64 x.at_) ∧ w'.cell? ⟨wr.heap.size, 2, none⟩ = some (.int .i64 (j : Int)) ∧ w'.cell? ⟨wr.heap.size, 3, none⟩ = some (.int .i64 (ee : Int)) ∧ w'.cell? ⟨w.heap.size, 0, none⟩ = some (.int .i64 dim) ∧ w'.cell? ⟨w.heap.size, 1, none⟩ = some (.slice (some ad) n cap) ∧ w'.cell? ⟨w.heap.size + 1, j * 2, none⟩ = some (.int .i64 (ee : Int))) (first | (go_keep; done) | (exact ⟨k0, k1, k2, k3, k4, k5, k6⟩)) ((go_at_call 161; refine (CIs_any _ x.coef x.at_ dim lo _ (by exact HC2.out)).mono ?_; rintro e w3 ⟨rfl, hb3⟩; rw [hcut]; have k0 := keepA hb3 m0; have k1 := keepA hb3 m1; have k2 := keepA hb3 m2; have k3 := keepA hb3 m3; have k4 := keepA hb3 q0; have k5 := keepA hb3 q1; have k6 := keepA hb3 q2; have X3 := Lib.hid (bt hb3 X2.out.drew)))
                  have k7 := keepA X3.out el4
                  have k8 := keepA X3.out er4
                  have k9 := keepA hb3 m4
                  have k10 := keepA X3.out p1
                  have k11 := keepA X3.out p2
                  have k12 := keepA X3.out p3
                  clear hb3 m0 m1 m2 m3 m4 q0 q1 q2 el4 er4 p0 p1 p2 p3
                  go_wp2_with fail
                  go_quiet (fail)
                  have X4 := Lib.hid (below_drewN (bt X3.out HW.out) nq)
                  by_cases g1 : x0.size < sl
                  · have F := Lib.hid (show isTB dim l = false from isTB_false.2 (fun h => by
                        obtain ⟨a, b, r1, _, _, _, _, _, _, _, g, _⟩ := FK.out h
                        rw [HJ.out] at r1
                        obtain rfl := at_unique HATL.out r1
                        rw [HSL.out] at g; omega))
                    go_wp2_with fail
                    go_ret
                    exact ⟨ret_bool F.out.symm, X4.out⟩
                  · by_cases g2 : x0.size < sr
                    · have F := Lib.hid (show isTB dim l = false from isTB_false.2 (fun h => by
                          obtain ⟨a, b, r1, r2, _, _, _, _, _, _, _, g, _⟩ := FK.out h
                          rw [HJ.out] at r1 r2
                          obtain rfl := at_unique HATL.out r1
                          rw [HEE.out] at r2
                          obtain rfl := at_unique HATR.out r2
                          rw [HSR.out] at g; omega))
                      go_wp2_with fail
                      go_ret
                      exact ⟨ret_bool F.out.symm, X4.out⟩
                    · have hw4 : IntKind.i64.wrap (sl + sr) = sl + sr := IntWalk.i64_in _ (by omega)
                      by_cases g3 : x.size = sl + sr
                      · have HG3 := Lib.hid g3
                        have t3 : (x.size != sl + sr) = false := by simpa using g3
                        clear g3
                        have X5 := Lib.hid (below_drewN X3.out nq)
                        have HF5 := Lib.hid (HF.out.of_block (X5.out.block _ hzr))
                        replace k2 : (w3.drewN nq).cell? ⟨wr.heap.size, 2, none⟩ = some (.int .i64 (j : Int)) := k2
                        replace k3 : (w3.drewN nq).cell? ⟨wr.heap.size, 3, none⟩ = some (.int .i64 (ee : Int)) := k3
                        replace k9 : (w3.drewN nq).cell? ⟨wr.heap.size, 4, none⟩ = some (.int .i64 x.size) := k9
                        replace k6 : (w3.drewN nq).cell? ⟨w.heap.size + 1, j * 2, none⟩ = some (.int .i64 (ee : Int)) := k6
                        replace k10 : (w3.drewN nq).cell? ⟨w.heap.size + 1, j * 2 + 1, none⟩ = some (.int .i64 (hl : Int)) := k10
                        replace k11 : (w3.drewN nq).cell? ⟨w.heap.size + 1, ee * 2, none⟩ = some (.int .i64 (er : Int)) := k11
                        replace k12 : (w3.drewN nq).cell? ⟨w.heap.size + 1, ee * 2 + 1, none⟩ = some (.int .i64 (hr : Int)) := k12
                        go_wp2_with fail
                        clear k0 k1 k4 k5 k7 k8 HC2 HLF HCV
                        generalize w3.drewN nq = w4 at *
                        have hz4 : w.heap.size + 1 < w4.heap.size := Nat.lt_of_lt_of_le hzr X5.out.size
                        go_region_held3 (fun w' => w'.cell? ⟨wr.heap.size, 2, none⟩ = some (.int .i64 (j : Int)) ∧ w'.cell? ⟨wr.heap.size, 3, none⟩ = some (.int .i64 (ee : Int)) ∧ w'.cell? ⟨w.heap.size + 1, j * 2, none⟩ = some (.int .i64 (ee : Int)) ∧ w'.cell? ⟨w.heap.size + 1, j * 2 + 1, none⟩ = some (.int .i64 (hl : Int)) ∧ w'.cell? ⟨w.heap.size + 1, ee * 2, none⟩ = some (.int .i64 (er : Int)) ∧ w'.cell? ⟨w.heap.size + 1, ee * 2 + 1, none⟩ = some (.int .i64 (hr : Int))) (go_keep) (fail)
                        all_goals
                          have hz4b : w.heap.size < w4.heap.size := by omega
                          have hz4c : w.heap.size + 1 < w4.heap.size + 1 := by omega
                          have s0 := HF5.out.cell (i := i * 2) (by omega)
                          have s1 := HF5.out.cell (i := i * 2 + 1) (by omega)
                          have z0 := HF5.out.frozen (i * 2)
                          have z1 := HF5.out.frozen (i * 2 + 1)
                          have hhl : hl ≤ 127 := by have := HHL.out; have := high_le bl; have := HEE.out; omega
                          have hhr : hr ≤ 127 := by have := HHR.out; have := high_le br; have := HER.out; have := at_le HATR.out; rw [HN.out] at this; omega
                          clear k2 k3 k6 k9 k10 k11 k12
                          go_wp2_with fail
                          have hxe : l[i]? = some ⟨x.coef, x.at_, ((i + 1 : Nat) : Int), ((i + 1 + bl.count : Nat) : Int), bl.size + br.size⟩ := by
                            have g1 := HLE.out; have g2 := HRI.out; have g3 := HG3.out; have g4 := HX.out
                            rw [← HSL.out, ← HSR.out] at g3
                            rw [← HEE.out, ← HJ.out] at g2
                            rw [← HJ.out] at g1
                            rw [g4]; cases x; simp only at g1 g2 g3; rw [g1, g2, g3]
                          have hta : At l i (.fork x.coef x.at_ bl br) := at_fork.2 ⟨hxe, by rw [HJ.out]; exact HATL.out, by rw [HJ.out, HEE.out]; exact HATR.out⟩
                          exact ⟨rel_more (rel_set HF5.out HK.out hk hta ⟨HCUT.out, HOKL.out, HOKR.out⟩ (by have := HJ.out; have := HEE.out; have := HER.out; simp only [B.count]; omega) (by simp only [B.high]; rw [HHL.out, HHR.out]; omega) HB.out X5.out hzr) (by simp; omega), by simp [intOf]⟩
                      · have F := Lib.hid (show isTB dim l = false from isTB_false.2 (fun h => by
                            obtain ⟨a, b, r1, r2, _, _, _, _, _, g, _, _, _⟩ := FK.out h
                            rw [HJ.out] at r1 r2
                            obtain rfl := at_unique HATL.out r1
                            rw [HEE.out] at r2
                            obtain rfl := at_unique HATR.out r2
                            rw [HSR.out, HSL.out] at g; exact g3 g))
                        have t3 : (x.size != sl + sr) = true := by simpa using g3
                        clear g3
                        go_wp2_with fail
                        go_ret
                        exact ⟨ret_bool F.out.symm, X4.out⟩
            · have t2 : (x.right != (ee : Int)) = true := by simpa using hri
              have F := Lib.hid (show isTB dim l = false from isTB_false.2 (fun h => by
                  obtain ⟨a, b, g1, _, _, _, _, g2, _, _, _, _, g⟩ := FK.out h
                  rw [HJ.out] at g1
                  obtain rfl := at_unique HATL.out g1
                  rw [HJ.out, HEE.out] at g2; exact hri g2))
              clear hj hee hri
              go_wp2_with fail
              refine (HLF.out _).mono ?_
              rintro e w2 ⟨rfl, hb2⟩
              rw [hlf]
              have X2 := Lib.hid (bt hb2 (below_a1 wr _))
              have HF2 := Lib.hid (HF.out.of_block (X2.out.block _ hzr))
              have m0 : w2.cell? ⟨wr.heap.size, 0, none⟩ = some (.slice AC cn cc) := keepA hb2 (by go_simp)
              have m1 : w2.cell? ⟨wr.heap.size, 1, none⟩ = some (.int .i64 x.at_) := keepA hb2 (by go_simp)
              have m2 : w2.cell? ⟨wr.heap.size, 2, none⟩ = some (.int .i64 (j : Int)) := keepA hb2 (by go_simp)
              have m3 : w2.cell? ⟨wr.heap.size, 3, none⟩ = some (.int .i64 x.right) := keepA hb2 (by go_simp)
              have m4 : w2.cell? ⟨wr.heap.size, 4, none⟩ = some (.int .i64 x.size) := keepA hb2 (by go_simp)
              have q0 := keepA X2.out b0
              have q1 := keepA X2.out b1
              have hz2 : w.heap.size + 1 < w2.heap.size := Nat.lt_of_lt_of_le hzr X2.out.size
              have q2 := keepA X2.out p0
              go_wp2_with fail
              go_quiet (fail)
              go_wp2_with fail
              go_ret
              exact ⟨ret_bool F.out.symm, below_drewN (bt X2.out HW.out) nq⟩
        · have t1 : (x.left != (i : Int) + 1) = true := by rw [bne_iff_ne]; omega
          have F := Lib.hid (show isTB dim l = false from isTB_false.2 (fun h => by obtain ⟨a, b, _, _, _, _, g, _⟩ := FK.out h; exact hle g))
          clear hle
          go_wp2_with fail
          refine (HLF.out _).mono ?_
          rintro e w2 ⟨rfl, hb2⟩
          rw [hlf]
          have X2 := Lib.hid (bt hb2 (below_a1 wr _))
          have HF2 := Lib.hid (HF.out.of_block (X2.out.block _ hzr))
          have m0 : w2.cell? ⟨wr.heap.size, 0, none⟩ = some (.slice AC cn cc) := keepA hb2 (by go_simp)
          have m1 : w2.cell? ⟨wr.heap.size, 1, none⟩ = some (.int .i64 x.at_) := keepA hb2 (by go_simp)
          have m2 : w2.cell? ⟨wr.heap.size, 2, none⟩ = some (.int .i64 x.left) := keepA hb2 (by go_simp)
          have m3 : w2.cell? ⟨wr.heap.size, 3, none⟩ = some (.int .i64 x.right) := keepA hb2 (by go_simp)
          have m4 : w2.cell? ⟨wr.heap.size, 4, none⟩ = some (.int .i64 x.size) := keepA hb2 (by go_simp)
          have q0 := keepA X2.out b0
          have q1 := keepA X2.out b1
          have hz2 : w.heap.size + 1 < w2.heap.size := Nat.lt_of_lt_of_le hzr X2.out.size
          go_wp2_with fail
          go_quiet (fail)
          go_wp2_with fail
          go_ret
          exact ⟨ret_bool F.out.symm, below_drewN (bt X2.out HW.out) nq⟩
      · go_wp2_with fail
        refine (HLF.out _).mono ?_
        rintro e w2 ⟨rfl, hb2⟩
        rw [hlf]
        have X2 := Lib.hid (bt hb2 (below_a1 wr _))
        have HF2 := Lib.hid (HF.out.of_block (X2.out.block _ hzr))
        have s0 := HF2.out.cell (i := i * 2) (by omega)
        have s1 := HF2.out.cell (i := i * 2 + 1) (by omega)
        have z0 := HF2.out.frozen (i * 2)
        have z1 := HF2.out.frozen (i * 2 + 1)
        go_wp2_with fail
        have hx2 : x = ⟨[], 0, 0, 0, x.size⟩ ∧ 1 ≤ x.size := by
          have h : x.left = 0 ∧ x.right = 0 ∧ x.coef = [] ∧ x.at_ = 0 ∧ 1 ≤ x.size := of_decide_eq_true hlf
          obtain ⟨g1, g2, g3, g4, g5⟩ := h
          exact ⟨by cases x; simp only at g1 g2 g3 g4; subst g1; subst g2; subst g3; subst g4; rfl, g5⟩
        exact ⟨rel_set HF2.out HK.out hk (b := .leaf x.size) (at_leaf.2 (by rw [← hx2.1]; exact HX.out)) hx2.2 (by simp only [B.count]; omega) rfl HB.out X2.out hzr, by simp [intOf]⟩
end Go.Proofs.YtcaeihfgdlffkaaGreatRRRRDoor.ShpI
