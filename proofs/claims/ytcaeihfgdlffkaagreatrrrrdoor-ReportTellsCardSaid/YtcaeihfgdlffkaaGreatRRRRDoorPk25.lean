/- The reference's Is over trees. -/
import Derived.Test.YtcaeihfgdlffkaaGreatRRRRDoorPk24
import Derived.Deep.RegionHeld3
import Derived.Test.YtcaeihfgdlffkaaGreatRRRRDoorPk15
import Derived.Test.YtcaeihfgdlffkaaGreatRRRRDoorPk01
namespace Go.Proofs.YtcaeihfgdlffkaaGreatRRRRDoor.ShpR
set_option linter.unusedVariables false
open Go.RowKit Base SeqM ShpM ShpV ShpW ShpD ShpT ShpI ShpJ ShpE

theorem le64_of {dim : Int} : ∀ {b : B}, b.ok dim → b.size ≤ 64 → le64 b
  | .leaf n, _, h => h
  | .fork c a l r, ho, h => by
    have h1 := size_pos ho.2.1
    have h2 := size_pos ho.2.2
    simp only [B.size] at h
    exact ⟨le64_of ho.2.1 (by omega), le64_of ho.2.2 (by omega)⟩
theorem beq_dec (a b : Int) : (a == b) = decide (a = b) := by rw [Bool.eq_iff_iff]; simp
theorem isT_end {dim : Int} {l : List Nd} {x0 : Nd} (hd : 1 ≤ dim) (hd2 : dim ≤ 8) (h0 : l[0]? = some x0) (h1 : 1 ≤ x0.size) (h2 : x0.size ≤ 64) : isTB dim l = decide (endV dim l 0 (lg x0.size + 1) = (l.length : Int)) := by
  rw [Bool.eq_iff_iff, isTB_true, decide_eq_true_eq]
  constructor
  · rintro ⟨_, _, b, g1, g2, g3, g4, g5⟩
    obtain ⟨y, hy, hs⟩ := at_size g1
    rw [h0] at hy
    obtain rfl := Option.some.inj hy
    rw [endV_yes (b := b) ⟨g1, g3, le64_of g3 g4, by rw [hs]; omega⟩]
    omega
  · intro h
    rcases endV_cases dim l 0 (lg x0.size + 1) with ⟨b, hb, he⟩ | ⟨_, he⟩
    · rw [he] at h
      obtain ⟨y, hy, hs⟩ := at_size hb.1
      rw [h0] at hy
      obtain rfl := Option.some.inj hy
      exact ⟨hd, hd2, b, hb.1, by omega, hb.2.1, by omega, by have := hb.2.2.2; rw [hs] at this; omega⟩
    · rw [he] at h; omega
set_option maxHeartbeats 2000000 in
set_option maxRecDepth 100000 in
theorem RTIs_any (v : Value) (l : List Nd) (dim : Int) (lo : Nat) (w : World) (h : Nds w lo w.heap.size v l) (hl7 : l.length ≤ 1000000) :
    Calls Tryz.prog 139 #[.agg #[.int .i64 dim, v]] w fun e w' => e = .returned (.bool (isTB dim l)) ∧ Below w.heap.size w w' := by
  have HS := Lib.hid h
  obtain ⟨A, cap, rfl, hc1, hc2, _⟩ := h.form
  obtain ⟨n, hn⟩ : ∃ n, l.length = n := ⟨_, rfl⟩
  have HN := Lib.hid hn
  have HL7 := Lib.hid hl7
  rw [hn] at HS hc1 ⊢
  clear h hn hl7
  by_cases hd1 : dim < 1
  · have F := Lib.hid (show isTB dim l = false from isTB_false.2 (fun h => by have := h.1; omega))
    go_enter Tryz.func139, Tryz.ntmps139
    go_wp2_with fail
    go_ret
    exact ⟨ret_bool F.out.symm, below_a1 _ _⟩
  · by_cases hd2 : 8 < dim
    · have F := Lib.hid (show isTB dim l = false from isTB_false.2 (fun h => by have := h.2.1; omega))
      go_enter Tryz.func139, Tryz.ntmps139
      go_wp2_with fail
      go_ret
      exact ⟨ret_bool F.out.symm, below_a1 _ _⟩
    · by_cases hn0 : n = 0
      · have F := Lib.hid (show isTB dim l = false from isTB_false.2 (fun h => by have := (isT_len h).1; rw [HN.out] at this; omega))
        subst hn0
        go_enter Tryz.func139, Tryz.ntmps139
        go_wp2_with fail
        go_ret
        exact ⟨ret_bool F.out.symm, below_a1 _ _⟩
      · obtain ⟨x0, hx0⟩ : ∃ x, l[0]? = some x := ⟨_, List.getElem?_eq_getElem (by rw [HN.out]; omega)⟩
        obtain ⟨ad, cv0, rfl, hbk, _, _, _, _, c4, _⟩ := HS.out.get hx0
        have c4 : w.cell? ⟨ad.block, ad.off + 4, none⟩ = some (.int .i64 x0.size) := c4
        have hn0b : ((n : Int) == 0) = false := by rw [beq_eq_false_iff_ne]; omega
        by_cases hs1 : x0.size < 1
        · have F := Lib.hid (show isTB dim l = false from isTB_false.2 (fun h => by have := (isT_root h hx0).1; omega))
          have hsb : decide (1 ≤ x0.size) = false := decide_eq_false (by omega)
          clear hx0
          go_enter Tryz.func139, Tryz.ntmps139
          go_wp2_with fail
          go_quiet (fail)
          go_wp2_with fail
          go_ret
          exact ⟨ret_bool F.out.symm, below_drewN (below_a1 _ _) nq⟩
        · by_cases hs2 : 64 < x0.size
          · have F := Lib.hid (show isTB dim l = false from isTB_false.2 (fun h => by have := (isT_root h hx0).2; omega))
            have hsb : decide (x0.size ≤ 64) = false := decide_eq_false (by omega)
            clear hx0
            go_enter Tryz.func139, Tryz.ntmps139
            go_wp2_with fail
            go_quiet (fail)
            go_wp2_with fail
            go_ret
            exact ⟨ret_bool F.out.symm, below_drewN (below_a1 _ _) nq⟩
          · have F := Lib.hid (isT_end (by omega) (by omega) hx0 (by omega) (by omega) : isTB dim l = _)
            rw [HN.out] at F
            have HLG := Lib.hid (fun W => RLog_any x0.size W (by omega) (by omega))
            have hl6 := (lg_cases (n := x0.size) (by omega) (by omega)).2.2
            obtain ⟨lgv, hlg⟩ : ∃ g, lg x0.size = g := ⟨_, rfl⟩
            rw [hlg] at F HLG hl6
            have HE := Lib.hid (fun W (hb : Below w.heap.size w W) => REnd_any (.slice (some ad) n cap) l dim lo (lgv + 1) (by omega) 0 W (by omega) HL7.out (HS.out.up hb))
            have HL1 := Lib.hid (show ((lgv + 1 : Nat) : Int) - 1 = (lgv : Int) by omega)
            rw [HL1.out] at HE
            obtain ⟨ev, hev⟩ : ∃ ev, endV dim l 0 (lgv + 1) = ev := ⟨_, rfl⟩
            rw [hev] at F HE
            clear hx0 hlg hev
            go_enter Tryz.func139, Tryz.ntmps139
            go_wp2_with fail
            have HB := Lib.hid (below_a1 w (.cells #[.int .i64 dim, .slice (some ad) n cap] 105))
            have b0 : (w.alloc (.cells #[.int .i64 dim, .slice (some ad) n cap] 105)).cell? ⟨w.heap.size, 0, none⟩ = some (.int .i64 dim) := by go_simp
            have b1 : (w.alloc (.cells #[.int .i64 dim, .slice (some ad) n cap] 105)).cell? ⟨w.heap.size, 1, none⟩ = some (.slice (some ad) n cap) := by go_simp
            generalize w.alloc (.cells #[.int .i64 dim, .slice (some ad) n cap] 105) = wb at *
            go_region_held3 (fun w' => w'.cell? ⟨w.heap.size, 0, none⟩ = some (.int .i64 dim) ∧ w'.cell? ⟨w.heap.size, 1, none⟩ = some (.slice (some ad) n cap)) (first | (go_keep; done) | (exact ⟨k0, k1⟩)) ((first | (go_at_call 165; refine (HLG.out _).mono ?_; rintro e w2 ⟨rfl, rfl⟩) | (go_at_call 164; refine (HE.out _ HB.out.drew).mono ?_; rintro e w3 ⟨rfl, hb3⟩; have k0 := keepA hb3 b0; have k1 := keepA hb3 b1; have X3 := Lib.hid (bt hb3 HB.out.drew))))
            clear hb3
            go_wp2_with fail
            go_ret
            exact ⟨ret_bool (by rw [F.out]; exact beq_dec _ _), X3.out⟩
end Go.Proofs.YtcaeihfgdlffkaaGreatRRRRDoor.ShpR

/- The document's trees of a forest, a forest: right? walked (copseref14.Trees, copseref12.All, copseref14.Is; printed by mkrfo.py). -/
namespace Go.Proofs.YtcaeihfgdlffkaaGreatRRRRDoor.RfoW
set_option linter.unusedVariables false
set_option linter.unusedSimpArgs false
open Go.RowKit Base SeqM CfM RptC ScoX ShpM ShpT StM StV HyW ShpR
theorem gi {L : List Oper} {i : Nat} {o : Oper} (h : L[i]? = some o) : L.toArray[i]? = some o := by simpa using h

/-- a row of trees -/
def trC (r : Value × Gr) : List Value := [.int .i64 r.2.dim, r.1]
theorem trC_len (r : Value × Gr) : (trC r).length = 2 := rfl
def Trs (w : World) (lo B : Nat) (v : Value) (l : List Gr) : Prop := ∃ rs : List (Value × Gr), rs.map (·.2) = l ∧ Seq 2 trC w lo B v rs ∧ ∀ r ∈ rs, Nds w 0 B r.1 r.2.nodes
theorem Trs.below {w w' : World} {lo B : Nat} {v : Value} {l : List Gr} (h : Trs w lo B v l) (hb : Below B w w') : Trs w' lo B v l := by
  obtain ⟨rs, h1, h2, h3⟩ := h
  exact ⟨rs, h1, h2.below hb, fun r hr => (h3 r hr).below hb⟩
theorem Trs.more {w : World} {lo lo' B B' : Nat} {v : Value} {l : List Gr} (h : Trs w lo B v l) (hl : lo' ≤ lo) (hB : B ≤ B') : Trs w lo' B' v l := by
  obtain ⟨rs, h1, h2, h3⟩ := h
  exact ⟨rs, h1, h2.more hl hB, fun r hr => (h3 r hr).more (Nat.le_refl _) hB⟩
theorem Trs.up {w w' : World} {lo : Nat} {v : Value} {l : List Gr} (h : Trs w lo w.heap.size v l) (hb : Below w.heap.size w w') : Trs w' lo w'.heap.size v l := (h.below hb).more (Nat.le_refl _) hb.size
theorem Trs.form {w : World} {lo B : Nat} {v : Value} {l : List Gr} (h : Trs w lo B v l) : ∃ A cap, v = .slice A l.length cap ∧ l.length ≤ cap ∧ cap ≤ 9223372036854775807 ∧ (A = none → cap = 0) := by
  obtain ⟨rs, rfl, ⟨A, cap, e, h1, h2, _, h4⟩, _⟩ := h
  unfold maxLen at h2
  exact ⟨A, cap, by simpa using e, by simpa using h1, by omega, h4⟩
theorem Trs.get {w : World} {lo B : Nat} {A : Option Addr} {n cap : Nat} {l : List Gr} (h : Trs w lo B (.slice A n cap) l) {i : Nat} {x : Gr} (hx : l[i]? = some x) :
    ∃ (ad : Addr) (xv : Value), A = some ad ∧ ad.block < B ∧ (∀ j u, (trC (xv, x))[j]? = some u → w.cell? (ad.add (i * 2 + j)) = some u) ∧ Nds w 0 B xv x.nodes := by
  obtain ⟨rs, rfl, ⟨A', cap', e, _, _, hr, _⟩, hc⟩ := h
  obtain ⟨rfl, _⟩ : A = A' ∧ True := by injection e with e1; exact ⟨e1, trivial⟩
  rw [List.getElem?_map] at hx
  obtain ⟨r, hr1, rfl⟩ := Option.map_eq_some_iff.1 hx
  obtain ⟨ad, y, rfl, _, hb, hy, hcell⟩ := rdk trC_len hr (List.getElem?_eq_some_iff.1 hr1).1
  rw [hr1] at hy
  obtain rfl := Option.some.inj hy
  exact ⟨ad, r.1, rfl, hb, hcell, hc r (List.mem_of_getElem? hr1)⟩
theorem eltT : Elt Tryz.prog 74 105 (.agg #[.int .i64 0, .slice none 0 0]) 2 32 := elt_mk (z := .agg #[.int .i64 0, .slice none 0 0]) Tryz.underlying74 (by kernel_rfl) rfl (by omega) (by omega)
def FtRel (rs : List (Value × Gr)) (w : World) (o i : Value) (wr : World) : Prop := ∃ (k cap : Nat) (A : Option Addr), k ≤ rs.length ∧ i = .int .i64 (k : Int) ∧ o = .slice A k cap ∧
  wr.ownsRow w.heap.size 105 2 (.slice A k cap) k ((rs.take k).flatMap trC) ∧ Below w.heap.size w wr
set_option maxHeartbeats 4000000 in
set_option maxRecDepth 100000 in
theorem RTrees_any (v : Value) (l : List Gr) (w : World) (h : Grs w 0 w.heap.size v l) (hl : l.length ≤ 1000000) :
    Calls Tryz.prog 32 #[v] w fun e w' => (∃ u, e = .returned u ∧ Trs w' 0 w'.heap.size u l) ∧ Below w.heap.size w w' := by
  obtain ⟨rs, rfl, hs, hnd⟩ := h
  have HND := Lib.hid hnd
  obtain ⟨A, cap, rfl, hc1, hc2, hr, _⟩ := hs
  unfold maxLen at hc2
  have HR := Lib.hid hr
  obtain ⟨n, hn⟩ : ∃ n, rs.length = n := ⟨_, rfl⟩
  have HN := Lib.hid hn
  rw [List.length_map, hn] at hl
  rw [hn] at hc1 ⊢
  clear hnd hr hn
  go_enter Tryz.func32, Tryz.ntmps32
  go_wp2_with fail
  go_loopw [3, 4] (fun o i wr => FtRel rs w o i wr) (fun _ i _ => n - (intOf i).toNat)
  case atStart => exact ⟨0, 0, none, Nat.zero_le _, rfl, rfl, World.ownsRow_nil _ _ _ _, Below.refl _ _⟩
  case round =>
    obtain ⟨k, cap3, A3, hk, rfl, rfl, hown, hbr⟩ := hrel
    rw [HN.out] at hk
    have HO := Lib.hid hown
    have HBR := Lib.hid hbr
    by_cases hlt : k < n
    · obtain ⟨ad, y, rfl, _, hbk, hy, hcs⟩ := rdk grC_len (HR.out.below hbr) (i := k) (by rw [HN.out]; exact hlt)
      obtain ⟨NA, nc, hxf, hn1, hn2, _⟩ := (HND.out y (List.mem_of_getElem? hy)).form
      obtain ⟨xv, dim, nodes, born⟩ := y
      dsimp only at hxf hn1 hcs
      subst hxf
      obtain ⟨nl, hnl⟩ : ∃ nl, nodes.length = nl := ⟨_, rfl⟩
      have HNL := Lib.hid hnl
      have HTK := Lib.hid (take_next hy)
      have t0 : wr.cell? (ad.add (k * 3)) = some (.int .i64 dim) := hcs 0 _ rfl
      have t1 : wr.cell? ⟨(ad.add (k * 3)).block, (ad.add (k * 3)).off + 1, none⟩ = some (.slice NA nl nc) := by rw [add_off _ _ _ (by decide), ← hnl]; exact hcs 1 _ rfl
      have hk1 : k < 1073741824 := by omega
      clear hown hbr hnl hy hcs
      go_wp2_with (at_builtin; refine listS rfl (.tmp 11) (.tmp 17) _ rfl eltT w.heap.size wr.heap.size _ _ k 1 _ _ rfl (HO.out.alloc _) rfl (own_one wr #[.int .i64 dim, .slice NA nl nc] _ 2 rfl) (by simp [Value.oneCell']) (by omega) (by omega) (by have := HBR.out.size; simp; omega) ?_; intro o' w3 hown3 hg3)
      have HF := Lib.hid hown3
      have HBA := Lib.hid (show Below w.heap.size w w3 from below_own (HBR.out.alloc HBR.out.size _) (HO.out.alloc _) hg3 (Nat.le_refl _) (by have := HBR.out.size; simp; omega))
      clear hown3 hg3
      obtain ⟨g6, cap6, e6, -, -⟩ := HF.out.form (by omega)
      subst e6
      go_wp2_with fail
      refine ⟨⟨k + 1, cap6, some ⟨g6, 0, none⟩, by rw [HN.out]; omega, by go_num, rfl, ?_, HBA.out⟩, by simp [intOf]; omega⟩
      rw [HTK.out, List.flatMap_append, List.flatMap_cons, List.flatMap_nil, List.append_nil]
      unfold trC
      dsimp only
      rw [HNL.out]
      exact HF.out
    · have hkn : k = n := by omega
      clear hown hbr
      go_wp2_with fail
      go_ret
      have hw := HO.out
      rw [List.take_of_length_le (by rw [HN.out]; omega)] at hw
      have hk3 : k = rs.length := by rw [HN.out]; exact hkn
      rw [hk3] at hw
      refine ⟨⟨_, rfl, rs, rfl, ?_, fun r hr => ((HND.out r hr).below HBR.out).more (Nat.le_refl _) HBR.out.size⟩, HBR.out⟩
      rw [hk3]
      exact (Seq.of_own hw).more (Nat.zero_le _) (Nat.le_refl _)
noncomputable def allT (l : List Gr) : Bool := decide (0 < l.length) && l.all fun g => isTB g.dim g.nodes && decide (g.dim = (l[0]?.map (·.dim)).getD 0)
theorem all_next {α : Type} {l : List α} {k : Nat} {x : α} (h : l[k]? = some x) (f : α → Bool) : (l.take (k + 1)).all f = ((l.take k).all f && f x) := by
  rw [SeqM.take_next h, List.all_append]; simp
theorem all_no {α : Type} {l : List α} {k : Nat} {f : α → Bool} (h : (l.take k).all f = false) : l.all f = false := by
  rw [List.all_eq_false] at h ⊢
  obtain ⟨x, hx, hf⟩ := h
  exact ⟨x, List.mem_of_mem_take hx, hf⟩
def BRel {α : Type} (l : List α) (f : α → Bool) (w : World) (i : Value) (wr : World) : Prop := ∃ k : Nat, k ≤ l.length ∧ i = .int .i64 k ∧ (l.take k).all f = true ∧ Below w.heap.size w wr
set_option maxHeartbeats 4000000 in
set_option maxRecDepth 100000 in
theorem RAllT_any (v : Value) (l : List Gr) (lo : Nat) (w : World) (h : Trs w lo w.heap.size v l) (hs : ∀ g ∈ l, g.nodes.length ≤ 1000000) :
    Calls Tryz.prog 116 #[v] w fun e w' => e = .returned (.bool (allT l)) ∧ Below w.heap.size w w' := by
  have HS := Lib.hid h
  have HSM := Lib.hid hs
  have HAT := Lib.hid (show allT l = (decide (0 < l.length) && l.all fun g => isTB g.dim g.nodes && decide (g.dim = (l[0]?.map (·.dim)).getD 0)) from rfl)
  obtain ⟨A, cap, rfl, hc1, hc2, _⟩ := h.form
  obtain ⟨n, hn⟩ : ∃ n, l.length = n := ⟨_, rfl⟩
  have HN := Lib.hid hn
  obtain ⟨d0, hd0⟩ : ∃ d, (l[0]?.map (·.dim)).getD 0 = d := ⟨_, rfl⟩
  have HD0 := Lib.hid hd0
  generalize allT l = R at *
  rw [hn] at HS hc1 HAT ⊢
  rw [hd0] at HAT
  clear h hn hs hd0
  obtain ⟨P, hP⟩ : ∃ P : Gr → Bool, (fun g : Gr => isTB g.dim g.nodes && decide (g.dim = d0)) = P := ⟨_, rfl⟩
  have HP := Lib.hid (fun g : Gr => show P g = (isTB g.dim g.nodes && decide (g.dim = d0)) by rw [← hP])
  rw [hP] at HAT
  clear hP
  go_enter Tryz.func116, Tryz.ntmps116
  go_wp2_with fail
  go_loopw [3] (fun i wr => BRel l P w i wr) (fun i _ => n - (intOf i).toNat)
  case atStart => exact ⟨0, Nat.zero_le _, rfl, rfl, Below.refl _ _⟩
  case round =>
    obtain ⟨k, hk, rfl, ht, hbr⟩ := hrel
    rw [HN.out] at hk
    have HT := Lib.hid ht
    have HBR := Lib.hid hbr
    clear ht
    by_cases hlt : k < n
    · obtain ⟨g, hg⟩ : ∃ x, l[k]? = some x := ⟨_, List.getElem?_eq_getElem (by rw [HN.out]; exact hlt)⟩
      obtain ⟨g0, hg0⟩ : ∃ x, l[0]? = some x := ⟨_, List.getElem?_eq_getElem (by rw [HN.out]; omega)⟩
      obtain ⟨ad, xv, rfl, hbk, hcs, hnd⟩ := (HS.out.up hbr).get hg
      obtain ⟨ad0, xv0, e0, hb0, hcs0, _⟩ := (HS.out.up hbr).get hg0
      obtain rfl := Option.some.inj e0
      have h0n : 0 < n := by omega
      have hdd : g0.dim = d0 := by rw [← HD0.out, hg0]; rfl
      have HX := Lib.hid ((all_next hg P).trans (by rw [HT.out, HP.out, Bool.true_and]))
      have HNO := Lib.hid (fun (h : (isTB g.dim g.nodes && decide (g.dim = d0)) = false) => show R = false by rw [HAT.out, all_no (k := k + 1) (by rw [HX.out, h])]; simp)
      have hsm := HSM.out g (List.mem_of_getElem? hg)
      obtain ⟨NA, nc, hxf, hn1, hn2, _⟩ := hnd.form
      subst hxf
      obtain ⟨dim, nodes, born⟩ := g
      have t0 : wr.cell? (ad.add (k * 2)) = some (.int .i64 dim) := hcs 0 _ rfl
      have t1 : wr.cell? ⟨(ad.add (k * 2)).block, (ad.add (k * 2)).off + 1, none⟩ = some (.slice NA nodes.length nc) := by rw [add_off _ _ _ (by decide)]; exact hcs 1 _ rfl
      have t2 : wr.cell? ad = some (.int .i64 d0) := by
        have := hcs0 0 _ rfl
        rw [hdd] at this
        have h5 : ad.add (0 * 2 + 0) = ad := by unfold Addr.add; simp
        rwa [h5] at this
      dsimp only at HX HNO hsm hnd
      have HRT := Lib.hid (fun W' (hw : Below wr.heap.size wr W') => RTIs_any _ nodes dim 0 W' (hnd.up hw) hsm)
      obtain ⟨nl, hnl⟩ : ∃ nl, nodes.length = nl := ⟨_, rfl⟩
      rw [hnl] at t1 HRT
      generalize isTB dim nodes = TB at *
      have HCS := Lib.hid (show ∀ W' : World, Below wr.heap.size wr W' → (W'.cell? (ad.add (k * 2)) = some (.int .i64 dim) ∧ W'.cell? ⟨(ad.add (k * 2)).block, (ad.add (k * 2)).off + 1, none⟩ = some (.slice NA nl nc) ∧ W'.cell? ad = some (.int .i64 d0)) from
        fun W' hb => ⟨keepA hb t0, keepA hb t1, keepA hb t2⟩)
      clear hcs hcs0 hnd hg hg0 hdd hsm hnl hbr hn1 t0 t1 t2
      cases TB
      · have F := Lib.hid (HNO.out rfl)
        go_wp2_with fail
        refine regionZ 17 (fun w' => w'.cell? (ad.add (k * 2)) = some (.int .i64 dim) ∧ w'.cell? ⟨(ad.add (k * 2)).block, (ad.add (k * 2)).off + 1, none⟩ = some (.slice NA nl nc) ∧ w'.cell? ad = some (.int .i64 d0)) (by kernel_rfl) (HCS.out _ (Below.refl _ wr).drew) (fun hH => ?_)
        refine takeZ 0 (v := ?_) (gi rfl) (by kernel_rfl) (fun _ _ _ h => h) hH (.inl ⟨rfl, fun w hW => ?_⟩) ?_
        rotate_left
        · (go_simp; try with_reducible rfl)
        try simp only [Act.put, List.setIfInBounds_toArray, List.set_cons_zero, List.set_cons_succ]
        refine takeZ 1 (v := ?_) (gi rfl) (by kernel_rfl) (fun _ _ _ h => h) hH (.inl ⟨rfl, fun w hW => ?_⟩) ?_
        rotate_left
        · (go_simp; try with_reducible rfl)
        try simp only [Act.put, List.setIfInBounds_toArray, List.set_cons_zero, List.set_cons_succ]
        refine takeZ 2 (v := ?_) (gi rfl) (by kernel_rfl) (fun _ _ _ h => h) hH (.inl ⟨rfl, fun w hW => ?_⟩) ?_
        rotate_left
        · (go_simp; try with_reducible rfl)
        try simp only [Act.put, List.setIfInBounds_toArray, List.set_cons_zero, List.set_cons_succ]
        refine takeZ 3 (v := ?_) (gi rfl) (by kernel_rfl) (fun _ _ _ h => h) hH (.inl ⟨rfl, fun w hW => ?_⟩) ?_
        rotate_left
        · (obtain ⟨hW0, hW1, hW2⟩ := hW; go_simp; try with_reducible rfl)
        try simp only [Act.put, List.setIfInBounds_toArray, List.set_cons_zero, List.set_cons_succ]
        refine oneZ 4 (by kernel_rfl) (gi rfl) (fun K hK => ?_)
        try simp only [Act.put, List.setIfInBounds_toArray, List.set_cons_zero, List.set_cons_succ]
        go_simp
        refine (HRT.out wr.drew (Below.refl _ wr).drew).mono ?_
        rintro e w4 ⟨rfl, hb4⟩
        have HK4 := Lib.hid (show Below wr.heap.size wr w4 from bt hb4 (Below.refl _ wr).drew)
        have HB4 := Lib.hid (bt HK4.out HBR.out)
        clear hb4
        refine hK.out _ _ (fun _ => HCS.out _ HK4.out) (fun hH => ?_)
        replace hH := hH (by decide)
        clear hK K
        try simp only [Act.put, List.setIfInBounds_toArray, List.set_cons_zero, List.set_cons_succ]
        refine takeZ 5 (v := ?_) (gi rfl) (by kernel_rfl) (fun _ _ _ h => h) hH (.inl ⟨rfl, fun w hW => ?_⟩) ?_
        rotate_left
        · (go_simp; try with_reducible rfl)
        try simp only [Act.put, List.setIfInBounds_toArray, List.set_cons_zero, List.set_cons_succ]
        refine takeZ 6 (v := ?_) (gi rfl) (by kernel_rfl) (fun _ _ _ h => h) hH (.inl ⟨rfl, fun w hW => ?_⟩) ?_
        rotate_left
        · (go_simp; try with_reducible rfl)
        try simp only [Act.put, List.setIfInBounds_toArray, List.set_cons_zero, List.set_cons_succ]
        refine takeZ 7 (gi rfl) (by kernel_rfl) (fun _ _ _ h => h) hH (.inr ⟨rfl, rfl⟩) ?_
        try simp only [Act.put, List.setIfInBounds_toArray, List.set_cons_zero, List.set_cons_succ]
        refine takeZ 8 (gi rfl) (by kernel_rfl) (fun _ _ _ h => h) hH (.inr ⟨rfl, rfl⟩) ?_
        try simp only [Act.put, List.setIfInBounds_toArray, List.set_cons_zero, List.set_cons_succ]
        refine takeZ 9 (gi rfl) (by kernel_rfl) (fun _ _ _ h => h) hH (.inr ⟨rfl, rfl⟩) ?_
        try simp only [Act.put, List.setIfInBounds_toArray, List.set_cons_zero, List.set_cons_succ]
        refine takeZ 10 (gi rfl) (by kernel_rfl) (fun _ _ _ h => h) hH (.inr ⟨rfl, rfl⟩) ?_
        try simp only [Act.put, List.setIfInBounds_toArray, List.set_cons_zero, List.set_cons_succ]
        refine takeZ 11 (gi rfl) (by kernel_rfl) (fun _ _ _ h => h) hH (.inr ⟨rfl, rfl⟩) ?_
        try simp only [Act.put, List.setIfInBounds_toArray, List.set_cons_zero, List.set_cons_succ]
        refine takeZ 12 (gi rfl) (by kernel_rfl) (fun _ _ _ h => h) hH (.inr ⟨rfl, rfl⟩) ?_
        try simp only [Act.put, List.setIfInBounds_toArray, List.set_cons_zero, List.set_cons_succ]
        refine takeZ 13 (gi rfl) (by kernel_rfl) (fun _ _ _ h => h) hH (.inr ⟨rfl, rfl⟩) ?_
        try simp only [Act.put, List.setIfInBounds_toArray, List.set_cons_zero, List.set_cons_succ]
        refine takeZ 14 (gi rfl) (by kernel_rfl) (fun _ _ _ h => h) hH (.inr ⟨rfl, rfl⟩) ?_
        try simp only [Act.put, List.setIfInBounds_toArray, List.set_cons_zero, List.set_cons_succ]
        refine takeZ 15 (gi rfl) (by kernel_rfl) (fun _ _ _ h => h) hH (.inr ⟨rfl, rfl⟩) ?_
        try simp only [Act.put, List.setIfInBounds_toArray, List.set_cons_zero, List.set_cons_succ]
        refine takeZ 16 (gi rfl) (by kernel_rfl) (fun _ _ _ h => h) hH (.inr ⟨rfl, rfl⟩) ?_
        try simp only [Act.put, List.setIfInBounds_toArray, List.set_cons_zero, List.set_cons_succ]
        refine yieldZ 17 (v := ?_) (by kernel_rfl) (gi rfl) hH (.inl ⟨rfl, fun w hW => ?_⟩) ?_
        rotate_left
        · (go_simp; try with_reducible rfl)
        try simp only [Act.put, List.setIfInBounds_toArray, List.set_cons_zero, List.set_cons_succ]
        refine doneZ (by kernel_rfl) ?_ _
        clear hH
        go_wp2_with fail
        go_ret
        exact ⟨by rw [F.out]; rfl, HB4.out⟩
      · by_cases hdm : dim = d0
        · have hdb : (dim != d0) = false := by simpa using hdm
          have F := Lib.hid (show (l.take (k + 1)).all P = true by rw [HX.out, decide_eq_true hdm]; rfl)
          clear hdm
          go_wp2_with fail
          refine regionZ 17 (fun w' => w'.cell? (ad.add (k * 2)) = some (.int .i64 dim) ∧ w'.cell? ⟨(ad.add (k * 2)).block, (ad.add (k * 2)).off + 1, none⟩ = some (.slice NA nl nc) ∧ w'.cell? ad = some (.int .i64 d0)) (by kernel_rfl) (HCS.out _ (Below.refl _ wr).drew) (fun hH => ?_)
          refine takeZ 0 (v := ?_) (gi rfl) (by kernel_rfl) (fun _ _ _ h => h) hH (.inl ⟨rfl, fun w hW => ?_⟩) ?_
          rotate_left
          · (go_simp; try with_reducible rfl)
          try simp only [Act.put, List.setIfInBounds_toArray, List.set_cons_zero, List.set_cons_succ]
          refine takeZ 1 (v := ?_) (gi rfl) (by kernel_rfl) (fun _ _ _ h => h) hH (.inl ⟨rfl, fun w hW => ?_⟩) ?_
          rotate_left
          · (go_simp; try with_reducible rfl)
          try simp only [Act.put, List.setIfInBounds_toArray, List.set_cons_zero, List.set_cons_succ]
          refine takeZ 2 (v := ?_) (gi rfl) (by kernel_rfl) (fun _ _ _ h => h) hH (.inl ⟨rfl, fun w hW => ?_⟩) ?_
          rotate_left
          · (go_simp; try with_reducible rfl)
          try simp only [Act.put, List.setIfInBounds_toArray, List.set_cons_zero, List.set_cons_succ]
          refine takeZ 3 (v := ?_) (gi rfl) (by kernel_rfl) (fun _ _ _ h => h) hH (.inl ⟨rfl, fun w hW => ?_⟩) ?_
          rotate_left
          · (obtain ⟨hW0, hW1, hW2⟩ := hW; go_simp; try with_reducible rfl)
          try simp only [Act.put, List.setIfInBounds_toArray, List.set_cons_zero, List.set_cons_succ]
          refine oneZ 4 (by kernel_rfl) (gi rfl) (fun K hK => ?_)
          try simp only [Act.put, List.setIfInBounds_toArray, List.set_cons_zero, List.set_cons_succ]
          go_simp
          refine (HRT.out wr.drew (Below.refl _ wr).drew).mono ?_
          rintro e w4 ⟨rfl, hb4⟩
          have HK4 := Lib.hid (show Below wr.heap.size wr w4 from bt hb4 (Below.refl _ wr).drew)
          have HB4 := Lib.hid (bt HK4.out HBR.out)
          clear hb4
          refine hK.out _ _ (fun _ => HCS.out _ HK4.out) (fun hH => ?_)
          replace hH := hH (by decide)
          clear hK K
          try simp only [Act.put, List.setIfInBounds_toArray, List.set_cons_zero, List.set_cons_succ]
          refine takeZ 5 (v := ?_) (gi rfl) (by kernel_rfl) (fun _ _ _ h => h) hH (.inl ⟨rfl, fun w hW => ?_⟩) ?_
          rotate_left
          · (go_simp; try with_reducible rfl)
          try simp only [Act.put, List.setIfInBounds_toArray, List.set_cons_zero, List.set_cons_succ]
          refine takeZ 6 (v := ?_) (gi rfl) (by kernel_rfl) (fun _ _ _ h => h) hH (.inl ⟨rfl, fun w hW => ?_⟩) ?_
          rotate_left
          · (go_simp; try with_reducible rfl)
          try simp only [Act.put, List.setIfInBounds_toArray, List.set_cons_zero, List.set_cons_succ]
          refine takeZ 7 (v := ?_) (gi rfl) (by kernel_rfl) (fun _ _ _ h => h) hH (.inl ⟨rfl, fun w hW => ?_⟩) ?_
          rotate_left
          · (go_simp; try with_reducible rfl)
          try simp only [Act.put, List.setIfInBounds_toArray, List.set_cons_zero, List.set_cons_succ]
          refine takeZ 8 (v := ?_) (gi rfl) (by kernel_rfl) (fun _ _ _ h => h) hH (.inl ⟨rfl, fun w hW => ?_⟩) ?_
          rotate_left
          · (go_simp; try with_reducible rfl)
          try simp only [Act.put, List.setIfInBounds_toArray, List.set_cons_zero, List.set_cons_succ]
          refine takeZ 9 (v := ?_) (gi rfl) (by kernel_rfl) (fun _ _ _ h => h) hH (.inl ⟨rfl, fun w hW => ?_⟩) ?_
          rotate_left
          · (go_simp; try with_reducible rfl)
          try simp only [Act.put, List.setIfInBounds_toArray, List.set_cons_zero, List.set_cons_succ]
          refine takeZ 10 (v := ?_) (gi rfl) (by kernel_rfl) (fun _ _ _ h => h) hH (.inl ⟨rfl, fun w hW => ?_⟩) ?_
          rotate_left
          · (go_simp; try with_reducible rfl)
          try simp only [Act.put, List.setIfInBounds_toArray, List.set_cons_zero, List.set_cons_succ]
          refine takeZ 11 (v := ?_) (gi rfl) (by kernel_rfl) (fun _ _ _ h => h) hH (.inl ⟨rfl, fun w hW => ?_⟩) ?_
          rotate_left
          · (obtain ⟨hW0, hW1, hW2⟩ := hW; go_simp; try with_reducible rfl)
          try simp only [Act.put, List.setIfInBounds_toArray, List.set_cons_zero, List.set_cons_succ]
          refine takeZ 12 (v := ?_) (gi rfl) (by kernel_rfl) (fun _ _ _ h => h) hH (.inl ⟨rfl, fun w hW => ?_⟩) ?_
          rotate_left
          · (go_simp; try with_reducible rfl)
          try simp only [Act.put, List.setIfInBounds_toArray, List.set_cons_zero, List.set_cons_succ]
          refine takeZ 13 (v := ?_) (gi rfl) (by kernel_rfl) (fun _ _ _ h => h) hH (.inl ⟨rfl, fun w hW => ?_⟩) ?_
          rotate_left
          · (go_simp; try with_reducible rfl)
          try simp only [Act.put, List.setIfInBounds_toArray, List.set_cons_zero, List.set_cons_succ]
          refine takeZ 14 (v := ?_) (gi rfl) (by kernel_rfl) (fun _ _ _ h => h) hH (.inl ⟨rfl, fun w hW => ?_⟩) ?_
          rotate_left
          · (go_simp; try with_reducible rfl)
          try simp only [Act.put, List.setIfInBounds_toArray, List.set_cons_zero, List.set_cons_succ]
          refine takeZ 15 (v := ?_) (gi rfl) (by kernel_rfl) (fun _ _ _ h => h) hH (.inl ⟨rfl, fun w hW => ?_⟩) ?_
          rotate_left
          · (obtain ⟨hW0, hW1, hW2⟩ := hW; go_simp; try with_reducible rfl)
          try simp only [Act.put, List.setIfInBounds_toArray, List.set_cons_zero, List.set_cons_succ]
          refine takeZ 16 (v := ?_) (gi rfl) (by kernel_rfl) (fun _ _ _ h => h) hH (.inl ⟨rfl, fun w hW => ?_⟩) ?_
          rotate_left
          · (go_simp; try with_reducible rfl)
          try simp only [Act.put, List.setIfInBounds_toArray, List.set_cons_zero, List.set_cons_succ]
          refine yieldZ 17 (v := ?_) (by kernel_rfl) (gi rfl) hH (.inl ⟨rfl, fun w hW => ?_⟩) ?_
          rotate_left
          · (go_simp; try with_reducible rfl)
          try simp only [Act.put, List.setIfInBounds_toArray, List.set_cons_zero, List.set_cons_succ]
          refine doneZ (by kernel_rfl) ?_ _
          clear hH
          go_wp2_with fail
          exact ⟨⟨k + 1, by rw [HN.out]; omega, by go_num, F.out, HB4.out⟩, by simp [intOf]; omega⟩
        · have hdb : (dim != d0) = true := by simpa using hdm
          have F := Lib.hid (HNO.out (by rw [decide_eq_false hdm]; rfl))
          clear hdm
          go_wp2_with fail
          refine regionZ 17 (fun w' => w'.cell? (ad.add (k * 2)) = some (.int .i64 dim) ∧ w'.cell? ⟨(ad.add (k * 2)).block, (ad.add (k * 2)).off + 1, none⟩ = some (.slice NA nl nc) ∧ w'.cell? ad = some (.int .i64 d0)) (by kernel_rfl) (HCS.out _ (Below.refl _ wr).drew) (fun hH => ?_)
          refine takeZ 0 (v := ?_) (gi rfl) (by kernel_rfl) (fun _ _ _ h => h) hH (.inl ⟨rfl, fun w hW => ?_⟩) ?_
          rotate_left
          · (go_simp; try with_reducible rfl)
          try simp only [Act.put, List.setIfInBounds_toArray, List.set_cons_zero, List.set_cons_succ]
          refine takeZ 1 (v := ?_) (gi rfl) (by kernel_rfl) (fun _ _ _ h => h) hH (.inl ⟨rfl, fun w hW => ?_⟩) ?_
          rotate_left
          · (go_simp; try with_reducible rfl)
          try simp only [Act.put, List.setIfInBounds_toArray, List.set_cons_zero, List.set_cons_succ]
          refine takeZ 2 (v := ?_) (gi rfl) (by kernel_rfl) (fun _ _ _ h => h) hH (.inl ⟨rfl, fun w hW => ?_⟩) ?_
          rotate_left
          · (go_simp; try with_reducible rfl)
          try simp only [Act.put, List.setIfInBounds_toArray, List.set_cons_zero, List.set_cons_succ]
          refine takeZ 3 (v := ?_) (gi rfl) (by kernel_rfl) (fun _ _ _ h => h) hH (.inl ⟨rfl, fun w hW => ?_⟩) ?_
          rotate_left
          · (obtain ⟨hW0, hW1, hW2⟩ := hW; go_simp; try with_reducible rfl)
          try simp only [Act.put, List.setIfInBounds_toArray, List.set_cons_zero, List.set_cons_succ]
          refine oneZ 4 (by kernel_rfl) (gi rfl) (fun K hK => ?_)
          try simp only [Act.put, List.setIfInBounds_toArray, List.set_cons_zero, List.set_cons_succ]
          go_simp
          refine (HRT.out wr.drew (Below.refl _ wr).drew).mono ?_
          rintro e w4 ⟨rfl, hb4⟩
          have HK4 := Lib.hid (show Below wr.heap.size wr w4 from bt hb4 (Below.refl _ wr).drew)
          have HB4 := Lib.hid (bt HK4.out HBR.out)
          clear hb4
          refine hK.out _ _ (fun _ => HCS.out _ HK4.out) (fun hH => ?_)
          replace hH := hH (by decide)
          clear hK K
          try simp only [Act.put, List.setIfInBounds_toArray, List.set_cons_zero, List.set_cons_succ]
          refine takeZ 5 (v := ?_) (gi rfl) (by kernel_rfl) (fun _ _ _ h => h) hH (.inl ⟨rfl, fun w hW => ?_⟩) ?_
          rotate_left
          · (go_simp; try with_reducible rfl)
          try simp only [Act.put, List.setIfInBounds_toArray, List.set_cons_zero, List.set_cons_succ]
          refine takeZ 6 (v := ?_) (gi rfl) (by kernel_rfl) (fun _ _ _ h => h) hH (.inl ⟨rfl, fun w hW => ?_⟩) ?_
          rotate_left
          · (go_simp; try with_reducible rfl)
          try simp only [Act.put, List.setIfInBounds_toArray, List.set_cons_zero, List.set_cons_succ]
          refine takeZ 7 (v := ?_) (gi rfl) (by kernel_rfl) (fun _ _ _ h => h) hH (.inl ⟨rfl, fun w hW => ?_⟩) ?_
          rotate_left
          · (go_simp; try with_reducible rfl)
          try simp only [Act.put, List.setIfInBounds_toArray, List.set_cons_zero, List.set_cons_succ]
          refine takeZ 8 (v := ?_) (gi rfl) (by kernel_rfl) (fun _ _ _ h => h) hH (.inl ⟨rfl, fun w hW => ?_⟩) ?_
          rotate_left
          · (go_simp; try with_reducible rfl)
          try simp only [Act.put, List.setIfInBounds_toArray, List.set_cons_zero, List.set_cons_succ]
          refine takeZ 9 (v := ?_) (gi rfl) (by kernel_rfl) (fun _ _ _ h => h) hH (.inl ⟨rfl, fun w hW => ?_⟩) ?_
          rotate_left
          · (go_simp; try with_reducible rfl)
          try simp only [Act.put, List.setIfInBounds_toArray, List.set_cons_zero, List.set_cons_succ]
          refine takeZ 10 (v := ?_) (gi rfl) (by kernel_rfl) (fun _ _ _ h => h) hH (.inl ⟨rfl, fun w hW => ?_⟩) ?_
          rotate_left
          · (go_simp; try with_reducible rfl)
          try simp only [Act.put, List.setIfInBounds_toArray, List.set_cons_zero, List.set_cons_succ]
          refine takeZ 11 (v := ?_) (gi rfl) (by kernel_rfl) (fun _ _ _ h => h) hH (.inl ⟨rfl, fun w hW => ?_⟩) ?_
          rotate_left
          · (obtain ⟨hW0, hW1, hW2⟩ := hW; go_simp; try with_reducible rfl)
          try simp only [Act.put, List.setIfInBounds_toArray, List.set_cons_zero, List.set_cons_succ]
          refine takeZ 12 (v := ?_) (gi rfl) (by kernel_rfl) (fun _ _ _ h => h) hH (.inl ⟨rfl, fun w hW => ?_⟩) ?_
          rotate_left
          · (go_simp; try with_reducible rfl)
          try simp only [Act.put, List.setIfInBounds_toArray, List.set_cons_zero, List.set_cons_succ]
          refine takeZ 13 (v := ?_) (gi rfl) (by kernel_rfl) (fun _ _ _ h => h) hH (.inl ⟨rfl, fun w hW => ?_⟩) ?_
          rotate_left
          · (go_simp; try with_reducible rfl)
          try simp only [Act.put, List.setIfInBounds_toArray, List.set_cons_zero, List.set_cons_succ]
          refine takeZ 14 (v := ?_) (gi rfl) (by kernel_rfl) (fun _ _ _ h => h) hH (.inl ⟨rfl, fun w hW => ?_⟩) ?_
          rotate_left
          · (go_simp; try with_reducible rfl)
          try simp only [Act.put, List.setIfInBounds_toArray, List.set_cons_zero, List.set_cons_succ]
          refine takeZ 15 (v := ?_) (gi rfl) (by kernel_rfl) (fun _ _ _ h => h) hH (.inl ⟨rfl, fun w hW => ?_⟩) ?_
          rotate_left
          · (obtain ⟨hW0, hW1, hW2⟩ := hW; go_simp; try with_reducible rfl)
          try simp only [Act.put, List.setIfInBounds_toArray, List.set_cons_zero, List.set_cons_succ]
          refine takeZ 16 (v := ?_) (gi rfl) (by kernel_rfl) (fun _ _ _ h => h) hH (.inl ⟨rfl, fun w hW => ?_⟩) ?_
          rotate_left
          · (go_simp; try with_reducible rfl)
          try simp only [Act.put, List.setIfInBounds_toArray, List.set_cons_zero, List.set_cons_succ]
          refine yieldZ 17 (v := ?_) (by kernel_rfl) (gi rfl) hH (.inl ⟨rfl, fun w hW => ?_⟩) ?_
          rotate_left
          · (go_simp; try with_reducible rfl)
          try simp only [Act.put, List.setIfInBounds_toArray, List.set_cons_zero, List.set_cons_succ]
          refine doneZ (by kernel_rfl) ?_ _
          clear hH
          go_wp2_with fail
          go_ret
          exact ⟨by rw [F.out]; rfl, HB4.out⟩
    · have hkn : k = n := by omega
      have F := Lib.hid (show R = decide (0 < n) by
        have := HT.out
        rw [List.take_of_length_le (by rw [HN.out]; omega)] at this
        rw [HAT.out, this, Bool.and_true])
      clear hbr
      by_cases h0 : 0 < n
      · have F2 := Lib.hid (F.out.trans (decide_eq_true h0))
        have hI : (0 : Int) < (n : Int) := by omega
        go_wp2_with fail
        go_ret
        exact ⟨by rw [F2.out]; first | rfl | simp [h0], HBR.out⟩
      · have F2 := Lib.hid (F.out.trans (decide_eq_false h0))
        have hI : ¬ (0 : Int) < (n : Int) := by omega
        go_wp2_with fail
        go_ret
        exact ⟨by rw [F2.out]; first | rfl | simp [h0], HBR.out⟩
/-! ### A forest -/
def bornB (g : Gr) : Bool := decide (0 ≤ g.born ∧ g.born ≤ 1099511627776)
theorem fo_grown (g : Gr) (d : Int) : grownB d g = (bornB g && (isTB g.dim g.nodes && decide (g.dim = d))) := by
  unfold grownB bornB
  rw [Bool.and_assoc, Bool.and_comm (decide (g.dim = d))]
theorem all_and {α : Type} (l : List α) (p q : α → Bool) : (l.all fun x => p x && q x) = (l.all p && l.all q) := by
  induction l with
  | nil => rfl
  | cons x r ih =>
    simp only [List.all_cons, ih]
    cases p x <;> cases q x <;> simp
theorem fo_eq (l : List Gr) : forestB l = (decide (l.length ≤ 16) && (l.all bornB && l.all fun g => isTB g.dim g.nodes && decide (g.dim = (l[0]?.map (·.dim)).getD 0))) := by
  unfold forestB
  rw [← all_and]
  congr 2
  funext g
  exact fo_grown g _
theorem fo_born {l : List Gr} (h : l.all bornB = false) : forestB l = false := by rw [fo_eq, h]; simp
theorem fo_nil {l : List Gr} (h : l.length = 0) : forestB l = true := by
  rw [List.length_eq_zero_iff] at h
  subst h
  rfl
theorem fo_long {l : List Gr} (h : ¬ l.length ≤ 16) : forestB l = false := by rw [fo_eq, decide_eq_false h]; rfl
theorem fo_all {l : List Gr} (h : l.all bornB = true) (h0 : 0 < l.length) (h1 : l.length ≤ 16) : forestB l = allT l := by
  rw [fo_eq, h, decide_eq_true h1]
  unfold allT
  rw [decide_eq_true h0]
  rfl
set_option maxHeartbeats 4000000 in
set_option maxRecDepth 100000 in
theorem RFIs_any (v : Value) (l : List Gr) (w : World) (h : Grs w 0 w.heap.size v l) (hs : ∀ g ∈ l, g.nodes.length ≤ 1000000) :
    Calls Tryz.prog 78 #[v] w fun e w' => e = .returned (.bool (forestB l)) ∧ Below w.heap.size w w' := by
  have HS := Lib.hid h
  have HTR := Lib.hid (fun W hl => RTrees_any v l W (show Grs W 0 W.heap.size v l from hl))
  have HAL := Lib.hid (fun u W hl => RAllT_any u l 0 W (show Trs W 0 W.heap.size u l from hl) hs)
  have HFB := Lib.hid (fun h => fo_born (l := l) h)
  have HFN := Lib.hid (fun h => fo_nil (l := l) h)
  have HFL := Lib.hid (fun h => fo_long (l := l) h)
  have HFA := Lib.hid (fun h => fo_all (l := l) h)
  obtain ⟨A, cap, rfl, hc1, hc2, _⟩ := h.form
  obtain ⟨n, hn⟩ : ∃ n, l.length = n := ⟨_, rfl⟩
  have HN := Lib.hid hn
  generalize forestB l = R at *
  generalize allT l = AT at *
  rw [hn] at HS hc1 HTR HFN HFL HFA ⊢
  clear h hn hs
  go_enter Tryz.func78, Tryz.ntmps78
  go_wp2_with fail
  go_loopw [3] (fun i wr => ∃ k : Nat, k ≤ n ∧ i = .int .i64 k ∧ (l.take k).all bornB = true ∧ w = wr) (fun i _ => n - (intOf i).toNat)
  case atStart => exact ⟨0, Nat.zero_le _, rfl, rfl, rfl⟩
  case round =>
    obtain ⟨k, hk, rfl, ht, rfl⟩ := hrel
    have HT := Lib.hid ht
    clear ht
    by_cases hlt : k < n
    · obtain ⟨g, hg⟩ : ∃ x, l[k]? = some x := ⟨_, List.getElem?_eq_getElem (by rw [HN.out]; exact hlt)⟩
      obtain ⟨ad, xv, rfl, hbk, hcs, hnd⟩ := HS.out.get hg
      have HX := Lib.hid ((all_next hg bornB).trans (by rw [HT.out, Bool.true_and]))
      obtain ⟨dim, nodes, born⟩ := g
      have t2 : w.cell? ⟨(ad.add (k * 3)).block, (ad.add (k * 3)).off + 2, none⟩ = some (.int .i64 born) := by rw [add_off _ _ _ (by decide)]; exact hcs 2 _ rfl
      clear hcs hnd hg
      by_cases h1 : born < 0
      · have F := Lib.hid (HFB.out (all_no (k := k + 1) (by rw [HX.out]; exact decide_eq_false (by dsimp only; omega))))
        go_wp2_with fail
        go_ret
        exact ⟨by rw [F.out]; rfl, Below.refl _ _⟩
      · by_cases h2 : 1099511627776 < born
        · have F := Lib.hid (HFB.out (all_no (k := k + 1) (by rw [HX.out]; exact decide_eq_false (by dsimp only; omega))))
          go_wp2_with fail
          go_ret
          exact ⟨by rw [F.out]; rfl, Below.refl _ _⟩
        · have F := Lib.hid (show (l.take (k + 1)).all bornB = true by rw [HX.out]; exact decide_eq_true (by dsimp only; omega))
          go_wp2_with fail
          exact ⟨⟨k + 1, by omega, by go_num, F.out, (by first | rfl | trivial)⟩, by simp [intOf]; omega⟩
    · have hkn : k = n := by omega
      have HB := Lib.hid (show l.all bornB = true by
        have := HT.out
        rwa [List.take_of_length_le (by rw [HN.out]; omega)] at this)
      by_cases h0 : n = 0
      · have F := Lib.hid (HFN.out h0)
        have hI : ((n : Int) == 0) = true := by simpa using h0
        clear hkn h0
        go_wp2_with fail
        go_ret
        exact ⟨by rw [F.out]; rfl, Below.refl _ _⟩
      · have hI : ((n : Int) == 0) = false := by simpa using h0
        by_cases h16 : n ≤ 16
        · have F := Lib.hid (HFA.out HB.out (by omega) h16)
          have hI2 : (n : Int) ≤ 16 := by omega
          clear hkn
          go_wp2_with fail
          refine (HTR.out w HS.out (by omega)).mono ?_
          rintro e w1 ⟨⟨u, rfl, hu⟩, hb1⟩
          have HB1 := Lib.hid hb1
          have HU := Lib.hid hu
          obtain ⟨Au, cu, rfl, _, _, _⟩ := hu.form
          clear hb1 hu
          go_wp2_with fail
          refine (HAL.out _ w1 HU.out).mono ?_
          rintro e w2 ⟨rfl, hb2⟩
          have HB2 := Lib.hid (bt hb2 HB1.out)
          clear hb2
          go_wp2_with fail
          go_ret
          exact ⟨by rw [F.out]; rfl, HB2.out⟩
        · have F := Lib.hid (HFL.out h16)
          have hI2 : ¬ (n : Int) ≤ 16 := by omega
          clear hkn
          go_wp2_with fail
          go_ret
          exact ⟨by rw [F.out]; rfl, Below.refl _ _⟩
end Go.Proofs.YtcaeihfgdlffkaaGreatRRRRDoor.RfoW
