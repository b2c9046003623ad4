/- The reference's Is over trees. -/
import Derived.Test.YtmmgfelifmdnbaaDoorShpE
import Derived.Deep.RegionHeld3
namespace Go.Proofs.YtmmgfelifmdnbaaDoor.ShpR
set_option linter.unusedVariables false
open Go.RowKit Base SeqM ShpM ShpV ShpW ShpD ShpT ShpI ShpJ ShpE

theorem le64_of {dim : Int} : ∀ {b : B}, b.ok dim → b.size ≤ 64 → le64 b
  | .leaf n, _, h => h
  | .fork c a l r, ho, h => by
    have h1 := size_pos ho.2.1
    have h2 := size_pos ho.2.2
    simp only [B.size] at h
    exact ⟨le64_of ho.2.1 (by omega), le64_of ho.2.2 (by omega)⟩
theorem beq_dec (a b : Int) : (a == b) = decide (a = b) := by rw [Bool.eq_iff_iff]; simp
theorem isT_end {dim : Int} {l : List Nd} {x0 : Nd} (hd : 1 ≤ dim) (hd2 : dim ≤ 8) (h0 : l[0]? = some x0) (h1 : 1 ≤ x0.size) (h2 : x0.size ≤ 64) : isTB dim l = decide (endV dim l 0 (lg x0.size + 1) = (l.length : Int)) := by
  rw [Bool.eq_iff_iff, isTB_true, decide_eq_true_eq]
  constructor
  · rintro ⟨_, _, b, g1, g2, g3, g4, g5⟩
    obtain ⟨y, hy, hs⟩ := at_size g1
    rw [h0] at hy
    obtain rfl := Option.some.inj hy
    rw [endV_yes (b := b) ⟨g1, g3, le64_of g3 g4, by rw [hs]; omega⟩]
    omega
  · intro h
    rcases endV_cases dim l 0 (lg x0.size + 1) with ⟨b, hb, he⟩ | ⟨_, he⟩
    · rw [he] at h
      obtain ⟨y, hy, hs⟩ := at_size hb.1
      rw [h0] at hy
      obtain rfl := Option.some.inj hy
      exact ⟨hd, hd2, b, hb.1, by omega, hb.2.1, by omega, by have := hb.2.2.2; rw [hs] at this; omega⟩
    · rw [he] at h; omega
set_option maxHeartbeats 2000000 in
set_option maxRecDepth 100000 in
theorem RTIs_any (v : Value) (l : List Nd) (dim : Int) (lo : Nat) (w : World) (h : Nds w lo w.heap.size v l) (hl7 : l.length ≤ 1000000) :
    Calls Tryd.prog 26 #[.agg #[.int .i64 dim, v]] w fun e w' => e = .returned (.bool (isTB dim l)) ∧ Below w.heap.size w w' := by
  have HS := Lib.hid h
  obtain ⟨A, cap, rfl, hc1, hc2, _⟩ := h.form
  obtain ⟨n, hn⟩ : ∃ n, l.length = n := ⟨_, rfl⟩
  have HN := Lib.hid hn
  have HL7 := Lib.hid hl7
  rw [hn] at HS hc1 ⊢
  clear h hn hl7
  by_cases hd1 : dim < 1
  · have F := Lib.hid (show isTB dim l = false from isTB_false.2 (fun h => by have := h.1; omega))
    go_enter Tryd.func26, Tryd.ntmps26
    go_wp2_with fail
    go_ret
    exact ⟨ret_bool F.out.symm, below_a1 _ _⟩
  · by_cases hd2 : 8 < dim
    · have F := Lib.hid (show isTB dim l = false from isTB_false.2 (fun h => by have := h.2.1; omega))
      go_enter Tryd.func26, Tryd.ntmps26
      go_wp2_with fail
      go_ret
      exact ⟨ret_bool F.out.symm, below_a1 _ _⟩
    · by_cases hn0 : n = 0
      · have F := Lib.hid (show isTB dim l = false from isTB_false.2 (fun h => by have := (isT_len h).1; rw [HN.out] at this; omega))
        subst hn0
        go_enter Tryd.func26, Tryd.ntmps26
        go_wp2_with fail
        go_ret
        exact ⟨ret_bool F.out.symm, below_a1 _ _⟩
      · obtain ⟨x0, hx0⟩ : ∃ x, l[0]? = some x := ⟨_, List.getElem?_eq_getElem (by rw [HN.out]; omega)⟩
        obtain ⟨ad, cv0, rfl, hbk, _, _, _, _, c4, _⟩ := HS.out.get hx0
        have c4 : w.cell? ⟨ad.block, ad.off + 4, none⟩ = some (.int .i64 x0.size) := c4
        have hn0b : ((n : Int) == 0) = false := by rw [beq_eq_false_iff_ne]; omega
        by_cases hs1 : x0.size < 1
        · have F := Lib.hid (show isTB dim l = false from isTB_false.2 (fun h => by have := (isT_root h hx0).1; omega))
          have hsb : decide (1 ≤ x0.size) = false := decide_eq_false (by omega)
          clear hx0
          go_enter Tryd.func26, Tryd.ntmps26
          go_wp2_with fail
          go_quiet (fail)
          go_wp2_with fail
          go_ret
          exact ⟨ret_bool F.out.symm, below_drewN (below_a1 _ _) nq⟩
        · by_cases hs2 : 64 < x0.size
          · have F := Lib.hid (show isTB dim l = false from isTB_false.2 (fun h => by have := (isT_root h hx0).2; omega))
            have hsb : decide (x0.size ≤ 64) = false := decide_eq_false (by omega)
            clear hx0
            go_enter Tryd.func26, Tryd.ntmps26
            go_wp2_with fail
            go_quiet (fail)
            go_wp2_with fail
            go_ret
            exact ⟨ret_bool F.out.symm, below_drewN (below_a1 _ _) nq⟩
          · have F := Lib.hid (isT_end (by omega) (by omega) hx0 (by omega) (by omega) : isTB dim l = _)
            rw [HN.out] at F
            have HLG := Lib.hid (fun W => RLog_any x0.size W (by omega) (by omega))
            have hl6 := (lg_cases (n := x0.size) (by omega) (by omega)).2.2
            obtain ⟨lgv, hlg⟩ : ∃ g, lg x0.size = g := ⟨_, rfl⟩
            rw [hlg] at F HLG hl6
            have HE := Lib.hid (fun W (hb : Below w.heap.size w W) => REnd_any (.slice (some ad) n cap) l dim lo (lgv + 1) (by omega) 0 W (by omega) HL7.out (HS.out.up hb))
            have HL1 := Lib.hid (show ((lgv + 1 : Nat) : Int) - 1 = (lgv : Int) by omega)
            rw [HL1.out] at HE
            obtain ⟨ev, hev⟩ : ∃ ev, endV dim l 0 (lgv + 1) = ev := ⟨_, rfl⟩
            rw [hev] at F HE
            clear hx0 hlg hev
            go_enter Tryd.func26, Tryd.ntmps26
            go_wp2_with fail
            have HB := Lib.hid (below_a1 w (.cells #[.int .i64 dim, .slice (some ad) n cap] 24))
            have b0 : (w.alloc (.cells #[.int .i64 dim, .slice (some ad) n cap] 24)).cell? ⟨w.heap.size, 0, none⟩ = some (.int .i64 dim) := by go_simp
            have b1 : (w.alloc (.cells #[.int .i64 dim, .slice (some ad) n cap] 24)).cell? ⟨w.heap.size, 1, none⟩ = some (.slice (some ad) n cap) := by go_simp
            generalize w.alloc (.cells #[.int .i64 dim, .slice (some ad) n cap] 24) = wb at *
            go_region_held3 (fun w' => w'.cell? ⟨w.heap.size, 0, none⟩ = some (.int .i64 dim) ∧ w'.cell? ⟨w.heap.size, 1, none⟩ = some (.slice (some ad) n cap)) (first | (go_keep; done) | (exact ⟨k0, k1⟩)) ((first | (go_at_call 38; refine (HLG.out _).mono ?_; rintro e w2 ⟨rfl, rfl⟩) | (go_at_call 37; refine (HE.out _ HB.out.drew).mono ?_; rintro e w3 ⟨rfl, hb3⟩; have k0 := keepA hb3 b0; have k1 := keepA hb3 b1; have X3 := Lib.hid (bt hb3 HB.out.drew))))
            clear hb3
            go_wp2_with fail
            go_ret
            exact ⟨ret_bool (by rw [F.out]; exact beq_dec _ _), X3.out⟩
end Go.Proofs.YtmmgfelifmdnbaaDoor.ShpR
