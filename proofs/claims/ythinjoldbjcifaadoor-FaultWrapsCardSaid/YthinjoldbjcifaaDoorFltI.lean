/- Faults: errors.is and errors.Is at a code and at a class; fault.Has and Of. -/
import Derived.Test.YthinjoldbjcifaaDoorFltX
import Derived.StillTailTactics
namespace Go.Proofs.YthinjoldbjcifaaDoor.FltI
set_option linter.unusedVariables false
open Go.RowKit Go.Stop Go.Extern Base FltM FltW FltX

/-! ### Closed facts on the method sets -/
theorem noIsF (v : Value) (xT : TypeId) (w : World) : (Instr.typeAssert (.iface 34 v) xT 96 true).run Tryd.prog w = .ok (.tuple #[.nilIface, .bool false]) w := run_typeAssert_lacksB Tryd.underlying96 (by kernel_rfl) (by kernel_rfl) v xT w
theorem noIsP (v : Value) (xT : TypeId) (w : World) : (Instr.typeAssert (.iface 72 v) xT 96 true).run Tryd.prog w = .ok (.tuple #[.nilIface, .bool false]) w := run_typeAssert_lacksB Tryd.underlying96 (by kernel_rfl) (by kernel_rfl) v xT w
theorem hasIsL (v : Value) (xT : TypeId) (w : World) : (Instr.typeAssert (.iface 67 v) xT 96 true).run Tryd.prog w = .ok (.tuple #[.iface 67 v, .bool true]) w := run_typeAssert_hasB Tryd.underlying96 (by kernel_rfl) v xT w
theorem hasUwF (v : Value) (xT : TypeId) (w : World) : (Instr.typeAssert (.iface 34 v) xT 99 true).run Tryd.prog w = .ok (.tuple #[.iface 34 v, .bool true]) w := run_typeAssert_hasB Tryd.underlying99 (by kernel_rfl) v xT w
theorem hasUwL (v : Value) (xT : TypeId) (w : World) : (Instr.typeAssert (.iface 67 v) xT 99 true).run Tryd.prog w = .ok (.tuple #[.iface 67 v, .bool true]) w := run_typeAssert_hasB Tryd.underlying99 (by kernel_rfl) v xT w
theorem noUwP (v : Value) (xT : TypeId) (w : World) : (Instr.typeAssert (.iface 72 v) xT 99 true).run Tryd.prog w = .ok (.tuple #[.nilIface, .bool false]) w := run_typeAssert_lacksB Tryd.underlying99 (by kernel_rfl) (by kernel_rfl) v xT w
theorem hasUsP (v : Value) (xT : TypeId) (w : World) : (Instr.typeAssert (.iface 72 v) xT 100 true).run Tryd.prog w = .ok (.tuple #[.iface 72 v, .bool true]) w := run_typeAssert_hasB Tryd.underlying100 (by kernel_rfl) v xT w

theorem mUwF (v : Value) (w : World) : (Go.method 255 34 v "Unwrap").run Tryd.prog w = .ok (17, v) w := by kernel_rfl
theorem mUwL (v : Value) (w : World) : (Go.method 255 67 v "Unwrap").run Tryd.prog w = .ok (74, v) w := by kernel_rfl
theorem mIsL (v : Value) (w : World) : (Go.method 255 67 v "Is").run Tryd.prog w = .ok (73, v) w := by kernel_rfl
theorem mUwP (v : Value) (w : World) : (Go.method 255 72 v "Unwrap").run Tryd.prog w = .ok (76, v) w := by kernel_rfl

set_option maxRecDepth 100000 in
/-- (*pair).Unwrap -/
theorem pUnwrap (g b1 b2 : Nat) (w : World) (h1 : w.cell? ⟨g, 0, none⟩ = some (.pointer (some ⟨b1, 0, none⟩))) (h2 : w.cell? ⟨g, 1, none⟩ = some (.pointer (some ⟨b2, 0, none⟩))) :
    Calls Tryd.prog 76 #[.pointer (some ⟨g, 0, none⟩)] w fun e w' => e = .returned (.slice (some ⟨w.heap.size, 0, none⟩) 2 2) ∧
      w' = (w.alloc (.cells #[.iface 34 (.pointer (some ⟨b1, 0, none⟩)), .iface 34 (.pointer (some ⟨b2, 0, none⟩))] 40)).drew := by
  go_enter Tryd.func76, Tryd.ntmps76
  go_wp2_with fail
  go_still_tail 10, (by kernel_rfl)
  go_wp2_with fail
  go_ret
  exact ⟨rfl, rfl⟩
theorem cell_keep {W w1 : World} (hb : Below W.heap.size W w1) {b o : Nat} {v : Value} (h : W.cell? ⟨b, o, none⟩ = some v) : w1.cell? ⟨b, o, none⟩ = some v :=
  (hb.cell (World.block_lt_of_cell? W _ h)).trans h
/-- the loop over both faults of a pair -/
def PairRel (w : World) (hit : Int → Bool) (r b1 b2 : Nat) (x y : T) (i : Value) (wq : World) : Prop := ∃ k : Nat, k ≤ 2 ∧ i = .int .i64 k ∧ Below w.heap.size w wq ∧
  wq.cell? ⟨r, 0, none⟩ = some (.iface 34 (.pointer (some ⟨b1, 0, none⟩))) ∧ wq.cell? ⟨r, 1, none⟩ = some (.iface 34 (.pointer (some ⟨b2, 0, none⟩))) ∧ r < wq.heap.size ∧
  At wq wq.heap.size b1 x ∧ At wq wq.heap.size b2 y ∧ (1 ≤ k → x.codes.any hit = false) ∧ (2 ≤ k → y.codes.any hit = false)
def IsRel (w : World) (hit : Int → Bool) (t : T) (E : Value) (wr : World) : Prop := Below w.heap.size w wr ∧ ∃ u : T, u.size ≤ t.size ∧ u.codes.any hit = t.codes.any hit ∧ Err wr wr.heap.size E u
set_option maxHeartbeats 2000000 in
set_option maxRecDepth 100000 in
theorem is_any (ut : TypeId) (uv : Value) (hit : Int → Bool) (n1 : (ut == 34) = false) (n2 : (ut == 67) = false) (n3 : (ut == 72) = false) (h0 : hit 0 = false)
    (HIS : ∀ (g : Nat) (c : Int) (w : World), w.cell? ⟨g, 2, none⟩ = some (.int .i64 c) → Calls Tryd.prog 73 #[.pointer (some ⟨g, 0, none⟩), .iface ut uv] w fun e w' => e = .returned (.bool (hit c)) ∧ w' = w) :
    ∀ (n : Nat) (t : T), t.size ≤ n → ∀ (b : Nat) (w : World), At w w.heap.size b t →
      Calls Tryd.prog 33 #[.iface 34 (.pointer (some ⟨b, 0, none⟩)), .iface ut uv, .bool true] w fun e w' => e = .returned (.bool (t.codes.any hit)) ∧ Below w.heap.size w w' := by
  intro n
  induction n with
  | zero => intro t ht; cases t <;> simp [T.size] at ht
  | succ n ih =>
    intro t ht b w hAt
    have q1 := fun v W => run_eql_iface_types (P := Tryd.prog) 34 ut v uv Tryd.underlying40 (by intro h; rw [← h] at n1; simp at n1) W
    have q2 := fun v W => run_eql_iface_types (P := Tryd.prog) 67 ut v uv Tryd.underlying40 (by intro h; rw [← h] at n2; simp at n2) W
    have q3 := fun v W => run_eql_iface_types (P := Tryd.prog) 72 ut v uv Tryd.underlying40 (by intro h; rw [← h] at n3; simp at n3) W
    have f1 := noIsF
    have f2 := noIsP
    have f3 := hasIsL
    have f4 := hasUwF
    have f5 := hasUwL
    have f6 := noUwP
    have f7 := hasUsP
    have g1 := mUwF
    have g2 := mUwL
    have g3 := mIsL
    have g4 := mUwP
    have HI := Lib.hid HIS
    have IH := Lib.hid ih
    have HA := Lib.hid (show IsRel w hit t (.iface 34 (.pointer (some ⟨b, 0, none⟩))) w from ⟨Below.refl _ _, t, Nat.le_refl _, rfl, .inl ⟨b, rfl, hAt⟩⟩)
    clear HIS ih hAt
    go_enter Tryd.func33, Tryd.ntmps33
    go_wp2_with fail
    go_loopw [0] (fun E wr => IsRel w hit t E wr) (fun E wr => errLen wr E)
    case atStart => exact HA.out
    case round =>
      obtain ⟨hbel, u, hu, hany, hE⟩ := hrel
      have HB := Lib.hid hbel
      have HU := Lib.hid (And.intro hu hany)
      clear hbel hu hany
      rcases hE with ⟨b', rfl, hb'⟩ | hN
      · obtain ⟨hlt, E, hc, hN⟩ := hb'.node
        have HN := Lib.hid hN
        have HAt := Lib.hid hb'
        clear hN hb'
        have hEf : ∃ y v, E = .iface y v := by
          have := HN.out
          cases u with
          | leaf => obtain ⟨g, _, h, _⟩ := this; exact ⟨_, _, h⟩
          | wrap => obtain ⟨g, _, _, h, _⟩ := this; exact ⟨_, _, h⟩
          | both => obtain ⟨g, _, _, _, h, _⟩ := this; exact ⟨_, _, h⟩
        obtain ⟨y, v, rfl⟩ := hEf
        go_wp2_with fail
        refine (Unwrap_at b' _ _ hc).mono ?_
        rintro e w1 ⟨rfl, rfl⟩
        go_wp2_with fail
        go_roundw
        case rel => exact ⟨HB.out, u, HU.out.1, HU.out.2, .inr HN.out⟩
        case measure => rw [errLen_at HAt.out, errLen_node HN.out]; omega
      · cases u with
        | leaf op at_ c =>
          obtain ⟨g, hg, rfl, k0, k1, k2, k3⟩ := hN
          go_wp2_with fail
          refine (HI.out g c _ k2).mono ?_
          rintro e w1 ⟨rfl, rfl⟩
          have HT := Lib.hid (show t.codes.any hit = hit c by rw [← HU.out.2]; simp [T.codes])
          cases hh : hit c
          · go_wp2_with fail
            refine (lUnwrap_nil g _ k3).mono ?_
            rintro e w2 ⟨rfl, rfl⟩
            go_wp2_with fail
            go_ret
            exact ⟨ret_bool (by rw [HT.out, hh]), HB.out⟩
          · go_wp2_with fail
            go_ret
            exact ⟨ret_bool (by rw [HT.out, hh]), HB.out⟩
        | wrap op at_ u' =>
          obtain ⟨g, b', hg, rfl, k0, k1, k2, k3, hAt'⟩ := hN
          have HNk := Lib.hid (show FltW.Node wr wr.heap.size (.iface 67 (.pointer (some ⟨g, 0, none⟩))) (.wrap op at_ u') from ⟨g, b', hg, rfl, k0, k1, k2, k3, hAt'⟩)
          have HA2 := Lib.hid hAt'
          clear hAt'
          go_wp2_with fail
          refine (HI.out g 0 _ k2).mono ?_
          rintro e w1 ⟨rfl, rfl⟩
          rw [h0]
          go_wp2_with fail
          refine (lUnwrap_at g b' _ k3).mono ?_
          rintro e w2 ⟨rfl, rfl⟩
          go_wp2_with fail
          go_roundw
          case rel => exact ⟨HB.out, u', by have := HU.out.1; simp only [T.size] at this; omega, HU.out.2, .inl ⟨b', rfl, HA2.out⟩⟩
          case measure => rw [errLen_at HA2.out, errLen_node HNk.out]; simp only [T.size]; omega
        | both x y =>
          obtain ⟨g, b1, b2, hg, rfl, k0, k1, h1, h2⟩ := hN
          have HS := Lib.hid (show x.size ≤ n ∧ y.size ≤ n by have := HU.out.1; simp only [T.size] at this; omega)
          have HT := Lib.hid (show t.codes.any hit = (x.codes.any hit || y.codes.any hit) by rw [← HU.out.2]; simp [T.codes])
          have H1 := Lib.hid h1
          have H2 := Lib.hid h2
          clear h1 h2
          go_wp2_with fail
          refine (pUnwrap g b1 b2 _ k0 k1).mono ?_
          rintro e w1 ⟨rfl, hw1⟩
          obtain ⟨r, hr⟩ : ∃ r, wr.heap.size = r := ⟨_, rfl⟩
          have d0 : w1.cell? ⟨r, 0, none⟩ = some (.iface 34 (.pointer (some ⟨b1, 0, none⟩))) := by rw [hw1, ← hr]; go_simp
          have d1 : w1.cell? ⟨r, 1, none⟩ = some (.iface 34 (.pointer (some ⟨b2, 0, none⟩))) := by rw [hw1, ← hr]; go_simp
          have d2 : r < w1.heap.size := by rw [hw1, ← hr]; go_simp
          have hb1 : Below wr.heap.size wr w1 := by rw [hw1]; exact (below_a1 _ _).drew
          have A1 := Lib.hid (show At w1 w1.heap.size b1 x from H1.out.up hb1)
          have A2 := Lib.hid (show At w1 w1.heap.size b2 y from H2.out.up hb1)
          have W1 := Lib.hid (bt hb1 HB.out)
          rw [hr]
          clear hw1 hb1 hr k0 k1 H1 H2 HB
          have HR := Lib.hid (show PairRel w hit r b1 b2 x y (.int .i64 0) w1 from ⟨0, by omega, rfl, W1.out, d0, d1, d2, A1.out, A2.out, fun h => absurd h (by omega), fun h => absurd h (by omega)⟩)
          go_wp2_with fail
          go_loopw [45] (fun i wq => PairRel w hit r b1 b2 x y i wq) (fun i _ => 2 - (intOf i).toNat)
          case atStart => exact HR.out
          case round =>
            obtain ⟨k, hk, rfl, hbw, e0, e1, e2, hx, hy, t1, t2⟩ := hrel
            have X1 := Lib.hid hx
            have X2 := Lib.hid hy
            have Y1 := Lib.hid t1
            have Y2 := Lib.hid t2
            have BW := Lib.hid hbw
            clear hx hy t1 t2 hbw d0 d1 d2 W1 A1 A2 HR
            by_cases hk0 : k = 0
            · subst hk0
              go_wp2_with fail
              refine (IH.out x HS.out.1 b1 _ X1.out).mono ?_
              rintro e w2 ⟨rfl, hb2⟩
              have B2 := Lib.hid hb2
              have e0 := cell_keep hb2 e0
              have e1 := cell_keep hb2 e1
              have e2 := Nat.lt_of_lt_of_le e2 hb2.size
              clear hb2
              cases hh : x.codes.any hit
              · go_wp2_with fail
                go_roundw
                case rel => exact ⟨1, by omega, rfl, bt B2.out BW.out, e0, e1, e2, X1.out.up B2.out, X2.out.up B2.out, fun _ => hh, fun h => absurd h (by omega)⟩
                case measure => simp [intOf]
              · go_wp2_with fail
                go_ret
                exact ⟨ret_bool (by rw [HT.out, hh]; rfl), bt B2.out BW.out⟩
            · by_cases hk1 : k = 1
              · subst hk1
                go_wp2_with fail
                refine (IH.out y HS.out.2 b2 _ X2.out).mono ?_
                rintro e w2 ⟨rfl, hb2⟩
                have B2 := Lib.hid hb2
                have e0 := cell_keep hb2 e0
                have e1 := cell_keep hb2 e1
                have e2 := Nat.lt_of_lt_of_le e2 hb2.size
                clear hb2
                cases hh : y.codes.any hit
                · go_wp2_with fail
                  go_roundw
                  case rel => exact ⟨2, by omega, rfl, bt B2.out BW.out, e0, e1, e2, X1.out.up B2.out, X2.out.up B2.out, fun _ => Y1.out (by omega), fun _ => hh⟩
                  case measure => simp [intOf]
                · go_wp2_with fail
                  go_ret
                  exact ⟨ret_bool (by rw [HT.out, hh, Bool.or_true]), bt B2.out BW.out⟩
              · have hk2 : k = 2 := by omega
                subst hk2
                go_wp2_with fail
                go_ret
                exact ⟨ret_bool (by rw [HT.out, Y1.out (by omega), Y2.out (by omega)]; rfl), BW.out⟩
end Go.Proofs.YthinjoldbjcifaaDoor.FltI
