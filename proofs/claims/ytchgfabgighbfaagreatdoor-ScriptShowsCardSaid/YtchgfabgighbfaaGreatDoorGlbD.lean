/- What a world must hold of the library's package-level variables for strconv, and the shelf's contracts restated over it: Itoa, Atoi, ParseUint, the Builder's words (another seat's GlbS, turned). -/
import Derived.Test.YtchgfabgighbfaaGreatDoorBldW
import Derived.Test.YtchgfabgighbfaaGreatDoorSeqM
import Derived.Test.YtchgfabgighbfaaGreatDoorTxtM
import Derived.Lib.AppendIntMem
namespace Go.Proofs.YtchgfabgighbfaaGreatDoor.GlbD
set_option linter.unusedVariables false
open Go.RowKit Go.Sort Base SeqM TxtM

structure G (w : World) : Prop where
  tab : Lib.TabIs Tryz.prog w "internal/strconv.uint64pow10" .u64 Lib.pow10Tab
  syn : ∃ te pe, w.cell? ⟨4, 0, none⟩ = some (.iface te pe)
  rng : ∃ te pe, w.cell? ⟨5, 0, none⟩ = some (.iface te pe)
  mx : ∃ m, w.cell? ⟨0, 0, none⟩ = some (.int .i64 m)
theorem G.below {w w' : World} (h : G w) (hb : Below w.heap.size w w') : G w' := by
  obtain ⟨te, pe, h2⟩ := h.syn
  obtain ⟨te2, pe2, h3⟩ := h.rng
  obtain ⟨m, h4⟩ := h.mx
  exact ⟨Lib.tabBelow_of_tabIs h.tab w' hb, ⟨te, pe, keepA hb h2⟩, ⟨te2, pe2, keepA hb h3⟩, ⟨m, keepA hb h4⟩⟩
theorem below_grow (w : World) (k : Nat) (os : Array Obj) : Below w.heap.size w (grow (w.drewN k) os) := by
  refine ⟨rfl, rfl, rfl, ?_, fun i hi => ?_⟩
  · show w.heap.size ≤ (w.heap ++ os).size
    rw [Array.size_append]; omega
  · show (w.heap ++ os)[i]? = w.heap[i]?
    rw [Array.getElem?_append_left hi]
theorem Itoa_any (n : Int) (w : World) (hG : G w) (h0 : -9223372036854775808 ≤ n) (h1 : n ≤ 9223372036854775807) :
    Calls Tryz.prog 40 #[.int .i64 n] w fun e w' => e = .returned (.string ⟨(Lib.itoa n).toArray⟩) ∧ Below w.heap.size w w' :=
  (Tryz.strconv_Itoa n h0 h1 w hG.tab).mono fun _ _ ⟨he, k, os, hw⟩ => ⟨he, by rw [hw]; exact below_grow w k os⟩
def atoiOk (l : List UInt8) : Bool := match Lib.atoiAll l with | .ok _ => true | _ => false
theorem Atoi_yes (s : ByteArray) (w : World) (hs : s.size ≤ 1073741824) (v : Int) (h : Lib.atoiAll s.data.toList = .ok v) :
    Calls Tryz.prog 86 #[.string s] w fun e w' => e = .returned (.tuple #[.int .i64 v, .nilIface]) ∧ Below w.heap.size w w' :=
  (Tryz.strconv_Atoi_ok s (by omega) v h w).mono fun _ _ ⟨he, hw⟩ => ⟨he, by
    rcases hw with rfl | ⟨t, rfl⟩
    · exact Below.refl _ _
    · exact Lib.bytesWorld_below _ _ _⟩
theorem Atoi_no (s : ByteArray) (w : World) (hG : G w) (hs : s.size ≤ 1073741824) (h : ∀ v, Lib.atoiAll s.data.toList ≠ .ok v) :
    Calls Tryz.prog 86 #[.string s] w fun e w' => (∃ v p, e = .returned (.tuple #[.int .i64 v, .iface 135 p])) ∧ Below w.heap.size w w' := by
  obtain ⟨te, pe, h2⟩ := hG.syn
  obtain ⟨te2, pe2, h3⟩ := hG.rng
  match hv2 : Lib.atoiAll s.data.toList with
  | .ok v => exact absurd hv2 (h v)
  | Lib.NumEnd.syntax => exact (Tryz.strconv_Atoi_syntax s (by omega) hv2 _ w h2 (.inr ⟨te, pe, rfl⟩)).mono fun _ _ ⟨N, he, _, _, hb⟩ => ⟨⟨_, _, he⟩, hb⟩
  | .range => exact (Tryz.strconv_Atoi_range s (by omega) hv2 _ w h3 (.inr ⟨te2, pe2, rfl⟩)).mono fun _ _ ⟨N, he, _, _, hb⟩ => ⟨⟨_, _, he⟩, hb⟩
theorem PUint_yes (s : ByteArray) (w : World) (hs : s.size ≤ 1073741824) (u : Nat) (h : Lib.parseUintB 64 s.data.toList = .ok u) :
    Calls Tryz.prog 85 #[.string s, .int .i64 10, .int .i64 64] w fun e w' => e = .returned (.tuple #[.int .u64 u, .nilIface]) ∧ Below w.heap.size w w' :=
  (Tryz.strconv_ParseUint_10_at64_ok s (by omega) u h w).mono fun _ _ ⟨he, hw⟩ => ⟨he, by
    rcases hw with rfl | rfl
    · exact Below.refl _ _
    · exact Lib.bytesWorld_below _ _ _⟩
theorem PUint_no (s : ByteArray) (w : World) (hG : G w) (hs : s.size ≤ 1073741824) (h : ∀ v, Lib.parseUintB 64 s.data.toList ≠ .ok v) :
    Calls Tryz.prog 85 #[.string s, .int .i64 10, .int .i64 64] w fun e w' => (∃ (v : Nat) (p : Value), e = .returned (.tuple #[.int .u64 (v : Int), .iface 135 p])) ∧ Below w.heap.size w w' := by
  obtain ⟨te, pe, h2⟩ := hG.syn
  obtain ⟨te2, pe2, h3⟩ := hG.rng
  match hv2 : Lib.parseUintB 64 s.data.toList with
  | .ok v => exact absurd hv2 (h v)
  | Lib.NumEnd.syntax => exact (Tryz.strconv_ParseUint_10_at64_syntax s (by omega) hv2 _ w h2 (.inr ⟨te, pe, rfl⟩)).mono fun _ _ ⟨N, he, _, _, hb⟩ => ⟨⟨0, _, he⟩, hb⟩
  | .range => exact (Tryz.strconv_ParseUint_10_at64_range s (by omega) hv2 _ w h3 (.inr ⟨te2, pe2, rfl⟩)).mono fun _ _ ⟨N, he, _, _, hb⟩ => ⟨⟨18446744073709551615, _, he⟩, hb⟩
/-! ### A builder and what it holds -/
def Bld (w : World) (B b : Nat) (l : List UInt8) : Prop := Lib.IsBuilder 50 5 B b (Lib.byteCells l) w
theorem WS_any (B b : Nat) (l : List UInt8) (s : List UInt8) (w : World) (h : Bld w B b l) (hlen : l.length + s.length ≤ 1000000) (hBw : B ≤ w.heap.size) :
    Calls Tryz.prog 36 #[.pointer (some ⟨b, 0, none⟩), .string ⟨s.toArray⟩] w fun e w' => (∃ n, e = .returned (.tuple #[.int .i64 n, .nilIface])) ∧ Bld w' B b (l ++ s) ∧ Below B w w' ∧ BldW.KeepU w w' := by
  refine (BldW.WriteString_any B b (Lib.byteCells l) ⟨s.toArray⟩ w h (by rw [Lib.byteCells_length]; show l.length + s.toArray.size ≤ _; simp; omega) hBw).mono ?_
  rintro e w' ⟨rfl, h1, hb⟩
  refine ⟨⟨_, rfl⟩, .inr ?_, hb⟩
  rw [Lib.strCells_toArray, ← Lib.byteCells_append] at h1
  exact h1
theorem WB_any (B b : Nat) (l : List UInt8) (c : UInt8) (ci : Int) (hc : ci = (c.toNat : Int)) (w : World) (h : Bld w B b l) (hlen : l.length + 1 ≤ 1000000) (hBw : B ≤ w.heap.size) :
    Calls Tryz.prog 39 #[.pointer (some ⟨b, 0, none⟩), .int .u8 ci] w fun e w' => e = .returned .nilIface ∧ Bld w' B b (l ++ [c]) ∧ Below B w w' ∧ BldW.KeepU w w' := by
  subst hc
  refine (BldW.WriteByte_any B b (Lib.byteCells l) c.toNat w h (by rw [Lib.byteCells_length]; omega) hBw).mono ?_
  rintro e w' ⟨rfl, h1, hb⟩
  refine ⟨rfl, .inr ?_, hb⟩
  rw [Lib.byteCells_append]
  exact h1
end Go.Proofs.YtchgfabgighbfaaGreatDoor.GlbD
