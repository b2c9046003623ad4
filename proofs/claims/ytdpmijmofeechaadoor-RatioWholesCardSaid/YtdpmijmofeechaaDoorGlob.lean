/- What a world must hold of the library's package-level variables for strconv and strings, and the shelf's contracts restated over it: strconv.Itoa, strconv.Atoi, strings.Cut, bits.Mul64. -/
import Derived.Test.YtdpmijmofeechaaDoorShelf
import Derived.Test.YtdpmijmofeechaaDoorRows
import Derived.Test.YtdpmijmofeechaaDoorBigZ
import Derived.Lib.AppendIntMem
namespace Go.Proofs.YtdpmijmofeechaaDoor.Glob
set_option linter.unusedVariables false
open Go.RowKit Go.Sort Base BigZ

structure G (w : World) : Prop where
  tab : Lib.TabIs Tryd.prog w "internal/strconv.uint64pow10" .u64 Lib.pow10Tab
  len : ∃ m, w.cell? ⟨2, 0, none⟩ = some (.int .i64 m)
  syn : ∃ te pe, w.cell? ⟨3, 0, none⟩ = some (.iface te pe)
  rng : ∃ te pe, w.cell? ⟨4, 0, none⟩ = some (.iface te pe)
theorem G.below {w w' : World} (h : G w) (hb : Below w.heap.size w w') : G w' := by
  obtain ⟨m, h1⟩ := h.len
  obtain ⟨te, pe, h2⟩ := h.syn
  obtain ⟨te2, pe2, h3⟩ := h.rng
  exact ⟨Lib.tabBelow_of_tabIs h.tab w' hb, ⟨m, cell_at_below hb _ _ _ h1⟩, ⟨te, pe, cell_at_below hb _ _ _ h2⟩, ⟨te2, pe2, cell_at_below hb _ _ _ h3⟩⟩

theorem below_grow (w : World) (k : Nat) (os : Array Obj) : Below w.heap.size w (grow (w.drewN k) os) := by
  refine ⟨rfl, rfl, rfl, ?_, fun i hi => ?_⟩
  · show w.heap.size ≤ (w.heap ++ os).size
    rw [Array.size_append]; omega
  · show (w.heap ++ os)[i]? = w.heap[i]?
    rw [Array.getElem?_append_left hi]

theorem Itoa_any (n : Int) (w : World) (hG : G w) (h0 : -9223372036854775808 ≤ n) (h1 : n ≤ 9223372036854775807) :
    Calls Tryd.prog 66 #[.int .i64 n] w fun e w' => e = .returned (.string ⟨(Lib.itoa n).toArray⟩) ∧ Below w.heap.size w w' :=
  (Tryd.strconv_Itoa n h0 h1 w hG.tab).mono fun _ _ ⟨he, k, os, hw⟩ => ⟨he, by rw [hw]; exact below_grow w k os⟩

/-- what Atoi tells: the number, and whether it is one -/
def atoiV (l : List UInt8) : Int := match Lib.atoiAll l with | .ok v => v | Lib.NumEnd.syntax => 0 | .range => Lib.atoiSat l
def atoiOk (l : List UInt8) : Bool := match Lib.atoiAll l with | .ok _ => true | _ => false
theorem Atoi_yes (s : ByteArray) (w : World) (hG : G w) (hs : s.size ≤ 1073741824) (h : atoiOk s.data.toList = true) :
    Calls Tryd.prog 81 #[.string s] w fun e w' => e = .returned (.tuple #[.int .i64 (atoiV s.data.toList), .nilIface]) ∧ Below w.heap.size w w' := by
  unfold atoiOk at h
  unfold atoiV
  split at h
  · rename_i v hv
    rw [hv]
    refine (Tryd.strconv_Atoi_ok s (by omega) v hv w).mono fun _ _ ⟨he, hw⟩ => ⟨he, ?_⟩
    rcases hw with rfl | ⟨t, rfl⟩
    · exact Below.refl _ _
    · exact Lib.bytesWorld_below _ _ _
  · cases h
def SomeErr (v : Int) (w : World) (e : Ending) (w' : World) : Prop := ∃ p, e = .returned (.tuple #[.int .i64 v, .iface 128 p]) ∧ Below w.heap.size w w'
theorem Atoi_no (s : ByteArray) (w : World) (hG : G w) (hs : s.size ≤ 1073741824) (h : atoiOk s.data.toList = false) :
    Calls Tryd.prog 81 #[.string s] w (SomeErr (atoiV s.data.toList) w) := by
  unfold atoiOk at h
  unfold atoiV
  split at h
  · cases h
  · rename_i hv
    obtain ⟨te, pe, h2⟩ := hG.syn
    obtain ⟨te2, pe2, h3⟩ := hG.rng
    match hv2 : Lib.atoiAll s.data.toList with
    | .ok v => exact absurd hv2 (hv v)
    | Lib.NumEnd.syntax => exact (Tryd.strconv_Atoi_syntax s (by omega) hv2 _ w h2 (.inr ⟨te, pe, rfl⟩)).mono fun _ _ ⟨N, he, _, _, hb⟩ => ⟨_, he, hb⟩
    | .range => exact (Tryd.strconv_Atoi_range s (by omega) hv2 _ w h3 (.inr ⟨te2, pe2, rfl⟩)).mono fun _ _ ⟨N, he, _, _, hb⟩ => ⟨_, he, hb⟩
theorem Cut_any (s sep : ByteArray) (w : World) (hG : G w) (hs : s.size ≤ 1073741824) :
    Calls Tryd.prog 67 #[.string s, .string sep] w fun e w' => e = .returned (.tuple #[.string ⟨(Lib.cut s.data.toList sep.data.toList).1.toArray⟩, .string ⟨(Lib.cut s.data.toList sep.data.toList).2.1.toArray⟩, .bool (Lib.cut s.data.toList sep.data.toList).2.2]) ∧ Below w.heap.size w w' := by
  obtain ⟨m, h1⟩ := hG.len
  exact (Tryd.strings_Cut s sep m w (by omega) h1).mono fun _ _ ⟨he, n, hw⟩ => ⟨he, by rw [hw]; exact below_drewN (Below.refl _ _) n⟩
theorem Mul64_any (x y : Int) (w : World) (h0 : 0 ≤ x) (h1 : x ≤ 18446744073709551615) (h2 : 0 ≤ y) (h3 : y ≤ 18446744073709551615) :
    Calls Tryd.prog 107 #[.int .u64 x, .int .u64 y] w fun e w' => e = .returned (.tuple #[.int .u64 (x * y / 18446744073709551616), .int .u64 (x * y % 18446744073709551616)]) ∧ w = w' := by
  obtain ⟨a, rfl⟩ := Int.eq_ofNat_of_zero_le h0
  obtain ⟨b, rfl⟩ := Int.eq_ofNat_of_zero_le h2
  refine (Tryd.bits_Mul64 a b (by omega) (by omega) w).mono fun _ _ ⟨he, hw⟩ => ⟨?_, hw.symm⟩
  rw [he]
  exact ret_int2 (by simp) (by simp)
end Go.Proofs.YtdpmijmofeechaaDoor.Glob
