/- A builder on its way (script's lines): what it holds, what is as it was; script.row. -/
import Derived.Test.YtchgfabgighbfaaGreatDoorFmtW
import Derived.Test.YtchgfabgighbfaaGreatDoorLinV
namespace Go.Proofs.YtchgfabgighbfaaGreatDoor.ScrB
set_option linter.unusedVariables false
set_option linter.unusedSimpArgs false
open Go.RowKit Go.Shelf Base SeqM ScrM EqlW LinV TxtM GlbD FmtW BldW Go.Lib

theorem bld_below {w w' : World} {B b : Nat} {l : List UInt8} (h : Bld w B b l) (hb : Below w.heap.size w w') : Bld w' B b l := by
  rcases h with ⟨hB, v, hbk, hown, hne⟩ | ⟨hB, v, hbk, hown, hne⟩
  · exact .inl ⟨hB, v, (hb.block b (Array.getElem?_eq_some_iff.1 hbk).1).trans hbk, own_below hown hb, hne⟩
  · exact .inr ⟨hB, v, (hb.block b (Array.getElem?_eq_some_iff.1 hbk).1).trans hbk, own_below hown hb, hne⟩
structure WSt (w0 Wa : World) (bb : Nat) (l : List UInt8) (W : World) : Prop where
  bld : Bld W w0.heap.size bb l
  low : Below w0.heap.size w0 W
  keep : KeepU Wa W
theorem WSt.free {w0 Wa W W' : World} {bb : Nat} {l : List UInt8} (h : WSt w0 Wa bb l W) (hb : Below W.heap.size W W') : WSt w0 Wa bb l W' := ⟨bld_below h.bld hb, bt hb h.low, h.keep.trans (KeepU.of_below hb)⟩
theorem WSt.more {w0 Wa W W' : World} {bb : Nat} {l l' : List UInt8} (h : WSt w0 Wa bb l W) (h' : WSt w0 W bb l' W') : WSt w0 Wa bb l' W' := ⟨h'.bld, h'.low, h.keep.trans h'.keep⟩
theorem WSt.here {w0 Wa W : World} {bb : Nat} {l : List UInt8} (h : WSt w0 Wa bb l W) : WSt w0 W bb l W := ⟨h.bld, h.low, KeepU.refl _⟩
theorem wsC {w0 Wa W : World} {bb : Nat} {l : List UInt8} (s : List UInt8) (h : WSt w0 Wa bb l W) (hlen : l.length + s.length ≤ 1000000) :
    Calls Tryz.prog 36 #[.pointer (some ⟨bb, 0, none⟩), .string ⟨s.toArray⟩] W fun e w' => (∃ n, e = .returned (.tuple #[.int .i64 n, .nilIface])) ∧ WSt w0 Wa bb (l ++ s) w' :=
  (WS_any _ bb l s W h.bld hlen h.low.size).mono fun _ _ ⟨he, h1, h2, h3⟩ => ⟨he, h1, h.low.trans h2, h.keep.trans h3⟩
theorem wbC {w0 Wa W : World} {bb : Nat} {l : List UInt8} (c : UInt8) (ci : Int) (hc : ci = (c.toNat : Int)) (h : WSt w0 Wa bb l W) (hlen : l.length + 1 ≤ 1000000) :
    Calls Tryz.prog 39 #[.pointer (some ⟨bb, 0, none⟩), .int .u8 ci] W fun e w' => e = .returned .nilIface ∧ WSt w0 Wa bb (l ++ [c]) w' :=
  (WB_any _ bb l c ci hc W h.bld hlen h.low.size).mono fun _ _ ⟨he, h1, h2, h3⟩ => ⟨he, h1, h.low.trans h2, h.keep.trans h3⟩
theorem itC {w0 Wa W : World} {bb : Nat} {l : List UInt8} (n : Int) (h0 : -9223372036854775808 ≤ n) (h1 : n ≤ 9223372036854775807) (hG : G w0) (h : WSt w0 Wa bb l W) :
    Calls Tryz.prog 40 #[.int .i64 n] W fun e w' => e = .returned (.string ⟨(Lib.itoa n).toArray⟩) ∧ WSt w0 Wa bb l w' :=
  (Itoa_any n W (hG.below h.low) h0 h1).mono fun _ _ ⟨he, hb⟩ => ⟨he, h.free hb⟩
theorem fuC {w0 Wa W : World} {bb : Nat} {l : List UInt8} (u : Nat) (h1 : u < 18446744073709551616) (hG : G w0) (h : WSt w0 Wa bb l W) :
    Calls Tryz.prog 64 #[.int .u64 (u : Int), .int .i64 10] W fun e w' => e = .returned (.string ⟨(decDigits u).toArray⟩) ∧ WSt w0 Wa bb l w' :=
  (FormatUint_any u h1 W (hG.below h.low)).mono fun _ _ ⟨he, hb⟩ => ⟨he, h.free hb⟩
theorem itoa_len (n : Int) (h1 : -9223372036854775808 ≤ n) (h2 : n ≤ 9223372036854775807) : (itoa n).length ≤ 21 := by
  unfold itoa
  split
  · rw [List.length_cons, decDigits_length]
    have := nDigits_le20 n.natAbs (by omega)
    omega
  · rw [decDigits_length]
    have := nDigits_le20 n.toNat (by omega)
    omega
theorem dec_len (u : Nat) (h : u < 18446744073709551616) : (decDigits u).length ≤ 20 := by
  rw [decDigits_length]; exact nDigits_le20 u h
def rowT (l : List Int) : List UInt8 := l.flatMap fun x => 32 :: itoa x
theorem rowT_len : ∀ (l : List Int), (∀ x ∈ l, -9223372036854775808 ≤ x ∧ x ≤ 9223372036854775807) → (rowT l).length ≤ 22 * l.length
  | [], _ => by simp [rowT]
  | x :: r, h => by
    have h1 := itoa_len x (h x (by simp)).1 (h x (by simp)).2
    have h2 := rowT_len r (fun y hy => h y (by simp [hy]))
    simp only [rowT, List.flatMap_cons, List.length_append, List.length_cons] at h2 ⊢
    omega
theorem rowT_next {c : List Int} {k : Nat} {x : Int} (h : c[k]? = some x) : rowT (c.take (k + 1)) = rowT (c.take k) ++ [32] ++ itoa x := by
  rw [take_next' h]; simp [rowT]
/-- a slice that was built on the spot -/
theorem seq_built {W : World} {g n : Nat} {cs : Array Value} {t : TypeId} {fz : Nat × Nat} (xs : List Int) (hn : xs.length = n) (h : W.heap[g]? = some (.cells cs t fz)) (hcs : cs.toList = xs.flatMap inC) (hl : n ≤ 100) :
    Seq 1 inC W 0 W.heap.size (.slice (some ⟨g, 0, none⟩) n n) xs := by
  subst hn
  refine ⟨_, _, rfl, Nat.le_refl _, by unfold maxLen; omega, ⟨flat_len inC_len _, fun _ => ⟨_, rfl, Nat.zero_le _, (Array.getElem?_eq_some_iff.1 h).1, fun j u hu => ?_⟩⟩, fun hh => by cases hh⟩
  have e : (⟨g, 0, none⟩ : Addr).add j = ⟨g, j, none⟩ := by unfold Addr.add; split <;> simp_all
  rw [e]
  have h2 : cs[j]? = some u := by rw [← Array.getElem?_toList, hcs]; exact hu
  simp [World.cell?, h, h2]
theorem seq_builtK {W : World} {g n : Nat} {cs : Array Value} (xs : List Int) (hn : xs.length = n) (h : W.heap[g]? = some (.cells cs 3 (0, 0))) (hcs : cs.toList = xs.flatMap inC) (hl : n ≤ 100) :
    ∀ W', KeepU W W' → Seq 1 inC W' 0 W'.heap.size (.slice (some ⟨g, 0, none⟩) n n) xs := fun W' hk => seq_built xs hn (hk _ _ _ _ h (by decide) (by decide)) hcs hl
def RwRel (w0 Wa : World) (bb : Nat) (l0 : List UInt8) (c : List Int) (i : Value) (wr : World) : Prop := ∃ k : Nat, k ≤ c.length ∧ i = .int .i64 k ∧ WSt w0 Wa bb (l0 ++ rowT (c.take k)) wr
set_option maxHeartbeats 2000000 in
set_option maxRecDepth 100000 in
theorem row_any {w0 Wa w : World} (hG : G w0) (v : Value) (xs : List Int) (hv : ∀ W, Below w0.heap.size w0 W → KeepU w W → Seq 1 inC W 0 W.heap.size v xs) {bb : Nat} {lst : List UInt8} (hS : WSt w0 Wa bb lst w)
    (hr : ∀ x ∈ xs, -9223372036854775808 ≤ x ∧ x ≤ 9223372036854775807) (hlen : lst.length + 22 * xs.length ≤ 1000000) :
    Calls Tryz.prog 37 #[.pointer (some ⟨bb, 0, none⟩), v] w fun e w' => e = .returned (.tuple #[]) ∧ WSt w0 Wa bb (lst ++ rowT xs) w' := by
  have HG := Lib.hid hG
  have HR := Lib.hid hr
  obtain ⟨A, cap, rfl, hc1, hc2, _⟩ := id (hv w hS.low (KeepU.refl _))
  have HV := Lib.hid (fun (W : World) (h : WSt w0 w bb lst W ∨ ∃ l', WSt w0 w bb l' W) (k : Nat) (hk : k < xs.length) => by
    have hl : Below w0.heap.size w0 W ∧ KeepU w W := by rcases h with h | ⟨_, h⟩ <;> exact ⟨h.low, h.keep⟩
    obtain ⟨A', cap', e', _, _, hr, _⟩ := hv W hl.1 hl.2
    cases e'
    exact rdI hr (i := k) hk)
  have H0 := Lib.hid (show RwRel w0 w bb lst xs (.int .i64 0) w from ⟨0, Nat.zero_le _, rfl, by simpa [rowT] using hS.here⟩)
  have HS := Lib.hid hS
  have HPL := Lib.hid (fun k => rowT_len (xs.take k) (fun x hx => hr x (List.mem_of_mem_take hx)))
  obtain ⟨n, hn⟩ : ∃ n, xs.length = n := ⟨_, rfl⟩
  rw [hn] at hc1 hlen HV ⊢
  unfold maxLen at hc2
  have HN := Lib.hid hn
  clear hv hG hr hS hn
  go_enter Tryz.func37, Tryz.ntmps37
  go_wp2_with fail
  go_loopw [8] (fun i wr => RwRel w0 w bb lst xs i wr) (fun i _ => n - (RowKit.intOf i).toNat)
  case atStart => exact H0.out
  case round =>
    obtain ⟨k, hk, rfl, hw⟩ := hrel
    rw [HN.out] at hk
    have HW := Lib.hid hw
    clear H0
    by_cases hlt : k < n
    · obtain ⟨ad, x, rfl, _, hb, hx, c0⟩ := HV.out wr (.inr ⟨_, hw⟩) k hlt
      have hxr := HR.out x (List.mem_of_getElem? hx)
      have HX := Lib.hid (rowT_next hx)
      have hp := HPL.out k
      have hp1 := HPL.out (k + 1)
      have hcl := congrArg List.length HX.out
      rw [List.length_append, List.length_append, List.length_singleton] at hcl
      rw [List.length_take, HN.out] at hp hp1
      have hb1 : lst.length + (rowT (xs.take (k + 1))).length ≤ 1000000 := by omega
      have hb2 : lst.length + (rowT (xs.take k)).length + 1 + (itoa x).length ≤ 1000000 := by omega
      clear hw hx hp hp1 hcl hb1
      go_wp2_with fail
      refine (wbC 32 _ rfl HW.out (by (try simp only [List.length_append, List.length_cons, List.length_nil]); omega)).mono ?_
      rintro e W1 ⟨rfl, h1⟩
      have H1 := Lib.hid h1
      clear h1
      go_wp2_with fail
      refine (itC x hxr.1 hxr.2 HG.out H1.out).mono ?_
      rintro e W2 ⟨rfl, h2⟩
      have H2 := Lib.hid h2
      clear h2
      go_wp2_with fail
      refine (wsC _ H2.out (by (try simp only [List.length_append, List.length_cons, List.length_nil]); omega)).mono ?_
      rintro e W3 ⟨⟨_, rfl⟩, h3⟩
      have H3 := Lib.hid h3
      clear h3
      go_wp2_with fail
      exact ⟨⟨k + 1, by rw [HN.out]; omega, by go_num, by have h9 := H3.out; rw [HX.out]; simpa [List.append_assoc] using h9⟩, by simp [RowKit.intOf]; omega⟩
    · have hke : xs.take k = xs := List.take_of_length_le (by rw [HN.out]; omega)
      rw [hke] at HW
      clear hw hke
      go_wp2_with fail
      go_end0
      exact ⟨rfl, HS.out.more HW.out⟩
end Go.Proofs.YtchgfabgighbfaaGreatDoor.ScrB
