/- The reference's small functions: row, draw, number, big, words, numbers, first (printed by mkrrw.py). -/
import Derived.Test.YtchgfabgighbfaaGreatDoorGsM
import Derived.Test.YtchgfabgighbfaaGreatDoorDigW
import Derived.Test.YtchgfabgighbfaaGreatDoorRdsW
import Derived.Test.YtchgfabgighbfaaGreatDoorScrB
namespace Go.Proofs.YtchgfabgighbfaaGreatDoor.RrwW
set_option linter.unusedVariables false
set_option linter.unusedSimpArgs false
open Go.RowKit Go.Shelf Go.Lib Base SeqM ScrM ScrP ScrR TxtM GlbD RdsW EqlW ScrB GsM

theorem sz (l : List UInt8) : (⟨l.toArray⟩ : ByteArray).size = l.length := by show l.toArray.size = _; simp
theorem cat_eq (a b r : List UInt8) (h : a ++ b = r) : (⟨a.toArray⟩ : ByteArray) ++ ⟨b.toArray⟩ = ⟨r.toArray⟩ := by
  subst h
  apply ByteArray.ext
  simp
def RwRel (l : List Int) (s i : Value) : Prop := ∃ k : Nat, k ≤ l.length ∧ i = .int .i64 k ∧ s = .string ⟨(rowT (l.take k)).toArray⟩
set_option maxHeartbeats 2000000 in
set_option maxRecDepth 100000 in
theorem row_any (v : Value) (l : List Int) (lo B : Nat) (w : World) (h : Seq 1 inC w lo B v l) (hl : l.length ≤ 100000) (hI : ∀ x ∈ l, I64 x) :
    Calls Tryz.prog 41 #[v] w fun e w' => e = .returned (.string ⟨(rowT l).toArray⟩) ∧ w = w' := by
  obtain ⟨A, cap, rfl, hc1, hc2, hr, _⟩ := h
  obtain ⟨n, hn⟩ : ∃ n, l.length = n := ⟨_, rfl⟩
  have HN := Lib.hid hn
  have HR := Lib.hid hr
  have HI := Lib.hid hI
  have H0 := Lib.hid (show RwRel l (.string ⟨#[]⟩) (.int .i64 0) from ⟨0, Nat.zero_le _, rfl, rfl⟩)
  have HLN := Lib.hid (fun k : Nat => show (rowT (l.take k)).length ≤ 2200000 from by
    have h1 := rowT_len (l.take k) (fun x hx => hI x (List.mem_of_mem_take hx))
    have h2 : (l.take k).length ≤ l.length := by rw [List.length_take]; omega
    omega)
  rw [hn] at hl hc1 ⊢
  unfold maxLen at hc2
  clear hr hn hI
  go_enter Tryz.func41, Tryz.ntmps41
  go_wp2
  go_loop [3, 4] (fun s i => RwRel l s i) (fun _ i => n - (RowKit.intOf i).toNat)
  case atStart => exact H0.out
  case round =>
    obtain ⟨k, hk, rfl, rfl⟩ := hrel
    rw [HN.out] at hk
    have hl0 := HLN.out k
    by_cases hlt : k < n
    · obtain ⟨ad, x, rfl, _, hb, hx, hcell⟩ := rdI HR.out (i := k) (by rw [HN.out]; exact hlt)
      have hxb := HI.out x (List.mem_of_getElem? hx)
      have hxl := itoa_len x hxb.1 hxb.2
      obtain ⟨L0, hL0⟩ : ∃ L, rowT (l.take k) = L := ⟨_, rfl⟩
      obtain ⟨LX, hLX⟩ : ∃ L, itoa x = L := ⟨_, rfl⟩
      have HD := Lib.hid (fun W => by have := DigW.Digits_any x W hxb.1 hxb.2; rw [hLX] at this; exact this : ∀ W : World, Calls Tryz.prog 43 #[.int .i64 x] W fun e w' => e = .returned (.string ⟨LX.toArray⟩) ∧ W = w')
      obtain ⟨L1, hL1⟩ : ∃ L, L0 ++ [32] = L := ⟨_, rfl⟩
      obtain ⟨L2, hL2⟩ : ∃ L, L1 ++ LX = L := ⟨_, rfl⟩
      have HF := Lib.hid (show RwRel l (.string ⟨L2.toArray⟩) (.int .i64 ((k : Int) + 1)) from ⟨k + 1, by rw [HN.out]; omega, by go_num, by rw [rowT_next hx, hL0, hLX, hL1, hL2]⟩)
      rw [hL0] at hl0 ⊢
      rw [hLX] at hxl
      have z1 : L1.length = L0.length + 1 := by rw [← hL1]; simp
      have ce1 : (⟨L0.toArray⟩ : ByteArray) ++ (⟨#[32]⟩ : ByteArray) = ⟨L1.toArray⟩ := cat_eq L0 [32] L1 hL1
      have cn1 : ¬ 9223372036854775807 < L0.length + 1 := by omega
      have cs1 : ¬ 9223372036854775807 < (⟨L0.toArray⟩ : ByteArray).size + 1 := by rw [sz]; omega
      have ce2 : (⟨L1.toArray⟩ : ByteArray) ++ (⟨LX.toArray⟩ : ByteArray) = ⟨L2.toArray⟩ := cat_eq L1 LX L2 hL2
      have cn2 : ¬ 9223372036854775807 < L1.length + LX.length := by omega
      have cs2 : ¬ 9223372036854775807 < (⟨L1.toArray⟩ : ByteArray).size + (⟨LX.toArray⟩ : ByteArray).size := by rw [sz, sz]; omega
      clear hx hxb hL0 hLX hL1 hL2 z1
      go_wp2_with fail
      refine (HD.out _).mono ?_
      rintro e w1 ⟨rfl, rfl⟩
      go_wp2_with fail
      exact ⟨HF.out, by simp [RowKit.intOf]; omega⟩
    · have F := Lib.hid (show rowT (l.take k) = rowT l by rw [List.take_of_length_le (by rw [HN.out]; omega)])
      rw [F.out]
      go_wp2
      go_ret
      exact ⟨rfl, rfl⟩
set_option maxHeartbeats 2000000 in
set_option maxRecDepth 100000 in
theorem draw_any (u : Nat) : u < 18446744073709551616 → ∀ w : World, Calls Tryz.prog 66 #[.int .u64 (u : Int)] w fun e w' => e = .returned (.string ⟨(decDigits u).toArray⟩) ∧ w = w' := by
  induction u using Nat.strongRecOn with
  | _ u ih =>
    intro hu w
    by_cases h10 : u < 10
    · have F := Lib.hid (show itoa (u : Int) = decDigits u from itoa_nonneg u)
      have h1 : (u : Int) < 10 := by omega
      go_enter Tryz.func66, Tryz.ntmps66
      go_wp2_with fail
      refine (DigW.Digits_any (u : Int) _ (by omega) (by omega)).mono ?_
      rintro e w1 ⟨rfl, rfl⟩
      go_wp2_with fail
      go_ret
      exact ⟨by rw [F.out]; rfl, rfl⟩
    · obtain ⟨v, hv⟩ : ∃ v, u / 10 = v := ⟨_, rfl⟩
      obtain ⟨k, hk⟩ : ∃ k, u % 10 = k := ⟨_, rfl⟩
      have HI := Lib.hid (ih v (by omega) (by omega))
      have hkI : (u : Int) % 10 = (k : Int) := by omega
      have hvI : (u : Int) / 10 = (v : Int) := by omega
      have hk10 : k < 10 := by omega
      have hvl := dec_len v (by omega)
      have hu' := dec_len u hu
      obtain ⟨LV, hLV⟩ : ∃ L, decDigits v = L := ⟨_, rfl⟩
      obtain ⟨LK, hLK⟩ : ∃ L, itoa (k : Int) = L := ⟨_, rfl⟩
      obtain ⟨L1, hL1⟩ : ∃ L, LV ++ LK = L := ⟨_, rfl⟩
      have F := Lib.hid (show L1 = decDigits u by
        rw [← hL1, ← hLV, ← hLK, itoa_nonneg, decDigits.eq_def u, dif_neg h10, hv, hk, decDigits.eq_def k, dif_pos hk10])
      have hkl := itoa_len (k : Int) (by omega) (by omega)
      have HD := Lib.hid (fun W => by have := DigW.Digits_any (k : Int) W (by omega) (by omega); rw [hLK] at this; exact this : ∀ W : World, Calls Tryz.prog 43 #[.int .i64 (k : Int)] W fun e w' => e = .returned (.string ⟨LK.toArray⟩) ∧ W = w')
      rw [hLV] at HI hvl
      rw [hLK] at hkl
      have ce1 : (⟨LV.toArray⟩ : ByteArray) ++ (⟨LK.toArray⟩ : ByteArray) = ⟨L1.toArray⟩ := cat_eq LV LK L1 hL1
      have cn1 : ¬ 9223372036854775807 < LV.length + LK.length := by omega
      have cs1 : ¬ 9223372036854775807 < (⟨LV.toArray⟩ : ByteArray).size + (⟨LK.toArray⟩ : ByteArray).size := by rw [sz, sz]; omega
      have h1 : ¬ (u : Int) < 10 := by omega
      clear ih hLV hLK hL1 hu' hv hk
      go_enter Tryz.func66, Tryz.ntmps66
      go_wp2_with fail
      refine (HI.out _).mono ?_
      rintro e w1 ⟨rfl, rfl⟩
      go_wp2_with fail
      refine (HD.out _).mono ?_
      rintro e w1 ⟨rfl, rfl⟩
      go_wp2_with fail
      go_ret
      exact ⟨by rw [F.out]; rfl, rfl⟩
/-- a byte of a text at a place -/
theorem at_byte {s : List UInt8} {k : Nat} {c : UInt8} (hc : s[k]? = some c) (hh : k < (⟨s.toArray⟩ : ByteArray).size) : (⟨s.toArray⟩ : ByteArray)[k]'hh = c := by
  obtain ⟨h1, h2⟩ := List.getElem?_eq_some_iff.1 hc
  exact h2
theorem fold_next {α : Type} (f : α → UInt8 → α) (a : α) {s : List UInt8} {k : Nat} {c : UInt8} (h : s[k]? = some c) : (s.take (k + 1)).foldl f a = f ((s.take k).foldl f a) c := by
  rw [List.take_add_one, h]; simp
def NuRel (s : List UInt8) (m i : Value) : Prop := ∃ k : Nat, k ≤ s.length ∧ k ≤ 15 ∧ i = .int .i64 k ∧ m = .int .i64 ((s.take k).foldl numStep 0)
set_option maxHeartbeats 2000000 in
set_option maxRecDepth 100000 in
theorem number_any (s : List UInt8) (hs : s.length ≤ 1000000) (w : World) :
    Calls Tryz.prog 73 #[.string ⟨s.toArray⟩] w fun e w' => e = .returned (.int .i64 (numF s)) ∧ w = w' := by
  obtain ⟨n, hn⟩ : ∃ n, s.length = n := ⟨_, rfl⟩
  have hss : s.toArray.size = n := by simpa using hn
  have hss2 : (⟨s.toArray⟩ : ByteArray).size = n := hss
  have HN := Lib.hid hn
  have H0 := Lib.hid (show NuRel s (.int .i64 0) (.int .i64 0) from ⟨0, Nat.zero_le _, by omega, rfl, rfl⟩)
  have HIX := Lib.hid (fun (k : Nat) (c : UInt8) (hc : s[k]? = some c) (hh : k < (⟨s.toArray⟩ : ByteArray).size) => at_byte hc hh)
  have HGL := Lib.hid (fun (k : Nat) (hk : k < n) => (⟨_, List.getElem?_eq_getElem (by rw [hn]; exact hk)⟩ : ∃ c, s[k]? = some c))
  have HFN := Lib.hid (fun (k : Nat) (c : UInt8) (hc : s[k]? = some c) => fold_next numStep 0 hc)
  have HB := Lib.hid (fun (k : Nat) (hk : k ≤ 15) => numTake_le s hk)
  have HNF := Lib.hid (show numF s = if s.head? = some 45 then -((s.take 15).foldl numStep 0) else (s.take 15).foldl numStep 0 from rfl)
  have HHD := Lib.hid (show s.head? = s[0]? by cases s <;> rfl)
  rw [hn] at hs
  clear hn
  go_enter Tryz.func73, Tryz.ntmps73
  go_wp2_with fail
  go_loop [3, 4] (fun m i => NuRel s m i) (fun _ i => n - (RowKit.intOf i).toNat)
  case atStart => exact H0.out
  case round =>
    obtain ⟨k, hk, hk15, rfl, rfl⟩ := hrel
    rw [HN.out] at hk
    obtain ⟨hb1, hb2⟩ := HB.out k hk15
    obtain ⟨a, ha⟩ : ∃ a, (s.take k).foldl numStep 0 = a := ⟨_, rfl⟩
    have HA := Lib.hid ha
    rw [ha] at hb1 hb2 ⊢
    clear ha
    by_cases hgo : k < n ∧ k < 15
    · obtain ⟨hlt, h15⟩ := hgo
      obtain ⟨c, hc⟩ := HGL.out k hlt
      have hix := HIX.out k c hc
      have hF := HFN.out k c hc
      rw [HA.out] at hF
      have HF := Lib.hid hF
      have hc8 : c.toNat < 256 := c.toNat_lt
      clear hF hc
      by_cases h48 : 48 ≤ c.toNat
      · by_cases h57 : c.toNat ≤ 57
        · have d1 : decide ((c.toNat : Int) ≥ 48) = true := decide_eq_true (by omega)
          have d2 : decide ((c.toNat : Int) ≤ 57) = true := decide_eq_true (by omega)
          have HE := Lib.hid (show NuRel s (.int .i64 (10 * a + (c.toNat : Int) - 48)) (.int .i64 ((k : Int) + 1)) from ⟨k + 1, by rw [HN.out]; omega, by omega, by go_num, by rw [HF.out]; unfold numStep; rw [if_pos ⟨h48, h57⟩]⟩)
          go_wp2_with fail
          exact ⟨HE.out, by simp [RowKit.intOf]; omega⟩
        · have d1 : decide ((c.toNat : Int) ≥ 48) = true := decide_eq_true (by omega)
          have d2 : decide ((c.toNat : Int) ≤ 57) = false := decide_eq_false (by omega)
          have HE := Lib.hid (show NuRel s (.int .i64 a) (.int .i64 ((k : Int) + 1)) from ⟨k + 1, by rw [HN.out]; omega, by omega, by go_num, by rw [HF.out]; unfold numStep; rw [if_neg (fun h => h57 h.2)]⟩)
          go_wp2_with fail
          exact ⟨HE.out, by simp [RowKit.intOf]; omega⟩
      · have d1 : decide ((c.toNat : Int) ≥ 48) = false := decide_eq_false (by omega)
        have HE := Lib.hid (show NuRel s (.int .i64 a) (.int .i64 ((k : Int) + 1)) from ⟨k + 1, by rw [HN.out]; omega, by omega, by go_num, by rw [HF.out]; unfold numStep; rw [if_neg (fun h => h48 h.1)]⟩)
        go_wp2_with fail
        exact ⟨HE.out, by simp [RowKit.intOf]; omega⟩
    · have HT := Lib.hid (show (s.take 15).foldl numStep 0 = a by
        rw [← HA.out]
        congr 1
        by_cases h15 : k < 15
        · rw [List.take_of_length_le (by rw [HN.out]; omega), List.take_of_length_le (by rw [HN.out]; omega)]
        · rw [show k = 15 by omega])
      by_cases h0 : 0 < n
      · obtain ⟨c, hc⟩ := HGL.out 0 h0
        have hix := HIX.out 0 c hc
        have hh0 : ((k : Int) < (n : Int) ∧ (k : Int) < 15) → False := fun h => hgo (by omega)
        by_cases h45 : c = 45
        · subst h45
          have F := Lib.hid (show numF s = -a by rw [HNF.out, HHD.out, if_pos hc, HT.out])
          have d3 : (((45 : UInt8).toNat : Int) == 45) = true := by decide
          clear hc
          by_cases hlt : k < n
          · have h15 : ¬ k < 15 := fun h => hgo ⟨hlt, h⟩
            clear hgo hh0
            go_wp2_with fail
            go_ret
            exact ⟨by rw [F.out]; rfl, rfl⟩
          · clear hgo hh0
            go_wp2_with fail
            go_ret
            exact ⟨by rw [F.out]; rfl, rfl⟩
        · have F := Lib.hid (show numF s = a by rw [HNF.out, HHD.out, if_neg (fun h => h45 (by rw [hc] at h; exact Option.some.inj h)), HT.out])
          have d3 : ((c.toNat : Int) == 45) = false := beq_eq_false_iff_ne.2 (fun h => h45 (by apply UInt8.toNat.inj; show c.toNat = 45; omega))
          clear hc h45
          by_cases hlt : k < n
          · have h15 : ¬ k < 15 := fun h => hgo ⟨hlt, h⟩
            clear hgo hh0
            go_wp2_with fail
            go_ret
            exact ⟨by rw [F.out]; rfl, rfl⟩
          · clear hgo hh0
            go_wp2_with fail
            go_ret
            exact ⟨by rw [F.out]; rfl, rfl⟩
      · obtain rfl : n = 0 := by omega
        have hs0 : s = [] := List.eq_nil_of_length_eq_zero HN.out
        have F := Lib.hid (show numF s = a by rw [HNF.out, HHD.out, hs0, if_neg (by simp), ← hs0, HT.out])
        clear hgo hs0
        obtain rfl : k = 0 := by omega
        go_wp2_with fail
        go_ret
        exact ⟨by rw [F.out]; rfl, rfl⟩
def BgRel (s : List UInt8) (m i : Value) : Prop := ∃ k : Nat, k ≤ s.length ∧ k ≤ 20 ∧ i = .int .i64 k ∧ m = .int .u64 ((s.take k).foldl bigStep 0 : Nat)
theorem wrap_u64 (x : Int) : IntKind.u64.wrap x = x % 18446744073709551616 := by
  simp [IntKind.wrap, IntKind.signed, IntKind.bits]
theorem big_eq (a : Nat) (c : UInt8) : IntKind.u64.wrap (IntKind.u64.wrap (IntKind.u64.wrap (10 * (a : Int)) + (c.toNat : Int)) - 48) = ((bigStep a c : Nat) : Int) := by
  rw [wrap_u64, wrap_u64, wrap_u64]
  unfold bigStep
  omega
set_option maxHeartbeats 2000000 in
set_option maxRecDepth 100000 in
theorem big_any (s : List UInt8) (hs : s.length ≤ 1000000) (w : World) :
    Calls Tryz.prog 74 #[.string ⟨s.toArray⟩] w fun e w' => e = .returned (.int .u64 (bigF s : Nat)) ∧ w = w' := by
  obtain ⟨n, hn⟩ : ∃ n, s.length = n := ⟨_, rfl⟩
  have hss : s.toArray.size = n := by simpa using hn
  have hss2 : (⟨s.toArray⟩ : ByteArray).size = n := hss
  have HN := Lib.hid hn
  have H0 := Lib.hid (show BgRel s (.int .u64 0) (.int .i64 0) from ⟨0, Nat.zero_le _, by omega, rfl, rfl⟩)
  have HIX := Lib.hid (fun (k : Nat) (c : UInt8) (hc : s[k]? = some c) (hh : k < (⟨s.toArray⟩ : ByteArray).size) => at_byte hc hh)
  have HGL := Lib.hid (fun (k : Nat) (hk : k < n) => (⟨_, List.getElem?_eq_getElem (by rw [hn]; exact hk)⟩ : ∃ c, s[k]? = some c))
  have HFN := Lib.hid (fun (k : Nat) (c : UInt8) (hc : s[k]? = some c) => fold_next bigStep 0 hc)
  have HNF := Lib.hid (show bigF s = (s.take 20).foldl bigStep 0 from rfl)
  have HB := Lib.hid (fun k : Nat => bigFold_lt (s.take k) 0 (by decide))
  rw [hn] at hs
  clear hn
  go_enter Tryz.func74, Tryz.ntmps74
  go_wp2_with fail
  go_loop [3, 4] (fun m i => BgRel s m i) (fun _ i => n - (RowKit.intOf i).toNat)
  case atStart => exact H0.out
  case round =>
    obtain ⟨k, hk, hk20, rfl, rfl⟩ := hrel
    rw [HN.out] at hk
    obtain ⟨a, ha⟩ : ∃ a, (s.take k).foldl bigStep 0 = a := ⟨_, rfl⟩
    have HA := Lib.hid ha
    have hab := HB.out k
    rw [ha] at hab ⊢
    clear ha
    by_cases hgo : k < n ∧ k < 20
    · obtain ⟨hlt, h20⟩ := hgo
      obtain ⟨c, hc⟩ := HGL.out k hlt
      have hix := HIX.out k c hc
      have hF := HFN.out k c hc
      rw [HA.out] at hF
      have hc8 : c.toNat < 256 := c.toNat_lt
      have HE := Lib.hid (show BgRel s (.int .u64 (IntKind.u64.wrap (IntKind.u64.wrap (IntKind.u64.wrap (10 * (a : Int)) + (c.toNat : Int)) - 48))) (.int .i64 ((k : Int) + 1)) from ⟨k + 1, by rw [HN.out]; omega, by omega, by go_num, by rw [hF, big_eq]⟩)
      clear hF hc
      go_wp2_with fail
      exact ⟨HE.out, by simp [RowKit.intOf]; omega⟩
    · have F := Lib.hid (show bigF s = a by
        rw [HNF.out, ← HA.out]
        congr 1
        by_cases h20 : k < 20
        · rw [List.take_of_length_le (by rw [HN.out]; omega), List.take_of_length_le (by rw [HN.out]; omega)]
        · rw [show k = 20 by omega])
      by_cases hlt : k < n
      · have h20 : ¬ k < 20 := fun h => hgo ⟨hlt, h⟩
        clear hgo
        go_wp2_with fail
        go_ret
        exact ⟨by rw [F.out]; rfl, rfl⟩
      · clear hgo
        go_wp2_with fail
        go_ret
        exact ⟨by rw [F.out]; rfl, rfl⟩
end Go.Proofs.YtchgfabgighbfaaGreatDoor.RrwW
