/- The reference's words, numbers, first, Much (printed by mkrdw2.py). -/
import Derived.Test.YtchgfabgighbfaaGreatDoorRrwW
namespace Go.Proofs.YtchgfabgighbfaaGreatDoor.RwdW
set_option linter.unusedVariables false
set_option linter.unusedSimpArgs false
open Go.RowKit Go.Shelf Go.Lib Base SeqM ScrM ScrP ScrR TxtM GlbD RdsW EqlW ScrB GsM RrwW

theorem eltS : Elt Tryz.prog 67 9 (.string ⟨#[]⟩) 1 16 := elt_mk (z := .string ⟨#[]⟩) Tryz.underlying67 (by kernel_rfl) rfl (by omega) (by omega)
theorem eltI : Elt Tryz.prog 25 3 (.int .i64 0) 1 8 := elt_mk (z := .int .i64 0) Tryz.underlying25 (by kernel_rfl) rfl (by omega) (by omega)
theorem cut_mid (s : List UInt8) (f k : Nat) : (⟨s.toArray⟩ : ByteArray).extract f k = ⟨((s.take k).drop f).toArray⟩ := by
  apply ByteArray.ext
  rw [ByteArray.data_extract]
  simp [List.drop_take]
theorem drop_hit {s : List UInt8} {f k : Nat} {c : UInt8} (h : s[k]? = some c) (hf : f ≤ k) : s.drop f = (s.take k).drop f ++ c :: s.drop (k + 1) := by
  obtain ⟨h1, h2⟩ := List.getElem?_eq_some_iff.1 h
  have e : s = s.take k ++ c :: s.drop (k + 1) := by
    rw [← h2, ← List.drop_eq_getElem_cons h1, List.take_append_drop]
  have hl : f ≤ (s.take k).length := by rw [List.length_take]; omega
  conv => lhs; rw [e]
  rw [List.drop_append_of_le_length hl]
theorem mid_next {s : List UInt8} {f k : Nat} {c d : UInt8} (h : s[k]? = some c) (hf : f ≤ k) (hd : d ∉ (s.take k).drop f) (hc : c ≠ d) : d ∉ (s.take (k + 1)).drop f := by
  have hk := (List.getElem?_eq_some_iff.1 h).1
  rw [take_next h, List.drop_append_of_le_length (by rw [List.length_take]; omega)]
  intro hm
  rcases List.mem_append.1 hm with hm | hm
  · exact hd hm
  · exact hc (List.mem_singleton.1 hm).symm
theorem mid_empty (s : List UInt8) (k : Nat) (d : UInt8) : d ∉ (s.take k).drop k := by
  rw [List.drop_eq_nil_of_le (by rw [List.length_take]; omega)]; simp
def WoRel (s : List UInt8) (w : World) (t3 t4 t5 : Value) (wr : World) : Prop := ∃ (k f : Nat) (ws : List Wd) (A : Option Addr) (n cap : Nat), k ≤ s.length ∧ f ≤ k ∧ n = ws.length ∧ n ≤ k ∧ t3 = .slice A n cap ∧ t4 = .int .i64 f ∧ t5 = .int .i64 k ∧
  wr.ownsRow w.heap.size 9 1 (.slice A n cap) n (ws.flatMap wdC) ∧ Below w.heap.size w wr ∧ (32 : UInt8) ∉ (s.take k).drop f ∧ splitC 32 s = ws ++ splitC 32 (s.drop f)
def WdPost (s : List UInt8) (w : World) (e : Ending) (w' : World) : Prop := ∃ A n cap, e = .returned (.slice A n cap) ∧ n = (splitC 32 s).length ∧ w'.ownsRow w.heap.size 9 1 (.slice A n cap) n ((splitC 32 s).flatMap wdC) ∧ Below w.heap.size w w'
set_option maxHeartbeats 4000000 in
set_option maxRecDepth 100000 in
theorem words_any (s : List UInt8) (hs : s.length ≤ 1000000) (w : World) : Calls Tryz.prog 35 #[.string ⟨s.toArray⟩] w (WdPost s w) := by
  obtain ⟨m, hm⟩ : ∃ m, s.length = m := ⟨_, rfl⟩
  have hss : s.toArray.size = m := by simpa using hm
  have hss2 : (⟨s.toArray⟩ : ByteArray).size = m := hss
  have HM := Lib.hid hm
  have HIX := Lib.hid (fun (k : Nat) (c : UInt8) (hc : s[k]? = some c) (hh : k < (⟨s.toArray⟩ : ByteArray).size) => at_byte hc hh)
  have HGL := Lib.hid (fun (k : Nat) (hk : k < m) => (⟨_, List.getElem?_eq_getElem (by rw [hm]; exact hk)⟩ : ∃ c, s[k]? = some c))
  have H0 := Lib.hid (show WoRel s w (.slice none 0 0) (.int .i64 0) (.int .i64 0) w from ⟨0, 0, [], none, 0, 0, Nat.zero_le _, Nat.le_refl _, rfl, Nat.le_refl _, rfl, rfl, rfl, World.ownsRow_nil _ _ _ _, Below.refl _ _, by simp, rfl⟩)
  rw [hm] at hs
  clear hm
  go_enter Tryz.func35, Tryz.ntmps35
  go_wp2_with fail
  go_loopw [3, 4, 5] (fun t3 t4 t5 wr => WoRel s w t3 t4 t5 wr) (fun _ _ t5 _ => m - (RowKit.intOf t5).toNat)
  case atStart => exact H0.out
  case round =>
    obtain ⟨k, f, ws, A, n, cap, hk, hf, hn, hnk, rfl, rfl, rfl, hown, hb, hno, hsp⟩ := hrel
    rw [HM.out] at hk
    have HN := Lib.hid hn
    have HO := Lib.hid hown
    have HB := Lib.hid hb
    have HNO := Lib.hid hno
    have HSP := Lib.hid hsp
    have hsz := hb.size
    clear hn hown hno hsp hb H0
    by_cases hlt : k < m
    · obtain ⟨c, hc⟩ := HGL.out k hlt
      have hix := HIX.out k c hc
      have HC := Lib.hid hc
      clear hc
      by_cases h32 : c = 32
      · subst h32
        have d1 : (((32 : UInt8).toNat : Int) == 32) = true := by decide
        obtain ⟨p, hp⟩ : ∃ p, (s.take k).drop f = p := ⟨_, rfl⟩
        have hex : (⟨s.toArray⟩ : ByteArray).extract f k = ⟨p.toArray⟩ := by rw [cut_mid, hp]
        have HF := Lib.hid (show splitC 32 s = (ws ++ [p]) ++ splitC 32 (s.drop (k + 1)) by
          have h1 := HNO.out
          rw [hp] at h1
          rw [HSP.out, drop_hit HC.out hf, hp, splitC_hit h1]; simp)
        clear hp
        go_wp2_with (at_builtin; refine app1 _ _ rfl (.tmp 16) (.tmp 21) _ rfl eltS w.heap.size A n cap _ rfl HO.out rfl rfl (by simp [Value.oneCell']) (by omega) hsz ?_; intro A' cap' w1 happ)
        have HAP := Lib.hid happ
        clear happ
        go_wp2_with fail
        exact ⟨⟨k + 1, k + 1, ws ++ [p], A', n + 1, cap', by rw [HM.out]; omega, Nat.le_refl _, by rw [List.length_append, HN.out]; rfl, by omega, rfl, by go_num, by go_num, by have h9 := HAP.out.own; rw [List.flatMap_append]; exact h9, HB.out.trans HAP.out.below, mid_empty s (k + 1) 32, HF.out⟩, by simp [RowKit.intOf]; omega⟩
      · have d1 : ((c.toNat : Int) == 32) = false := beq_eq_false_iff_ne.2 (fun h => h32 (by apply UInt8.toNat.inj; show c.toNat = 32; omega))
        have HF := Lib.hid (mid_next HC.out hf HNO.out h32)
        clear h32
        go_wp2_with fail
        exact ⟨⟨k + 1, f, ws, A, n, cap, by rw [HM.out]; omega, by omega, HN.out, by omega, rfl, rfl, by go_num, HO.out, HB.out, HF.out, HSP.out⟩, by simp [RowKit.intOf]; omega⟩
    · obtain rfl : k = m := by omega
      obtain ⟨p, hp⟩ : ∃ p, s.drop f = p := ⟨_, rfl⟩
      have hex : (⟨s.toArray⟩ : ByteArray).extract f k = ⟨p.toArray⟩ := by rw [cut_mid, List.take_of_length_le (by rw [HM.out]; exact Nat.le_refl _), hp]
      have HF := Lib.hid (show splitC 32 s = ws ++ [p] by
        have h1 := HNO.out
        rw [List.take_of_length_le (by rw [HM.out]; exact Nat.le_refl _), hp] at h1
        rw [HSP.out, hp, split_word 32 p h1])
      clear hp
      go_wp2_with (at_builtin; refine app1 _ _ rfl (.tmp 25) (.tmp 29) _ rfl eltS w.heap.size A n cap _ rfl HO.out rfl rfl (by simp [Value.oneCell']) (by omega) hsz ?_; intro A' cap' w1 happ)
      have HAP := Lib.hid happ
      clear happ
      go_wp2_with fail
      go_ret
      exact ⟨A', n + 1, cap', rfl, by rw [HF.out, List.length_append, HN.out]; rfl, by have h9 := HAP.out.own; rw [HF.out, List.flatMap_append]; exact h9, HB.out.trans HAP.out.below⟩
theorem rdW {w : World} {lo B : Nat} {A : Option Addr} {l : List Wd} (h : Rd w lo B 1 A l.length (l.flatMap wdC)) {i : Nat} (hi : i < l.length) :
    ∃ (ad : Addr) (x : Wd), A = some ad ∧ lo ≤ ad.block ∧ ad.block < B ∧ l[i]? = some x ∧ w.cell? (ad.add i) = some (.string ⟨x.toArray⟩) := by
  obtain ⟨ad, x, e, h1, h2, hx, hc⟩ := rdk wdC_len h hi
  exact ⟨ad, x, e, h1, h2, hx, by simpa using hc 0 _ rfl⟩
def NmRel (l : List Wd) (w : World) (t3 t4 : Value) (wr : World) : Prop := ∃ (k : Nat) (A : Option Addr) (cap : Nat), k ≤ l.length ∧ t3 = .slice A k cap ∧ t4 = .int .i64 k ∧ wr.ownsRow w.heap.size 3 1 (.slice A k cap) k (((l.take k).map numF).flatMap inC) ∧ Below w.heap.size w wr
def NmPost (l : List Wd) (w : World) (e : Ending) (w' : World) : Prop := ∃ A cap, e = .returned (.slice A l.length cap) ∧ w'.ownsRow w.heap.size 3 1 (.slice A l.length cap) l.length ((l.map numF).flatMap inC) ∧ Below w.heap.size w w'
set_option maxHeartbeats 4000000 in
set_option maxRecDepth 100000 in
theorem numbers_any (v : Value) (l : List Wd) (lo : Nat) (w : World) (h : Seq 1 wdC w lo w.heap.size v l) (hl : l.length ≤ 1000001) (hw : ∀ x ∈ l, x.length ≤ 1000000) :
    Calls Tryz.prog 60 #[v] w (NmPost l w) := by
  obtain ⟨A, ca, rfl, hc1, hc2, _⟩ := id h
  unfold maxLen at hc2
  obtain ⟨n, hn⟩ : ∃ n, l.length = n := ⟨_, rfl⟩
  have HN := Lib.hid hn
  have HW := Lib.hid hw
  have HV := Lib.hid (fun (W : World) (hb : Below w.heap.size w W) (k : Nat) (hlt : k < n) => by
    obtain ⟨A', cap', e', _, _, hr, _⟩ := h.up hb
    cases e'
    exact rdW hr (i := k) (by rw [hn]; exact hlt))
  have H0 := Lib.hid (show NmRel l w (.slice none 0 0) (.int .i64 0) w from ⟨0, none, 0, Nat.zero_le _, rfl, rfl, World.ownsRow_nil _ _ _ _, Below.refl _ _⟩)
  rw [hn] at hl hc1 ⊢
  clear h hn hw
  go_enter Tryz.func60, Tryz.ntmps60
  go_wp2_with fail
  go_loopw [3, 4] (fun t3 t4 wr => NmRel l w t3 t4 wr) (fun _ t4 _ => n - (RowKit.intOf t4).toNat)
  case atStart => exact H0.out
  case round =>
    obtain ⟨k, O, oc, hk, rfl, rfl, hown, hb⟩ := hrel
    rw [HN.out] at hk
    have HO := Lib.hid hown
    have HB := Lib.hid hb
    have hsz := hb.size
    clear hown H0
    by_cases hlt : k < n
    · obtain ⟨ad, x, rfl, _, hbk, hx, hcell⟩ := HV.out wr hb k hlt
      have HX := Lib.hid (show (l.take (k + 1)).map numF = (l.take k).map numF ++ [numF x] by rw [take_next hx, List.map_append]; rfl)
      have HXL := Lib.hid (HW.out x (List.mem_of_getElem? hx))
      clear hx hb
      go_wp2_with fail
      refine (number_any x HXL.out _).mono ?_
      rintro e w1 ⟨rfl, rfl⟩
      go_wp2_with (at_builtin; refine app1 _ _ rfl (.tmp 11) (.tmp 17) _ rfl eltI w.heap.size O k oc _ rfl HO.out rfl rfl (by simp [Value.oneCell']) (by omega) hsz ?_; intro A' cap' w1 happ)
      have HAP := Lib.hid happ
      clear happ
      go_wp2_with fail
      exact ⟨⟨k + 1, A', cap', by rw [HN.out]; omega, rfl, by go_num, by have h9 := HAP.out.own; rw [HX.out, List.flatMap_append]; exact h9, HB.out.trans HAP.out.below⟩, by simp [RowKit.intOf]; omega⟩
    · obtain rfl : k = n := by omega
      have HT := Lib.hid (show l.take k = l from List.take_of_length_le (by rw [HN.out]; exact Nat.le_refl _))
      clear hb
      go_wp2_with fail
      go_ret
      refine ⟨O, oc, by rw [HN.out]; rfl, ?_, HB.out⟩
      have h9 := HO.out
      rw [HT.out] at h9
      rw [HN.out]; exact h9
set_option maxHeartbeats 2000000 in
set_option maxRecDepth 100000 in
theorem first_any (v : Value) (l : List Int) (lo B : Nat) (w : World) (h : Seq 1 inC w lo B v l) :
    Calls Tryz.prog 59 #[v] w fun e w' => e = .returned (.tuple #[.int .i64 (firstF l).1, .int .i64 (firstF l).2]) ∧ w = w' := by
  obtain ⟨A, ca, rfl, hc1, hc2, hr, _⟩ := id h
  unfold maxLen at hc2
  cases l with
  | nil =>
    clear hr h
    rw [show ([] : List Int).length = 0 from rfl] at hc1 ⊢
    go_enter Tryz.func59, Tryz.ntmps59
    go_wp2
    go_ret2
    exact ⟨rfl, rfl⟩
  | cons x r =>
    obtain ⟨ad, x', rfl, _, hb, hx, c0⟩ := rdI hr (i := 0) (by simp)
    obtain rfl : x = x' := by simpa using hx
    have c0' : w.cell? ad = some (.int .i64 x) := by have h9 := c0; unfold Addr.add at h9; simpa using h9
    cases r with
    | nil =>
      clear hr h c0 hx
      rw [show [x].length = 1 from rfl] at hc1 ⊢
      go_enter Tryz.func59, Tryz.ntmps59
      go_wp2
      go_ret2
      exact ⟨rfl, rfl⟩
    | cons y r =>
      obtain ⟨ad2, y', e2, _, hb2, hy, c1⟩ := rdI hr (i := 1) (by simp)
      obtain rfl := Option.some.inj e2
      obtain rfl : y = y' := by simpa using hy
      obtain ⟨n, hn⟩ : ∃ n, (x :: y :: r).length = n := ⟨_, rfl⟩
      have hn1 : 0 < n := by rw [← hn]; simp
      have hn2 : 1 < n := by rw [← hn]; simp
      rw [hn] at hc1 ⊢
      have c1' : w.cell? ⟨ad.block, ad.off + 1, none⟩ = some (.int .i64 y) := by have h9 := c1; unfold Addr.add at h9; simpa using h9
      clear hr h c0 c1 hx hy hn
      go_enter Tryz.func59, Tryz.ntmps59
      go_wp2
      go_ret2
      exact ⟨rfl, rfl⟩
end Go.Proofs.YtchgfabgighbfaaGreatDoor.RwdW
