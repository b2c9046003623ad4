/- The walks of package copseref01 over digits of base 65536: Of, trim, digit, Plus, Minus, Times, Order. -/
import Derived.Test.YtcaeihfgdlffkaaGreatRRRRDoorRows
import Derived.Test.YtcaeihfgdlffkaaGreatRRRRDoorPk00
import Derived.Test.YtcaeihfgdlffkaaGreatRRRRDoorPk03
namespace Go.Proofs.YtcaeihfgdlffkaaGreatRRRRDoor.BigW
set_option linter.unusedVariables false
open Go.RowKit Base BigM

theorem elt : Elt Tryz.prog 97 3 (.int .i64 0) 1 8 := elt_mk (z := .int .i64 0) Tryz.underlying97 (by kernel_rfl) rfl (by omega) (by omega)

/-- The slice value reads as the digits of N, at most s of them; it lies in a block from lo on, below B. -/
structure BigAt (w : World) (lo B : Nat) (A : Option Addr) (n cap : Nat) (N : Int) (s : Nat) (l : List Int) : Prop where
  rd : Rd w lo B 1 A n (l.map (Value.int .i64))
  len : l.length = n
  capl : n ≤ cap
  capm : cap ≤ maxLen
  canon : Canon l
  val : val l = N
  small : n ≤ s
def Big (w : World) (lo B : Nat) (v : Value) (N : Int) (s : Nat) : Prop := ∃ A n cap l, v = .slice A n cap ∧ BigAt w lo B A n cap N s l

theorem BigAt.below {w w' : World} {lo B n cap s : Nat} {A : Option Addr} {N : Int} {l : List Int} (h : BigAt w lo B A n cap N s l) (hb : Below B w w') : BigAt w' lo B A n cap N s l :=
  { h with rd := h.rd.below hb }
theorem Big.below {w w' : World} {lo B B' s : Nat} {v : Value} {N : Int} (h : Big w lo B v N s) (hb : Below B' w w') (hB : B ≤ B') : Big w' lo B v N s := by
  obtain ⟨A, n, cap, l, rfl, h⟩ := h
  exact ⟨A, n, cap, l, rfl, h.below (hb.mono hB)⟩
theorem Big.more {w : World} {lo lo' B B' s s' : Nat} {v : Value} {N : Int} (h : Big w lo B v N s) (hl : lo' ≤ lo) (hB : B ≤ B') (hs : s ≤ s') : Big w lo' B' v N s' := by
  obtain ⟨A, n, cap, l, rfl, h⟩ := h
  exact ⟨A, n, cap, l, rfl, { h with rd := h.rd.more hl hB, small := Nat.le_trans h.small hs }⟩
theorem Big.set_ {w : World} {lo B s : Nat} {v : Value} {N : Int} (h : Big w lo B v N s) (p : Addr) (hp : p.block < lo ∨ B ≤ p.block) (u : Value) : Big (w.setCell p u) lo B v N s := by
  obtain ⟨A, n, cap, l, rfl, h⟩ := h
  exact ⟨A, n, cap, l, rfl, { h with rd := h.rd.set_ p hp u }⟩
theorem Big.nonneg {w : World} {lo B s : Nat} {v : Value} {N : Int} (h : Big w lo B v N s) : 0 ≤ N := by
  obtain ⟨A, n, cap, l, rfl, h⟩ := h
  rw [← h.val]; exact val_nonneg h.canon.1
theorem Big.up {w w' : World} {lo : Nat} {v : Value} {N : Int} {s : Nat} (h : Big w lo w.heap.size v N s) (hb : Below w.heap.size w w') : Big w' 0 w'.heap.size v N s := (h.below hb (Nat.le_refl _)).more (Nat.zero_le _) hb.size (Nat.le_refl _)
theorem Big.form {w : World} {lo B s : Nat} {v : Value} {N : Int} (h : Big w lo B v N s) : ∃ A n cap, v = .slice A n cap := by
  obtain ⟨A, n, cap, l, rfl, h⟩ := h
  exact ⟨A, n, cap, rfl⟩
theorem big_nil (w : World) (lo B s : Nat) : Big w lo B (.slice none 0 0) 0 s := ⟨none, 0, 0, [], rfl, Rd.nil_, rfl, by omega, by unfold maxLen; omega, canon_nil, rfl, by omega⟩

/-- An element of a slice of integers, where it is asked for. -/
theorem rd_at {w : World} {lo B n : Nat} {A : Option Addr} {l : List Int} (h : Rd w lo B 1 A n (l.map (Value.int .i64))) {k : Nat} (hk : k < n) :
    ∃ ad d, A = some ad ∧ ad.block < B ∧ w.cell? (ad.add k) = some (.int .i64 d) ∧ Hid (dg l k = d) := by
  obtain ⟨ad, u, rfl, hb, hu, hc⟩ := h.at_ hk
  have hlen : l.length = n := by simpa using h.len
  have hu2 : u = .int .i64 (dg l k) := by
    rw [List.getElem?_map, List.getElem?_eq_getElem (by omega)] at hu
    rw [dg_eq, List.getElem?_eq_getElem (by omega)]
    simpa using hu.symm
  subst hu2
  exact ⟨ad, _, rfl, hb, hc, rfl⟩

/-- digit(b, i) -/
theorem digit_any (A : Option Addr) (n cap : Nat) (l : List Int) (k : Nat) (w : World) (lo B : Nat) (hr : Rd w lo B 1 A n (l.map (Value.int .i64))) :
    Calls Tryz.prog 124 #[.slice A n cap, .int .i64 (k : Int)] w fun e w' => e = .returned (.int .i64 (dg l k)) ∧ w = w' := by
  have hlen : l.length = n := by simpa using hr.len
  by_cases hk : k < n
  · obtain ⟨ad, d, rfl, hb, hc, HD⟩ := rd_at hr hk
    clear hlen hr
    go_enter Tryz.func124, Tryz.ntmps124
    go_wp2
    go_ret
    exact ⟨ret_int (HD.out.symm), rfl⟩
  · have h0 := Lib.hid (dg_out l k (by omega))
    clear hlen
    go_enter Tryz.func124, Tryz.ntmps124
    go_wp2
    go_ret
    exact ⟨ret_int (by rw [h0.out]), rfl⟩

/-- trim(b): the digits are right; noughts at the top are dropped. -/
theorem trim_any (A : Option Addr) (n cap : Nat) (l : List Int) (w : World) (lo B : Nat) (s : Nat) (hr : Rd w lo B 1 A n (l.map (Value.int .i64))) (hc : n ≤ cap) (hm : cap ≤ maxLen) (hd : Dig l) (hs : n ≤ s) :
    Calls Tryz.prog 94 #[.slice A n cap] w fun e w' => (∃ v, e = .returned v ∧ Big w lo B v (val l) s) ∧ w = w' := by
  have hm2 := hm
  unfold maxLen at hm2
  have HL := Lib.hid (show l.length = n by simpa using hr.len)
  have HD := Lib.hid hd
  clear hd
  have HR : ∀ k, k ≤ n → (k = 0 ∨ dg l (k - 1) ≠ 0) → Hid (pre l k = val l) → Big w lo B (.slice A k cap) (val l) s := by
    intro k hk hstop hp
    refine ⟨A, k, cap, l.take k, rfl, by simpa using hr.take hk, by rw [List.length_take, HL.out]; omega, by omega, hm, trim_canon HD.out k (by rw [HL.out]; omega) hstop, hp.out, by omega⟩
  have HR := Lib.hid HR
  go_enter Tryz.func94, Tryz.ntmps94
  go_wp2
  go_loop [3] (fun i => ∃ k : Nat, k ≤ n ∧ i = .int .i64 k ∧ Hid (pre l k = val l)) (fun i => (intOf i).toNat)
  case atStart => exact ⟨n, Nat.le_refl _, rfl, Lib.hid (pre_all l n (by rw [HL.out]; exact Nat.le_refl _))⟩
  case round =>
    obtain ⟨k, hk, rfl, HP⟩ := hrel
    by_cases h0 : 0 < k
    · obtain ⟨j, rfl⟩ : ∃ j, k = j + 1 := ⟨k - 1, by omega⟩
      obtain ⟨ad, d, rfl, hb, hcell, HJ⟩ := rd_at hr (show j < n by omega)
      by_cases hz : d = 0
      · subst hz
        go_wp2
        go_round
        case rel => exact ⟨j, by omega, by go_num, Lib.hid (by rw [← HP.out, trim_step l j HJ.out])⟩
        case measure => simp [intOf]
      · have hz2 : (d == 0) = false := by simpa using hz
        go_wp2
        go_ret
        exact ⟨⟨_, rfl, HR.out _ hk (.inr (by rw [show j + 1 - 1 = j by omega, HJ.out]; exact hz)) HP⟩, rfl⟩
    · have h1 : k = 0 := by omega
      subst h1
      go_wp2
      go_ret
      exact ⟨⟨_, rfl, HR.out _ hk (.inl rfl) HP⟩, rfl⟩
/-- Of(n): the digits of a number. -/
def OfRel (B : Nat) (w : World) (N : Int) (n v : Value) (wr : World) : Prop :=
  ∃ (m : Int) (A : Option Addr) (k cap : Nat) (l : List Int), n = .int .u64 m ∧ v = .slice A k cap ∧ 0 ≤ m ∧ m < pw (4 - k) ∧ k ≤ 4 ∧ l.length = k ∧ val l + pw l.length * m = N ∧ Dig l ∧ (m = 0 → Top l) ∧
    wr.ownsRow B 3 1 (.slice A k cap) k (l.map (Value.int .i64)) ∧ Below B w wr
theorem of_round {B : Nat} {w wr w' : World} {N m : Int} {A A' : Option Addr} {k cap cap' : Nat} {l : List Int} (h0 : 0 < m) (h1 : m < pw (4 - k)) (hk : k ≤ 4) (hl : l.length = k) (hv : val l + pw l.length * m = N) (hd : Dig l) (hb : Below B w wr)
    (ha : App wr w' B 3 1 A k cap A' (k + 1) cap' (l.map (Value.int .i64) ++ (#[Value.int .i64 (m % 65536)] : Array Value).toList)) : OfRel B w N (.int .u64 (m / 65536)) (.slice A' (k + 1) cap') w' := by
  have hk2 : k ≠ 4 := by
    intro e; subst e; simp only [Nat.sub_self, pw_zero] at h1; omega
  obtain ⟨j, hj⟩ : ∃ j, 4 - k = j + 1 := ⟨3 - k, by omega⟩
  rw [hj] at h1
  refine ⟨m / 65536, A', k + 1, cap', l ++ [m % 65536], rfl, rfl, by omega, ?_, by omega, by simp [hl], by rw [of_step]; exact hv, dig_snoc hd (by omega) (by omega), of_top l m h0, by simpa using ha.own, hb.trans ha.below⟩
  have : 4 - (k + 1) = j := by omega
  rw [this]; exact of_lt j m h1
theorem of_end {B : Nat} {w wr : World} {N : Int} {v : Value} (h : OfRel B w N (.int .u64 0) v wr) : Big wr B wr.heap.size v N 4 ∧ Below B w wr := by
  obtain ⟨m, A, k, cap, l, hn, rfl, _, _, hk, hl, hv, hd, ht, hown, hb⟩ := h
  obtain rfl : (0 : Int) = m := by simpa using hn
  refine ⟨⟨A, k, cap, l, rfl, Rd.of_own hown, hl, ?_, ?_, ⟨hd, ht rfl⟩, by omega, hk⟩, hb⟩
  all_goals
    rcases hown.2 with ⟨h, h0⟩ | ⟨g, c, cur, h, _, _, h1, h2, _⟩
    · simp at h; omega
    · simp at h; omega
theorem Of_any (N : Int) (w : World) (h0 : 0 ≤ N) (h1 : N < 18446744073709551616) :
    Calls Tryz.prog 55 #[.int .u64 N] w fun e w' => (∃ v, e = .returned v ∧ Big w' w.heap.size w'.heap.size v N 4) ∧ Below w.heap.size w w' := by
  have H0 : OfRel w.heap.size w N (.int .u64 N) (.slice none 0 0) w :=
    ⟨N, none, 0, 0, [], rfl, rfl, h0, by rw [show 4 - 0 = 4 from rfl, pw4]; exact h1, by omega, rfl, by simp [val, pw_zero], dig_nil, (fun _ => canon_nil.2), World.ownsRow_nil _ _ _ _, Below.refl _ _⟩
  go_enter Tryz.func55, Tryz.ntmps55
  go_wp2
  go_loopw [0, 3] (fun n v wr => OfRel w.heap.size w N n v wr) (fun n _ _ => (intOf n).toNat)
  case atStart => exact H0
  case round =>
    clear H0
    have HR := hrel
    obtain ⟨m, A, k, cap, l, rfl, rfl, hm0, hm1, hk, hl, hv, hd, ht, hown, hb⟩ := hrel
    have HL := Lib.hid hl
    have HV := Lib.hid hv
    have HD := Lib.hid hd
    have hms : m ≤ 18446744073709551615 := by have := pw_mono (show 4 - k ≤ 4 by omega); rw [pw4] at this; omega
    have hsz := hb.size
    clear hl hv hd ht
    by_cases hpos : 0 < m
    · have HM := Lib.hid hm1
      clear HR hm1
      go_wp2_with (at_builtin; refine app1 _ _ rfl (.tmp 6) (.tmp 10) _ rfl elt w.heap.size A k cap _ rfl hown rfl rfl (by simp [Value.oneCell']) (by omega) hsz ?_; intro A' cap' w1 happ)
      exact ⟨of_round hpos HM.out hk HL.out HV.out HD.out hb happ, by simp [intOf]; omega⟩
    · have hz : m = 0 := by omega
      subst hz
      have HE := Lib.hid (of_end HR)
      clear HR hm1
      go_wp2
      go_ret
      exact ⟨⟨_, rfl, HE.out.1⟩, HE.out.2⟩

def PlusRel (B : Nat) (w : World) (a b : List Int) (out c i : Value) (wr : World) : Prop :=
  ∃ (m : Int) (A : Option Addr) (k cap : Nat) (l : List Int), i = .int .i64 k ∧ c = .int .i64 m ∧ out = .slice A k cap ∧ 0 ≤ m ∧ m ≤ 1 ∧ (k : Int) + m ≤ max a.length b.length + 1 ∧ l.length = k ∧
    val l + pw k * m = pre a k + pre b k ∧ Dig l ∧ wr.ownsRow B 3 1 (.slice A k cap) k (l.map (Value.int .i64)) ∧ Below B w wr
theorem plus_round {B : Nat} {w wr w' : World} {a b : List Int} {m : Int} {A A' : Option Addr} {k cap cap' : Nat} {l : List Int} (ha : Dig a) (hb : Dig b) (h0 : 0 ≤ m) (h1 : m ≤ 1) (hk : (k : Int) + m ≤ max a.length b.length + 1)
    (hl : l.length = k) (hv : val l + pw k * m = pre a k + pre b k) (hd : Dig l) (hbel : Below B w wr) (hgo : k < max a.length b.length ∨ 0 < m)
    (happ : App wr w' B 3 1 A k cap A' (k + 1) cap' (l.map (Value.int .i64) ++ (#[Value.int .i64 ((dg a k + dg b k + m) % 65536)] : Array Value).toList)) :
    PlusRel B w a b (.slice A' (k + 1) cap') (.int .i64 ((dg a k + dg b k + m) / 65536)) (.int .i64 ((k : Int) + 1)) w' ∧
      2 * (max a.length b.length - (intOf (.int .i64 ((k : Int) + 1))).toNat) + (intOf (.int .i64 ((dg a k + dg b k + m) / 65536))).toNat < 2 * (max a.length b.length - (intOf (.int .i64 (k : Int))).toNat) + (intOf (.int .i64 m)).toNat := by
  have h2 := dig_getD ha k
  have h3 := dig_getD hb k
  have h4 : a.length ≤ k → dg a k = 0 := fun h => dg_out a k h
  have h5 : b.length ≤ k → dg b k = 0 := fun h => dg_out b k h
  refine ⟨⟨_, A', k + 1, cap', l ++ [(dg a k + dg b k + m) % 65536], by go_num, rfl, rfl, by omega, by omega, ?_, by simp [hl], plus_step hl hv, dig_snoc hd (by omega) (by omega), by simpa using happ.own, hbel.trans happ.below⟩, ?_⟩
  · omega
  · simp only [intOf]; omega
theorem plus_end {B : Nat} {wr : World} {a b : List Int} {A : Option Addr} {k cap : Nat} {l : List Int} (hl : l.length = k) (hv : val l + pw k * 0 = pre a k + pre b k) (hd : Dig l)
    (ha : a.length ≤ k) (hb : b.length ≤ k) (hown : wr.ownsRow B 3 1 (.slice A k cap) k (l.map (Value.int .i64))) :
    val l = val a + val b ∧ k ≤ cap ∧ cap ≤ maxLen ∧ Rd wr B wr.heap.size 1 A k (l.map (Value.int .i64)) := by
  rw [pre_all a k ha, pre_all b k hb] at hv
  refine ⟨by omega, ?_, ?_, Rd.of_own hown⟩
  all_goals
    rcases hown.2 with ⟨h, h0⟩ | ⟨g, c, cur, h, _, _, h1, h2, _⟩
    · simp at h; (try unfold maxLen); omega
    · simp at h; omega

theorem Plus_any (va vb : Value) (N M : Int) (s t : Nat) (w : World) (ha : Big w 0 w.heap.size va N s) (hb : Big w 0 w.heap.size vb M t) (hs : s ≤ 1000000) (ht : t ≤ 1000000) :
    Calls Tryz.prog 92 #[va, vb] w fun e w' => (∃ v, e = .returned v ∧ Big w' w.heap.size w'.heap.size v (N + M) (max s t + 1)) ∧ Below w.heap.size w w' := by
  obtain ⟨A, n, ca, a, rfl, ha⟩ := ha
  obtain ⟨A2, n2, cb, b, rfl, hb⟩ := hb
  have hn := ha.small
  have hn2 := hb.small
  have H0 : PlusRel w.heap.size w a b (.slice none 0 0) (.int .i64 0) (.int .i64 0) w :=
    ⟨0, none, 0, 0, [], rfl, rfl, rfl, by omega, by omega, by omega, rfl, by simp [val, pre_zero], dig_nil, World.ownsRow_nil _ _ _ _, Below.refl _ _⟩
  have H0 := Lib.hid H0
  have HA := Lib.hid ha
  have HB := Lib.hid hb
  have HLA := Lib.hid ha.len
  have HLB := Lib.hid hb.len
  clear ha hb
  go_enter Tryz.func92, Tryz.ntmps92
  go_wp2
  go_loopw [5, 6, 7] (fun out c i wr => PlusRel w.heap.size w a b out c i wr) (fun _ c i _ => 2 * (max a.length b.length - (intOf i).toNat) + (intOf c).toNat)
  case atStart => exact H0.out
  case round =>
    obtain ⟨m, A3, k, cap, l, rfl, rfl, rfl, hm0, hm1, hk, hl, hv, hd, hown, hbel⟩ := hrel
    have HK := Lib.hid hk
    have HL := Lib.hid hl
    have HV := Lib.hid hv
    have HD := Lib.hid hd
    have hkb : (k : Int) ≤ 1000001 := by rw [HLA.out, HLB.out] at hk; omega
    have hda := dig_getD HA.out.canon.1 k
    have hdb := dig_getD HB.out.canon.1 k
    have hsz := hbel.size
    clear hl hv hd hk
    by_cases c1 : k < n <;> by_cases c2 : k < n2 <;> by_cases c3 : 0 < m
    all_goals first
      | (have hgo := Lib.hid (show k < max a.length b.length ∨ 0 < m by rw [HLA.out, HLB.out]; omega)
         go_wp2_with fail
         refine (digit_any A n ca a k _ 0 w.heap.size (HA.out.rd.below hbel)).mono ?_
         rintro e w' ⟨rfl, rfl⟩
         go_wp2_with fail
         refine (digit_any A2 n2 cb b k _ 0 w.heap.size (HB.out.rd.below hbel)).mono ?_
         rintro e w' ⟨rfl, rfl⟩
         go_wp2_with (at_builtin; refine app1 _ _ rfl (.tmp 34) (.tmp 37) _ rfl elt w.heap.size A3 k cap _ rfl hown rfl rfl (by simp [Value.oneCell']) (by omega) hsz ?_; intro A' cap' w1 happ)
         exact plus_round HA.out.canon.1 HB.out.canon.1 hm0 hm1 HK.out HL.out HV.out HD.out hbel hgo.out happ)
      | (have hz : m = 0 := by omega
         subst hz
         obtain ⟨e1, e2, e3, e4⟩ := plus_end HL.out HV.out HD.out (by rw [HLA.out]; omega) (by rw [HLB.out]; omega) hown
         have E1 := Lib.hid e1
         clear e1
         go_wp2_with fail
         refine (trim_any A3 k cap l _ w.heap.size wr.heap.size (max s t + 1) e4 e2 e3 HD.out (by have := HK.out; rw [HLA.out, HLB.out] at this; omega)).mono ?_
         rintro e w' ⟨⟨v, rfl, hv⟩, rfl⟩
         have HW := Lib.hid hv
         clear hv
         go_wp2
         go_ret
         exact ⟨⟨_, rfl, by rw [← HA.out.val, ← HB.out.val, ← E1.out]; exact HW.out⟩, hbel⟩)
theorem digit_quiet (A : Option Addr) (n cap : Nat) (l : List Int) (k : Nat) (w : World) (lo B : Nat) (hr : Rd w lo B 1 A n (l.map (Value.int .i64))) :
    Calls Tryz.prog 124 #[.slice A n cap, .int .i64 (k : Int)] w fun e w' => e = .returned (.int .i64 (dg l k)) ∧ w' = w :=
  quiet_of_left (digit_any A n cap l k w lo B hr)

def MinusRel (B : Nat) (w : World) (a b : List Int) (out c i : Value) (wr : World) : Prop :=
  ∃ (m : Int) (A : Option Addr) (k cap : Nat) (l : List Int), i = .int .i64 k ∧ c = .int .i64 m ∧ out = .slice A k cap ∧ 0 ≤ m ∧ m ≤ 1 ∧ k ≤ a.length ∧ l.length = k ∧
    val l - pw k * m = pre a k - pre b k ∧ Dig l ∧ wr.ownsRow B 3 1 (.slice A k cap) k (l.map (Value.int .i64)) ∧ Below B w wr
theorem minus_round {B nq : Nat} {w wr w' : World} {a b : List Int} {m : Int} {A A' : Option Addr} {k cap cap' : Nat} {l : List Int} {d c : Int} (ha : Dig a) (hb : Dig b) (h0 : 0 ≤ m) (h1 : m ≤ 1) (hk : k < a.length)
    (hl : l.length = k) (hv : val l - pw k * m = pre a k - pre b k) (hd : Dig l) (hbel : Below B w wr) (hdd : d = mdig (dg a k - dg b k - m)) (hc : c = mbor (dg a k - dg b k - m))
    (happ : App (wr.drewN nq) w' B 3 1 A k cap A' (k + 1) cap' (l.map (Value.int .i64) ++ (#[Value.int .i64 d] : Array Value).toList)) :
    MinusRel B w a b (.slice A' (k + 1) cap') (.int .i64 c) (.int .i64 ((k : Int) + 1)) w' ∧
      a.length - (intOf (.int .i64 ((k : Int) + 1))).toNat < a.length - (intOf (.int .i64 (k : Int))).toNat := by
  have h2 := dig_getD ha k
  have h3 := dig_getD hb k
  subst hdd hc
  have h4 : 0 ≤ mdig (dg a k - dg b k - m) ∧ mdig (dg a k - dg b k - m) < 65536 := by unfold mdig; split <;> omega
  have h5 : 0 ≤ mbor (dg a k - dg b k - m) ∧ mbor (dg a k - dg b k - m) ≤ 1 := by unfold mbor; split <;> omega
  refine ⟨⟨_, A', k + 1, cap', l ++ [mdig (dg a k - dg b k - m)], by go_num, rfl, rfl, h5.1, h5.2, by omega, by simp [hl], minus_step hl hv, dig_snoc hd h4.1 h4.2, by simpa using happ.own, ?_⟩, ?_⟩
  · exact (below_drewN hbel nq).trans happ.below
  · simp only [intOf]; omega
theorem own_caps {wr : World} {B k cap : Nat} {A : Option Addr} {e : TypeId} {size : Nat} {xs : List Value} (hown : wr.ownsRow B e size (.slice A k cap) k xs) : k ≤ cap ∧ cap ≤ maxLen := by
  rcases hown.2 with ⟨h, h0⟩ | ⟨g, c, cur, h, _, _, h1, h2, _⟩
  · simp at h; unfold maxLen; omega
  · simp at h; omega

theorem Minus_any (va vb : Value) (N M : Int) (s t : Nat) (w : World) (ha : Big w 0 w.heap.size va N s) (hb : Big w 0 w.heap.size vb M t) (hs : s ≤ 1000000) (hle : M ≤ N) :
    Calls Tryz.prog 123 #[va, vb] w fun e w' => (∃ v, e = .returned v ∧ Big w' w.heap.size w'.heap.size v (N - M) s) ∧ Below w.heap.size w w' := by
  obtain ⟨A, n, ca, a, rfl, ha⟩ := ha
  obtain ⟨A2, n2, cb, b, rfl, hb⟩ := hb
  have hn := ha.small
  have H0 : MinusRel w.heap.size w a b (.slice none 0 0) (.int .i64 0) (.int .i64 0) w :=
    ⟨0, none, 0, 0, [], rfl, rfl, rfl, by omega, by omega, by omega, rfl, by simp [val, pre_zero], dig_nil, World.ownsRow_nil _ _ _ _, Below.refl _ _⟩
  have H0 := Lib.hid H0
  have HA := Lib.hid ha
  have HB := Lib.hid hb
  have HLA := Lib.hid ha.len
  have HLE := Lib.hid (show val b ≤ val a by rw [ha.val, hb.val]; exact hle)
  clear ha hb hle
  go_enter Tryz.func123, Tryz.ntmps123
  go_wp2
  go_loopw [5, 6, 7] (fun out c i wr => MinusRel w.heap.size w a b out c i wr) (fun _ _ i _ => a.length - (intOf i).toNat)
  case atStart => exact H0.out
  case round =>
    obtain ⟨m, A3, k, cap, l, rfl, rfl, rfl, hm0, hm1, hk, hl, hv, hd, hown, hbel⟩ := hrel
    have HK := Lib.hid hk
    have hkn : k ≤ n := by rw [HLA.out] at hk; exact hk
    have HL := Lib.hid hl
    have HV := Lib.hid hv
    have HD := Lib.hid hd
    have hda := dig_getD HA.out.canon.1 k
    have hdb := dig_getD HB.out.canon.1 k
    have hsz := hbel.size
    clear hl hv hd hk
    by_cases c1 : k < n
    · obtain ⟨ad, d, rfl, hbl, hcell0, HJ⟩ := rd_at HA.out.rd c1
      have hcell : wr.cell? (ad.add k) = some (.int .i64 d) := (hbel.cell (by rw [add_block]; exact hbl)).trans hcell0
      have hd2 : 0 ≤ d ∧ d < 65536 := by rw [← HJ.out]; exact hda
      have HRB := Lib.hid (HB.out.rd.below hbel)
      have HG := Lib.hid (show k < a.length by rw [HLA.out]; exact c1)
      clear hcell0 hda
      by_cases hneg : d - dg b k - m < 0
      · have HE := Lib.hid (show d - dg b k - m + 65536 = mdig (dg a k - dg b k - m) by rw [HJ.out]; unfold mdig; rw [if_pos hneg])
        have HC := Lib.hid (show 1 = mbor (dg a k - dg b k - m) by rw [HJ.out]; unfold mbor; rw [if_pos hneg])
        go_wp2_with fail
        go_quiet ((go_at_call 124; exact Calls.quiet_of_same (digit_quiet A2 n2 cb b k _ 0 w.heap.size HRB.out)))
        go_wp2_with (at_builtin; refine app1 _ _ rfl (.tmp 29) (.tmp 31) _ rfl elt w.heap.size A3 k cap _ rfl hown rfl rfl (by simp [Value.oneCell']) (by omega) hsz ?_; intro A' cap' w1 happ)
        exact minus_round HA.out.canon.1 HB.out.canon.1 hm0 hm1 HG.out HL.out HV.out HD.out hbel HE.out HC.out happ
      · have HE := Lib.hid (show d - dg b k - m = mdig (dg a k - dg b k - m) by rw [HJ.out]; unfold mdig; rw [if_neg hneg])
        have HC := Lib.hid (show 0 = mbor (dg a k - dg b k - m) by rw [HJ.out]; unfold mbor; rw [if_neg hneg])
        go_wp2_with fail
        go_quiet ((go_at_call 124; exact Calls.quiet_of_same (digit_quiet A2 n2 cb b k _ 0 w.heap.size HRB.out)))
        go_wp2_with (at_builtin; refine app1 _ _ rfl (.tmp 29) (.tmp 31) _ rfl elt w.heap.size A3 k cap _ rfl hown rfl rfl (by simp [Value.oneCell']) (by omega) hsz ?_; intro A' cap' w1 happ)
        exact minus_round HA.out.canon.1 HB.out.canon.1 hm0 hm1 HG.out HL.out HV.out HD.out hbel HE.out HC.out happ
    · have hkk : k = n := by omega
      have E1 := Lib.hid (minus_end HA.out.canon.1 HB.out.canon.1 HD.out (by rw [HL.out, HLA.out, hkk]) hm0 (by rw [HLA.out, ← hkk]; exact HV.out) HLE.out)
      obtain ⟨e2, e3⟩ := own_caps hown
      clear hkk
      go_wp2_with fail
      refine (trim_any A3 k cap l _ w.heap.size wr.heap.size s (Rd.of_own hown) e2 e3 HD.out (by omega)).mono ?_
      rintro e w' ⟨⟨v, rfl, hv⟩, rfl⟩
      have HW := Lib.hid hv
      clear hv
      go_wp2
      go_ret
      exact ⟨⟨_, rfl, by rw [← HA.out.val, ← HB.out.val, ← E1.out]; exact HW.out⟩, hbel⟩
theorem Big.tight {w : World} {lo B s s' : Nat} {v : Value} {N : Int} (h : Big w lo B v N s) (hs : N < pw s') : Big w lo B v N s' := by
  obtain ⟨A, n, cap, l, rfl, h⟩ := h
  exact ⟨A, n, cap, l, rfl, { h with small := by rw [← h.len]; exact canon_len_le h.canon s' (by rw [h.val]; exact hs) }⟩
theorem Big.lt {w : World} {lo B s : Nat} {v : Value} {N : Int} (h : Big w lo B v N s) : N < pw s := by
  obtain ⟨A, n, cap, l, rfl, h⟩ := h
  rw [← h.val]; exact val_lt_len h.canon.1 (by rw [h.len]; exact h.small)

/-- The row of one digit, x, times b, moved by i places: behind k digits of b. -/
def RowRel (B : Nat) (w : World) (b : List Int) (i : Nat) (x : Int) (row c kk : Value) (wr : World) : Prop :=
  ∃ (m : Int) (A : Option Addr) (k cap : Nat) (l : List Int), kk = .int .i64 k ∧ c = .int .i64 m ∧ row = .slice A (i + k) cap ∧ 0 ≤ m ∧ m < 65536 ∧ k ≤ b.length ∧ l.length = i + k ∧
    val l + pw (i + k) * m = pw i * (x * pre b k) ∧ Dig l ∧ wr.ownsRow B 3 1 (.slice A (i + k) cap) (i + k) (l.map (Value.int .i64)) ∧ Below B w wr
theorem row_round {B nq : Nat} {w wr w' : World} {b : List Int} {i : Nat} {x m : Int} {A A' : Option Addr} {k cap cap' : Nat} {l : List Int} {d c : Int} (h0 : 0 ≤ m) (h1 : m < 65536) (hk : k < b.length) (hx0 : 0 ≤ x) (hx1 : x < 65536) (hb : Dig b)
    (hl : l.length = i + k) (hv : val l + pw (i + k) * m = pw i * (x * pre b k)) (hd : Dig l) (hbel : Below B w wr) (hdd : d = (x * dg b k + m) % 65536) (hc : c = (x * dg b k + m) / 65536)
    (happ : App (wr.drewN nq) w' B 3 1 A (i + k) cap A' (i + k + 1) cap' (l.map (Value.int .i64) ++ (#[Value.int .i64 d] : Array Value).toList)) :
    RowRel B w b i x (.slice A' (i + k + 1) cap') (.int .i64 c) (.int .i64 ((k : Int) + 1)) w' ∧
      b.length - (intOf (.int .i64 ((k : Int) + 1))).toNat < b.length - (intOf (.int .i64 (k : Int))).toNat := by
  have h3 := dig_getD hb k
  have h4 := row_bound hx0 hx1 h3.1 h3.2
  subst hdd hc
  refine ⟨⟨_, A', k + 1, cap', l ++ [(x * dg b k + m) % 65536], by go_num, rfl, rfl, by omega, by omega, by omega, by simp [hl]; omega, row_step hl hv, dig_snoc hd (by omega) (by omega), by simpa [Nat.add_assoc] using happ.own, ?_⟩, ?_⟩
  · exact (below_drewN hbel nq).trans happ.below
  · simp only [intOf]; omega

def TimesRel (w : World) (a : List Int) (M : Int) (n2 : Nat) (out i : Value) (wr : World) : Prop :=
  ∃ k : Nat, i = .int .i64 k ∧ k ≤ a.length ∧ Big wr w.heap.size wr.heap.size out (pre a k * M) (n2 + k + 1) ∧ Below w.heap.size w wr

theorem Times_any (va vb : Value) (N M : Int) (s t : Nat) (w : World) (ha : Big w 0 w.heap.size va N s) (hb : Big w 0 w.heap.size vb M t) (hs : s ≤ 100000) (ht : t ≤ 100000) :
    Calls Tryz.prog 57 #[va, vb] w fun e w' => (∃ v, e = .returned v ∧ Big w' w.heap.size w'.heap.size v (N * M) (s + t)) ∧ Below w.heap.size w w' := by
  obtain ⟨A, n, ca, a, rfl, ha⟩ := ha
  obtain ⟨A2, n2, cb, b, rfl, hb⟩ := hb
  have hn := ha.small
  have hn2 := hb.small
  have H0 : TimesRel w a M n2 (.slice none 0 0) (.int .i64 0) w := ⟨0, rfl, by omega, by rw [pre_zero, Int.zero_mul]; exact big_nil _ _ _ _, Below.refl _ _⟩
  have H0 := Lib.hid H0
  have HA := Lib.hid ha
  have HB := Lib.hid hb
  have HLA := Lib.hid ha.len
  have HLB := Lib.hid hb.len
  clear ha hb
  go_enter Tryz.func57, Tryz.ntmps57
  go_wp2
  go_loopw [5, 6] (fun out i wr => TimesRel w a M n2 out i wr) (fun _ i _ => a.length - (intOf i).toNat)
  case atStart => exact H0.out
  case round =>
    obtain ⟨k, rfl, hk, hout, hbel⟩ := hrel
    have HK := Lib.hid hk
    have hkn : k ≤ n := by rw [HLA.out] at hk; exact hk
    have HO := Lib.hid hout
    have hdk := dig_getD HA.out.canon.1 k
    have hsz := hbel.size
    clear hk hout
    by_cases c1 : k < n
    · obtain ⟨ad, d, rfl, hbl, hcell0, HJ⟩ := rd_at HA.out.rd c1
      have hd2 : 0 ≤ d ∧ d < 65536 := by rw [← HJ.out]; exact hdk
      clear hdk
      go_wp2_with (at_make; refine mk1 _ rfl (.tmp 17) (.tmp 17) _ rfl elt rfl k rfl rfl (by omega) ?_; intro w1 hown1 hb1)
      have HROW : RowRel wr.heap.size wr b k d (.slice (some ⟨wr.heap.size, 0, none⟩) k k) (.int .i64 0) (.int .i64 0) w1 :=
        ⟨0, _, 0, k, List.replicate k 0, rfl, rfl, rfl, by omega, by omega, by omega, by simp, by rw [val_zeros, pre_zero]; simp, dig_zeros k, by simpa using hown1, hb1⟩
      have HROW := Lib.hid HROW
      clear hown1
      obtain ⟨wo, rfl⟩ : ∃ wo : World, wo = wr := ⟨_, rfl⟩
      go_loopw [7, 8, 9] (fun row c kk w2 => RowRel wo.heap.size wo b k d row c kk w2) (fun _ _ kk _ => b.length - (intOf kk).toNat)
      case atStart => exact HROW.out
      case round =>
        obtain ⟨m, A3, j, cap, l, rfl, rfl, rfl, hm0, hm1, hj, hl, hv, hd, hown, hbel2⟩ := hrel
        have HJ2 := Lib.hid hj
        have hjn : j ≤ n2 := by rw [HLB.out] at hj; exact hj
        have HL := Lib.hid hl
        have HV := Lib.hid hv
        have HD := Lib.hid hd
        clear hl hv hd hj
        have hsz2 := hbel2.size
        have hbb := hbel.trans (hbel2.mono hsz)
        by_cases c2 : j < n2
        · obtain ⟨ad2, d2, rfl, hbl2, hcell2, HJ3⟩ := rd_at HB.out.rd c2
          have hx2 : 0 ≤ d2 ∧ d2 < 65536 := by rw [← HJ3.out]; exact dig_getD HB.out.canon.1 j
          have hce := (hbb.cell (p := ad.add k) (by rw [add_block]; exact hbl)).trans hcell0
          have hce2 := (hbb.cell (p := ad2.add j) (by rw [add_block]; exact hbl2)).trans hcell2
          have hrb := row_bound hd2.1 hd2.2 hx2.1 hx2.2
          clear hcell0 hcell2
          go_wp2_with fail
          go_quiet (fail)
          go_wp2_with (at_builtin; refine app1 _ _ rfl (.tmp 36) (.tmp 39) _ rfl elt wo.heap.size A3 (k + j) cap _ rfl hown rfl rfl (by simp [Value.oneCell']) (by omega) hsz2 ?_; intro A' cap' w3 happ)
          exact row_round hm0 hm1 (by rw [HLB.out]; exact c2) hd2.1 hd2.2 HB.out.canon.1 HL.out HV.out HD.out hbel2 (by rw [HJ3.out]) (by rw [HJ3.out]) happ
        · have hjj : j = n2 := by omega
          have E1 := Lib.hid (row_end (l := l) (b := b) (i := k) (x := d) (c := m) (by rw [HL.out, HLB.out, hjj]) (by rw [HLB.out, ← hjj]; exact HV.out))
          clear hjj
          go_wp2_with (at_builtin; refine app1 _ _ rfl (.tmp 43) (.tmp 45) _ rfl elt wo.heap.size A3 (k + j) cap _ rfl hown rfl rfl (by simp [Value.oneCell']) (by omega) hsz2 ?_; intro A' cap' w3 happ)
          have HDD := Lib.hid (dig_snoc HD.out hm0 hm1)
          have hrd : Rd w3 0 w3.heap.size 1 A' (k + j + 1) ((l ++ [m]).map (Value.int .i64)) := by simpa using happ.rd.more (Nat.zero_le _) (Nat.le_refl _)
          obtain ⟨e2, e3⟩ := own_caps happ.own
          refine (trim_any A' (k + j + 1) cap' (l ++ [m]) _ 0 w3.heap.size (k + n2 + 1) hrd e2 e3 HDD.out (by omega)).mono ?_
          rintro e w' ⟨⟨v, rfl, hv⟩, rfl⟩
          have HV2 := Lib.hid hv
          clear hv
          have hb4 := hbel2.trans happ.below
          have HO4 := Lib.hid (HO.out.up hb4)
          go_wp2_with fail
          refine (Plus_any _ _ _ _ _ _ _ HO4.out HV2.out (by omega) (by omega)).mono ?_
          rintro e w5 ⟨⟨v2, rfl, hv2⟩, hb5⟩
          have HV3 := Lib.hid hv2
          clear hv2
          go_wp2
          go_round
          case rel =>
            refine ⟨k + 1, by go_num, by rw [HLA.out]; omega, ?_, hbel.trans ((hb4.trans (hb5.mono hb4.size)).mono hsz)⟩
            have := HV3.out
            rw [E1.out, HB.out.val, ← HJ.out, times_step] at this
            exact this.more (Nat.le_trans hsz hb4.size) (Nat.le_refl _) (by omega)
          case measure => simp only [intOf]; rw [HLA.out]; omega
    · have hkk : k = n := by omega
      have E1 := Lib.hid (show pre a k = N by rw [hkk, ← HLA.out, pre_all a _ (Nat.le_refl _), HA.out.val])
      clear hkk
      go_wp2
      go_ret
      refine ⟨⟨_, rfl, ?_⟩, hbel⟩
      have h1 := HO.out
      rw [E1.out] at h1
      refine h1.tight ?_
      have h2 := prod_lt HA.out.canon.1 HB.out.canon.1
      rw [HA.out.val, HB.out.val, HLA.out, HLB.out] at h2
      exact Int.lt_of_lt_of_le h2 (pw_mono (by omega))
end Go.Proofs.YtcaeihfgdlffkaaGreatRRRRDoor.BigW

/- The walk of copseref01.Order: how two numbers lie, by their digits from the top. -/
namespace Go.Proofs.YtcaeihfgdlffkaaGreatRRRRDoor.BigW
set_option linter.unusedVariables false
open Go.RowKit Base BigM

def OrderRel (w : World) (a b : List Int) (i : Value) (wr : World) : Prop :=
  (∃ q, wr = w.drewN q) ∧ ((i = .int .i64 (-1) ∧ val a = val b) ∨ ∃ j : Nat, j < a.length ∧ i = .int .i64 j ∧ a.drop (j + 1) = b.drop (j + 1))
theorem order_next {w : World} {a b : List Int} {j q : Nat} (hl : a.length = b.length) (hj : j < a.length) (hd : a.drop (j + 1) = b.drop (j + 1)) (he : dg a j = dg b j) (v : Int) (hv : v = (j : Int) - 1) :
    OrderRel w a b (.int .i64 v) (w.drewN q) := by
  have h : a.drop j = b.drop j := by rw [drop_getD a j hj, drop_getD b j (by omega), he, hd]
  subst hv
  refine ⟨⟨q, rfl⟩, ?_⟩
  cases j with
  | zero => exact .inl ⟨rfl, by simp at h; rw [h]⟩
  | succ j => exact .inr ⟨j, by omega, by go_num, h⟩
theorem dig_gt {l r : List Int} (hl : Dig l) (hr : Dig r) (k : Nat) (h1 : k < l.length) (h2 : k < r.length) (he : l.drop (k + 1) = r.drop (k + 1)) (hlt : dg r k < dg l k) : val r < val l :=
  dig_lt hr hl k h2 h1 he.symm hlt

theorem Order_any (va vb : Value) (N M : Int) (s t : Nat) (w : World) (ha : Big w 0 w.heap.size va N s) (hb : Big w 0 w.heap.size vb M t) (hs : s ≤ 1000000) (ht : t ≤ 1000000) :
    Calls Tryz.prog 56 #[va, vb] w fun e w' => e = .returned (.int .i64 (ord N M)) ∧ ∃ q, w' = w.drewN q := by
  obtain ⟨A, n, ca, a, rfl, ha⟩ := ha
  obtain ⟨A2, n2, cb, b, rfl, hb⟩ := hb
  have hn := ha.small
  have hn2 := hb.small
  have HA := Lib.hid ha
  have HB := Lib.hid hb
  have HLA := Lib.hid ha.len
  have HLB := Lib.hid hb.len
  clear ha hb
  rcases Nat.lt_trichotomy n n2 with h | h | h
  · have HR := Lib.hid (show ord N M = -1 from ord_lt (by rw [← HA.out.val, ← HB.out.val]; exact canon_len_lt HA.out.canon.1 HB.out.canon (by rw [HLA.out, HLB.out]; exact h)))
    have hne : (n == n2) = false := by simp; omega
    go_enter Tryz.func56, Tryz.ntmps56
    go_wp2
    go_ret
    exact ⟨ret_int HR.out.symm, 0, rfl⟩
  · subst h
    have HLE := Lib.hid (show a.length = b.length by rw [HLA.out, HLB.out])
    have H0 : OrderRel w a b (.int .i64 ((n : Int) - 1)) w := by
      cases n with
      | zero =>
        have e1 : a = [] := List.eq_nil_of_length_eq_zero HLA.out
        have e2 : b = [] := List.eq_nil_of_length_eq_zero HLB.out
        exact ⟨⟨0, rfl⟩, .inl ⟨rfl, by rw [e1, e2]⟩⟩
      | succ n =>
        exact ⟨⟨0, rfl⟩, .inr ⟨n, by rw [HLA.out]; omega, by go_num, by rw [List.drop_of_length_le (by rw [HLA.out]; omega), List.drop_of_length_le (by rw [HLB.out]; omega)]⟩⟩
    have H0 := Lib.hid H0
    go_enter Tryz.func56, Tryz.ntmps56
    go_wp2
    go_loopw [5] (fun i wr => OrderRel w a b i wr) (fun i _ => (intOf i + 1).toNat)
    case atStart => exact H0.out
    case round =>
      obtain ⟨⟨q, rfl⟩, ⟨rfl, he⟩ | ⟨j, hj, rfl, hd⟩⟩ := hrel
      · have HR := Lib.hid (show ord N M = 0 from ord_eq (by rw [← HA.out.val, ← HB.out.val]; exact he))
        clear he
        go_wp2
        go_ret
        exact ⟨ret_int HR.out.symm, q, rfl⟩
      · have hjn : j < n := by rw [HLA.out] at hj; exact hj
        have HD := Lib.hid hd
        have HJ := Lib.hid hj
        clear hd hj
        obtain ⟨ad, d, rfl, hbl, hcell, HX⟩ := rd_at HA.out.rd hjn
        obtain ⟨ad2, d2, rfl, hbl2, hcell2, HX2⟩ := rd_at HB.out.rd hjn
        by_cases c1 : d < d2
        · have HR := Lib.hid (show ord N M = -1 from ord_lt (by rw [← HA.out.val, ← HB.out.val]; exact dig_lt HA.out.canon.1 HB.out.canon.1 j HJ.out (by rw [HLB.out]; exact hjn) HD.out (by rw [HX.out, HX2.out]; exact c1)))
          go_wp2_with fail
          go_quiet (fail)
          go_wp2
          go_ret
          exact ⟨ret_int HR.out.symm, by simp only [World.drewN_drewN]; exact ⟨_, rfl⟩⟩
        · by_cases c2 : d2 < d
          · have HR := Lib.hid (show ord N M = 1 from ord_gt (by rw [← HA.out.val, ← HB.out.val]; exact dig_gt HA.out.canon.1 HB.out.canon.1 j HJ.out (by rw [HLB.out]; exact hjn) HD.out (by rw [HX.out, HX2.out]; exact c2)))
            go_wp2_with fail
            go_quiet (fail)
            go_wp2_with fail
            go_quiet (fail)
            go_wp2
            go_ret
            exact ⟨ret_int HR.out.symm, by simp only [World.drewN_drewN]; exact ⟨_, rfl⟩⟩
          · have HEQ := Lib.hid (show dg a j = dg b j by rw [HX.out, HX2.out]; omega)
            go_wp2_with fail
            go_quiet (fail)
            go_wp2_with fail
            go_quiet (fail)
            go_wp2
            exact ⟨order_next HLE.out HJ.out HD.out HEQ.out _ rfl, by simp only [intOf]; omega⟩
  · have HR := Lib.hid (show ord N M = 1 from ord_gt (by rw [← HA.out.val, ← HB.out.val]; exact canon_len_lt HB.out.canon.1 HA.out.canon (by rw [HLA.out, HLB.out]; exact h)))
    have hne : (n == n2) = false := by simp; omega
    go_enter Tryz.func56, Tryz.ntmps56
    go_wp2
    go_ret
    exact ⟨ret_int HR.out.symm, 0, rfl⟩
end Go.Proofs.YtcaeihfgdlffkaaGreatRRRRDoor.BigW
