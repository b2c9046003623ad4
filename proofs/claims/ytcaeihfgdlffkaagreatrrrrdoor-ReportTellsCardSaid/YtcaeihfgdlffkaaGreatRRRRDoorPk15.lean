/- Trees in memory; tree.leaf, logs. -/
import Derived.Test.YtcaeihfgdlffkaaGreatRRRRDoorPk14
import Derived.Test.YtcaeihfgdlffkaaGreatRRRRDoorShelf
import Derived.Test.YtcaeihfgdlffkaaGreatRRRRDoorPk00
import Derived.Test.YtcaeihfgdlffkaaGreatRRRRDoorPk06
import Derived.Test.YtcaeihfgdlffkaaGreatRRRRDoorPk09
import Derived.Test.YtcaeihfgdlffkaaGreatRRRRDoorPk13
import Derived.Lib.ItoaLen
namespace Go.Proofs.YtcaeihfgdlffkaaGreatRRRRDoor.ShpT
set_option linter.unusedVariables false
open Go.RowKit Base SeqM ShpM ShpV ShpW ShpD

/-- a node in memory: the slice that holds its coefficients, and what it tells -/
def ndC (r : Value × Nd) : List Value := [r.1, .int .i64 r.2.at_, .int .i64 r.2.left, .int .i64 r.2.right, .int .i64 r.2.size]
theorem ndC_len (r : Value × Nd) : (ndC r).length = 5 := rfl
/-- a slice of nodes -/
def Nds (w : World) (lo B : Nat) (v : Value) (l : List Nd) : Prop := ∃ rs : List (Value × Nd), rs.map (·.2) = l ∧ Seq 5 ndC w lo B v rs ∧ ∀ r ∈ rs, Seq 1 inC w lo B r.1 r.2.coef
theorem Nds.below {w w' : World} {lo B : Nat} {v : Value} {l : List Nd} (h : Nds w lo B v l) (hb : Below B w w') : Nds w' lo B v l := by
  obtain ⟨rs, h1, h2, h3⟩ := h
  exact ⟨rs, h1, h2.below hb, fun r hr => (h3 r hr).below hb⟩
theorem Nds.more {w : World} {lo lo' B B' : Nat} {v : Value} {l : List Nd} (h : Nds w lo B v l) (hl : lo' ≤ lo) (hB : B ≤ B') : Nds w lo' B' v l := by
  obtain ⟨rs, h1, h2, h3⟩ := h
  exact ⟨rs, h1, h2.more hl hB, fun r hr => (h3 r hr).more hl hB⟩
theorem Nds.up {w w' : World} {lo : Nat} {v : Value} {l : List Nd} (h : Nds w lo w.heap.size v l) (hb : Below w.heap.size w w') : Nds w' lo w'.heap.size v l := (h.below hb).more (Nat.le_refl _) hb.size
theorem Nds.form {w : World} {lo B : Nat} {v : Value} {l : List Nd} (h : Nds w lo B v l) : ∃ A cap, v = .slice A l.length cap ∧ l.length ≤ cap ∧ cap ≤ 9223372036854775807 ∧ (A = none → cap = 0) := by
  obtain ⟨rs, rfl, ⟨A, cap, e, h1, h2, _, h4⟩, _⟩ := h
  unfold maxLen at h2
  exact ⟨A, cap, by simpa using e, by simpa using h1, by omega, h4⟩
/-- a node of a slice -/
theorem Nds.get {w : World} {lo B : Nat} {A : Option Addr} {n cap : Nat} {l : List Nd} (h : Nds w lo B (.slice A n cap) l) {i : Nat} {x : Nd} (hx : l[i]? = some x) :
    ∃ (ad : Addr) (cv : Value), A = some ad ∧ ad.block < B ∧ w.cell? (ad.add (i * 5)) = some cv ∧ w.cell? ⟨(ad.add (i * 5)).block, (ad.add (i * 5)).off + 1, none⟩ = some (.int .i64 x.at_) ∧
      w.cell? ⟨(ad.add (i * 5)).block, (ad.add (i * 5)).off + 2, none⟩ = some (.int .i64 x.left) ∧ w.cell? ⟨(ad.add (i * 5)).block, (ad.add (i * 5)).off + 3, none⟩ = some (.int .i64 x.right) ∧
      w.cell? ⟨(ad.add (i * 5)).block, (ad.add (i * 5)).off + 4, none⟩ = some (.int .i64 x.size) ∧ Seq 1 inC w lo B cv x.coef := by
  obtain ⟨rs, rfl, ⟨A', cap', e, _, _, hr, _⟩, hc⟩ := h
  obtain ⟨rfl, _⟩ : A = A' ∧ True := by injection e with e1; exact ⟨e1, trivial⟩
  rw [List.getElem?_map] at hx
  obtain ⟨r, hr1, rfl⟩ := Option.map_eq_some_iff.1 hx
  obtain ⟨ad, y, rfl, _, hb, hy, hcell⟩ := rdk ndC_len hr (List.getElem?_eq_some_iff.1 hr1).1
  rw [hr1] at hy
  obtain rfl := Option.some.inj hy
  refine ⟨ad, r.1, rfl, hb, hcell 0 _ rfl, ?_, ?_, ?_, ?_, hc r (List.mem_of_getElem? hr1)⟩ <;> rw [add_off _ _ _ (by decide)]
  · exact hcell 1 _ rfl
  · exact hcell 2 _ rfl
  · exact hcell 3 _ rfl
  · exact hcell 4 _ rfl
def leafB (x : Nd) : Bool := decide (x.left = 0 ∧ x.right = 0 ∧ x.coef = [] ∧ x.at_ = 0 ∧ 1 ≤ x.size)
/-- a node as a value -/
def ndV (cv : Value) (x : Nd) : Value := .agg #[cv, .int .i64 x.at_, .int .i64 x.left, .int .i64 x.right, .int .i64 x.size]
theorem leafB_no {x : Nd} (h : ¬ (x.left = 0 ∧ x.right = 0 ∧ x.coef = [] ∧ x.at_ = 0 ∧ 1 ≤ x.size)) : leafB x = false := decide_eq_false h
set_option maxHeartbeats 1000000 in
set_option maxRecDepth 100000 in
theorem leaf_any (A : Option Addr) (cap : Nat) (x : Nd) (w : World) :
    Calls Tryz.prog 160 #[ndV (.slice A x.coef.length cap) x] w fun e w' => e = .returned (.bool (leafB x)) ∧ Below w.heap.size w w' := by
  unfold ndV
  by_cases h1 : x.left = 0
  · have b1 : (x.left == 0) = true := by simpa using h1
    by_cases h2 : x.right = 0
    · have b2 : (x.right == 0) = true := by simpa using h2
      by_cases h3 : x.coef = []
      · have b3 : x.coef.length = 0 := by rw [h3]; rfl
        by_cases h4 : x.at_ = 0
        · have b4 : (x.at_ == 0) = true := by simpa using h4
          have F := Lib.hid (show leafB x = decide (1 ≤ x.size) by unfold leafB; simp [h1, h2, h3, h4])
          clear h1 h2 h3 h4
          go_enter Tryz.func160, Tryz.ntmps160
          go_wp2_with fail
          go_ret
          exact ⟨ret_bool F.out.symm, below_a1 _ _⟩
        · have b4 : (x.at_ == 0) = false := by simpa using h4
          have F := Lib.hid (leafB_no (x := x) (fun h => h4 h.2.2.2.1))
          clear h1 h2 h3 h4
          go_enter Tryz.func160, Tryz.ntmps160
          go_wp2_with fail
          go_ret
          exact ⟨ret_bool F.out.symm, below_a1 _ _⟩
      · have F := Lib.hid (leafB_no (x := x) (fun h => h3 h.2.2.1))
        obtain ⟨n, hn⟩ : ∃ n, x.coef.length = n + 1 := ⟨x.coef.length - 1, by have := List.length_pos_iff.2 h3; omega⟩
        rw [hn]
        have b3 : (((n + 1 : Nat) : Int) == 0) = false := by rw [beq_eq_false_iff_ne]; omega
        clear h1 h2 h3 hn
        go_enter Tryz.func160, Tryz.ntmps160
        go_wp2_with fail
        go_ret
        exact ⟨ret_bool F.out.symm, below_a1 _ _⟩
    · have b2 : (x.right == 0) = false := by simpa using h2
      have F := Lib.hid (leafB_no (x := x) (fun h => h2 h.2.1))
      clear h1 h2
      go_enter Tryz.func160, Tryz.ntmps160
      go_wp2_with fail
      go_ret
      exact ⟨ret_bool F.out.symm, below_a1 _ _⟩
  · have b1 : (x.left == 0) = false := by simpa using h1
    have F := Lib.hid (leafB_no (x := x) (fun h => h1 h.1))
    clear h1
    go_enter Tryz.func160, Tryz.ntmps160
    go_wp2_with fail
    go_ret
    exact ⟨ret_bool F.out.symm, below_a1 _ _⟩
/-! ### Logs -/
theorem lg_cases {n : Int} (h1 : 1 ≤ n) (h2 : n ≤ 64) : n ≤ (2 : Int) ^ lg n ∧ (0 < lg n → (2 : Int) ^ (lg n - 1) < n) ∧ lg n ≤ 6 := by
  unfold lg
  split
  · simp; omega
  split
  · simp; omega
  split
  · simp; omega
  split
  · simp; omega
  split
  · simp; omega
  split
  · simp; omega
  · simp; omega
theorem bitLen_lg : ∀ k : Fin 64, ((Lib.bitLen k.val : Nat)) = lg ((k.val : Int) + 1) := by decide +kernel
theorem pow_le2 {a b : Nat} (h : a ≤ b) : (2 : Int) ^ a ≤ (2 : Int) ^ b := by
  have := Nat.pow_le_pow_right (n := 2) (by omega) h
  exact_mod_cast this
theorem lg_up {n : Int} {j : Nat} (h1 : 1 ≤ n) (h2 : n ≤ 64) (h : (2 : Int) ^ j < n) : j + 1 ≤ lg n := by
  obtain ⟨a, _, _⟩ := lg_cases h1 h2
  rcases Nat.lt_or_ge j (lg n) with h' | h'
  · exact h'
  · have := pow_le2 h'; omega
theorem lg_eq {n : Int} {j : Nat} (h1 : 1 ≤ n) (h2 : n ≤ 64) (h : ¬ (2 : Int) ^ j < n) (hj : j ≤ lg n) : j = lg n := by
  obtain ⟨_, b, _⟩ := lg_cases h1 h2
  rcases Nat.lt_or_ge j (lg n) with h' | h'
  · have := b (by omega)
    have := pow_le2 (show j ≤ lg n - 1 by omega)
    omega
  · omega
set_option maxRecDepth 100000 in
theorem Log_any (n : Int) (w : World) (h1 : 1 ≤ n) (h2 : n ≤ 64) :
    Calls Tryz.prog 162 #[.int .i64 n] w fun e w' => e = .returned (.int .i64 (lg n)) ∧ w = w' := by
  by_cases h : n ≤ 1
  · obtain rfl : n = 1 := by omega
    go_enter Tryz.func162, Tryz.ntmps162
    go_wp2
    go_ret
    exact ⟨rfl, rfl⟩
  · obtain ⟨k, hk⟩ : ∃ k : Nat, n = (k : Int) + 1 := ⟨(n - 1).toNat, by omega⟩
    subst hk
    have HL := Lib.hid (Tryz.bits_Len64 (k : Int) w (by omega) (by omega))
    have F := Lib.hid (bitLen_lg ⟨k, by omega⟩)
    go_enter Tryz.func162, Tryz.ntmps162
    go_wp2_with fail
    refine HL.out.mono ?_
    rintro e w1 ⟨rfl, rfl⟩
    rw [Int.toNat_natCast, F.out]
    go_wp2_with fail
    go_ret
    exact ⟨rfl, rfl⟩
def LRel (n : Int) (w : World) (k p : Value) (wr : World) : Prop := ∃ j : Nat, j ≤ lg n ∧ j ≤ 6 ∧ k = .int .i64 j ∧ p = .int .i64 ((2 : Int) ^ j) ∧ w = wr
set_option maxHeartbeats 1000000 in
set_option maxRecDepth 100000 in
theorem RLog_any (n : Int) (w : World) (h1 : 1 ≤ n) (h2 : n ≤ 64) :
    Calls Tryz.prog 165 #[.int .i64 n] w fun e w' => e = .returned (.int .i64 (lg n)) ∧ w = w' := by
  have H0 := Lib.hid (show LRel n w (.int .i64 0) (.int .i64 1) w from ⟨0, by omega, by omega, rfl, rfl, rfl⟩)
  go_enter Tryz.func165, Tryz.ntmps165
  go_wp2_with fail
  go_loopw [3, 4] (fun k p wr => LRel n w k p wr) (fun k _ _ => 7 - (intOf k).toNat)
  case atStart => exact H0.out
  case round =>
    obtain ⟨j, hj, hj6, rfl, rfl, rfl⟩ := hrel
    have HJ := Lib.hid hj
    have HUP := Lib.hid (fun h => lg_up (j := j) h1 h2 h)
    have HEQ := Lib.hid (fun h => lg_eq (j := j) h1 h2 h hj)
    have h6 := lg_cases h1 h2
    have hp6 := pow_le2 hj6
    have hp1 := pow_le2 (Nat.zero_le j)
    have HP2 := Lib.hid (show (2 : Int) ^ (j + 1) = 2 ^ j * 2 from Int.pow_succ 2 j)
    obtain ⟨P, hP⟩ : ∃ P : Int, (2 : Int) ^ j = P := ⟨_, rfl⟩
    rw [hP] at HUP HEQ HP2 hp6 hp1 ⊢
    have hp64 : P ≤ 64 := by simpa using hp6
    have hp0 : 1 ≤ P := by simpa using hp1
    have HLG := Lib.hid h6.2.2
    clear hj hp6 hp1 hP h6 H0
    by_cases hlt : P < n
    · have HN := Lib.hid (HUP.out hlt)
      go_wp2_with fail
      exact ⟨⟨j + 1, HN.out, by have := HN.out; have := HLG.out; omega, by go_num, by rw [HP2.out], rfl⟩, by simp [intOf]; omega⟩
    · have HN := Lib.hid (HEQ.out hlt)
      go_wp2_with fail
      go_ret
      exact ⟨ret_int (by rw [← HN.out]), rfl⟩
end Go.Proofs.YtcaeihfgdlffkaaGreatRRRRDoor.ShpT

/- States, plainly: events that were seen, trees that were grown, alerts; which are right. No program is in sight. -/
namespace Go.Proofs.YtcaeihfgdlffkaaGreatRRRRDoor.StM
set_option linter.unusedVariables false
open Base SeqM CfM RptC ScoX ShpM ShpM

/-- an event that was seen -/
structure Sn where
  id : Int
  xs : List Int
  p : Int
  q : Int
  sc : Bool
/-- a tree, and when it was grown -/
structure Gr where
  dim : Int
  nodes : List Nd
  born : Int
/-- an alert -/
structure Al where
  seq : Int
  id : Int
  p : Int
  q : Int
  lp : Int
  lq : Int
/-- all that a service knows -/
structure St where
  cf : Cf
  count : Int
  last : Int
  seq : Int
  win : List Sn
  forest : List Gr
  alerts : List Al
def I64 (x : Int) : Prop := -9223372036854775808 ≤ x ∧ x ≤ 9223372036854775807
/-- is an event right? -/
def seenB (dim : Int) (s : Sn) : Bool := decide (1 ≤ s.id ∧ s.id ≤ 1099511627776) && vecB s.xs dim && (if s.sc = true then isS s.p s.q else decide (s.p = 0 ∧ s.q = 0))
/-- are the events of a window right, behind one that was the last? -/
def winB (first dim : Int) : Int → Int → List Sn → Int → Bool
  | last, _, [], L => decide (L = last)
  | last, n, x :: r, L => decide (last < x.id) && (x.sc == decide (first < n + 1)) && seenB dim x && winB first dim x.id (n + 1) r L
def windowB (s : St) : Bool := decide ((s.win.length : Int) = min s.count s.cf.c1) && winB (nextC s.cf 0) s.cf.c0 0 (s.count - s.win.length) s.win s.last
/-- which of two scores is odder: 1: the first one -/
def odV (p q r s : Int) : Int := BigM.ord (r * q) (p * s)
def alB (a : Al) : Bool := decide (1 ≤ a.seq ∧ a.seq ≤ 1099511627776 ∧ 1 ≤ a.id ∧ a.id ≤ 1099511627776) && (isS a.p a.q && isS a.lp a.lq) && decide (0 ≤ odV a.p a.q a.lp a.lq)
/-- are alerts right, behind one that was the last? -/
def alsB (L : Int) : Int → Int → List Al → Bool
  | _, _, [] => true
  | last, n, a :: r => decide (a.seq = n + 1) && decide (last < a.id) && decide (a.id ≤ L) && alB a && alsB L a.id (n + 1) r
def alertsB (s : St) : Bool := decide (0 ≤ s.seq ∧ s.seq ≤ s.count ∧ (s.alerts.length : Int) ≤ min s.seq s.cf.c9) && alsB s.last 0 (s.seq - s.alerts.length) s.alerts
/-- the births of the trees at a count -/
def turnsC (c : Cf) (n : Int) : Int := max 0 (upC c n - upC c 0)
def birthAt (c : Cf) (T i : Int) : Int := nextC c 0 + (i + (T - 1 - i) / c.c2 * c.c2) * c.c4
def birthsL (c : Cf) (n : Int) : List Int := (List.range (min (turnsC c n) c.c2).toNat).map fun (i : Nat) => birthAt c (turnsC c n) (i : Int)
noncomputable def grownB (d : Int) (g : Gr) : Bool := decide (0 ≤ g.born ∧ g.born ≤ 1099511627776) && decide (g.dim = d) && isTB g.dim g.nodes
noncomputable def forestB (f : List Gr) : Bool := decide (f.length ≤ 16) && f.all (grownB ((f[0]?.map (·.dim)).getD 0))
def treeB (c : Cf) (b : Int) (g : Gr) : Bool := decide (g.born = b) && decide (g.dim = c.c0) && decide ((g.nodes[0]?.map (·.size)).getD 0 = c.c3)
noncomputable def treesB (s : St) : Bool := decide (s.forest.length = (birthsL s.cf s.count).length) && forestB s.forest && ((s.forest.zip (birthsL s.cf s.count)).all fun x => treeB s.cf x.2 x.1)
/-- IS A STATE RIGHT? -/
noncomputable def rightB (s : St) : Bool := confB s.cf && decide (cnt s.count) && windowB s && treesB s && alertsB s
end Go.Proofs.YtcaeihfgdlffkaaGreatRRRRDoor.StM

/- Reports, plainly: what a state's window is like, the text of that. No program is in sight. -/
namespace Go.Proofs.YtcaeihfgdlffkaaGreatRRRRDoor.RtxM
set_option linter.unusedVariables false
open Go.RowKit Base SeqM CfM RptM RptO RptC ScoX DevW ColW ClsW LevM StM

/-- what a window is like: how many events, of each column, how many of each level -/
structure Rp where
  ev : Int
  cols : List Col
  levs : List Int
def ptsL (l : List Sn) : List (List Int) := l.map (·.xs)
def scoL : List Sn → List (Int × Int)
  | [] => []
  | x :: r => if x.sc = true then (x.p, x.q) :: scoL r else scoL r
theorem pts_snoc (l : List Sn) (x : Sn) : ptsL (l ++ [x]) = ptsL l ++ [x.xs] := by unfold ptsL; simp
theorem scoL_app : ∀ (l m : List Sn), scoL (l ++ m) = scoL l ++ scoL m
  | [], m => rfl
  | x :: r, m => by
    rw [List.cons_append, scoL, scoL, scoL_app r m]
    split <;> rfl
theorem sco_snoc (l : List Sn) (x : Sn) : scoL (l ++ [x]) = scoL l ++ (if x.sc = true then [(x.p, x.q)] else []) := by
  rw [scoL_app]; rfl
theorem scoL_len : ∀ l : List Sn, (scoL l).length ≤ l.length
  | [] => Nat.le_refl _
  | x :: r => by
    have := scoL_len r
    rw [scoL, List.length_cons]
    split
    · rw [List.length_cons]; omega
    · omega
theorem scoL_mem : ∀ {l : List Sn} {y : Int × Int}, y ∈ scoL l → ∃ x ∈ l, x.sc = true ∧ y = (x.p, x.q)
  | [], y, h => by cases h
  | x :: r, y, h => by
    rw [scoL] at h
    split at h
    · rename_i hs
      rcases List.mem_cons.1 h with rfl | h
      · exact ⟨x, by simp, hs, rfl⟩
      · obtain ⟨z, hz, h2⟩ := scoL_mem h
        exact ⟨z, by simp [hz], h2⟩
    · obtain ⟨z, hz, h2⟩ := scoL_mem h
      exact ⟨z, by simp [hz], h2⟩
noncomputable def repL (s : St) : Rp := if rightB s = true then ⟨s.win.length, colsL (ptsL s.win) s.cf.c0, levL (scoL s.win) s.cf.c3⟩ else ⟨0, [], []⟩
noncomputable def repE (s : St) : Int := if rightB s = true then 0 else 280
theorem rep_yes {s : St} (h : rightB s = true) : repL s = ⟨s.win.length, colsL (ptsL s.win) s.cf.c0, levL (scoL s.win) s.cf.c3⟩ ∧ repE s = 0 := ⟨if_pos h, if_pos h⟩
theorem rep_no {s : St} (h : rightB s = false) : repL s = ⟨0, [], []⟩ ∧ repE s = 280 := ⟨if_neg (by rw [h]; decide), if_neg (by rw [h]; decide)⟩
/-- what a text needs to know of a report -/
def ColOk (c : Col) : Prop := I64 c.least ∧ I64 c.most ∧ I64 c.mid ∧ (-9223372036854775807 ≤ c.sum ∧ c.sum ≤ 9223372036854775807) ∧ Spr c.sp
def RpOk (r : Rp) : Prop := (0 ≤ r.ev ∧ r.ev ≤ 256) ∧ (r.cols ≠ [] → 1 ≤ r.ev) ∧ r.cols.length ≤ 8 ∧ (∀ c ∈ r.cols, ColOk c) ∧ r.levs.length ≤ 11 ∧ ∀ x ∈ r.levs, 0 ≤ x ∧ x ≤ 256
/-- numbers, a blank ahead of each -/
def rowT (l : List Int) : List UInt8 := l.flatMap fun n => 32 :: Lib.itoa n
theorem rowT_cons (n : Int) (l : List Int) : rowT (n :: l) = 32 :: Lib.itoa n ++ rowT l := by unfold rowT; simp
theorem rowT_snoc (l : List Int) (n : Int) : rowT (l ++ [n]) = rowT l ++ (32 :: Lib.itoa n) := by unfold rowT; simp
theorem itoa_le {n : Int} (h : I64 n) : (Lib.itoa n).length ≤ 21 := Lib.itoa_length_le n h.1 h.2
theorem rowT_le : ∀ {l : List Int}, (∀ n ∈ l, I64 n) → (rowT l).length ≤ 22 * l.length
  | [], _ => by unfold rowT; simp
  | n :: l, h => by
    have h1 := rowT_le (l := l) (fun m hm => h m (by simp [hm]))
    have h2 := itoa_le (h n (by simp))
    rw [rowT_cons, List.length_append, List.length_cons, List.length_cons]
    omega
def wEv : List UInt8 := [101, 118, 101, 110, 116, 115]
def wCo : List UInt8 := [99, 111, 108, 117, 109, 110]
def wLe : List UInt8 := [108, 101, 118, 101, 108]
/-- a line: a word, a number; a colon and more of them -/
def lineT (w : List UInt8) (i : Int) (l : List Int) : List UInt8 := w ++ rowT [i] ++ (if l = [] then [] else 58 :: rowT l) ++ [10]
theorem lineT_nil (w : List UInt8) (i : Int) : lineT w i [] = w ++ rowT [i] ++ [10] := by unfold lineT; simp
theorem lineT_some (w : List UInt8) (i : Int) {l : List Int} (h : l ≠ []) : lineT w i l = w ++ rowT [i] ++ (58 :: rowT l) ++ [10] := by unfold lineT; rw [if_neg h]
theorem lineT_le {w : List UInt8} {i : Int} {l : List Int} (hw : w.length ≤ 6) (hi : I64 i) (hl : ∀ n ∈ l, I64 n) : (lineT w i l).length ≤ 30 + 22 * l.length := by
  have h1 := rowT_le (l := [i]) (fun n hn => by obtain rfl := List.mem_singleton.1 hn; exact hi)
  have h2 := rowT_le hl
  unfold lineT
  rw [List.length_append, List.length_append, List.length_append]
  simp only [List.length_cons, List.length_nil] at h1 ⊢
  split
  · simp only [List.length_nil]; omega
  · rw [List.length_cons]; omega
def colNs (ev : Int) (c : Col) : List Int := [c.least, c.mid, c.most, c.sum / ev, devV c.sp ev]
def colT (ev : Int) (i : Nat) (c : Col) : List UInt8 := lineT wCo i (colNs ev c)
def levT (i : Nat) (n : Int) : List UInt8 := if n = 0 then [] else lineT wLe i [n]
def idx {α : Type} (f : Nat → α → List UInt8) (l : List α) (k : Nat) : List UInt8 := (List.range k).flatMap fun i => match l[i]? with | some x => f i x | none => []
theorem idx_zero {α : Type} (f : Nat → α → List UInt8) (l : List α) : idx f l 0 = [] := rfl
theorem idx_succ {α : Type} (f : Nat → α → List UInt8) {l : List α} {k : Nat} {x : α} (h : l[k]? = some x) : idx f l (k + 1) = idx f l k ++ f k x := by
  unfold idx
  rw [List.range_succ, List.flatMap_append]
  simp [h]
theorem idx_le {α : Type} (f : Nat → α → List UInt8) (l : List α) (b : Nat) (h : ∀ i x, l[i]? = some x → (f i x).length ≤ b) : ∀ k, (idx f l k).length ≤ b * k
  | 0 => Nat.le_of_eq (by rw [idx_zero]; rfl)
  | k + 1 => by
    have h1 := idx_le f l b h k
    cases hx : l[k]? with
    | some x =>
      have h2 := h k x hx
      rw [idx_succ f hx, List.length_append, Nat.mul_succ]
      omega
    | none =>
      have : idx f l (k + 1) = idx f l k := by
        unfold idx
        rw [List.range_succ, List.flatMap_append]
        simp [hx]
      rw [this, Nat.mul_succ]
      omega
/-- THE TEXT OF A REPORT -/
def repT (r : Rp) : List UInt8 := lineT wEv r.ev [] ++ idx (colT r.ev) r.cols r.cols.length ++ idx levT r.levs r.levs.length
theorem dev_bd (a n : Int) (h : Spr a) : 0 ≤ devV a n ∧ devV a n ≤ 9223372036854775807 := by
  unfold devV
  split
  · omega
  · split
    · omega
    · rename_i h1 h2
      exact ⟨Int.ediv_nonneg (by omega) (by omega), by omega⟩
theorem mean_bd {a n : Int} (hn : 1 ≤ n) (h : -9223372036854775807 ≤ a ∧ a ≤ 9223372036854775807) : I64 (a / n) := by
  have h1 := Int.mul_ediv_add_emod a n
  have h2 := Int.emod_nonneg a (show n ≠ 0 by omega)
  have h3 := Int.emod_lt_of_pos a (show 0 < n by omega)
  unfold I64
  rcases Int.lt_or_le a 0 with ha | ha
  · have h4 : a ≤ a / n := by
      rw [Int.le_ediv_iff_mul_le (by omega)]
      have : 0 ≤ -a * (n - 1) := Int.mul_nonneg (by omega) (by omega)
      have e : -a * (n - 1) = -(a * n) + a := by rw [Int.mul_sub, Int.neg_mul, Int.mul_one]; omega
      omega
    have h5 : a / n < 0 := Int.ediv_neg_of_neg_of_pos ha (by omega)
    omega
  · have h4 := Int.ediv_le_self n ha
    have h5 : 0 ≤ a / n := Int.ediv_nonneg ha (by omega)
    omega
theorem colNs_ok {ev : Int} {c : Col} (hev : 1 ≤ ev) (h : ColOk c) : ∀ n ∈ colNs ev c, I64 n := by
  intro n hn
  have hd := dev_bd c.sp ev h.2.2.2.2
  have hm := mean_bd hev h.2.2.2.1
  simp only [colNs, List.mem_cons, List.not_mem_nil, or_false] at hn
  rcases hn with rfl | rfl | rfl | rfl | rfl
  · exact h.1
  · exact h.2.2.1
  · exact h.2.1
  · exact hm
  · unfold I64; omega
theorem colT_le {r : Rp} (h : RpOk r) (i : Nat) (c : Col) (hc : r.cols[i]? = some c) : (colT r.ev i c).length ≤ 140 := by
  have hm := List.mem_of_getElem? hc
  have hi := (List.getElem?_eq_some_iff.1 hc).1
  obtain ⟨h1, h2, h3, h4, _⟩ := h
  have h5 := h2 (by intro e; rw [e] at hm; cases hm)
  have := lineT_le (w := wCo) (i := (i : Int)) (by decide) (by unfold I64; omega) (colNs_ok h5 (h4 c hm))
  unfold colT
  simp only [colNs, List.length_cons, List.length_nil] at this ⊢
  omega
theorem levT_le {r : Rp} (h : RpOk r) (i : Nat) (n : Int) (hn : r.levs[i]? = some n) : (levT i n).length ≤ 60 := by
  have hm := List.mem_of_getElem? hn
  have hi := (List.getElem?_eq_some_iff.1 hn).1
  obtain ⟨_, _, _, _, h5, h6⟩ := h
  have h7 := h6 n hm
  have := lineT_le (w := wLe) (i := (i : Int)) (l := [n]) (by decide) (by unfold I64; omega) (fun m hm => by obtain rfl := List.mem_singleton.1 hm; unfold I64; omega)
  unfold levT
  split
  · simp
  · simp only [List.length_cons, List.length_nil] at this
    omega
theorem cols_le {r : Rp} (h : RpOk r) (k : Nat) (hk : k ≤ r.cols.length) : (idx (colT r.ev) r.cols k).length ≤ 1200 := by
  have h1 := idx_le (colT r.ev) r.cols 140 (colT_le h) k
  have h2 := h.2.2.1
  omega
theorem levs_le {r : Rp} (h : RpOk r) (k : Nat) (hk : k ≤ r.levs.length) : (idx levT r.levs k).length ≤ 700 := by
  have h1 := idx_le levT r.levs 60 (levT_le h) k
  have h2 := h.2.2.2.2.1
  omega
theorem sortR_at {l : List Int} (h : Nm l) (i : Nat) : -2147483648 ≤ (sortR l).getD i 0 ∧ (sortR l).getD i 0 ≤ 2147483647 := by
  rw [List.getD_eq_getElem?_getD]
  cases hx : (sortR l)[i]? with
  | none => simp
  | some x =>
    have := h x ((sortR_perm l).mem_iff.1 (List.mem_of_getElem? hx))
    simpa using this
theorem colOf_ok {l : List Int} (h : Nm l) (hl : l.length ≤ 256) : ColOk (colOf l) := by
  have h1 := sortR_at h 0
  have h2 := sortR_at h (l.length - 1)
  have h3 := sortR_at h ((l.length + 1) / 2 - 1)
  have h4 := sum1_le l h
  have h5 := (spread_bd h hl).1
  unfold ColOk colOf I64 Spr
  dsimp only
  omega
theorem cols_ok (l : List (List Int)) (dim : Int) : (colsL l dim).length ≤ 8 ∧ (colsL l dim ≠ [] → 1 ≤ l.length) ∧ ∀ c ∈ colsL l dim, ColOk c := by
  unfold colsL
  split
  · rename_i h
    obtain ⟨h1, h2, h3⟩ := h
    obtain ⟨x, hx⟩ : ∃ x, l[0]? = some x := ⟨_, List.getElem?_eq_getElem h2⟩
    have h4 := (vec_nm (allV_at h3 hx)).1
    refine ⟨by rw [List.length_map, List.length_range]; omega, fun _ => h2, fun c hc => ?_⟩
    obtain ⟨k, hk, rfl⟩ := List.mem_map.1 hc
    have hk' := List.mem_range.1 hk
    exact colOf_ok (colK_nm h3 (by omega)) (by rw [colK_length]; exact h1)
  · exact ⟨Nat.zero_le _, fun h => absurd rfl h, fun c hc => by cases hc⟩
theorem levs_ok (l : List (Int × Int)) (n : Int) (hl : l.length ≤ 256) : (levL l n).length ≤ 11 ∧ ∀ x ∈ levL l n, 0 ≤ x ∧ x ≤ 256 := by
  by_cases h : 2 ≤ n ∧ n ≤ 64
  · cases hv : lev isS (hund n) zeros l with
    | none => rw [(lev_no h hv).1]; exact ⟨Nat.zero_le _, fun x hx => by cases hx⟩
    | some o =>
      rw [(lev_yes h hv).1]
      have h1 := lev_length hv
      have h2 := lev_le (B := 0) (by omega) (fun x hx => by rw [List.eq_of_mem_replicate hx]; omega) hv
      refine ⟨by rw [h1]; simp [zeros], fun x hx => ?_⟩
      have := h2 x hx
      omega
  · rw [(lev_arg h).1]; exact ⟨Nat.zero_le _, fun x hx => by cases hx⟩
theorem right_win {s : St} (h : rightB s = true) : confOk s.cf ∧ s.win.length ≤ 256 := by
  unfold rightB at h
  simp only [Bool.and_eq_true] at h
  obtain ⟨⟨⟨⟨h1, h2⟩, h3⟩, _⟩, _⟩ := h
  have hc : confOk s.cf := of_decide_eq_true h1
  unfold windowB at h3
  rw [Bool.and_eq_true] at h3
  have h4 := of_decide_eq_true h3.1
  have hc1 : s.cf.c1 ≤ 256 := by unfold confOk at hc; omega
  exact ⟨hc, by omega⟩
/-- what is told of a right state may be shown -/
theorem rep_ok (s : St) (hr : rightB s = true) : RpOk (repL s) := by
  rw [(rep_yes hr).1]
  have h1 := right_win hr
  have h2 := cols_ok (ptsL s.win) s.cf.c0
  have h3 := levs_ok (scoL s.win) s.cf.c3 (Nat.le_trans (scoL_len _) h1.2)
  have h4 : (ptsL s.win).length = s.win.length := by unfold ptsL; simp
  refine ⟨by dsimp only; omega, fun h => by have := h2.2.1 h; rw [h4] at this; dsimp only; omega, h2.1, h2.2.2, h3.1, h3.2⟩
end Go.Proofs.YtcaeihfgdlffkaaGreatRRRRDoor.RtxM

/- States in memory: what a state's value and the rows behind it are. -/
namespace Go.Proofs.YtcaeihfgdlffkaaGreatRRRRDoor.StV
set_option linter.unusedVariables false
open Go.RowKit Base SeqM CfM RptC ScoX ShpM ShpT StM

def snC (r : Value × Sn) : List Value := [.int .i64 r.2.id, r.1, .int .i64 r.2.p, .int .i64 r.2.q, .bool r.2.sc]
theorem snC_len (r : Value × Sn) : (snC r).length = 5 := rfl
def grC (r : Value × Gr) : List Value := [.int .i64 r.2.dim, r.1, .int .i64 r.2.born]
theorem grC_len (r : Value × Gr) : (grC r).length = 3 := rfl
def alC (a : Al) : List Value := [.int .i64 a.seq, .int .i64 a.id, .int .i64 a.p, .int .i64 a.q, .int .i64 a.lp, .int .i64 a.lq]
theorem alC_len (a : Al) : (alC a).length = 6 := rfl
/-- the numbers of an event, of an alert are within their kind -/
def SnI (s : Sn) : Prop := I64 s.id ∧ Fit s.p s.q
def AlI (a : Al) : Prop := I64 a.seq ∧ I64 a.id ∧ Fit a.p a.q ∧ Fit a.lp a.lq
def GrI (g : Gr) : Prop := I64 g.born
/-- a row of events -/
def Sns (w : World) (lo B : Nat) (v : Value) (l : List Sn) : Prop := ∃ rs : List (Value × Sn), rs.map (·.2) = l ∧ Seq 5 snC w lo B v rs ∧ ∀ r ∈ rs, Seq 1 inC w lo B r.1 r.2.xs
theorem Sns.below {w w' : World} {lo B : Nat} {v : Value} {l : List Sn} (h : Sns w lo B v l) (hb : Below B w w') : Sns w' lo B v l := by
  obtain ⟨rs, h1, h2, h3⟩ := h
  exact ⟨rs, h1, h2.below hb, fun r hr => (h3 r hr).below hb⟩
theorem Sns.more {w : World} {lo lo' B B' : Nat} {v : Value} {l : List Sn} (h : Sns w lo B v l) (hl : lo' ≤ lo) (hB : B ≤ B') : Sns w lo' B' v l := by
  obtain ⟨rs, h1, h2, h3⟩ := h
  exact ⟨rs, h1, h2.more hl hB, fun r hr => (h3 r hr).more hl hB⟩
theorem Sns.up {w w' : World} {lo : Nat} {v : Value} {l : List Sn} (h : Sns w lo w.heap.size v l) (hb : Below w.heap.size w w') : Sns w' lo w'.heap.size v l := (h.below hb).more (Nat.le_refl _) hb.size
theorem Sns.form {w : World} {lo B : Nat} {v : Value} {l : List Sn} (h : Sns w lo B v l) : ∃ A cap, v = .slice A l.length cap ∧ l.length ≤ cap ∧ cap ≤ 9223372036854775807 ∧ (A = none → cap = 0) := by
  obtain ⟨rs, rfl, ⟨A, cap, e, h1, h2, _, h4⟩, _⟩ := h
  unfold maxLen at h2
  exact ⟨A, cap, by simpa using e, by simpa using h1, by omega, h4⟩
theorem Sns.get {w : World} {lo B : Nat} {A : Option Addr} {n cap : Nat} {l : List Sn} (h : Sns w lo B (.slice A n cap) l) {i : Nat} {x : Sn} (hx : l[i]? = some x) :
    ∃ (ad : Addr) (xv : Value), A = some ad ∧ ad.block < B ∧ (∀ j u, (snC (xv, x))[j]? = some u → w.cell? (ad.add (i * 5 + j)) = some u) ∧ Seq 1 inC w lo B xv x.xs := by
  obtain ⟨rs, rfl, ⟨A', cap', e, _, _, hr, _⟩, hc⟩ := h
  obtain ⟨rfl, _⟩ : A = A' ∧ True := by injection e with e1; exact ⟨e1, trivial⟩
  rw [List.getElem?_map] at hx
  obtain ⟨r, hr1, rfl⟩ := Option.map_eq_some_iff.1 hx
  obtain ⟨ad, y, rfl, _, hb, hy, hcell⟩ := rdk snC_len hr (List.getElem?_eq_some_iff.1 hr1).1
  rw [hr1] at hy
  obtain rfl := Option.some.inj hy
  exact ⟨ad, r.1, rfl, hb, hcell, hc r (List.mem_of_getElem? hr1)⟩
/-- a row of trees that were grown -/
def Grs (w : World) (lo B : Nat) (v : Value) (l : List Gr) : Prop := ∃ rs : List (Value × Gr), rs.map (·.2) = l ∧ Seq 3 grC w lo B v rs ∧ ∀ r ∈ rs, Nds w lo B r.1 r.2.nodes
theorem Grs.below {w w' : World} {lo B : Nat} {v : Value} {l : List Gr} (h : Grs w lo B v l) (hb : Below B w w') : Grs w' lo B v l := by
  obtain ⟨rs, h1, h2, h3⟩ := h
  exact ⟨rs, h1, h2.below hb, fun r hr => (h3 r hr).below hb⟩
theorem Grs.more {w : World} {lo lo' B B' : Nat} {v : Value} {l : List Gr} (h : Grs w lo B v l) (hl : lo' ≤ lo) (hB : B ≤ B') : Grs w lo' B' v l := by
  obtain ⟨rs, h1, h2, h3⟩ := h
  exact ⟨rs, h1, h2.more hl hB, fun r hr => (h3 r hr).more hl hB⟩
theorem Grs.up {w w' : World} {lo : Nat} {v : Value} {l : List Gr} (h : Grs w lo w.heap.size v l) (hb : Below w.heap.size w w') : Grs w' lo w'.heap.size v l := (h.below hb).more (Nat.le_refl _) hb.size
theorem Grs.form {w : World} {lo B : Nat} {v : Value} {l : List Gr} (h : Grs w lo B v l) : ∃ A cap, v = .slice A l.length cap ∧ l.length ≤ cap ∧ cap ≤ 9223372036854775807 ∧ (A = none → cap = 0) := by
  obtain ⟨rs, rfl, ⟨A, cap, e, h1, h2, _, h4⟩, _⟩ := h
  unfold maxLen at h2
  exact ⟨A, cap, by simpa using e, by simpa using h1, by omega, h4⟩
theorem Grs.get {w : World} {lo B : Nat} {A : Option Addr} {n cap : Nat} {l : List Gr} (h : Grs w lo B (.slice A n cap) l) {i : Nat} {x : Gr} (hx : l[i]? = some x) :
    ∃ (ad : Addr) (xv : Value), A = some ad ∧ ad.block < B ∧ (∀ j u, (grC (xv, x))[j]? = some u → w.cell? (ad.add (i * 3 + j)) = some u) ∧ Nds w lo B xv x.nodes := by
  obtain ⟨rs, rfl, ⟨A', cap', e, _, _, hr, _⟩, hc⟩ := h
  obtain ⟨rfl, _⟩ : A = A' ∧ True := by injection e with e1; exact ⟨e1, trivial⟩
  rw [List.getElem?_map] at hx
  obtain ⟨r, hr1, rfl⟩ := Option.map_eq_some_iff.1 hx
  obtain ⟨ad, y, rfl, _, hb, hy, hcell⟩ := rdk grC_len hr (List.getElem?_eq_some_iff.1 hr1).1
  rw [hr1] at hy
  obtain rfl := Option.some.inj hy
  exact ⟨ad, r.1, rfl, hb, hcell, hc r (List.mem_of_getElem? hr1)⟩
/-- the cells of a state -/
def stC (s : St) (wv fv av : Value) : List Value := cfC s.cf ++ [.int .i64 s.count, .int .i64 s.last, .int .i64 s.seq, wv, fv, av]
theorem stC_len (s : St) (wv fv av : Value) : (stC s wv fv av).length = 17 := rfl
/-- A STATE IN MEMORY: its rows lie there, below B -/
def StIn (w : World) (B : Nat) (s : St) (wv fv av : Value) : Prop := Sns w 0 B wv s.win ∧ Grs w 0 B fv s.forest ∧ Seq 6 alC w 0 B av s.alerts
theorem StIn.below {w w' : World} {B : Nat} {s : St} {wv fv av : Value} (h : StIn w B s wv fv av) (hb : Below B w w') : StIn w' B s wv fv av := ⟨h.1.below hb, h.2.1.below hb, h.2.2.below hb⟩
theorem StIn.up {w w' : World} {s : St} {wv fv av : Value} (h : StIn w w.heap.size s wv fv av) (hb : Below w.heap.size w w') : StIn w' w'.heap.size s wv fv av := ⟨h.1.up hb, h.2.1.up hb, h.2.2.up hb⟩
/-- the numbers of a state are within their kind -/
def StI (s : St) : Prop := (I64 s.cf.c0 ∧ I64 s.cf.c1 ∧ I64 s.cf.c7) ∧ I64 s.count ∧ I64 s.last ∧ I64 s.seq ∧ (∀ x ∈ s.win, SnI x) ∧ (∀ g ∈ s.forest, GrI g) ∧ (∀ a ∈ s.alerts, AlI a)
end Go.Proofs.YtcaeihfgdlffkaaGreatRRRRDoor.StV
