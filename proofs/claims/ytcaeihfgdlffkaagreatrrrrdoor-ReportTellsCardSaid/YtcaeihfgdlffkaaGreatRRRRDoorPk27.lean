/- The document's Sorted of numbers, walked (printed by mkrst.py). -/
import Derived.Test.YtcaeihfgdlffkaaGreatRRRRDoorRows
import Derived.Test.YtcaeihfgdlffkaaGreatRRRRDoorPk00
import Derived.Test.YtcaeihfgdlffkaaGreatRRRRDoorPk06
import Derived.Laws.AppendOwnNone
import Derived.Deep.QuietTactic
import Derived.Test.YtcaeihfgdlffkaaGreatRRRRDoorPk05
import Derived.Test.YtcaeihfgdlffkaaGreatRRRRDoorPk01
import Derived.Test.YtcaeihfgdlffkaaGreatRRRRDoorPk07
namespace Go.Proofs.YtcaeihfgdlffkaaGreatRRRRDoor.RstW
set_option linter.unusedVariables false
set_option linter.unusedSimpArgs false
open Go.RowKit Base SeqM RptM RptC

section
variable {P : Program}
/-- 's = append(s, x...)': whatever is read behind x, nothing of it too. -/
theorem appS {ops : Array Oper} {rest : List Oper} {o : Oper} {a : Act} {Q : Exit → Act → World → Prop} {w : World} (hgd : o.guard = none) (s x : Operand) (t : TypeId)
    (ho : o.op = .call { callee := .builtin .append, args := #[s, x], argTypes := #[t, t] })
    {e : TypeId} {z : Value} {size bytes : Nat} (E : Elt P t e z size bytes) (base : Nat) (v : Value) (n : Nat) (xs : List Value) (hs : a.eval s = v)
    (hown : w.ownsRow base e size v n xs) {A : Option Addr} {m c lo B : Nat} {news : List Value} (hx : a.eval x = .slice A m c) (hr : Rd w lo B size A m news) (hz : A = none → c = 0) (h1 : ∀ u ∈ news, u.oneCell' = true)
    (hn : n + m ≤ 1073741824) (hbase : base ≤ w.heap.size)
    (h : ∀ v' w', w'.ownsRow base e size v' (n + m) (xs ++ news) → w.grownBy w' v.ownBlock → wpList P ops Q rest (a.put o.dst v') w') :
    wpList P ops Q (o :: rest) a w := by
  obtain ⟨ht, h0, hby, i, hi, hzz, hsz, hbs, hzs⟩ := E
  have hb : (n + m) * bytes ≤ 140737488355328 := by
    have h2 : (n + m) * bytes ≤ 1073741824 * 131072 := Nat.mul_le_mul hn hby
    omega
  cases A with
  | none =>
    have hm : m = 0 := by
      rcases Nat.eq_zero_or_pos m with h' | h'
      · exact h'
      · obtain ⟨ad, e, _⟩ := hr.2 h'
        cases e
    subst hm
    have hnil : news = [] := List.eq_nil_of_length_eq_zero (by have := hr.1; omega)
    subst hnil
    rw [hz rfl] at hx
    refine wpList_append_own_none hgd s x t ho base e i size ht hi v n xs hs hown hx ?_
    refine h v w (by simpa using hown) ⟨rfl, rfl, rfl, Nat.le_refl _, fun _ _ _ => rfl⟩
  | some ad =>
    refine wpList_append_own w hgd s x t ho base e i z size bytes ht hi hzz hsz hbs hzs h0 v n xs hs hown ad m c news hx hr.1 ?_ h1 (by unfold maxLen; omega) hb hbase (fun v' w' h2 h3 _ => h v' w' h2 h3)
    intro j u hu
    have hj : j < news.length := (List.getElem?_eq_some_iff.1 hu).1
    have hm : 0 < m := by
      rcases Nat.eq_zero_or_pos m with h' | h'
      · have := hr.1; rw [h'] at this; omega
      · exact h'
    obtain ⟨ad2, e, _, _, hc⟩ := hr.2 hm
    injection e with e
    subst e
    exact hc j u hu
end
theorem own_empty (W : World) (t : TypeId) : (W.alloc (.cells #[] t)).ownsRow W.heap.size t 1 (.slice (some ⟨W.heap.size, 0, none⟩) 0 0) 0 [] :=
  ⟨by simp, .inr ⟨W.heap.size, 0, #[], rfl, Nat.le_refl _, heap_alloc_new W _, Nat.le_refl _, by unfold maxLen; omega, by simp, by simp⟩⟩
theorem eltI : Elt Tryz.prog 32 3 (.int .i64 0) 1 8 := elt_mk (z := .int .i64 0) Tryz.underlying32 (by kernel_rfl) rfl (by omega) (by omega)
theorem flat_take (l : List Int) (k : Nat) : (l.flatMap inC).take (k * 1) = (l.take k).flatMap inC := by
  rw [Nat.mul_one]
  induction l generalizing k with
  | nil => simp
  | cons x r ih => cases k with
    | zero => rfl
    | succ k => rw [List.take_succ_cons, List.flatMap_cons, List.flatMap_cons, ← ih]; rfl
theorem flat_drop (l : List Int) (k : Nat) : (l.flatMap inC).drop (k * 1) = (l.drop k).flatMap inC := by
  rw [Nat.mul_one]
  induction l generalizing k with
  | nil => simp
  | cons x r ih => cases k with
    | zero => rfl
    | succ k => rw [List.drop_succ_cons, List.flatMap_cons, ← ih]; rfl
theorem rd_one (w : World) (x : Int) : Rd (w.alloc (.cells #[.int .i64 x] 3)) w.heap.size (w.heap.size + 1) 1 (some ⟨w.heap.size, 0, none⟩) 1 [.int .i64 x] :=
  ⟨rfl, fun _ => ⟨⟨w.heap.size, 0, none⟩, rfl, Nat.le_refl _, by show w.heap.size < _; omega, World.news_of_block (heap_alloc_new w _)⟩⟩
theorem ins_at {x : Int} : ∀ {l : List Int} {k : Nat}, (∀ j y, j < k → l[j]? = some y → y ≤ x) → (l.length ≤ k ∨ ∃ y, l[k]? = some y ∧ ¬ y ≤ x) → insR x l = l.take k ++ x :: l.drop k
  | [], k, _, _ => by simp [insR]
  | y :: r, 0, _, hk => by
    rcases hk with h | ⟨z, hz, hn⟩
    · simp at h
    · obtain rfl : y = z := by simpa using hz
      rw [insR, if_neg hn]; rfl
  | y :: r, k + 1, h, hk => by
    rw [insR, if_pos (h 0 y (by omega) rfl), ins_at (k := k) (fun j z hj hz => h (j + 1) z (by omega) (by simpa using hz)) (hk.imp (fun h => by simpa using h) (fun ⟨z, hz, hn⟩ => ⟨z, by simpa using hz, hn⟩))]
    rfl
def OutRel (l : List Int) (w : World) (vo vi : Value) (wr : World) : Prop := ∃ i : Nat, i ≤ l.length ∧ vi = .int .i64 i ∧ Seq 1 inC wr w.heap.size wr.heap.size vo (sortR (l.take i)) ∧ Below w.heap.size w wr
def InRel (x : Int) (out : List Int) (wo : World) (vk : Value) (wr : World) : Prop := ∃ k : Nat, k ≤ out.length ∧ vk = .int .i64 k ∧ (∀ j y, j < k → out[j]? = some y → y ≤ x) ∧ Below wo.heap.size wo wr
set_option maxHeartbeats 4000000 in
set_option maxRecDepth 100000 in
theorem RSorted_any (v : Value) (l : List Int) (lo : Nat) (w : World) (h1 : Seq 1 inC w lo w.heap.size v l) (hm : l.length ≤ 1000000) :
    Calls Tryz.prog 81 #[v] w fun e w' => (∃ u, e = .returned u ∧ Seq 1 inC w' w.heap.size w'.heap.size u (sortR l)) ∧ Below w.heap.size w w' := by
  obtain ⟨A, cap, rfl, hc1, hc2, hr, hz⟩ := h1
  unfold maxLen at hc2
  have HR := Lib.hid hr
  obtain ⟨n, hn⟩ : ∃ n, l.length = n := ⟨_, rfl⟩
  rw [hn] at hc1 hm ⊢
  have HN := Lib.hid hn
  clear hr hz hn
  go_enter Tryz.func81, Tryz.ntmps81
  go_wp2_with fail
  go_loopw [3, 4] (fun vo vi wr => OutRel l w vo vi wr) (fun _ vi _ => n - (intOf vi).toNat)
  case atStart => exact ⟨0, Nat.zero_le _, rfl, Seq.nil_, Below.refl _ _⟩
  case round =>
    obtain ⟨i, hi, rfl, hout, hbel⟩ := hrel
    rename World => wo
    rw [HN.out] at hi
    have hlen : (sortR (l.take i)).length = i := by rw [sortR_length, List.length_take, HN.out]; omega
    have HOUT := Lib.hid hout
    have HB := Lib.hid hbel
    by_cases hlt : i < n
    · obtain ⟨ad, x, rfl, hlo, hb, hx, x1⟩ := rdI (HR.out.below HB.out) (i := i) (by rw [HN.out]; exact hlt)
      have HNEXT := Lib.hid (show sortR (l.take (i + 1)) = insR x (sortR (l.take i)) by rw [SeqM.take_next hx, sortR_snoc])
      obtain ⟨out, ho⟩ : ∃ out, sortR (l.take i) = out := ⟨_, rfl⟩
      rw [ho] at HOUT HNEXT hout hlen
      obtain ⟨Ao, co, rfl, hd1, hd2, hs, hzo⟩ := hout
      unfold maxLen at hd2
      have HS := Lib.hid hs
      have HZO := Lib.hid hzo
      have hsz := hbel.size
      obtain ⟨m, hm2⟩ : ∃ m, out.length = m := ⟨_, rfl⟩
      rw [hm2] at hd1 hlen ⊢
      have HM := Lib.hid hm2
      have hs2 := hs
      rw [hm2] at hs2
      have HSM := Lib.hid hs2
      have hmn : m < n := by omega
      have hm6 : m ≤ 1000000 := by omega
      clear hs2 hx hs hzo hm2 hbel ho hlen
      go_wp2_with fail
      go_loopw [5] (fun vk wr => InRel x out wo vk wr) (fun vk _ => m - (intOf vk).toNat)
      case atStart => exact ⟨0, Nat.zero_le _, rfl, fun j y hj => by omega, Below.refl _ _⟩
      case round =>
        obtain ⟨k, hk, rfl, hkey, hbi⟩ := hrel
        rw [HM.out] at hk
        have HKEY := Lib.hid hkey
        have HBI := Lib.hid hbi
        have hszi := hbi.size
        clear hkey hbi
        by_cases hkm : k < m
        · obtain ⟨ado, y, rfl, hloo, hbo, hy, y1⟩ := rdI (HS.out.below HBI.out) (i := k) (by rw [HM.out]; exact hkm)
          have HY := Lib.hid hy
          have p1 : wr.cell? (ad.add i) = some (.int .i64 x) := (HBI.out.cell (by rw [add_block]; omega)).trans x1
          have hkI : (k : Int) < (m : Int) := by omega
          have hgd1 : decide (k < m) = true := decide_eq_true hkm
          clear hy
          by_cases hle : y ≤ x
          · go_wp2_with fail
            go_quiet (fail)
            go_wp2_with fail
            refine ⟨⟨k + 1, by rw [HM.out]; omega, by go_num, fun j z hj hz => ?_, below_drewN HBI.out nq⟩, by simp [intOf]; omega⟩
            by_cases hjk : j < k
            · exact HKEY.out j z hjk hz
            · obtain rfl : j = k := by omega
              have := HY.out
              rw [hz] at this
              obtain rfl := Option.some.inj this
              exact hle
          · have HEQ := Lib.hid (ins_at HKEY.out (.inr ⟨y, HY.out, hle⟩))
            have HCK := Lib.hid (show ¬ co = k by omega)
            have hck := HCK.out
            go_wp2_with fail
            go_quiet (fail)
            have HB4 := Lib.hid (below_drewN HBI.out nq)
            obtain ⟨w4, hw4⟩ : ∃ w4, wr.drewN nq = w4 := ⟨_, rfl⟩
            rw [hw4] at HB4 ⊢
            clear hw4 y1 p1
            have hszw : wo.heap.size ≤ w4.heap.size := HB4.out.size
            have g1 : w4.cell? (ad.add i) = some (.int .i64 x) := (HB4.out.cell (by rw [add_block]; omega)).trans x1
            have RDT := Lib.hid (show Rd (w4.alloc (.cells #[] 3)) w.heap.size wo.heap.size 1 (some ado) k ((out.take k).flatMap inC) by rw [← flat_take]; exact ((HSM.out.below HB4.out).take hk).below' (below_a1 w4 _) hszw)
            have RDD := Lib.hid (show Rd w4 w.heap.size wo.heap.size 1 (some (ado.add k)) (m - k) ((out.drop k).flatMap inC) by
              rw [← flat_drop]
              have := (HSM.out.below HB4.out).cut hk hd1
              first | exact this | (rw [if_neg HCK.out] at this; simpa using this) | (rw [if_pos HCK.out] at this; exact this) | (simpa using this))
            have hkI2 : (k : Int) ≤ (co : Int) := by omega
            have hkJ : (k : Int) ≤ (m : Int) := by omega
            go_wp2_with (at_builtin; first
              | (refine appS rfl (.tmp 30) (.tmp 33) _ rfl eltI w4.heap.size (.slice (some ⟨w4.heap.size, 0, none⟩) 0 0) 0 [] rfl (own_empty w4 _) rfl RDT.out (fun h => by cases h) (one_int _) (by omega) (by simp) ?_
                 intro v5 w5 hown5 hg5
                 have HO5 := Lib.hid hown5
                 have HB5 := Lib.hid ((below_a1 w4 (.cells #[] 3)).grown hg5 (by simp) (fun k hk => by obtain rfl := Option.some.inj hk; exact Nat.le_refl _))
                 have hs5 := HB5.out.size
                 clear hown5 hg5
                 have r1 : w5.cell? (ad.add i) = some (.int .i64 x) := (HB5.out.cell (by rw [add_block]; omega)).trans g1)
              | (refine appS rfl (.tmp 35) (.tmp 40) _ rfl eltI w4.heap.size v5 (0 + k) _ rfl (HO5.out.alloc _) rfl (rd_one w5 x) (fun h => by cases h) (by simp [Value.oneCell']) (by omega) (by simp; omega) ?_
                 intro v6 w6 hown6 hg6
                 have HO6 := Lib.hid hown6
                 have HB6 := Lib.hid (below_own (HB5.out.alloc hs5 _) (HO5.out.alloc _) hg6 (Nat.le_refl _) (by simp; omega))
                 have hs6 := HB6.out.size
                 have RD6 := Lib.hid (RDD.out.below' HB6.out hszw)
                 clear hown6 hg6)
              | (refine appS rfl (.tmp 42) (.tmp 45) _ rfl eltI w4.heap.size v6 (0 + k + 1) _ rfl HO6.out rfl RD6.out (fun h => by first | (cases h; done) | omega) (one_int _) (by omega) hs6 ?_
                 intro v7 w7 hown7 hg7
                 have HO7 := Lib.hid hown7
                 have HB7 := Lib.hid (below_own HB6.out HO6.out hg7 (Nat.le_refl _) hs6)
                 clear hown7 hg7))
            refine ⟨⟨i + 1, by rw [HN.out]; omega, by go_num, ?_, HB.out.trans ((HB4.out.trans (HB7.out.mono hszw)).mono hsz)⟩, by simp [intOf]; omega⟩
            rw [HNEXT.out, HEQ.out]
            refine (Seq.of_own (e := 3) (base := w4.heap.size) ?_).more (Nat.le_trans hsz hszw) (Nat.le_refl _)
            have h7 := HO7.out
            have el : (out.take k ++ x :: out.drop k).length = 0 + k + 1 + (m - k) := by rw [List.length_append, List.length_cons, List.length_take, List.length_drop, HM.out]; omega
            have ec : (out.take k ++ x :: out.drop k).flatMap inC = [] ++ (out.take k).flatMap inC ++ [.int .i64 x] ++ (out.drop k).flatMap inC := by
              rw [List.flatMap_append, List.flatMap_cons, List.nil_append, List.append_assoc]; rfl
            rw [el, ec]
            exact h7
        · have HEQ := Lib.hid (ins_at HKEY.out (.inl (by rw [HM.out]; omega)))
          have hgd : decide ((k : Int) < (m : Int)) = false := by simpa using (by omega : (m : Int) ≤ (k : Int))
          have hgd1 : decide (k < m) = false := decide_eq_false hkm
          go_wp2_with fail
          go_quiet (fail)
          have HB4 := Lib.hid (below_drewN HBI.out nq)
          obtain ⟨w4, hw4⟩ : ∃ w4, wr.drewN nq = w4 := ⟨_, rfl⟩
          rw [hw4] at HB4 ⊢
          clear hw4
          cases Ao with
          | none =>
            have hco : co < 1 := by have := HZO.out rfl; omega
            have hszw : wo.heap.size ≤ w4.heap.size := HB4.out.size
            have g1 : w4.cell? (ad.add i) = some (.int .i64 x) := (HB4.out.cell (by rw [add_block]; omega)).trans x1
            have RDT := Lib.hid (show Rd (w4.alloc (.cells #[] 3)) w.heap.size wo.heap.size 1 (none) k ((out.take k).flatMap inC) by rw [← flat_take]; exact ((HSM.out.below HB4.out).take hk).below' (below_a1 w4 _) hszw)
            have RDD := Lib.hid (show Rd w4 w.heap.size wo.heap.size 1 (none) (m - k) ((out.drop k).flatMap inC) by
              rw [← flat_drop]
              have := (HSM.out.below HB4.out).cut hk hd1
              first | exact this | (rw [if_neg HCK.out] at this; simpa using this) | (rw [if_pos HCK.out] at this; exact this) | (simpa using this))
            have hkI2 : (k : Int) ≤ (co : Int) := by omega
            have hkJ : (k : Int) ≤ (m : Int) := by omega
            go_wp2_with (at_builtin; first
              | (refine appS rfl (.tmp 30) (.tmp 33) _ rfl eltI w4.heap.size (.slice (some ⟨w4.heap.size, 0, none⟩) 0 0) 0 [] rfl (own_empty w4 _) rfl RDT.out HZO.out (one_int _) (by omega) (by simp) ?_
                 intro v5 w5 hown5 hg5
                 have HO5 := Lib.hid hown5
                 have HB5 := Lib.hid ((below_a1 w4 (.cells #[] 3)).grown hg5 (by simp) (fun k hk => by obtain rfl := Option.some.inj hk; exact Nat.le_refl _))
                 have hs5 := HB5.out.size
                 clear hown5 hg5
                 have r1 : w5.cell? (ad.add i) = some (.int .i64 x) := (HB5.out.cell (by rw [add_block]; omega)).trans g1)
              | (refine appS rfl (.tmp 35) (.tmp 40) _ rfl eltI w4.heap.size v5 (0 + k) _ rfl (HO5.out.alloc _) rfl (rd_one w5 x) (fun h => by cases h) (by simp [Value.oneCell']) (by omega) (by simp; omega) ?_
                 intro v6 w6 hown6 hg6
                 have HO6 := Lib.hid hown6
                 have HB6 := Lib.hid (below_own (HB5.out.alloc hs5 _) (HO5.out.alloc _) hg6 (Nat.le_refl _) (by simp; omega))
                 have hs6 := HB6.out.size
                 have RD6 := Lib.hid (RDD.out.below' HB6.out hszw)
                 clear hown6 hg6)
              | (refine appS rfl (.tmp 42) (.tmp 45) _ rfl eltI w4.heap.size v6 (0 + k + 1) _ rfl HO6.out rfl RD6.out (fun h => by first | (cases h; done) | omega) (one_int _) (by omega) hs6 ?_
                 intro v7 w7 hown7 hg7
                 have HO7 := Lib.hid hown7
                 have HB7 := Lib.hid (below_own HB6.out HO6.out hg7 (Nat.le_refl _) hs6)
                 clear hown7 hg7))
            refine ⟨⟨i + 1, by rw [HN.out]; omega, by go_num, ?_, HB.out.trans ((HB4.out.trans (HB7.out.mono hszw)).mono hsz)⟩, by simp [intOf]; omega⟩
            rw [HNEXT.out, HEQ.out]
            refine (Seq.of_own (e := 3) (base := w4.heap.size) ?_).more (Nat.le_trans hsz hszw) (Nat.le_refl _)
            have h7 := HO7.out
            have el : (out.take k ++ x :: out.drop k).length = 0 + k + 1 + (m - k) := by rw [List.length_append, List.length_cons, List.length_take, List.length_drop, HM.out]; omega
            have ec : (out.take k ++ x :: out.drop k).flatMap inC = [] ++ (out.take k).flatMap inC ++ [.int .i64 x] ++ (out.drop k).flatMap inC := by
              rw [List.flatMap_append, List.flatMap_cons, List.nil_append, List.append_assoc]; rfl
            rw [el, ec]
            exact h7
          | some ado =>
            by_cases hck : co = k
            · have HCK := Lib.hid hck
              have hszw : wo.heap.size ≤ w4.heap.size := HB4.out.size
              have g1 : w4.cell? (ad.add i) = some (.int .i64 x) := (HB4.out.cell (by rw [add_block]; omega)).trans x1
              have RDT := Lib.hid (show Rd (w4.alloc (.cells #[] 3)) w.heap.size wo.heap.size 1 (some ado) k ((out.take k).flatMap inC) by rw [← flat_take]; exact ((HSM.out.below HB4.out).take hk).below' (below_a1 w4 _) hszw)
              have RDD := Lib.hid (show Rd w4 w.heap.size wo.heap.size 1 (some ado) (m - k) ((out.drop k).flatMap inC) by
                rw [← flat_drop]
                have := (HSM.out.below HB4.out).cut hk hd1
                first | exact this | (rw [if_neg HCK.out] at this; simpa using this) | (rw [if_pos HCK.out] at this; exact this) | (simpa using this))
              have hkI2 : (k : Int) ≤ (co : Int) := by omega
              have hkJ : (k : Int) ≤ (m : Int) := by omega
              go_wp2_with (at_builtin; first
                | (refine appS rfl (.tmp 30) (.tmp 33) _ rfl eltI w4.heap.size (.slice (some ⟨w4.heap.size, 0, none⟩) 0 0) 0 [] rfl (own_empty w4 _) rfl RDT.out (fun h => by cases h) (one_int _) (by omega) (by simp) ?_
                   intro v5 w5 hown5 hg5
                   have HO5 := Lib.hid hown5
                   have HB5 := Lib.hid ((below_a1 w4 (.cells #[] 3)).grown hg5 (by simp) (fun k hk => by obtain rfl := Option.some.inj hk; exact Nat.le_refl _))
                   have hs5 := HB5.out.size
                   clear hown5 hg5
                   have r1 : w5.cell? (ad.add i) = some (.int .i64 x) := (HB5.out.cell (by rw [add_block]; omega)).trans g1)
                | (refine appS rfl (.tmp 35) (.tmp 40) _ rfl eltI w4.heap.size v5 (0 + k) _ rfl (HO5.out.alloc _) rfl (rd_one w5 x) (fun h => by cases h) (by simp [Value.oneCell']) (by omega) (by simp; omega) ?_
                   intro v6 w6 hown6 hg6
                   have HO6 := Lib.hid hown6
                   have HB6 := Lib.hid (below_own (HB5.out.alloc hs5 _) (HO5.out.alloc _) hg6 (Nat.le_refl _) (by simp; omega))
                   have hs6 := HB6.out.size
                   have RD6 := Lib.hid (RDD.out.below' HB6.out hszw)
                   clear hown6 hg6)
                | (refine appS rfl (.tmp 42) (.tmp 45) _ rfl eltI w4.heap.size v6 (0 + k + 1) _ rfl HO6.out rfl RD6.out (fun h => by first | (cases h; done) | omega) (one_int _) (by omega) hs6 ?_
                   intro v7 w7 hown7 hg7
                   have HO7 := Lib.hid hown7
                   have HB7 := Lib.hid (below_own HB6.out HO6.out hg7 (Nat.le_refl _) hs6)
                   clear hown7 hg7))
              refine ⟨⟨i + 1, by rw [HN.out]; omega, by go_num, ?_, HB.out.trans ((HB4.out.trans (HB7.out.mono hszw)).mono hsz)⟩, by simp [intOf]; omega⟩
              rw [HNEXT.out, HEQ.out]
              refine (Seq.of_own (e := 3) (base := w4.heap.size) ?_).more (Nat.le_trans hsz hszw) (Nat.le_refl _)
              have h7 := HO7.out
              have el : (out.take k ++ x :: out.drop k).length = 0 + k + 1 + (m - k) := by rw [List.length_append, List.length_cons, List.length_take, List.length_drop, HM.out]; omega
              have ec : (out.take k ++ x :: out.drop k).flatMap inC = [] ++ (out.take k).flatMap inC ++ [.int .i64 x] ++ (out.drop k).flatMap inC := by
                rw [List.flatMap_append, List.flatMap_cons, List.nil_append, List.append_assoc]; rfl
              rw [el, ec]
              exact h7
            · have HCK := Lib.hid hck
              have hszw : wo.heap.size ≤ w4.heap.size := HB4.out.size
              have g1 : w4.cell? (ad.add i) = some (.int .i64 x) := (HB4.out.cell (by rw [add_block]; omega)).trans x1
              have RDT := Lib.hid (show Rd (w4.alloc (.cells #[] 3)) w.heap.size wo.heap.size 1 (some ado) k ((out.take k).flatMap inC) by rw [← flat_take]; exact ((HSM.out.below HB4.out).take hk).below' (below_a1 w4 _) hszw)
              have RDD := Lib.hid (show Rd w4 w.heap.size wo.heap.size 1 (some (ado.add k)) (m - k) ((out.drop k).flatMap inC) by
                rw [← flat_drop]
                have := (HSM.out.below HB4.out).cut hk hd1
                first | exact this | (rw [if_neg HCK.out] at this; simpa using this) | (rw [if_pos HCK.out] at this; exact this) | (simpa using this))
              have hkI2 : (k : Int) ≤ (co : Int) := by omega
              have hkJ : (k : Int) ≤ (m : Int) := by omega
              go_wp2_with (at_builtin; first
                | (refine appS rfl (.tmp 30) (.tmp 33) _ rfl eltI w4.heap.size (.slice (some ⟨w4.heap.size, 0, none⟩) 0 0) 0 [] rfl (own_empty w4 _) rfl RDT.out (fun h => by cases h) (one_int _) (by omega) (by simp) ?_
                   intro v5 w5 hown5 hg5
                   have HO5 := Lib.hid hown5
                   have HB5 := Lib.hid ((below_a1 w4 (.cells #[] 3)).grown hg5 (by simp) (fun k hk => by obtain rfl := Option.some.inj hk; exact Nat.le_refl _))
                   have hs5 := HB5.out.size
                   clear hown5 hg5
                   have r1 : w5.cell? (ad.add i) = some (.int .i64 x) := (HB5.out.cell (by rw [add_block]; omega)).trans g1)
                | (refine appS rfl (.tmp 35) (.tmp 40) _ rfl eltI w4.heap.size v5 (0 + k) _ rfl (HO5.out.alloc _) rfl (rd_one w5 x) (fun h => by cases h) (by simp [Value.oneCell']) (by omega) (by simp; omega) ?_
                   intro v6 w6 hown6 hg6
                   have HO6 := Lib.hid hown6
                   have HB6 := Lib.hid (below_own (HB5.out.alloc hs5 _) (HO5.out.alloc _) hg6 (Nat.le_refl _) (by simp; omega))
                   have hs6 := HB6.out.size
                   have RD6 := Lib.hid (RDD.out.below' HB6.out hszw)
                   clear hown6 hg6)
                | (refine appS rfl (.tmp 42) (.tmp 45) _ rfl eltI w4.heap.size v6 (0 + k + 1) _ rfl HO6.out rfl RD6.out (fun h => by first | (cases h; done) | omega) (one_int _) (by omega) hs6 ?_
                   intro v7 w7 hown7 hg7
                   have HO7 := Lib.hid hown7
                   have HB7 := Lib.hid (below_own HB6.out HO6.out hg7 (Nat.le_refl _) hs6)
                   clear hown7 hg7))
              refine ⟨⟨i + 1, by rw [HN.out]; omega, by go_num, ?_, HB.out.trans ((HB4.out.trans (HB7.out.mono hszw)).mono hsz)⟩, by simp [intOf]; omega⟩
              rw [HNEXT.out, HEQ.out]
              refine (Seq.of_own (e := 3) (base := w4.heap.size) ?_).more (Nat.le_trans hsz hszw) (Nat.le_refl _)
              have h7 := HO7.out
              have el : (out.take k ++ x :: out.drop k).length = 0 + k + 1 + (m - k) := by rw [List.length_append, List.length_cons, List.length_take, List.length_drop, HM.out]; omega
              have ec : (out.take k ++ x :: out.drop k).flatMap inC = [] ++ (out.take k).flatMap inC ++ [.int .i64 x] ++ (out.drop k).flatMap inC := by
                rw [List.flatMap_append, List.flatMap_cons, List.nil_append, List.append_assoc]; rfl
              rw [el, ec]
              exact h7
    · have HT := Lib.hid (show l.take i = l from List.take_of_length_le (by rw [HN.out]; omega))
      have hout2 := HOUT.out
      rw [HT.out] at hout2
      have HO2 := Lib.hid hout2
      clear hout2 hout hbel
      go_wp2_with fail
      go_ret
      exact ⟨⟨_, rfl, HO2.out⟩, HB.out⟩
end Go.Proofs.YtcaeihfgdlffkaaGreatRRRRDoor.RstW

/- The document's spread of numbers, walked (printed by mkspr.py). -/
namespace Go.Proofs.YtcaeihfgdlffkaaGreatRRRRDoor.SprW
set_option linter.unusedVariables false
set_option linter.unusedSimpArgs false
open Go.RowKit Base BigM BigW BigZ RptM RptC SeqM HyW RotW

theorem pw8 : pw 8 = 340282366920938463463374607431768211456 := by decide
set_option maxRecDepth 100000 in
theorem square_any (n : Int) (hn : -9223372036854775808 ≤ n ∧ n ≤ 9223372036854775807) (w : World) :
    Calls Tryz.prog 118 #[.int .i64 n] w fun e w' => (∃ v, e = .returned v ∧ Big w' 0 w'.heap.size v (n * n) 8) ∧ Below w.heap.size w w' := by
  go_enter Tryz.func118, Tryz.ntmps118
  go_wp2_with fail
  refine (Int_any n _ hn.1 hn.2).mono ?_
  rintro e w1 ⟨⟨v1, rfl, hv1⟩, hb1⟩
  go_wp2_with fail
  refine (Int_any n _ hn.1 hn.2).mono ?_
  rintro e w2 ⟨⟨v2, rfl, hv2⟩, hb2⟩
  go_wp2_with fail
  refine (Product_any v1 v2 n n 4 4 w2 ((hv1.below hb2 (Nat.le_refl _)).more hb2.size (Nat.le_refl _)) hv2 (by omega) (by omega)).mono ?_
  rintro e w3 ⟨⟨v3, rfl, hv3⟩, hb3⟩
  obtain ⟨neg, u, N, rfl, hu, hz⟩ := hv3
  have hN := hu.nonneg
  have hsq : 0 ≤ n * n := by
    rcases Int.le_total 0 n with h | h
    · exact Int.mul_nonneg h h
    · exact Int.mul_nonneg_of_nonpos_of_nonpos h h
  have hNn : N = n * n := by
    cases neg
    · rw [hz]; rfl
    · have : n * n = -N := by rw [hz]; rfl
      omega
  subst hNn
  obtain ⟨A, n0, c0, rfl⟩ := hu.form
  have hfl : ∀ W, (Instr.field 140 (.agg #[.bool neg, .slice A n0 c0]) 1).run Tryz.prog W = .ok (.slice A n0 c0) W := fun W => by kernel_rfl
  go_wp2
  go_ret
  exact ⟨⟨_, rfl, hu⟩, bt hb3 (bt hb2 hb1)⟩
theorem apart_le {x : Int} {l : List Int} (hx : -2147483648 ≤ x ∧ x ≤ 2147483647) (h : Nm l) : apart x l ≤ (l.length : Int) * 18446744073709551616 := by
  induction l using snoc_ind with
  | h0 => simp [apart]
  | h l y ih =>
    have h1 := ih (fun z hz => h z (by simp [hz]))
    have h2 := h y (by simp)
    have h3 : (x - y) * (x - y) ≤ 18446744073709551616 := by
      have e1 : (x - y).natAbs ≤ 4294967296 := by omega
      have e2 := Nat.mul_le_mul e1 e1
      rw [← Int.natAbs_mul] at e2
      omega
    rw [apart_snoc, List.length_append]
    simp only [List.length_cons, List.length_nil, Int.natCast_add, Int.natCast_one, Int.natCast_zero, Int.zero_add]
    omega
theorem part_bd {l : List Int} (h : Nm l) (hl : l.length ≤ 256) {i k : Nat} (hi : i < l.length) : (0 ≤ pairs [] (l.take i) ∧ 0 ≤ apart l[i] (l.take k)) ∧ pairs [] (l.take i) + apart l[i] (l.take k) < 340282366920938463463374607431768211456 := by
  have h1 := spread_bd (h.take i) (by rw [List.length_take]; omega)
  have h2 := apart_le (h _ (List.getElem_mem hi)) (h.take k)
  have h3 := apart_ge l[i] (l.take k)
  have h4 : ((l.take k).length : Int) * 18446744073709551616 ≤ 256 * 18446744073709551616 := by
    refine Int.mul_le_mul_of_nonneg_right ?_ (by omega)
    rw [List.length_take]; omega
  exact ⟨⟨h1.1.1, h3⟩, by omega⟩
def O1Rel (l : List Int) (w : World) (i s : Value) (wr : World) : Prop := ∃ k : Nat, k ≤ l.length ∧ i = .int .i64 k ∧ Big wr 0 wr.heap.size s (pairs [] (l.take k)) 8 ∧ Below w.heap.size w wr
def O2Rel (l : List Int) (i : Nat) (hi : i < l.length) (w : World) (k s : Value) (wr : World) : Prop := ∃ j : Nat, j ≤ i ∧ k = .int .i64 j ∧ Big wr 0 wr.heap.size s (pairs [] (l.take i) + apart l[i] (l.take j)) 8 ∧ Below w.heap.size w wr
set_option maxRecDepth 100000 in
set_option maxHeartbeats 4000000 in
theorem RSpread_any (v : Value) (l : List Int) (w : World) (h : Seq 1 inC w 0 w.heap.size v l) (hf : Nm l) (hl : l.length ≤ 256) :
    Calls Tryz.prog 83 #[v] w fun e w' => (∃ u, e = .returned u ∧ Big w' 0 w'.heap.size u (pairs [] l) 8) ∧ Below w.heap.size w w' := by
  obtain ⟨A, cap, rfl, hc1, hc2, hr, _⟩ := h
  unfold maxLen at hc2
  have HR := Lib.hid hr
  have HF := Lib.hid hf
  have HLT := Lib.hid hl
  obtain ⟨m, hm⟩ : ∃ m, l.length = m := ⟨_, rfl⟩
  rw [hm] at hc1 hl ⊢
  have HM := Lib.hid hm
  clear hr hf hm
  go_enter Tryz.func83, Tryz.ntmps83
  go_wp2
  go_loopw [4, 3] (fun i s wr => O1Rel l w i s wr) (fun i _ _ => m - (intOf i).toNat)
  case atStart => exact ⟨0, Nat.zero_le _, rfl, by rw [List.take_zero]; exact big_nil _ _ _ _, Below.refl _ _⟩
  case round =>
    obtain ⟨i, hi, rfl, hS, hb⟩ := hrel
    rw [HM.out] at hi
    have HS := Lib.hid hS
    have HB := Lib.hid hb
    clear hS hb
    by_cases hlt : i < m
    · have hil : i < l.length := by rw [HM.out]; exact hlt
      rename World => w0
      go_wp2_with fail
      go_loopw [5, 3] (fun k s wr => O2Rel l i hil w k s wr) (fun k _ _ => i - (intOf k).toNat)
      case atStart =>
        refine ⟨0, Nat.zero_le _, rfl, ?_, HB.out⟩
        rw [List.take_zero, show apart l[i] [] = 0 from rfl, Int.add_zero]
        exact HS.out
      case round =>
        obtain ⟨j, hj, rfl, hT, hb2⟩ := hrel
        have HT := Lib.hid hT
        have HB2 := Lib.hid hb2
        clear hT
        by_cases hlt2 : j < i
        · have hjl : j < l.length := by omega
          obtain ⟨ad, x, rfl, _, hbk, hx, hc⟩ := rdI HR.out hil
          obtain ⟨ad2, y, e2, _, _, hy, hc'⟩ := rdI HR.out hjl
          obtain rfl := Option.some.inj e2
          have c0 : wr.cell? (ad.add i) = some (.int .i64 x) := (hb2.cell (by rw [Base.add_block]; exact hbk)).trans hc
          have c1 : wr.cell? (ad.add j) = some (.int .i64 y) := (hb2.cell (by rw [Base.add_block]; exact hbk)).trans hc'
          have hxr := HF.out x (List.mem_of_getElem? hx)
          have hyr := HF.out y (List.mem_of_getElem? hy)
          have ex : l[i] = x := (List.getElem?_eq_some_iff.1 hx).2
          have ey : l[j] = y := (List.getElem?_eq_some_iff.1 hy).2
          have HA := Lib.hid (show pairs [] (l.take i) + apart l[i] (l.take (j + 1)) = pairs [] (l.take i) + apart l[i] (l.take j) + (x - y) * (x - y) by
            rw [apart_take _ hjl, ex, ey, Int.add_assoc])
          have HN := Lib.hid (show pairs [] (l.take i) + apart l[i] (l.take (j + 1)) < pw 8 by rw [pw8]; exact (part_bd HF.out HLT.out hil).2)
          have HSQ := Lib.hid (fun W => square_any (x - y) (by omega) W)
          have hwr : IntKind.i64.wrap (x - y) = x - y := IntWalk.i64_in _ (by omega)
          have hil2 : i < m := hlt
          have hjl2 : j < m := by omega
          have CL := Lib.hid (And.intro c0 c1)
          clear hb2 hx hy hc hc' ex ey c0 c1
          generalize pairs [] (l.take i) + apart l[i] (l.take j) = s at *
          go_wp2_with fail
          refine regionZ 12 (fun w' => w'.cell? (ad.add i) = some (.int .i64 x) ∧ w'.cell? (ad.add j) = some (.int .i64 y)) (by kernel_rfl) (CL.out) (fun hH => ?_)
          refine takeZ 0 (v := ?_) (gi rfl) (by kernel_rfl) (fun _ _ _ h => h) hH (.inl ⟨rfl, fun w hW => ?_⟩) ?_
          rotate_left
          · (go_simp; try with_reducible rfl)
          try simp only [Act.put, List.setIfInBounds_toArray, List.set_cons_zero, List.set_cons_succ]
          refine takeZ 1 (v := ?_) (gi rfl) (by kernel_rfl) (fun _ _ _ h => h) hH (.inl ⟨rfl, fun w hW => ?_⟩) ?_
          rotate_left
          · (go_simp; try with_reducible rfl)
          try simp only [Act.put, List.setIfInBounds_toArray, List.set_cons_zero, List.set_cons_succ]
          refine takeZ 2 (v := ?_) (gi rfl) (by kernel_rfl) (fun _ _ _ h => h) hH (.inl ⟨rfl, fun w hW => ?_⟩) ?_
          rotate_left
          · (go_simp; try with_reducible rfl)
          try simp only [Act.put, List.setIfInBounds_toArray, List.set_cons_zero, List.set_cons_succ]
          refine takeZ 3 (v := ?_) (gi rfl) (by kernel_rfl) (fun _ _ _ h => h) hH (.inl ⟨rfl, fun w hW => ?_⟩) ?_
          rotate_left
          · (go_simp; try with_reducible rfl)
          try simp only [Act.put, List.setIfInBounds_toArray, List.set_cons_zero, List.set_cons_succ]
          refine takeZ 4 (v := ?_) (gi rfl) (by kernel_rfl) (fun _ _ _ h => h) hH (.inl ⟨rfl, fun w hW => ?_⟩) ?_
          rotate_left
          · (obtain ⟨hW1, hW2⟩ := hW; go_simp; try with_reducible rfl)
          try simp only [Act.put, List.setIfInBounds_toArray, List.set_cons_zero, List.set_cons_succ]
          refine takeZ 5 (v := ?_) (gi rfl) (by kernel_rfl) (fun _ _ _ h => h) hH (.inl ⟨rfl, fun w hW => ?_⟩) ?_
          rotate_left
          · (go_simp; try with_reducible rfl)
          try simp only [Act.put, List.setIfInBounds_toArray, List.set_cons_zero, List.set_cons_succ]
          refine takeZ 6 (v := ?_) (gi rfl) (by kernel_rfl) (fun _ _ _ h => h) hH (.inl ⟨rfl, fun w hW => ?_⟩) ?_
          rotate_left
          · (go_simp; try with_reducible rfl)
          try simp only [Act.put, List.setIfInBounds_toArray, List.set_cons_zero, List.set_cons_succ]
          refine takeZ 7 (v := ?_) (gi rfl) (by kernel_rfl) (fun _ _ _ h => h) hH (.inl ⟨rfl, fun w hW => ?_⟩) ?_
          rotate_left
          · (go_simp; try with_reducible rfl)
          try simp only [Act.put, List.setIfInBounds_toArray, List.set_cons_zero, List.set_cons_succ]
          refine takeZ 8 (v := ?_) (gi rfl) (by kernel_rfl) (fun _ _ _ h => h) hH (.inl ⟨rfl, fun w hW => ?_⟩) ?_
          rotate_left
          · (obtain ⟨hW1, hW2⟩ := hW; go_simp; try with_reducible rfl)
          try simp only [Act.put, List.setIfInBounds_toArray, List.set_cons_zero, List.set_cons_succ]
          refine takeZ 9 (v := ?_) (gi rfl) (by kernel_rfl) (fun _ _ _ h => h) hH (.inl ⟨rfl, fun w hW => ?_⟩) ?_
          rotate_left
          · (go_simp; try with_reducible rfl)
          try simp only [Act.put, List.setIfInBounds_toArray, List.set_cons_zero, List.set_cons_succ]
          refine oneZ 10 (by kernel_rfl) (gi rfl) (fun K hK => ?_)
          try simp only [Act.put, List.setIfInBounds_toArray, List.set_cons_zero, List.set_cons_succ]
          go_simp
          refine (HSQ.out _).mono ?_
          rintro e w1 ⟨⟨u1, rfl, hu1⟩, hb1⟩
          have HU1 := Lib.hid hu1
          have HK1 := Lib.hid hb1
          clear hb1 hu1
          refine hK.out _ _ (fun _ => ⟨keepA HK1.out CL.out.1, keepA HK1.out CL.out.2⟩) (fun hH => ?_)
          replace hH := hH (by decide)
          clear hK K
          try simp only [Act.put, List.setIfInBounds_toArray, List.set_cons_zero, List.set_cons_succ]
          refine oneZ 11 (by kernel_rfl) (gi rfl) (fun K hK => ?_)
          try simp only [Act.put, List.setIfInBounds_toArray, List.set_cons_zero, List.set_cons_succ]
          go_simp
          refine (Plus_any _ _ _ _ 8 8 _ ((HT.out.up (Below.refl _ wr).drew).up HK1.out) HU1.out (by omega) (by omega)).mono ?_
          rintro e w2 ⟨⟨u2, rfl, hu2⟩, hb2⟩
          have HNB := Lib.hid (show Big w2 0 w2.heap.size u2 (s + (x - y) * (x - y)) 8 from Big.tight (hu2.more (Nat.zero_le _) (Nat.le_refl _) (Nat.le_refl _)) (by rw [← HA.out]; exact HN.out))
          have HNW := Lib.hid (show Below w.heap.size w w2 from bt hb2 (bt HK1.out HB2.out.drew))
          have HK2 := Lib.hid hb2
          clear hb2 hu2
          refine hK.out _ _ (fun _ => ⟨keepA HK2.out (keepA HK1.out CL.out.1), keepA HK2.out (keepA HK1.out CL.out.2)⟩) (fun hH => ?_)
          replace hH := hH (by decide)
          clear hK K
          try simp only [Act.put, List.setIfInBounds_toArray, List.set_cons_zero, List.set_cons_succ]
          refine yieldZ 12 (v := ?_) (by kernel_rfl) (gi rfl) hH (.inl ⟨rfl, fun w hW => ?_⟩) ?_
          rotate_left
          · (go_simp; try with_reducible rfl)
          try simp only [Act.put, List.setIfInBounds_toArray, List.set_cons_zero, List.set_cons_succ]
          refine doneZ (by kernel_rfl) ?_ _
          clear hH
          go_wp2_with fail
          exact ⟨⟨j + 1, by omega, by go_num, by rw [HA.out]; exact HNB.out, HNW.out⟩, by simp [intOf]; omega⟩
        · obtain rfl : j = i := by omega
          have HP := Lib.hid (pairs_take hil)
          go_wp2_with fail
          exact ⟨⟨j + 1, by rw [HM.out]; omega, by go_num, by rw [HP.out]; exact HT.out, HB2.out⟩, by simp [intOf]; omega⟩
    · obtain rfl : i = m := by omega
      go_wp2_with fail
      go_ret
      refine ⟨⟨_, rfl, ?_⟩, HB.out⟩
      have := HS.out
      rw [List.take_of_length_le (by rw [HM.out]; omega)] at this
      exact this
end Go.Proofs.YtcaeihfgdlffkaaGreatRRRRDoor.SprW
