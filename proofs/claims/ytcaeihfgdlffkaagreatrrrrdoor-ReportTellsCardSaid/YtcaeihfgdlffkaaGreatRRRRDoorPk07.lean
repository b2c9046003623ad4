/- A region that draws its order, of which the last operation may undo what the earlier ones read: the condition S is not asked behind operation z, for which all that are taken first must wait. No program is in sight. -/
import Derived.Deep.RegionHeld
import Derived.Test.YtcaeihfgdlffkaaGreatRRRRDoorPk06
import Derived.Test.YtcaeihfgdlffkaaGreatRRRRDoorPk00
import Derived.Test.YtcaeihfgdlffkaaGreatRRRRDoorPk01
namespace Go.Proofs.YtcaeihfgdlffkaaGreatRRRRDoor.HzW
set_option linter.unusedVariables false
set_option linter.unusedSimpArgs false

section
variable {P : Program} {ops : Array Oper} {Q : Exit → Act → World → Prop} {md : Region.Mode} {S : World → Prop} {z : Nat}

/-- which operations wait for number i, whatever comes between -/
def marks (md : Region.Mode) (i : Nat) : List Oper → Array Bool → Array Bool
  | [], m => m
  | o :: r, m => marks md i r (m.push (o.after.any fun e => Region.binds md e && (e.on == i || m.getD e.on false)))
def closedB (md : Region.Mode) (ops : Array Oper) (listed : Array Bool) : Bool :=
  (List.range ops.size).all fun j => !listed.getD j true || match ops[j]? with
    | some o => o.after.all fun e => !Region.binds md e || listed.getD e.on false
    | none => true
def Closed (md : Region.Mode) (ops : Array Oper) (listed : Array Bool) : Prop := ∀ j o, ops[j]? = some o → listed.getD j true = true → ∀ e ∈ o.after, Region.binds md e = true → listed.getD e.on false = true
theorem closed_of {listed : Array Bool} (h : closedB md ops listed = true) : Closed md ops listed := fun j o ho hl e he hb => by
  simp only [closedB, List.all_eq_true, List.mem_range] at h
  have h1 := h j (Array.getElem?_eq_some_iff.1 ho).1
  simp only [ho, hl, Bool.not_true, Bool.false_or, Array.all_eq_true_iff_forall_mem] at h1
  have h2 := h1 e he
  rw [hb] at h2
  simpa using h2
theorem getD_push {m : Array Bool} {b : Bool} {k : Nat} (h : (m.push b).getD k false = true) : (k < m.size ∧ m.getD k false = true) ∨ (k = m.size ∧ b = true) := by
  rcases Nat.lt_trichotomy k m.size with hk | hk | hk
  · left; refine ⟨hk, ?_⟩
    simpa [Array.getElem?_push, Nat.ne_of_lt hk] using h
  · right; subst hk; exact ⟨rfl, by simpa using h⟩
  · have : (m.push b)[k]? = none := Array.getElem?_eq_none (by simp; omega)
    simp [this] at h
def MarkOk (md : Region.Mode) (ops : Array Oper) (i : Nat) (m : Array Bool) : Prop := ∀ k, m.getD k false = true → k < m.size ∧ ∃ o, ops[k]? = some o ∧ ∃ e ∈ o.after, Region.binds md e = true ∧ (e.on = i ∨ (e.on < k ∧ m.getD e.on false = true))
theorem marks_ok (i : Nat) : ∀ (l : List Oper) (m : Array Bool), MarkOk md ops i m → ops.toList.drop m.size = l → MarkOk md ops i (marks md i l m)
  | [], m, h, _ => h
  | o :: r, m, h, hl => by
    refine marks_ok i r _ ?_ ?_
    · intro k hk
      have ho : ops[m.size]? = some o := by
        have := congrArg (·[0]?) hl
        simpa [List.getElem?_drop] using this
      rcases getD_push hk with ⟨h1, h2⟩ | ⟨rfl, h2⟩
      · obtain ⟨_, o', ho', e, he, hb, hor⟩ := h k h2
        refine ⟨by simp; omega, o', ho', e, he, hb, hor.imp id fun ⟨h3, h4⟩ => ⟨h3, ?_⟩⟩
        have : e.on < m.size := by omega
        simpa [Array.getElem?_push, Nat.ne_of_lt this] using h4
      · obtain ⟨e, he, hb⟩ := Array.any_eq_true'.1 h2
        simp only [Bool.and_eq_true, Bool.or_eq_true, beq_iff_eq] at hb
        refine ⟨by simp, o, ho, e, he, hb.1, hb.2.imp id fun h3 => ?_⟩
        have h4 : e.on < m.size := by
          rcases Nat.lt_or_ge e.on m.size with h' | h'
          · exact h'
          · simp [Array.getElem?_eq_none h'] at h3
        exact ⟨h4, by simpa [Array.getElem?_push, Nat.ne_of_lt h4] using h3⟩
    · rw [Array.size_push, ← List.drop_drop, hl]; rfl
/-- z waits for i -/
def waitsB (md : Region.Mode) (ops : Array Oper) (z i : Nat) : Bool := (marks md i ops.toList #[]).getD z false
theorem getD_false_true {listed : Array Bool} {k : Nat} (h : listed.getD k false = true) : listed.getD k true = true := by
  rcases Nat.lt_or_ge k listed.size with h' | h'
  · simpa [h'] using h
  · simp [Array.getElem?_eq_none h'] at h
theorem waits_listed {i : Nat} {listed : Array Bool} (hc : Closed md ops listed) (m : Array Bool) (hm : MarkOk md ops i m) : ∀ (n k : Nat), k ≤ n → m.getD k false = true → (k ∈ Region.ready md ops listed ∨ listed.getD k true = true) → listed.getD i true = true := by
  intro n
  induction n with
  | zero =>
    intro k hk hmk hr
    obtain ⟨_, o, ho, e, he, hb, hor⟩ := hm k hmk
    have hl : listed.getD e.on false = true := by
      rcases hr with hr | hr
      · obtain ⟨_, o', ho', hall⟩ := mem_ready.1 hr
        rw [ho] at ho'
        obtain rfl := Option.some.inj ho'
        exact hall e he hb
      · exact hc k o ho hr e he hb
    rcases hor with h1 | ⟨h1, _⟩
    · rw [← h1]; exact getD_false_true hl
    · omega
  | succ n ih =>
    intro k hk hmk hr
    obtain ⟨_, o, ho, e, he, hb, hor⟩ := hm k hmk
    have hl : listed.getD e.on false = true := by
      rcases hr with hr | hr
      · obtain ⟨_, o', ho', hall⟩ := mem_ready.1 hr
        rw [ho] at ho'
        obtain rfl := Option.some.inj ho'
        exact hall e he hb
      · exact hc k o ho hr e he hb
    rcases hor with h1 | ⟨h1, h2⟩
    · rw [← h1]; exact getD_false_true hl
    · exact ih e.on (by omega) h2 (.inr (getD_false_true hl))
theorem not_ready {i : Nat} {listed : Array Bool} (hc : Closed md ops listed) (hw : waitsB md ops z i = true) (hi : i ∈ Region.ready md ops listed) : z ∉ Region.ready md ops listed := fun hz => by
  have h0 := (mem_ready.1 hi).1
  have := waits_listed hc _ (marks_ok i ops.toList #[] (fun k hk => by simp at hk) (by simp)) z z (Nat.le_refl _) hw (.inl hz)
  rw [h0] at this
  cases this
theorem closed_set {j : Nat} {listed : Array Bool} (hc : Closed md ops listed) (hj : j ∈ Region.ready md ops listed) : Closed md ops (listed.setIfInBounds j true) := fun k o ho hl e he hb => by
  refine getD_set_true ?_
  by_cases hjk : j = k
  · subst hjk
    obtain ⟨_, o', ho', hall⟩ := mem_ready.1 hj
    rw [ho] at ho'
    obtain rfl := Option.some.inj ho'
    exact hall e he hb
  · rw [getD_set_ne true hjk] at hl
    exact hc k o ho hl e he hb

def wpZ (P : Program) (md : Region.Mode) (ops : Array Oper) (Q : Exit → Act → World → Prop) (S : World → Prop) (z : Nat) : Nat → Array Bool → Act → World → Prop
  | 0, listed, a, w => Region.ready md ops listed = [] ∧ Q .normal a w
  | fuel + 1, listed, a, w =>
    (Region.ready md ops listed = [] → Q .normal a w) ∧
    ∀ i ∈ Region.ready md ops listed, wpOp P ops Q i (fun a' w' => (i ≠ z → S w') ∧ wpZ P md ops Q S z fuel (listed.setIfInBounds i true) a' w') a w
theorem wpAny_of_z : ∀ (fuel : Nat) (listed : Array Bool) (a : Act) (w : World), wpZ P md ops Q S z fuel listed a w → wpAny P md ops Q fuel listed a w
  | 0, _, _, _, h => h
  | fuel + 1, _, _, _, h => ⟨h.1, fun i hi => wpOp_mono (fun a' w' h' => wpAny_of_z fuel _ a' w' h'.2) (h.2 i hi)⟩
theorem wpZ_first {i : Nat} {oi : Oper} {v : Value} (hi : ops[i]? = some oi) (hsel : ∀ (j : Nat) (o : Oper) cs b, ops[j]? = some o → o.op ≠ .select cs b)
    (hQ : ∀ c a w, Q (.panic c) (a.put oi.dst v) w → Q (.panic c) a w) (hz : waitsB md ops z i = true) :
    ∀ (fuel : Nat) (listed : Array Bool) (a : Act) (w : World), Closed md ops listed →
      (∀ j oj, ops[j]? = some oj → j ≠ i → listed.getD j true = false → (∀ e ∈ oj.after, Region.binds md e = true → e.on ≠ i) → oi.apart ops oj = true) →
      i ∈ Region.ready md ops listed → YieldsIf P ops S oi v a → S w →
      wpZ P md ops Q S z fuel (listed.setIfInBounds i true) (a.put oi.dst v) w → wpZ P md ops Q S z (fuel + 1) listed a w := by
  intro fuel
  induction fuel with
  | zero =>
    intro listed a w _ _ hr hy hS H
    refine ⟨fun h => (by rw [h] at hr; cases hr), fun j hj => ?_⟩
    by_cases hji : j = i
    · subst hji; exact hy.wpOp hi hS ⟨fun _ => hS, H⟩
    · have := ready_mono hj hji
      rw [H.1] at this
      cases this
  | succ fuel ih =>
    intro listed a w hcl hfree hr hy hS H
    refine ⟨fun h => (by rw [h] at hr; cases hr), fun j hj => ?_⟩
    by_cases hji : j = i
    · subst hji; exact hy.wpOp hi hS ⟨fun _ => hS, H⟩
    · have hjz : j ≠ z := fun e => not_ready hcl hz hr (by rw [← e]; exact hj)
      have h1 := H.2 j (ready_mono hj hji)
      obtain ⟨hjun, oj, hoj, hall⟩ := mem_ready.1 hj
      have hnot : ∀ e ∈ oj.after, Region.binds md e = true → e.on ≠ i := fun e he hb heq => by
        have h1 := getD_false_true (hall e he hb)
        have h0 := (mem_ready.1 hr).1
        rw [heq, h0] at h1
        cases h1
      have h2 := wpOp_putIf hoj (hfree j oj hoj hji hjun hnot) (fun cs b => hsel i oi cs b hi) (fun cs b => hsel j oj cs b hoj) hQ hy h1
      have hfree' : ∀ k ok, ops[k]? = some ok → k ≠ i → (listed.setIfInBounds j true).getD k true = false →
          (∀ e ∈ ok.after, Region.binds md e = true → e.on ≠ i) → oi.apart ops ok = true := fun k ok hk hki hun hno => by
        refine hfree k ok hk hki ?_ hno
        by_cases hjk : j = k
        · subst hjk; exact hjun
        · rw [getD_set_ne true hjk] at hun; exact hun
      refine wpOp_mono (fun a' w' h3 => ⟨h3.2.1, ih (listed.setIfInBounds j true) a' w' (closed_set hcl hj) hfree' (ready_mono hr (Ne.symm hji)) h3.1 (h3.2.1 hjz) ?_⟩) h2
      rw [Array.setIfInBounds_comm _ _ hji]
      exact h3.2.2
/-- what must be so for number i to be taken first -/
def okTake (md : Region.Mode) (ops : Array Oper) (z : Nat) (listed : Array Bool) (i : Nat) : Bool :=
  Region.noSelect ops && (Region.free md ops listed i && ((Region.ready md ops listed).contains i && (closedB md ops listed && waitsB md ops z i)))
theorem takeZ (i : Nat) {oi : Oper} {v : Value} {fuel : Nat} {listed : Array Bool} {a : Act} {w : World} (hi : ops[i]? = some oi) (hk : okTake md ops z listed i = true)
    (hQ : ∀ c a w, Q (.panic c) (a.put oi.dst v) w → Q (.panic c) a w) (hS : S w) (hy : YieldsIf P ops S oi v a)
    (h : wpZ P md ops Q S z fuel (listed.setIfInBounds i true) (a.put oi.dst v) w) : wpZ P md ops Q S z (fuel + 1) listed a w := by
  simp only [okTake, Bool.and_eq_true] at hk
  exact wpZ_first hi (Region.noSelect_spec hk.1) hQ hk.2.2.2.2 fuel listed a w (closed_of hk.2.2.2.1) (Region.free_spec hi hk.2.1) (by simpa using hk.2.2.1) hy hS h
def ReadyZ (P : Program) (md : Region.Mode) (ops : Array Oper) (Q : Exit → Act → World → Prop) (S : World → Prop) (z fuel : Nat) (listed : Array Bool) (a : Act) (w : World) (rs : List Nat) : Prop :=
  ∀ i ∈ rs, wpOp P ops Q i (fun a' w' => (i ≠ z → S w') ∧ wpZ P md ops Q S z fuel (listed.setIfInBounds i true) a' w') a w
theorem ReadyZ.nil {fuel : Nat} {listed : Array Bool} {a : Act} {w : World} : ReadyZ P md ops Q S z fuel listed a w [] := fun _ h => by cases h
theorem ReadyZ.cons {fuel : Nat} {listed : Array Bool} {a : Act} {w : World} {i : Nat} {o : Oper} {rs : List Nat} (ho : ops[i]? = some o)
    (h : ∀ K' : Act → World → Prop, Shut (∀ a w, (i ≠ z → S w) → ((i ≠ z → S w) → wpZ P md ops Q S z fuel (listed.setIfInBounds i true) a w) → K' a w) → if Region.wanted o (yielded ops a.tmps) = true then Oper.wp P o a w K' Q else K' (a.put o.dst undef) w)
    (hs : ReadyZ P md ops Q S z fuel listed a w rs) : ReadyZ P md ops Q S z fuel listed a w (i :: rs) := fun j hj => by
  rcases List.mem_cons.1 hj with rfl | hj
  · exact wpOp_step ho (fun K' hK => h K' (fun a w hS hW => hK a w ⟨hS, hW hS⟩))
  · exact hs j hj
theorem readyZ {rs : List Nat} {fuel : Nat} {listed : Array Bool} {a : Act} {w : World} (hr : Region.ready md ops listed = rs) (hne : rs ≠ [])
    (h : ReadyZ P md ops Q S z fuel listed a w rs) : wpZ P md ops Q S z (fuel + 1) listed a w := ⟨fun h0 => absurd (hr ▸ h0) hne, hr ▸ h⟩
/-- only number i may come up -/
theorem oneZ (i : Nat) {fuel : Nat} {listed : Array Bool} {a : Act} {w : World} {o : Oper} (hr : Region.ready md ops listed = [i]) (ho : ops[i]? = some o)
    (h : ∀ K' : Act → World → Prop, Shut (∀ a w, (i ≠ z → S w) → ((i ≠ z → S w) → wpZ P md ops Q S z fuel (listed.setIfInBounds i true) a w) → K' a w) → if Region.wanted o (yielded ops a.tmps) = true then Oper.wp P o a w K' Q else K' (a.put o.dst undef) w) : wpZ P md ops Q S z (fuel + 1) listed a w :=
  readyZ hr (by simp) (.cons ho h .nil)
/-- only number i may come up, and it yields its value -/
theorem yieldZ (i : Nat) {oi : Oper} {v : Value} {fuel : Nat} {listed : Array Bool} {a : Act} {w : World} (hr : Region.ready md ops listed = [i]) (hi : ops[i]? = some oi) (hS : S w) (hy : YieldsIf P ops S oi v a)
    (h : wpZ P md ops Q S z fuel (listed.setIfInBounds i true) (a.put oi.dst v) w) : wpZ P md ops Q S z (fuel + 1) listed a w :=
  ⟨fun h0 => absurd (hr ▸ h0) (by simp), fun j hj => by
    rw [hr] at hj
    obtain rfl := List.mem_singleton.1 hj
    exact hy.wpOp hi hS ⟨fun _ => hS, h⟩⟩
theorem doneZ {listed : Array Bool} {a : Act} {w : World} (hr : Region.ready md ops listed = []) (h : Q .normal a w) : ∀ fuel, wpZ P md ops Q S z fuel listed a w
  | 0 => ⟨hr, h⟩
  | _ + 1 => ⟨fun _ => h, by rw [hr]; simp⟩
theorem regionZ (z : Nat) (S : World → Prop) {id : Nat} {a : Act} {w : World} (hm : P.follows .mixedOrders = true) (hS : S w.drew)
    (h : S w.drew → wpZ P .any ops Q S z ops.size (Array.replicate ops.size false) a w.drew) : (Code.region id ops true).wp P Q a w :=
  wp_region_any hm (wpAny_of_z _ _ _ _ (h hS))
end
end Go.Proofs.YtcaeihfgdlffkaaGreatRRRRDoor.HzW

/- wide.Root, walked: bit by bit (printed by mkrot.py). -/
namespace Go.Proofs.YtcaeihfgdlffkaaGreatRRRRDoor.RotW
set_option linter.unusedVariables false
set_option linter.unusedSimpArgs false
open Go.RowKit Base BigM BigZ WideM RptM RptO RptC WidX SeqM HzW

theorem gi {L : List Oper} {i : Nat} {o : Oper} (h : L[i]? = some o) : L.toArray[i]? = some o := by rw [List.getElem?_toArray]; exact h
/-- the bits of a sum, where no bit is in both -/
theorem or_bits {x y : Nat} (h : x ||| y = x + y) (hs : x + y < 18446744073709551616) : bits .or .u64 (x : Int) (y : Int) = ((x + y : Nat) : Int) := by
  have hx : x < 18446744073709551616 := by omega
  have hy : y < 18446744073709551616 := by omega
  unfold bits
  show IntKind.u64.wrap (((BitVec.ofInt 64 (x : Int)) ||| (BitVec.ofInt 64 (y : Int))).toNat : Int) = _
  rw [BitVec.ofInt_natCast, BitVec.ofInt_natCast, BitVec.toNat_or, BitVec.toNat_ofNat, BitVec.toNat_ofNat, Nat.mod_eq_of_lt hx, Nat.mod_eq_of_lt hy, h]
  exact IntWalk.u64_in _ (by omega)
theorem pow_cast (n : Nat) : (2 : Int) ^ n = ((2 ^ n : Nat) : Int) := by simp
/-- the root's loop: bit k - 1 is the next one -/
def RootRel (a : Nat) (W w : World) (r k : Value) (wr : World) : Prop := ∃ (n x : Nat), n ≤ 64 ∧ k = .int .i64 ((n : Int) - 1) ∧ r = .int .u64 (x : Int) ∧ Rt n x ∧ rootK a n x = rootF a ∧ Below W.heap.size W wr ∧ Below w.heap.size w wr
set_option maxHeartbeats 2000000 in
theorem Root_any (a : Int) (h0 : 0 ≤ a) (h1 : a < 340282366920938463463374607431768211456) (w : World) :
    Calls Tryz.prog 35 #[WV a] w fun e w' => e = .returned (.int .u64 (rootF a.toNat : Int)) ∧ Below w.heap.size w w' := by
  have HA := Lib.hid (And.intro h0 h1)
  obtain ⟨hi, eh⟩ : ∃ hi, hiW a = hi := ⟨_, rfl⟩
  obtain ⟨lo, el⟩ : ∃ lo, loW a = lo := ⟨_, rfl⟩
  have HW := Lib.hid (show WV a = .agg #[.int .u64 hi, .int .u64 lo] by unfold WV; rw [eh, el])
  rw [HW.out]
  clear eh el
  obtain ⟨W, eW⟩ : ∃ W, w.alloc (.cells #[.int .u64 hi, .int .u64 lo] 49) = W := ⟨_, rfl⟩
  have H0 := Lib.hid (show RootRel a.toNat W w (.int .u64 0) (.int .i64 63) W from ⟨64, 0, Nat.le_refl _, rfl, rfl, rt_start, rfl, Below.refl _ _, by rw [← eW]; exact below_alloc1 _ _⟩)
  have HC := Lib.hid (show W.cell? ⟨w.heap.size, 0, none⟩ = some (.int .u64 hi) ∧ W.cell? ⟨w.heap.size, 1, none⟩ = some (.int .u64 lo) by subst eW; constructor <;> go_simp)
  go_enter Tryz.func35, Tryz.ntmps35
  go_wp2
  clear eW h0 h1
  go_loopw [3, 4] (fun r k wr => RootRel a.toNat W w r k wr) (fun _ k _ => (intOf k + 1).toNat)
  case atStart => exact H0.out
  case round =>
    obtain ⟨n, x, hn, rfl, rfl, hr, hk, hb, hb0⟩ := hrel
    cases n with
    | zero =>
      have F := Lib.hid (show x = rootF a.toNat from hk)
      go_wp2
      go_ret
      exact ⟨ret_int (by rw [F.out]), hb0⟩
    | succ n =>
      have HR := Lib.hid hr
      have HK := Lib.hid hk
      have C0 := Lib.hid (keepA hb HC.out.1)
      have C1 := Lib.hid (keepA hb HC.out.2)
      have HB0 := Lib.hid hb0
      have HB := Lib.hid hb
      obtain ⟨y, ey⟩ : ∃ y, x + 2 ^ n = y := ⟨_, rfl⟩
      have hy : y < 18446744073709551616 := by rw [← ey]; exact rt_room (by omega) hr
      have hp : IntKind.u64.wrap (2 ^ n) = ((2 ^ n : Nat) : Int) := by rw [pow_cast]; generalize (2 : Nat) ^ n = p at ey; exact IntWalk.u64_in _ (by omega)
      have HOR := Lib.hid (show bits .or .u64 (x : Int) (IntKind.u64.wrap (2 ^ n)) = (y : Int) by rw [hp, or_bits (rt_or hr) (by omega), ey])
      have HY := Lib.hid ey
      have HMUL := Lib.hid (fun W' => Mul_any (y : Int) (y : Int) ⟨by omega, by omega⟩ ⟨by omega, by omega⟩ W')
      have hyy : (y : Int) * y < 340282366920938463463374607431768211456 := by
        have h9 : y * y ≤ 18446744073709551615 * 18446744073709551615 := Nat.mul_le_mul (by omega) (by omega)
        have : ((y * y : Nat) : Int) = (y : Int) * y := by rw [Int.natCast_mul]
        omega
      have hyy0 : 0 ≤ (y : Int) * y := Int.mul_nonneg (by omega) (by omega)
      have HCMP := Lib.hid (fun W' => Cmp_any ((y : Int) * y) a ⟨hyy0, hyy⟩ HA.out W')
      have HD := Lib.hid (show (y * y ≤ a.toNat ↔ (y : Int) * y ≤ a) by
        have : ((y * y : Nat) : Int) = (y : Int) * y := by rw [Int.natCast_mul]
        have := HA.out.1
        omega)
      have HYS := Lib.hid hy
      clear H0 hr hk hb0 hb hp hyy hyy0 ey
      go_wp2
      rw [HOR.out]
      refine regionZ 5 (fun w' => w'.cell? ⟨w.heap.size, 0, none⟩ = some (.int .u64 hi) ∧ w'.cell? ⟨w.heap.size, 1, none⟩ = some (.int .u64 lo)) (by kernel_rfl) (⟨C0.out, C1.out⟩) (fun hH => ?_)
      refine takeZ 0 (v := ?_) (gi rfl) (by kernel_rfl) (fun _ _ _ h => h) hH (.inl ⟨rfl, fun w hW => ?_⟩) ?_
      rotate_left
      · (go_simp; try with_reducible rfl)
      try simp only [Act.put, List.setIfInBounds_toArray, List.set_cons_zero, List.set_cons_succ]
      refine takeZ 1 (v := ?_) (gi rfl) (by kernel_rfl) (fun _ _ _ h => h) hH (.inl ⟨rfl, fun w hW => ?_⟩) ?_
      rotate_left
      · (go_simp; try with_reducible rfl)
      try simp only [Act.put, List.setIfInBounds_toArray, List.set_cons_zero, List.set_cons_succ]
      refine takeZ 3 (v := ?_) (gi rfl) (by kernel_rfl) (fun _ _ _ h => h) hH (.inl ⟨rfl, fun w hW => ?_⟩) ?_
      rotate_left
      · (obtain ⟨hW1, hW2⟩ := hW; go_simp; try with_reducible rfl)
      try simp only [Act.put, List.setIfInBounds_toArray, List.set_cons_zero, List.set_cons_succ]
      refine oneZ 2 (by kernel_rfl) (gi rfl) (fun K hK => ?_)
      try simp only [Act.put, List.setIfInBounds_toArray, List.set_cons_zero, List.set_cons_succ]
      go_simp
      refine (HMUL.out _).mono ?_
      rintro e w1 ⟨rfl, hb1⟩
      have HB1 := Lib.hid hb1
      clear hb1
      refine hK.out _ _ (fun _ => ⟨keepA HB1.out C0.out, keepA HB1.out C1.out⟩) (fun hH => ?_)
      replace hH := hH (by decide)
      clear hK K
      try simp only [Act.put, List.setIfInBounds_toArray, List.set_cons_zero, List.set_cons_succ]
      rw [← HW.out]
      refine oneZ 4 (by kernel_rfl) (gi rfl) (fun K hK => ?_)
      try simp only [Act.put, List.setIfInBounds_toArray, List.set_cons_zero, List.set_cons_succ]
      go_simp
      refine (HCMP.out _).mono ?_
      rintro e w2 ⟨rfl, hb2⟩
      have HB2 := Lib.hid hb2
      clear hb2
      refine hK.out _ _ (fun _ => ⟨keepA HB2.out (keepA HB1.out C0.out), keepA HB2.out (keepA HB1.out C1.out)⟩) (fun hH => ?_)
      replace hH := hH (by decide)
      clear hK K
      try simp only [Act.put, List.setIfInBounds_toArray, List.set_cons_zero, List.set_cons_succ]
      refine yieldZ 5 (v := ?_) (by kernel_rfl) (gi rfl) hH (.inl ⟨rfl, fun w hW => ?_⟩) ?_
      rotate_left
      · (go_simp; try with_reducible rfl)
      try simp only [Act.put, List.setIfInBounds_toArray, List.set_cons_zero, List.set_cons_succ]
      refine doneZ (by kernel_rfl) ?_ _
      by_cases hle : (y : Int) * y ≤ a
      · have ho : ord ((y : Int) * y) a ≤ 0 := by unfold ord; split <;> (try split) <;> omega
        have hS : rootS a.toNat x n = y := by unfold rootS; rw [HY.out, if_pos (HD.out.2 hle)]
        have HN := Lib.hid (show Rt n y ∧ rootK a.toNat n y = rootF a.toNat from ⟨by rw [← HY.out]; exact rt_up (by omega) HR.out, by have := HK.out; rw [rootK, hS] at this; exact this⟩)
        generalize ord ((y : Int) * y) a = o at *
        clear hle hS hH
        rw [HW.out]
        go_wp2
        exact ⟨⟨n, y, by omega, by go_num, rfl, HN.out.1, HN.out.2, bt HB2.out (bt HB1.out (HB.out.drew)), bt HB2.out (bt HB1.out (HB0.out.drew))⟩, by simp [intOf]⟩
      · have ho : 0 < ord ((y : Int) * y) a := by unfold ord; split <;> (try split) <;> omega
        have hS : rootS a.toNat x n = x := by unfold rootS; rw [HY.out, if_neg (fun h => hle (HD.out.1 h))]
        have HN := Lib.hid (show Rt n x ∧ rootK a.toNat n x = rootF a.toNat from ⟨rt_down HR.out, by have := HK.out; rw [rootK, hS] at this; exact this⟩)
        generalize ord ((y : Int) * y) a = o at *
        clear hle hS hH
        rw [HW.out]
        go_wp2
        exact ⟨⟨n, x, by omega, by go_num, rfl, HN.out.1, HN.out.2, bt HB2.out (bt HB1.out (HB.out.drew)), bt HB2.out (bt HB1.out (HB0.out.drew))⟩, by simp [intOf]⟩
end Go.Proofs.YtcaeihfgdlffkaaGreatRRRRDoor.RotW

/- sched.Turns, walked (printed by mksch.py). -/
namespace Go.Proofs.YtcaeihfgdlffkaaGreatRRRRDoor.SchZ
set_option linter.unusedVariables false
set_option linter.unusedSimpArgs false
open Go.RowKit Base SeqM CfM SchX SchY HyW RotW

set_option maxHeartbeats 2000000 in
set_option maxRecDepth 100000 in
theorem Turns_ok (c : Cf) (m n : Int) (hc : confOk c) (hm : cnt m) (hn : cnt n) (w : World) :
    Calls Tryz.prog 110 #[.agg (cfC c).toArray, .int .i64 m, .int .i64 n] w fun e w' => e = .returned (.tuple #[.int .i64 (max 0 (upC c n - upC c m)), .int .i64 0]) ∧ Below w.heap.size w w' := by
  have h7 : c.c7 ≤ 9223372036854775807 := by unfold confOk at hc; omega
  have HRI := Lib.hid (fun v W h => right_any c h7 v [m, n] W h)
  rw [right_ok hc (by simpa using ⟨hm, hn⟩)] at HRI
  have HUM := Lib.hid (fun W => upTo_ok c m hc hm W)
  have HUN := Lib.hid (fun W => upTo_ok c n hc hn W)
  have bm := up_bd hc hm
  have bn := up_bd hc hn
  unfold cnt at hm hn
  generalize upC c m = um at *
  generalize upC c n = un at *
  have hmx : (if 0 < un - um then un - um else 0) = max 0 (un - um) := by omega
  have hwr : IntKind.i64.wrap (un - um) = un - um := IntWalk.i64_in _ (by omega)
  clear hc h7
  obtain ⟨c0, c1, c2, c3, c4, c5, c6, c7, c8, c9, c10⟩ := c
  unfold CfM.cfC at HRI HUM HUN ⊢
  dsimp only at HRI HUM HUN ⊢
  obtain ⟨W, eW⟩ : ∃ W, w.alloc (.cells #[.int .i64 c0, .int .i64 c1, .int .i64 c2, .int .i64 c3, .int .i64 c4, .int .i64 c5, .int .i64 c6, .int .i64 c7, .int .i64 c8, .int .i64 c9, .int .i64 c10] 23) = W := ⟨_, rfl⟩
  have HB := Lib.hid (show Below w.heap.size w W by rw [← eW]; exact below_a1 _ _)
  have HCS := Lib.hid (show ∀ W' : World, Below W.heap.size W W' → (W'.cell? ⟨w.heap.size, 0, none⟩ = some (.int .i64 c0) ∧ W'.cell? ⟨w.heap.size, 1, none⟩ = some (.int .i64 c1) ∧ W'.cell? ⟨w.heap.size, 2, none⟩ = some (.int .i64 c2) ∧ W'.cell? ⟨w.heap.size, 3, none⟩ = some (.int .i64 c3) ∧ W'.cell? ⟨w.heap.size, 4, none⟩ = some (.int .i64 c4) ∧ W'.cell? ⟨w.heap.size, 5, none⟩ = some (.int .i64 c5) ∧ W'.cell? ⟨w.heap.size, 6, none⟩ = some (.int .i64 c6) ∧ W'.cell? ⟨w.heap.size, 7, none⟩ = some (.int .i64 c7) ∧ W'.cell? ⟨w.heap.size, 8, none⟩ = some (.int .i64 c8) ∧ W'.cell? ⟨w.heap.size, 9, none⟩ = some (.int .i64 c9) ∧ W'.cell? ⟨w.heap.size, 10, none⟩ = some (.int .i64 c10)) by
    intro W' hb
    subst eW
    refine ⟨keepA hb ?_, keepA hb ?_, keepA hb ?_, keepA hb ?_, keepA hb ?_, keepA hb ?_, keepA hb ?_, keepA hb ?_, keepA hb ?_, keepA hb ?_, keepA hb ?_⟩ <;> go_simp)
  obtain ⟨d0, d1, d2, d3, d4, d5, d6, d7, d8, d9, d10⟩ := HCS.out W (Below.refl _ _)
  go_enter Tryz.func110, Tryz.ntmps110
  go_wp2_with fail
  refine (HRI.out _ _ (seq_lit W [m, n] (by simp) (by simp [maxLen]) _ _ rfl)).mono ?_
  rintro e w1 ⟨rfl, hb1⟩
  have HB1 := Lib.hid (bt hb1 (below_a1 W (.cells #[.int .i64 m, .int .i64 n] 3)))
  clear d0 d1 d2 d3 d4 d5 d6 d7 d8 d9 d10 hb1
  have CL := Lib.hid (HCS.out w1 HB1.out)
  go_wp2_with fail
  refine regionZ 8 (fun w' => w'.cell? ⟨w.heap.size, 0, none⟩ = some (.int .i64 c0) ∧ w'.cell? ⟨w.heap.size, 1, none⟩ = some (.int .i64 c1) ∧ w'.cell? ⟨w.heap.size, 2, none⟩ = some (.int .i64 c2) ∧ w'.cell? ⟨w.heap.size, 3, none⟩ = some (.int .i64 c3) ∧ w'.cell? ⟨w.heap.size, 4, none⟩ = some (.int .i64 c4) ∧ w'.cell? ⟨w.heap.size, 5, none⟩ = some (.int .i64 c5) ∧ w'.cell? ⟨w.heap.size, 6, none⟩ = some (.int .i64 c6) ∧ w'.cell? ⟨w.heap.size, 7, none⟩ = some (.int .i64 c7) ∧ w'.cell? ⟨w.heap.size, 8, none⟩ = some (.int .i64 c8) ∧ w'.cell? ⟨w.heap.size, 9, none⟩ = some (.int .i64 c9) ∧ w'.cell? ⟨w.heap.size, 10, none⟩ = some (.int .i64 c10)) (by kernel_rfl) (CL.out) (fun hH => ?_)
  refine takeZ 0 (v := ?_) (gi rfl) (by kernel_rfl) (fun _ _ _ h => h) hH (.inl ⟨rfl, fun w hW => ?_⟩) ?_
  rotate_left
  · (obtain ⟨hW0, hW1, hW2, hW3, hW4, hW5, hW6, hW7, hW8, hW9, hW10⟩ := hW; go_simp; try with_reducible rfl)
  try simp only [Act.put, List.setIfInBounds_toArray, List.set_cons_zero, List.set_cons_succ]
  refine takeZ 1 (v := ?_) (gi rfl) (by kernel_rfl) (fun _ _ _ h => h) hH (.inl ⟨rfl, fun w hW => ?_⟩) ?_
  rotate_left
  · (go_simp; try with_reducible rfl)
  try simp only [Act.put, List.setIfInBounds_toArray, List.set_cons_zero, List.set_cons_succ]
  refine takeZ 3 (v := ?_) (gi rfl) (by kernel_rfl) (fun _ _ _ h => h) hH (.inl ⟨rfl, fun w hW => ?_⟩) ?_
  rotate_left
  · (obtain ⟨hW0, hW1, hW2, hW3, hW4, hW5, hW6, hW7, hW8, hW9, hW10⟩ := hW; go_simp; try with_reducible rfl)
  try simp only [Act.put, List.setIfInBounds_toArray, List.set_cons_zero, List.set_cons_succ]
  refine takeZ 4 (v := ?_) (gi rfl) (by kernel_rfl) (fun _ _ _ h => h) hH (.inl ⟨rfl, fun w hW => ?_⟩) ?_
  rotate_left
  · (go_simp; try with_reducible rfl)
  try simp only [Act.put, List.setIfInBounds_toArray, List.set_cons_zero, List.set_cons_succ]
  refine oneZ 2 (by kernel_rfl) (gi rfl) (fun K hK => ?_)
  try simp only [Act.put, List.setIfInBounds_toArray, List.set_cons_zero, List.set_cons_succ]
  go_simp
  refine (HUN.out _).mono ?_
  rintro e x1 ⟨rfl, hb2⟩
  have HK1 := Lib.hid hb2
  clear hb2
  refine hK.out _ _ (fun _ => HCS.out _ (bt HK1.out (HB1.out.drew))) (fun hH => ?_)
  replace hH := hH (by decide)
  clear hK K
  try simp only [Act.put, List.setIfInBounds_toArray, List.set_cons_zero, List.set_cons_succ]
  refine oneZ 5 (by kernel_rfl) (gi rfl) (fun K hK => ?_)
  try simp only [Act.put, List.setIfInBounds_toArray, List.set_cons_zero, List.set_cons_succ]
  go_simp
  refine (HUM.out _).mono ?_
  rintro e x2 ⟨rfl, hb2⟩
  have HK2 := Lib.hid hb2
  clear hb2
  refine hK.out _ _ (fun _ => HCS.out _ (bt HK2.out (bt HK1.out (HB1.out.drew)))) (fun hH => ?_)
  replace hH := hH (by decide)
  clear hK K
  try simp only [Act.put, List.setIfInBounds_toArray, List.set_cons_zero, List.set_cons_succ]
  refine takeZ 6 (v := ?_) (gi rfl) (by kernel_rfl) (fun _ _ _ h => h) hH (.inl ⟨rfl, fun w hW => ?_⟩) ?_
  rotate_left
  · (go_simp; try with_reducible rfl)
  try simp only [Act.put, List.setIfInBounds_toArray, List.set_cons_zero, List.set_cons_succ]
  refine takeZ 7 (v := ?_) (gi rfl) (by kernel_rfl) (fun _ _ _ h => h) hH (.inl ⟨rfl, fun w hW => ?_⟩) ?_
  rotate_left
  · (go_simp; try with_reducible rfl)
  try simp only [Act.put, List.setIfInBounds_toArray, List.set_cons_zero, List.set_cons_succ]
  refine oneZ 8 (by kernel_rfl) (gi rfl) (fun K hK => ?_)
  try simp only [Act.put, List.setIfInBounds_toArray, List.set_cons_zero, List.set_cons_succ]
  go_simp
  refine hK.out _ _ (fun h => absurd h (by decide)) (fun hH => ?_)
  clear hK K
  try simp only [Act.put, List.setIfInBounds_toArray, List.set_cons_zero, List.set_cons_succ]
  refine oneZ 9 (by kernel_rfl) (gi rfl) (fun K hK => ?_)
  try simp only [Act.put, List.setIfInBounds_toArray, List.set_cons_zero, List.set_cons_succ]
  go_simp
  refine hK.out _ _ (fun h => absurd h (by decide)) (fun hH => ?_)
  clear hK K
  try simp only [Act.put, List.setIfInBounds_toArray, List.set_cons_zero, List.set_cons_succ]
  refine doneZ (by kernel_rfl) ?_ _
  clear hH
  go_wp2_with fail
  go_ret2
  exact ⟨rfl, bt HK2.out (bt HK1.out (bt (HB1.out.drew) HB.out))⟩
end Go.Proofs.YtcaeihfgdlffkaaGreatRRRRDoor.SchZ

/- A state that took nothing: it is right (state.Right walked there). -/
namespace Go.Proofs.YtcaeihfgdlffkaaGreatRRRRDoor.StaE
set_option linter.unusedVariables false
set_option linter.unusedSimpArgs false
open Go.RowKit Base SeqM CfM SchX SchY SchZ

/-- the cells of the state that took nothing -/
def st0C (c : Cf) : List Value := cfC c ++ [.int .i64 0, .int .i64 0, .int .i64 0, .slice none 0 0, .slice none 0 0, .slice none 0 0]
def lk0C (c : Cf) (f : Int) : List Value := st0C c ++ [.int .i64 f]
set_option maxHeartbeats 2000000 in
set_option maxRecDepth 100000 in
theorem window0 (c : Cf) (f : Int) (hc : confOk c) (w : World) :
    Calls Tryz.prog 39 #[.agg (lk0C c f).toArray] w fun e w' => e = .returned (.bool true) ∧ Below w.heap.size w w' := by
  have h1 : 2 ≤ c.c1 ∧ c.c1 ≤ 256 := by unfold confOk at hc; omega
  obtain ⟨c0, c1, c2, c3, c4, c5, c6, c7, c8, c9, c10⟩ := c
  unfold lk0C st0C CfM.cfC
  dsimp only [List.cons_append, List.nil_append] at h1 ⊢
  have hmin : min (0 : Int) c1 = 0 := by omega
  clear hc
  go_enter Tryz.func39, Tryz.ntmps39
  go_wp2
  go_quiet (fail)
  go_wp2
  go_loopw [3, 32] (fun l i wr => l = .int .i64 0 ∧ i = .int .i64 0 ∧ wr.cell? ⟨w.heap.size, 12, none⟩ = some (.int .i64 0) ∧ Below w.heap.size w wr) (fun _ _ _ => 0)
  case atStart => exact ⟨rfl, rfl, by go_simp, below_drewN (below_a1 _ _) nq⟩
  case round =>
    obtain ⟨rfl, rfl, d0, hb⟩ := hrel
    go_wp2
    go_ret
    exact ⟨rfl, hb⟩
set_option maxHeartbeats 2000000 in
set_option maxRecDepth 100000 in
theorem alerts0 (c : Cf) (f : Int) (hc : confOk c) (w : World) :
    Calls Tryz.prog 41 #[.agg (lk0C c f).toArray] w fun e w' => e = .returned (.bool true) ∧ Below w.heap.size w w' := by
  have h1 : 1 ≤ c.c9 ∧ c.c9 ≤ 64 := by unfold confOk at hc; omega
  obtain ⟨c0, c1, c2, c3, c4, c5, c6, c7, c8, c9, c10⟩ := c
  unfold lk0C st0C CfM.cfC
  dsimp only [List.cons_append, List.nil_append] at h1 ⊢
  have hmin : min (0 : Int) c9 = 0 := by omega
  clear hc
  go_enter Tryz.func41, Tryz.ntmps41
  go_wp2
  go_quiet (fail)
  go_wp2
  go_loopw [3, 47] (fun l i wr => l = .int .i64 0 ∧ i = .int .i64 0 ∧ Below w.heap.size w wr) (fun _ _ _ => 0)
  case atStart => exact ⟨rfl, rfl, below_drewN (below_a1 _ _) nq⟩
  case round =>
    obtain ⟨rfl, rfl, hb⟩ := hrel
    go_wp2
    go_ret
    exact ⟨rfl, hb⟩
set_option maxHeartbeats 2000000 in
set_option maxRecDepth 100000 in
theorem every0 (f : Value) (w : World) :
    Calls Tryz.prog 112 #[.slice none 0 0, f] w fun e w' => e = .returned (.bool true) ∧ w = w' := by
  go_enter Tryz.func112, Tryz.ntmps112
  go_wp2
  go_loopw [8] (fun i wr => i = .int .i64 0 ∧ w = wr) (fun _ _ => 0)
  case atStart => exact ⟨rfl, rfl⟩
  case round =>
    obtain ⟨rfl, rfl⟩ := hrel
    go_wp2
    go_ret
    exact ⟨rfl, rfl⟩
set_option maxHeartbeats 2000000 in
set_option maxRecDepth 100000 in
theorem forest0 (w : World) :
    Calls Tryz.prog 72 #[.slice none 0 0] w fun e w' => e = .returned (.bool true) ∧ Below w.heap.size w w' := by
  go_enter Tryz.func72, Tryz.ntmps72
  go_wp2_with fail
  refine (every0 _ _).mono ?_
  rintro e w1 ⟨rfl, rfl⟩
  go_wp2
  go_ret
  exact ⟨rfl, Below.refl _ _⟩
theorem eltI : Elt Tryz.prog 32 3 (.int .i64 0) 1 8 := elt_mk (z := .int .i64 0) Tryz.underlying32 (by kernel_rfl) rfl (by omega) (by omega)
set_option maxHeartbeats 4000000 in
set_option maxRecDepth 100000 in
theorem Births0 (c : Cf) (hc : confOk c) (w : World) :
    Calls Tryz.prog 71 #[.agg (cfC c).toArray, .int .i64 0] w fun e w' => (∃ v, e = .returned (.tuple #[.slice v 0 0, .int .i64 0])) ∧ Below w.heap.size w w' := by
  have h1 := cf_in hc
  have HTU := Lib.hid (fun W => Turns_ok c 0 0 hc (by decide) (by decide) W)
  rw [Int.sub_self, show max (0 : Int) 0 = 0 by decide] at HTU
  have HNX := Lib.hid (fun W => Next_ok c 0 hc (by decide) W)
  obtain ⟨q, hq⟩ : ∃ q, nextC c 0 = q := ⟨_, rfl⟩
  rw [hq] at HNX
  clear hc hq
  obtain ⟨c0, c1, c2, c3, c4, c5, c6, c7, c8, c9, c10⟩ := c
  unfold CfM.cfC at HTU HNX ⊢
  dsimp only at HTU HNX h1 ⊢
  have hmin : min (0 : Int) c2 = 0 := by omega
  have hmax : max (0 : Int) (0 - c2) = 0 := by omega
  have hw : IntKind.i64.wrap (0 - c2) = 0 - c2 := IntWalk.i64_in _ (by omega)
  have hmax2 : max (0 : Int) (-c2) = 0 := by omega
  obtain ⟨W, eW⟩ : ∃ W, w.alloc (.cells #[.int .i64 c0, .int .i64 c1, .int .i64 c2, .int .i64 c3, .int .i64 c4, .int .i64 c5, .int .i64 c6, .int .i64 c7, .int .i64 c8, .int .i64 c9, .int .i64 c10] 23) = W := ⟨_, rfl⟩
  have HB := Lib.hid (show Below w.heap.size w W by rw [← eW]; exact below_a1 _ _)
  have HCS := Lib.hid (show ∀ W' : World, Below W.heap.size W W' → (W'.cell? ⟨w.heap.size, 0, none⟩ = some (.int .i64 c0) ∧ W'.cell? ⟨w.heap.size, 1, none⟩ = some (.int .i64 c1) ∧ W'.cell? ⟨w.heap.size, 2, none⟩ = some (.int .i64 c2) ∧ W'.cell? ⟨w.heap.size, 3, none⟩ = some (.int .i64 c3) ∧ W'.cell? ⟨w.heap.size, 4, none⟩ = some (.int .i64 c4) ∧ W'.cell? ⟨w.heap.size, 5, none⟩ = some (.int .i64 c5) ∧ W'.cell? ⟨w.heap.size, 6, none⟩ = some (.int .i64 c6) ∧ W'.cell? ⟨w.heap.size, 7, none⟩ = some (.int .i64 c7) ∧ W'.cell? ⟨w.heap.size, 8, none⟩ = some (.int .i64 c8) ∧ W'.cell? ⟨w.heap.size, 9, none⟩ = some (.int .i64 c9) ∧ W'.cell? ⟨w.heap.size, 10, none⟩ = some (.int .i64 c10)) by
    intro W' hb
    subst eW
    refine ⟨keepA hb ?_, keepA hb ?_, keepA hb ?_, keepA hb ?_, keepA hb ?_, keepA hb ?_, keepA hb ?_, keepA hb ?_, keepA hb ?_, keepA hb ?_, keepA hb ?_⟩ <;> go_simp)
  obtain ⟨d0, d1, d2, d3, d4, d5, d6, d7, d8, d9, d10⟩ := HCS.out W (Below.refl _ _)
  go_enter Tryz.func71, Tryz.ntmps71
  go_wp2_with fail
  refine (HTU.out _).mono ?_
  rintro e w1 ⟨rfl, hb1⟩
  have HB1 := Lib.hid hb1
  clear d0 d1 d2 d3 d4 d5 d6 d7 d8 d9 d10 hb1
  obtain ⟨d0, d1, d2, d3, d4, d5, d6, d7, d8, d9, d10⟩ := HCS.out w1 HB1.out
  go_wp2_with fail
  refine (HNX.out _).mono ?_
  rintro e w2 ⟨rfl, hb2⟩
  have HB2 := Lib.hid (bt hb2 HB1.out)
  clear d0 d1 d2 d3 d4 d5 d6 d7 d8 d9 d10 hb2
  obtain ⟨d0, d1, d2, d3, d4, d5, d6, d7, d8, d9, d10⟩ := HCS.out w2 HB2.out
  go_wp2_with (at_make; refine mk1 _ rfl (.tmp 29) (.tmp 29) _ rfl eltI rfl 0 rfl rfl (by omega) ?_; intro w3 hown3 hb3; have e2 := (HCS.out w3 (bt hb3 HB2.out)).2.2.1)
  have HB3 := Lib.hid (bt hb3 HB2.out)
  clear hown3 hb3 e2
  go_loopw [11] (fun k wr => k = .int .i64 0 ∧ wr = w3) (fun _ _ => 0)
  case atStart => exact ⟨rfl, rfl⟩
  case round =>
    obtain ⟨rfl, rfl⟩ := hrel
    go_wp2
    go_ret2
    exact ⟨⟨_, rfl⟩, bt HB3.out HB.out⟩
set_option maxHeartbeats 4000000 in
set_option maxRecDepth 100000 in
theorem trees0 (c : Cf) (f : Int) (hc : confOk c) (w : World) :
    Calls Tryz.prog 40 #[.agg (lk0C c f).toArray] w fun e w' => e = .returned (.bool true) ∧ Below w.heap.size w w' := by
  have HBI := Lib.hid (fun W => Births0 c hc W)
  obtain ⟨c0, c1, c2, c3, c4, c5, c6, c7, c8, c9, c10⟩ := c
  unfold lk0C st0C
  unfold CfM.cfC at HBI ⊢
  dsimp only [List.cons_append, List.nil_append] at HBI ⊢
  clear hc
  obtain ⟨W, eW⟩ : ∃ W, w.alloc (.cells #[.int .i64 c0, .int .i64 c1, .int .i64 c2, .int .i64 c3, .int .i64 c4, .int .i64 c5, .int .i64 c6, .int .i64 c7, .int .i64 c8, .int .i64 c9, .int .i64 c10, .int .i64 0, .int .i64 0, .int .i64 0, .slice none 0 0, .slice none 0 0, .slice none 0 0, .int .i64 f] 84) = W := ⟨_, rfl⟩
  have HB := Lib.hid (show Below w.heap.size w W by rw [← eW]; exact below_a1 _ _)
  have HF := Lib.hid (show ∀ W' : World, Below W.heap.size W W' → W'.cell? ⟨w.heap.size, 15, none⟩ = some (.slice none 0 0) by
    intro W' hb
    subst eW
    exact keepA hb (by go_simp))
  have HCS := Lib.hid (show W.cell? ⟨w.heap.size, 11, none⟩ = some (.int .i64 0) ∧ W.cell? ⟨w.heap.size, 0, none⟩ = some (.int .i64 c0) ∧ W.cell? ⟨w.heap.size, 1, none⟩ = some (.int .i64 c1) ∧ W.cell? ⟨w.heap.size, 2, none⟩ = some (.int .i64 c2) ∧ W.cell? ⟨w.heap.size, 3, none⟩ = some (.int .i64 c3) ∧ W.cell? ⟨w.heap.size, 4, none⟩ = some (.int .i64 c4) ∧ W.cell? ⟨w.heap.size, 5, none⟩ = some (.int .i64 c5) ∧ W.cell? ⟨w.heap.size, 6, none⟩ = some (.int .i64 c6) ∧ W.cell? ⟨w.heap.size, 7, none⟩ = some (.int .i64 c7) ∧ W.cell? ⟨w.heap.size, 8, none⟩ = some (.int .i64 c8) ∧ W.cell? ⟨w.heap.size, 9, none⟩ = some (.int .i64 c9) ∧ W.cell? ⟨w.heap.size, 10, none⟩ = some (.int .i64 c10) by
    subst eW
    refine ⟨?_, ?_, ?_, ?_, ?_, ?_, ?_, ?_, ?_, ?_, ?_, ?_⟩ <;> go_simp)
  obtain ⟨d11, d0, d1, d2, d3, d4, d5, d6, d7, d8, d9, d10⟩ := HCS.out
  have f0 := HF.out W (Below.refl _ _)
  go_enter Tryz.func40, Tryz.ntmps40
  go_wp2_with fail
  refine (HBI.out _).mono ?_
  rintro e w1 ⟨⟨v, rfl⟩, hb1⟩
  have HB1 := Lib.hid hb1
  clear d11 f0 d0 d1 d2 d3 d4 d5 d6 d7 d8 d9 d10 hb1
  have f0 := HF.out w1 HB1.out
  go_wp2_with fail
  refine (forest0 _).mono ?_
  rintro e w2 ⟨rfl, hb2⟩
  have HB2 := Lib.hid (bt hb2 HB1.out)
  clear f0 hb2
  have f0 := HF.out w2 HB2.out
  go_wp2_with fail
  go_loopw [35] (fun i wr => i = .int .i64 0 ∧ wr = w2) (fun _ _ => 0)
  case atStart => exact ⟨rfl, rfl⟩
  case round =>
    obtain ⟨rfl, rfl⟩ := hrel
    go_wp2
    go_ret
    exact ⟨rfl, bt HB2.out HB.out⟩
end Go.Proofs.YtcaeihfgdlffkaaGreatRRRRDoor.StaE
