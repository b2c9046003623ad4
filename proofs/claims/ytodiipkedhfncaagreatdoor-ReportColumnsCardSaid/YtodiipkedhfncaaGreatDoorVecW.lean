/- Lists of vectors in memory; the document's Much over them (lines of ShpU). -/
import Derived.Test.YtodiipkedhfncaaGreatDoorVisW
namespace Go.Proofs.YtodiipkedhfncaaGreatDoor.VecW
set_option linter.unusedVariables false
open Go.RowKit Base SeqM RptC
open VisW hiding ret_bool

theorem any_no {α : Type} {l : List α} {k : Nat} {f : α → Bool} (h : (l.take k).any f = true) : l.any f = true := by
  rw [List.any_eq_true] at h ⊢
  obtain ⟨x, hx, hf⟩ := h
  exact ⟨x, List.mem_of_mem_take hx, hf⟩
theorem any_next {α : Type} {l : List α} {k : Nat} {x : α} (h : l[k]? = some x) (f : α → Bool) : (l.take (k + 1)).any f = ((l.take k).any f || f x) := by
  rw [SeqM.take_next h, List.any_append]; simp
def IRel (n : Nat) (p : Nat → Prop) (w : World) (i : Value) (wr : World) : Prop := ∃ k : Nat, k ≤ n ∧ i = .int .i64 k ∧ p k ∧ w = wr
/-! ### Lists of vectors -/
def vcC (r : Value × List Int) : List Value := [r.1]
theorem vcC_len (r : Value × List Int) : (vcC r).length = 1 := rfl
def Vecs (w : World) (lo B : Nat) (v : Value) (l : List (List Int)) : Prop := ∃ rs : List (Value × List Int), rs.map (·.2) = l ∧ Seq 1 vcC w lo B v rs ∧ ∀ r ∈ rs, Seq 1 inC w lo B r.1 r.2
theorem Vecs.below {w w' : World} {lo B : Nat} {v : Value} {l : List (List Int)} (h : Vecs w lo B v l) (hb : Below B w w') : Vecs w' lo B v l := by
  obtain ⟨rs, h1, h2, h3⟩ := h
  exact ⟨rs, h1, h2.below hb, fun r hr => (h3 r hr).below hb⟩
theorem Vecs.more {w : World} {lo lo' B B' : Nat} {v : Value} {l : List (List Int)} (h : Vecs w lo B v l) (hl : lo' ≤ lo) (hB : B ≤ B') : Vecs w lo' B' v l := by
  obtain ⟨rs, h1, h2, h3⟩ := h
  exact ⟨rs, h1, h2.more hl hB, fun r hr => (h3 r hr).more hl hB⟩
theorem Vecs.up {w w' : World} {lo : Nat} {v : Value} {l : List (List Int)} (h : Vecs w lo w.heap.size v l) (hb : Below w.heap.size w w') : Vecs w' lo w'.heap.size v l := (h.below hb).more (Nat.le_refl _) hb.size
theorem Vecs.form {w : World} {lo B : Nat} {v : Value} {l : List (List Int)} (h : Vecs w lo B v l) : ∃ A cap, v = .slice A l.length cap ∧ l.length ≤ cap ∧ cap ≤ 9223372036854775807 ∧ (A = none → cap = 0) := by
  obtain ⟨rs, rfl, ⟨A, cap, e, h1, h2, _, h4⟩, _⟩ := h
  unfold maxLen at h2
  exact ⟨A, cap, by simpa using e, by simpa using h1, by omega, h4⟩
theorem Vecs.get {w : World} {lo B : Nat} {A : Option Addr} {n cap : Nat} {l : List (List Int)} (h : Vecs w lo B (.slice A n cap) l) {i : Nat} {x : List Int} (hx : l[i]? = some x) :
    ∃ (ad : Addr) (cv : Value), A = some ad ∧ ad.block < B ∧ w.cell? (ad.add i) = some cv ∧ Seq 1 inC w lo B cv x := by
  obtain ⟨rs, rfl, ⟨A', cap', e, _, _, hr, _⟩, hc⟩ := h
  obtain ⟨rfl, _⟩ : A = A' ∧ True := by injection e with e1; exact ⟨e1, trivial⟩
  rw [List.getElem?_map] at hx
  obtain ⟨r, hr1, rfl⟩ := Option.map_eq_some_iff.1 hx
  obtain ⟨ad, y, rfl, _, hb, hy, hcell⟩ := rdk vcC_len hr (List.getElem?_eq_some_iff.1 hr1).1
  rw [hr1] at hy
  obtain rfl := Option.some.inj hy
  exact ⟨ad, r.1, rfl, hb, by simpa using hcell 0 _ rfl, hc r (List.mem_of_getElem? hr1)⟩
def muchV (l : List (List Int)) (most : Int) : Bool := decide (most < l.length) || l.any fun x => decide (20 < x.length)
set_option maxHeartbeats 2000000 in
set_option maxRecDepth 100000 in
theorem MuchV_any (v : Value) (l : List (List Int)) (most : Int) (lo : Nat) (w : World) (h : Vecs w lo w.heap.size v l) :
    Calls Tryz.prog 8 #[v, .int .i64 most] w fun e w' => e = .returned (.bool (muchV l most)) ∧ w = w' := by
  have HS := Lib.hid h
  obtain ⟨A, cap, rfl, hc1, hc2, _⟩ := h.form
  obtain ⟨n, hn⟩ : ∃ n, l.length = n := ⟨_, rfl⟩
  have HN := Lib.hid hn
  rw [hn] at HS hc1 ⊢
  clear h hn
  by_cases hn1 : most < (n : Int)
  · have F := Lib.hid (show muchV l most = true by unfold muchV; rw [HN.out, decide_eq_true hn1]; rfl)
    go_enter Tryz.func8, Tryz.ntmps8
    go_wp2_with fail
    go_ret
    exact ⟨ret_bool F.out.symm, rfl⟩
  · have HV := Lib.hid (show muchV l most = l.any fun x => decide (20 < x.length) by unfold muchV; rw [HN.out, decide_eq_false hn1]; rfl)
    go_enter Tryz.func8, Tryz.ntmps8
    go_wp2_with fail
    go_loopw [5] (fun i wr => IRel n (fun k => (l.take k).any (fun x => decide (20 < x.length)) = false) w i wr) (fun i _ => n - (intOf i).toNat)
    case atStart => exact ⟨0, Nat.zero_le _, rfl, by simp, rfl⟩
    case round =>
      obtain ⟨k, hk, rfl, ht, rfl⟩ := hrel
      have HT := Lib.hid ht
      clear ht
      by_cases hlt : k < n
      · obtain ⟨x, hx⟩ : ∃ x, l[k]? = some x := ⟨_, List.getElem?_eq_getElem (by rw [HN.out]; exact hlt)⟩
        obtain ⟨ad, cv, rfl, hbk, d0, hcv⟩ := HS.out.get hx
        obtain ⟨AC, cc, rfl, hcc1, hcc2, _, _⟩ := hcv
        unfold maxLen at hcc2
        have HX := Lib.hid (any_next hx (fun x : List Int => decide (20 < x.length)))
        obtain ⟨cn, hcn⟩ : ∃ cn, x.length = cn := ⟨_, rfl⟩
        rw [hcn] at HX d0 hcc1
        clear hx hcn
        by_cases hc : 20 < cn
        · have hcb : (20 : Int) < (cn : Int) := by omega
          have F := Lib.hid (show muchV l most = true by rw [HV.out]; exact any_no (k := k + 1) (by rw [HX.out, decide_eq_true hc]; simp))
          go_wp2_with fail
          go_ret
          exact ⟨ret_bool F.out.symm, rfl⟩
        · have hcb : ¬ (20 : Int) < (cn : Int) := by omega
          have F := Lib.hid (decide_eq_false hc)
          go_wp2_with fail
          exact ⟨⟨k + 1, by omega, by go_num, (show (l.take (k + 1)).any (fun x => decide (20 < x.length)) = false by rw [HX.out, HT.out, F.out]; rfl), rfl⟩, by simp [intOf]; omega⟩
      · have F := Lib.hid (show muchV l most = false by
          have := HT.out
          rw [List.take_of_length_le (by rw [HN.out]; omega)] at this
          rw [HV.out, this])
        go_wp2_with fail
        go_ret
        exact ⟨ret_bool F.out.symm, rfl⟩
end Go.Proofs.YtodiipkedhfncaaGreatDoor.VecW
