/- Parts of planes: vec.ends, vec.Parts, the reference's Parts. -/
import Derived.Test.YtmmgfelifmdnbaaDoorShpV
import Derived.OwnWalk
namespace Go.Proofs.YtmmgfelifmdnbaaDoor.ShpW
set_option linter.unusedVariables false
open Go.RowKit Base SeqM ShpM ShpV

open Classical in
noncomputable def partsB (c : List Int) (dim : Int) : Bool := decide (partsOk c dim)
theorem partsB_yes {c : List Int} {dim : Int} (h : partsOk c dim) : partsB c dim = true := by unfold partsB; simpa using h
theorem partsB_no {c : List Int} {dim : Int} (h : ¬ partsOk c dim) : partsB c dim = false := by unfold partsB; simpa using h
theorem partsB_iff {c : List Int} {dim : Int} : partsB c dim = true ↔ partsOk c dim := by unfold partsB; simp
def Least (l : List Int) (a : Int) : Prop := a ∈ l ∧ ∀ x ∈ l, a ≤ x
def Most (l : List Int) (a : Int) : Prop := a ∈ l ∧ ∀ x ∈ l, x ≤ a
def ERel (l : List Int) (n : Nat) (w : World) (a b i : Value) (wr : World) : Prop := ∃ (k : Nat) (p q : Int), k + 1 ≤ n ∧ a = .int .i64 p ∧ b = .int .i64 q ∧ i = .int .i64 k ∧ Least (l.take (k + 1)) p ∧ Most (l.take (k + 1)) q ∧ ∃ d, wr = w.drewN d
theorem least_next {l : List Int} {k : Nat} {x p : Int} (h : l[k + 1]? = some x) (hl : Least (l.take (k + 1)) p) : Least (l.take (k + 1 + 1)) (if x < p then x else p) := by
  rw [take_next h]
  by_cases h1 : x < p
  · rw [if_pos h1]
    refine ⟨by simp, fun y hy => ?_⟩
    rcases List.mem_append.1 hy with hy | hy
    · have := hl.2 y hy; omega
    · obtain rfl := List.mem_singleton.1 hy; omega
  · rw [if_neg h1]
    refine ⟨List.mem_append_left _ hl.1, fun y hy => ?_⟩
    rcases List.mem_append.1 hy with hy | hy
    · exact hl.2 y hy
    · obtain rfl := List.mem_singleton.1 hy; omega
theorem most_next {l : List Int} {k : Nat} {x p : Int} (h : l[k + 1]? = some x) (hl : Most (l.take (k + 1)) p) : Most (l.take (k + 1 + 1)) (if p < x then x else p) := by
  rw [take_next h]
  by_cases h1 : p < x
  · rw [if_pos h1]
    refine ⟨by simp, fun y hy => ?_⟩
    rcases List.mem_append.1 hy with hy | hy
    · have := hl.2 y hy; omega
    · obtain rfl := List.mem_singleton.1 hy; omega
  · rw [if_neg h1]
    refine ⟨List.mem_append_left _ hl.1, fun y hy => ?_⟩
    rcases List.mem_append.1 hy with hy | hy
    · exact hl.2 y hy
    · obtain rfl := List.mem_singleton.1 hy; omega
set_option maxHeartbeats 2000000 in
theorem ends_any (v : Value) (l : List Int) (lo B : Nat) (w : World) (h : Seq 1 inC w lo B v l) (hl : 0 < l.length) :
    Calls Tryd.prog 74 #[v] w fun e w' => (∃ a b, e = .returned (.tuple #[.int .i64 a, .int .i64 b]) ∧ Least l a ∧ Most l b) ∧ ∃ q, w' = w.drewN q := by
  obtain ⟨A, cap, rfl, hc1, hc2, hr, _⟩ := h
  unfold maxLen at hc2
  have HR := Lib.hid hr
  obtain ⟨ad, x0, rfl, _, _, hx0, c0⟩ := rdI hr hl
  have c0 : w.cell? ad = some (.int .i64 x0) := c0
  obtain ⟨m, hn⟩ : ∃ m, l.length = m + 1 := ⟨l.length - 1, by omega⟩
  rw [hn] at hc1 ⊢
  have HN := Lib.hid hn
  have HX0 := Lib.hid hx0
  clear hr hn hx0 hl
  by_cases hcap : cap = 1
  · obtain rfl : m = 0 := by omega
    subst hcap
    go_enter Tryd.func74, Tryd.ntmps74
    go_wp2_with fail
    go_quiet (fail)
    go_wp2_with fail
    have hl1 : l = [x0] := by
      have h1 := HX0.out
      have h2 := HN.out
      match l, h2 with
      | [y], _ => simpa using h1
    go_loopw [4, 5, 17] (fun a b i wr => a = .int .i64 x0 ∧ b = .int .i64 x0 ∧ i = .int .i64 0 ∧ wr = w.drewN nq) (fun _ _ _ _ => 0)
    case atStart => exact ⟨rfl, rfl, rfl, rfl⟩
    case round =>
      obtain ⟨rfl, rfl, rfl, rfl⟩ := hrel
      go_wp2_with fail
      go_ret2
      exact ⟨⟨x0, x0, rfl, by rw [hl1]; simp [Least], by rw [hl1]; simp [Most]⟩, nq, rfl⟩
  · have H0 := Lib.hid (fun nq => show ERel l (m + 1) w (.int .i64 x0) (.int .i64 x0) (.int .i64 0) (w.drewN nq) from ⟨0, x0, x0, by omega, rfl, rfl, rfl, by rw [take_next HX0.out]; simp [Least], by rw [take_next HX0.out]; simp [Most], nq, rfl⟩)
    go_enter Tryd.func74, Tryd.ntmps74
    go_wp2_with fail
    go_quiet (fail)
    go_wp2_with fail
    go_loopw [4, 5, 17] (fun a b i wr => ERel l (m + 1) w a b i wr) (fun _ _ i _ => m - (intOf i).toNat)
    case atStart => exact H0.out nq
    case round =>
      obtain ⟨k, p, q, hk, rfl, rfl, rfl, h1, h2, d, rfl⟩ := hrel
      have H1 := Lib.hid h1
      have H2 := Lib.hid h2
      clear h1 h2 H0
      by_cases hlt : k < m
      · obtain ⟨ad', x, e, _, _, hx, c1⟩ := rdI HR.out (i := k + 1) (by rw [HN.out]; omega)
        obtain rfl := Option.some.inj e
        have e2 : ad.add (k + 1) = ⟨ad.block, ad.off + 1 + k, none⟩ := by simp [Addr.add]; omega
        rw [e2] at c1
        have HX := Lib.hid hx
        clear hx e e2
        go_wp2_with fail
        exact ⟨⟨k + 1, _, _, by omega, rfl, rfl, by go_num, least_next HX.out H1.out, most_next HX.out H2.out, d, rfl⟩, by simp [intOf]; omega⟩
      · go_wp2_with fail
        go_ret2
        have e1 : l.take (k + 1) = l := List.take_of_length_le (by rw [HN.out]; omega)
        have h1 := H1.out
        have h2 := H2.out
        rw [e1] at h1 h2
        exact ⟨⟨p, q, rfl, h1, h2⟩, d, rfl⟩
theorem parts_ends {l : List Int} {dim a b : Int} (hd : 1 ≤ dim ∧ dim ≤ 8 ∧ (l.length : Int) = dim) (h1 : Least l a) (h2 : Most l b) : partsOk l dim ↔ (-4 ≤ a ∧ b ≤ 4) ∧ (a < 0 ∨ 0 < b) := by
  unfold partsOk
  constructor
  · rintro ⟨_, _, _, h, x, hx, hx0⟩
    refine ⟨⟨(h a h1.1).1, (h b h2.1).2⟩, ?_⟩
    have := h1.2 x hx; have := h2.2 x hx; omega
  · rintro ⟨⟨h3, h4⟩, h5⟩
    refine ⟨hd.1, hd.2.1, hd.2.2, fun x hx => ?_, ?_⟩
    · have := h1.2 x hx; have := h2.2 x hx; omega
    · rcases h5 with h5 | h5
      · exact ⟨a, h1.1, by omega⟩
      · exact ⟨b, h2.1, by omega⟩
set_option maxHeartbeats 2000000 in
theorem Parts_any (v : Value) (l : List Int) (dim : Int) (lo B : Nat) (w : World) (h : Seq 1 inC w lo B v l) :
    Calls Tryd.prog 65 #[v, .int .i64 dim] w fun e w' => e = .returned (.bool (partsB l dim)) ∧ ∃ q, w' = w.drewN q := by
  have HS := Lib.hid h
  obtain ⟨A, cap, rfl, hc1, hc2, _, _⟩ := h
  unfold maxLen at hc2
  obtain ⟨n, hn⟩ : ∃ n, l.length = n := ⟨_, rfl⟩
  rw [hn] at hc1 ⊢
  have HN := Lib.hid hn
  clear hn
  by_cases h1 : dim < 1
  · have F := Lib.hid (show partsB l dim = false from partsB_no (fun h => by have := h.1; omega))
    go_enter Tryd.func65, Tryd.ntmps65
    go_wp2
    go_ret
    exact ⟨ret_bool F.out.symm, 0, rfl⟩
  · by_cases h2 : 8 < dim
    · have F := Lib.hid (show partsB l dim = false from partsB_no (fun h => by have := h.2.1; omega))
      go_enter Tryd.func65, Tryd.ntmps65
      go_wp2
      go_ret
      exact ⟨ret_bool F.out.symm, 0, rfl⟩
    · by_cases h3 : (n : Int) = dim
      · have h3b : ((n : Int) != dim) = false := by simpa using h3
        have HD := Lib.hid (show 1 ≤ dim ∧ dim ≤ 8 ∧ (l.length : Int) = dim from ⟨by omega, by omega, by rw [HN.out]; exact h3⟩)
        have hpos : 0 < l.length := by rw [HN.out]; omega
        have HE := Lib.hid (ends_any _ l lo B w HS.out hpos)
        rw [HN.out] at HE
        clear h3 hpos
        go_enter Tryd.func65, Tryd.ntmps65
        go_wp2_with fail
        refine HE.out.mono ?_
        rintro e w1 ⟨⟨a, b, rfl, hl, hm⟩, q, rfl⟩
        have HP := Lib.hid (parts_ends HD.out hl hm)
        clear hl hm
        by_cases ha : -4 ≤ a
        · by_cases hb : b ≤ 4
          · by_cases ha0 : a < 0
            · have F := Lib.hid (show partsB l dim = true from partsB_yes (HP.out.2 ⟨⟨ha, hb⟩, .inl ha0⟩))
              go_wp2
              go_ret
              exact ⟨ret_bool F.out.symm, q, rfl⟩
            · by_cases hb0 : 0 < b
              · have F := Lib.hid (show partsB l dim = true from partsB_yes (HP.out.2 ⟨⟨ha, hb⟩, .inr hb0⟩))
                go_wp2
                go_ret
                exact ⟨ret_bool F.out.symm, q, rfl⟩
              · have F := Lib.hid (show partsB l dim = false from partsB_no (fun h => by have := (HP.out.1 h).2; omega))
                have HA := Lib.hid (show (decide (a < 0) || decide (0 < b)) = false by rw [decide_eq_false ha0, decide_eq_false hb0]; rfl)
                go_wp2
                go_ret
                exact ⟨ret_bool (by rw [F.out, HA.out]), q, rfl⟩
          · have F := Lib.hid (show partsB l dim = false from partsB_no (fun h => hb (HP.out.1 h).1.2))
            go_wp2
            go_ret
            exact ⟨ret_bool F.out.symm, q, rfl⟩
        · have F := Lib.hid (show partsB l dim = false from partsB_no (fun h => ha (HP.out.1 h).1.1))
          go_wp2
          go_ret
          exact ⟨ret_bool F.out.symm, q, rfl⟩
      · have h3b : ((n : Int) != dim) = true := by simpa using h3
        have F := Lib.hid (show partsB l dim = false from partsB_no (fun h => h3 (by have := h.2.2.1; rw [HN.out] at this; exact this)))
        clear h3
        go_enter Tryd.func65, Tryd.ntmps65
        go_wp2
        go_ret
        exact ⟨ret_bool F.out.symm, 0, rfl⟩
def fourB (x : Int) : Bool := decide (-4 ≤ x ∧ x ≤ 4)
def PRel (l : List Int) (w : World) (some_ i : Value) (wr : World) : Prop := ∃ k : Nat, k ≤ l.length ∧ some_ = .bool ((l.take k).any (· != 0)) ∧ i = .int .i64 k ∧ (l.take k).all fourB = true ∧ w = wr
theorem any_next {α : Type} {l : List α} {k : Nat} {x : α} (h : l[k]? = some x) (f : α → Bool) : (l.take (k + 1)).any f = ((l.take k).any f || f x) := by
  rw [take_next h, List.any_append]; simp
theorem partsB_eq {l : List Int} {dim : Int} (hd : 1 ≤ dim ∧ dim ≤ 8 ∧ (l.length : Int) = dim) : partsB l dim = (l.all fourB && l.any (· != 0)) := by
  rw [Bool.eq_iff_iff, partsB_iff]
  unfold partsOk fourB
  simp only [decide_eq_true_eq, Bool.and_eq_true, List.all_eq_true, List.any_eq_true, bne_iff_ne]
  exact ⟨fun h => ⟨h.2.2.2.1, h.2.2.2.2⟩, fun h => ⟨hd.1, hd.2.1, hd.2.2, h.1, h.2⟩⟩
set_option maxHeartbeats 2000000 in
theorem RParts_any (v : Value) (l : List Int) (dim : Int) (lo B : Nat) (w : World) (h : Seq 1 inC w lo B v l) :
    Calls Tryd.prog 68 #[v, .int .i64 dim] w fun e w' => e = .returned (.bool (partsB l dim)) ∧ w = w' := by
  obtain ⟨A, cap, rfl, hc1, hc2, hr, _⟩ := h
  unfold maxLen at hc2
  have HR := Lib.hid hr
  obtain ⟨n, hn⟩ : ∃ n, l.length = n := ⟨_, rfl⟩
  rw [hn] at hc1 ⊢
  have HN := Lib.hid hn
  clear hn hr
  by_cases h1 : dim < 1
  · have F := Lib.hid (show partsB l dim = false from partsB_no (fun h => by have := h.1; omega))
    go_enter Tryd.func68, Tryd.ntmps68
    go_wp2
    go_ret
    exact ⟨ret_bool F.out.symm, rfl⟩
  · by_cases h2 : 8 < dim
    · have F := Lib.hid (show partsB l dim = false from partsB_no (fun h => by have := h.2.1; omega))
      go_enter Tryd.func68, Tryd.ntmps68
      go_wp2
      go_ret
      exact ⟨ret_bool F.out.symm, rfl⟩
    · by_cases h3 : (n : Int) = dim
      · have h3b : ((n : Int) != dim) = false := by simpa using h3
        have HV := Lib.hid (partsB_eq (l := l) (dim := dim) ⟨by omega, by omega, by rw [HN.out]; exact h3⟩)
        have H0 := Lib.hid (show PRel l w (.bool false) (.int .i64 0) w from ⟨0, Nat.zero_le _, by simp, rfl, by simp, rfl⟩)
        clear h3
        go_enter Tryd.func68, Tryd.ntmps68
        go_wp2
        go_loopw [5, 6] (fun s i wr => PRel l w s i wr) (fun _ i _ => n - (intOf i).toNat)
        case atStart => exact H0.out
        case round =>
          obtain ⟨k, hk, rfl, rfl, ht, rfl⟩ := hrel
          rw [HN.out] at hk
          have HT := Lib.hid ht
          clear H0 ht
          by_cases hlt : k < n
          · obtain ⟨ad, x, rfl, _, _, hx, c0⟩ := rdI HR.out (i := k) (by rw [HN.out]; exact hlt)
            have HX := Lib.hid (all_next hx fourB)
            have HY := Lib.hid (any_next hx (· != 0))
            clear hx
            by_cases hx1 : x < -4
            · have HB := Lib.hid (show partsB l dim = false by rw [HV.out, all_no (k := k + 1) (f := fourB) (by rw [HX.out, show fourB x = false from decide_eq_false (fun h => by omega)]; simp)]; rfl)
              go_wp2
              go_ret
              exact ⟨ret_bool HB.out.symm, rfl⟩
            · by_cases hx2 : 4 < x
              · have HB := Lib.hid (show partsB l dim = false by rw [HV.out, all_no (k := k + 1) (f := fourB) (by rw [HX.out, show fourB x = false from decide_eq_false (fun h => by omega)]; simp)]; rfl)
                go_wp2
                go_ret
                exact ⟨ret_bool HB.out.symm, rfl⟩
              · have HB := Lib.hid (show fourB x = true from decide_eq_true ⟨by omega, by omega⟩)
                generalize hs : (l.take k).any (· != 0) = s at *
                clear hs
                cases s
                · go_wp2
                  exact ⟨⟨k + 1, by rw [HN.out]; omega, by rw [HY.out]; rfl, by go_num, by rw [HX.out, HT.out, HB.out]; rfl, rfl⟩, by simp [intOf]; omega⟩
                · go_wp2
                  exact ⟨⟨k + 1, by rw [HN.out]; omega, by rw [HY.out]; rfl, by go_num, by rw [HX.out, HT.out, HB.out]; rfl, rfl⟩, by simp [intOf]; omega⟩
          · have e1 : l.take k = l := List.take_of_length_le (by rw [HN.out]; omega)
            have F := Lib.hid (show partsB l dim = (l.take k).any (· != 0) by have := HT.out; rw [HV.out, e1] at *; rw [this]; rfl)
            clear e1
            go_wp2
            go_ret
            exact ⟨ret_bool F.out.symm, rfl⟩
      · have h3b : ((n : Int) != dim) = true := by simpa using h3
        have F := Lib.hid (show partsB l dim = false from partsB_no (fun h => h3 (by have := h.2.2.1; rw [HN.out] at this; exact this)))
        clear h3
        go_enter Tryd.func68, Tryd.ntmps68
        go_wp2
        go_ret
        exact ⟨ret_bool F.out.symm, rfl⟩
end Go.Proofs.YtmmgfelifmdnbaaDoor.ShpW

