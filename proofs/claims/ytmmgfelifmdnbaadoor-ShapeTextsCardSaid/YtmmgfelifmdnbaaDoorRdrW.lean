/- shape's reader: a byte, a number. -/
import Derived.Test.YtmmgfelifmdnbaaDoorTexW
namespace Go.Proofs.YtmmgfelifmdnbaaDoor.RdrW
set_option linter.unusedVariables false
open Go.RowKit Go.Shelf Base SeqM ShpM ShpT ItrD TxtM GlbS WrtM

/-- the reader's block -/
def RAt (w : World) (rb : Nat) (s : List UInt8) (ok : Bool) : Prop := w.heap[rb]? = some (.cells #[.string ⟨s.toArray⟩, .bool ok] 77 (0, 0))
theorem RAt.cells {w : World} {rb : Nat} {s : List UInt8} {ok : Bool} (h : RAt w rb s ok) : w.cell? ⟨rb, 0, none⟩ = some (.string ⟨s.toArray⟩) ∧ w.cell? ⟨rb, 1, none⟩ = some (.bool ok) ∧ ∀ o, w.frozen? ⟨rb, o, none⟩ = false :=
  ⟨cell_heap h rfl, cell_heap h rfl, fun o => by simp [World.frozen?, show w.heap[rb]? = _ from h]⟩
theorem RAt.setOk {w : World} {rb : Nat} {s : List UInt8} {ok : Bool} (h : RAt w rb s ok) (b : Bool) : RAt (w.setCell ⟨rb, 1, none⟩ (.bool b)) rb s b := by
  have := Go.heap_setCell_same w rb 1 _ _ (Value.bool b) h
  unfold RAt
  rw [this]; simp
theorem RAt.setS {w : World} {rb : Nat} {s : List UInt8} {ok : Bool} (h : RAt w rb s ok) (t : List UInt8) : RAt (w.setCell ⟨rb, 0, none⟩ (.string ⟨t.toArray⟩)) rb t ok := by
  have := Go.heap_setCell_same w rb 0 _ _ (Value.string ⟨t.toArray⟩) h
  unfold RAt
  rw [this]; simp
/-- nothing but one block (and what is new) has turned -/
def KR (rb : Nat) (w w' : World) : Prop := Below rb w w' ∧ ∀ k, k < w.heap.size → k ≠ rb → w'.heap[k]? = w.heap[k]?
theorem KR.refl (rb : Nat) (w : World) : KR rb w w := ⟨Below.refl _ _, fun _ _ _ => rfl⟩
theorem KR.set {rb : Nat} {w w' : World} (h : KR rb w w') (o : Nat) (v : Value) : KR rb w (w'.setCell ⟨rb, o, none⟩ v) :=
  ⟨h.1.setCell (p := ⟨rb, o, none⟩) (Nat.le_refl _) v, fun k hk hne => (Below.heap_setCell _ _ _ k hne).trans (h.2 k hk hne)⟩
theorem KR.trans {rb : Nat} {w w' w'' : World} (h : KR rb w w') (h' : KR rb w' w'') : KR rb w w'' := ⟨h.1.trans h'.1, fun k hk hne => (h'.2 k (Nat.lt_of_lt_of_le hk h.1.size) hne).trans (h.2 k hk hne)⟩
theorem KR.of_below {rb : Nat} {w w' : World} (h : Below w.heap.size w w') (hrb : rb ≤ w.heap.size) : KR rb w w' := ⟨h.mono hrb, fun k hk _ => h.block k hk⟩
theorem RAt.below {w w' : World} {rb : Nat} {s : List UInt8} {ok : Bool} (h : RAt w rb s ok) (hb : Below w.heap.size w w') : RAt w' rb s ok := (hb.block rb (Array.getElem?_eq_some_iff.1 h).1).trans h
theorem tail_cut (c : UInt8) (r : List UInt8) : (⟨(c :: r).toArray⟩ : ByteArray).extract 1 (c :: r).length = ⟨r.toArray⟩ := by
  apply ByteArray.ext
  rw [ByteArray.data_extract]
  simp
/-- a byte is taken off -/
def byteM (c : UInt8) : List UInt8 → Bool → List UInt8 × Bool
  | x :: r, true => if x = c then (r, true) else (x :: r, false)
  | s, _ => (s, false)
set_option maxRecDepth 100000 in
theorem byte_any (rb : Nat) (s : List UInt8) (ok : Bool) (c : UInt8) (ci : Int) (hc : ci = (c.toNat : Int)) (w : World) (h : RAt w rb s ok) (hlen : s.length ≤ 1000000) :
    Calls Tryd.prog 45 #[.pointer (some ⟨rb, 0, none⟩), .int .u8 ci] w fun e w' => e = .returned (.tuple #[]) ∧ RAt w' rb (byteM c s ok).1 (byteM c s ok).2 ∧ KR rb w w' := by
  subst hc
  obtain ⟨c0, c1, hf⟩ := h.cells
  have H := Lib.hid h
  have hlt := (Array.getElem?_eq_some_iff.1 h).1
  clear h
  cases ok with
  | false =>
    have F := Lib.hid (show byteM c s false = (s, false) by cases s <;> rfl)
    go_enter Tryd.func45, Tryd.ntmps45
    go_wp2_with fail
    go_end0
    rw [F.out]
    exact ⟨rfl, H.out.setOk false, (KR.refl _ _).set _ _⟩
  | true =>
    cases s with
    | nil =>
      go_enter Tryd.func45, Tryd.ntmps45
      go_wp2_with fail
      go_end0
      exact ⟨rfl, H.out.setOk false, (KR.refl _ _).set _ _⟩
    | cons x r =>
      have hne : ((⟨(x :: r).toArray⟩ : ByteArray) == ⟨#[]⟩) = false := by
        show ((x :: r).toArray == (#[] : Array UInt8)) = false
        simp
      have hix : ∀ hh : 0 < (⟨(x :: r).toArray⟩ : ByteArray).size, (⟨(x :: r).toArray⟩ : ByteArray)[0]'hh = x := fun _ => rfl
      by_cases hx : x = c
      · subst hx
        have F := Lib.hid (show byteM x (x :: r) true = (r, true) by show (if x = x then (r, true) else (x :: r, false)) = _; rw [if_pos rfl])
        go_enter Tryd.func45, Tryd.ntmps45
        go_wp2_with fail
        go_end0
        rw [F.out]
        have hex : (⟨(x :: r).toArray⟩ : ByteArray).extract 1 (r.length + 1) = ⟨r.toArray⟩ := tail_cut x r
        rw [hex]
        exact ⟨rfl, (H.out.setOk true).setS r, ((KR.refl _ _).set _ _).set _ _⟩
      · have F := Lib.hid (show byteM c (x :: r) true = (x :: r, false) by show (if x = c then (r, true) else (x :: r, false)) = _; rw [if_neg hx])
        have hxc : ((x.toNat : Int) == (c.toNat : Int)) = false := by
          rw [beq_eq_false_iff_ne]; intro e; exact hx (UInt8.toNat_inj.1 (by omega))
        go_enter Tryd.func45, Tryd.ntmps45
        go_wp2_with fail
        go_end0
        rw [F.out]
        exact ⟨rfl, H.out.setOk false, (KR.refl _ _).set _ _⟩
/-! ### A number -/
def digP : List UInt8 → List UInt8
  | [] => []
  | c :: r => if isD c = true then c :: digP r else []
/-- what is taken for a number -/
def numP : List UInt8 → List UInt8
  | [] => []
  | c :: r => if c = 45 then 45 :: digP r else digP (c :: r)
theorem digP_at : ∀ (s : List UInt8) (k : Nat), (k < (digP s).length → ∃ c, s[k]? = some c ∧ isD c = true) ∧ (k = (digP s).length → s.length = k ∨ ∃ c, s[k]? = some c ∧ isD c = false)
  | [], k => ⟨fun h => absurd h (Nat.not_lt_zero _), fun h => .inl h.symm⟩
  | c :: r, k => by
    unfold digP
    cases hc : isD c
    · simp only [Bool.false_eq_true, if_false]
      refine ⟨fun h => absurd h (Nat.not_lt_zero _), fun h => ?_⟩
      simp only [List.length_nil] at h
      subst h
      exact .inr ⟨c, rfl, hc⟩
    · simp only [if_true]
      cases k with
      | zero => exact ⟨fun _ => ⟨c, rfl, hc⟩, fun h => by simp at h⟩
      | succ k =>
        obtain ⟨h1, h2⟩ := digP_at r k
        refine ⟨fun h => ?_, fun h => ?_⟩
        · exact h1 (by simpa using h)
        · rcases h2 (by simpa using h) with h3 | ⟨d, h3, h4⟩
          · exact .inl (by simp [h3])
          · exact .inr ⟨d, h3, h4⟩
theorem digP_pre : ∀ (s : List UInt8), s.take (digP s).length = digP s
  | [] => rfl
  | c :: r => by
    unfold digP
    split
    · simp [digP_pre r]
    · rfl
theorem numP_cons (c : UInt8) (r : List UInt8) : numP (c :: r) = if c = 45 then 45 :: digP r else digP (c :: r) := rfl
theorem numP_pre (s : List UInt8) : s.take (numP s).length = numP s := by
  cases s with
  | nil => rfl
  | cons c r =>
    rw [numP_cons]
    split
    · rename_i h; subst h; simp [digP_pre r]
    · exact digP_pre _
theorem numP_le (s : List UInt8) : (numP s).length ≤ s.length := by
  rw [← numP_pre s, List.length_take]; omega
theorem numP_in (s : List UInt8) {k : Nat} (h : k < (numP s).length) : ∃ c, s[k]? = some c ∧ (isD c = true ∨ (k = 0 ∧ c = 45)) := by
  cases s with
  | nil => exact absurd h (Nat.not_lt_zero _)
  | cons c r =>
    rw [numP_cons] at h
    split at h
    · rename_i hc
      cases k with
      | zero => exact ⟨c, rfl, .inr ⟨rfl, hc⟩⟩
      | succ k =>
        obtain ⟨d, h1, h2⟩ := (digP_at r k).1 (by simpa using h)
        exact ⟨d, h1, .inl h2⟩
    · obtain ⟨d, h1, h2⟩ := (digP_at (c :: r) k).1 h
      exact ⟨d, h1, .inl h2⟩
theorem numP_end (s : List UInt8) : s.length = (numP s).length ∨ ∃ c, s[(numP s).length]? = some c ∧ isD c = false ∧ ¬ ((numP s).length = 0 ∧ c = 45) := by
  cases s with
  | nil => exact .inl rfl
  | cons c r =>
    rw [numP_cons]
    split
    · rename_i hc
      rcases (digP_at r (digP r).length).2 rfl with h | ⟨d, h1, h2⟩
      · exact .inl (by simp [h])
      · exact .inr ⟨d, h1, h2, fun h => by simp at h⟩
    · rename_i hc
      rcases (digP_at (c :: r) (digP (c :: r)).length).2 rfl with h | ⟨d, h1, h2⟩
      · exact .inl h
      · refine .inr ⟨d, h1, h2, fun h => ?_⟩
        rw [h.1] at h1
        exact hc ((Option.some.inj h1).trans h.2)
/-- a number is taken off, as it must be written -/
def numM (s : List UInt8) (ok : Bool) : Int × List UInt8 × Bool :=
  match Lib.atoiAll (numP s) with
  | .ok v => if Lib.itoa v = numP s then (v, s.drop (numP s).length, ok) else (0, s, false)
  | _ => (0, s, false)
theorem beq_bytes (a b : List UInt8) : ((⟨a.toArray⟩ : ByteArray) == ⟨b.toArray⟩) = decide (a = b) := by
  show (a.toArray == b.toArray) = _
  rw [Bool.eq_iff_iff]
  simp
theorem cut_to (s : List UInt8) (n : Nat) : (⟨s.toArray⟩ : ByteArray).extract 0 n = ⟨(s.take n).toArray⟩ := by
  apply ByteArray.ext
  rw [ByteArray.data_extract]
  simp
theorem cut_from (s : List UInt8) (n : Nat) : (⟨s.toArray⟩ : ByteArray).extract n s.length = ⟨(s.drop n).toArray⟩ := by
  apply ByteArray.ext
  rw [ByteArray.data_extract]
  simp
  exact List.take_of_length_le (by simp)
def NmRel (s : List UInt8) (w : World) (i : Value) (wr : World) : Prop := ∃ k : Nat, k ≤ (numP s).length ∧ i = .int .i64 k ∧ w = wr
theorem numM_yes {s : List UInt8} {ok : Bool} {v : Int} (h : Lib.atoiAll (numP s) = .ok v) (h2 : Lib.itoa v = numP s) : numM s ok = (v, s.drop (numP s).length, ok) := by
  unfold numM; rw [h]; simp only; rw [if_pos h2]
theorem numM_no {s : List UInt8} {ok : Bool} {v : Int} (h : Lib.atoiAll (numP s) = .ok v) (h2 : ¬ Lib.itoa v = numP s) : numM s ok = (0, s, false) := by
  unfold numM; rw [h]; simp only; rw [if_neg h2]
theorem numM_err {s : List UInt8} {ok : Bool} (h : ∀ v, Lib.atoiAll (numP s) ≠ .ok v) : numM s ok = (0, s, false) := by
  unfold numM
  split
  · rename_i v hv; exact absurd hv (h v)
  · rfl
end Go.Proofs.YtmmgfelifmdnbaaDoor.RdrW
