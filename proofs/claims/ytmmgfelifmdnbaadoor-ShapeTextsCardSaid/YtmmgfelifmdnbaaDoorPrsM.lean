/- The reader of a tree's text, plainly. -/
import Derived.Test.YtmmgfelifmdnbaaDoorRdrW
namespace Go.Proofs.YtmmgfelifmdnbaaDoor.PrsM
set_option linter.unusedVariables false
open Go.RowKit ShpM TxtM GlbS WrtM RdrW

/-- so many numbers, each with a blank behind it -/
def coefM : Nat → List Int → List UInt8 → Bool → List Int × List UInt8 × Bool
  | 0, c, s, ok => (c, s, ok)
  | n + 1, c, s, ok => coefM n (c ++ [(numM s ok).1]) (byteM 32 (numM s ok).2.1 (numM s ok).2.2).1 (byteM 32 (numM s ok).2.1 (numM s ok).2.2).2
/-- what stands behind the opening byte, as far as the cut's number and the blank behind it -/
def headM (dim : Nat) (s : List UInt8) (ok : Bool) : List Int × Int × List UInt8 × Bool :=
  let a := byteM 40 s ok
  let b := coefM dim [] a.1 a.2
  let c := byteM 60 b.2.1 b.2.2
  let d := byteM 32 c.1 c.2
  let e := numM d.1 d.2
  let f := byteM 32 e.2.1 e.2.2
  (b.1, e.1, f.1, f.2)
/-- the last step of a fork: its right part's place, its size -/
def endM (out : List Nd) (at_ right : Nat) : List Nd :=
  match out[at_]?, out[at_ + 1]?, out[right]? with
  | some x, some l, some r => out.set at_ { x with right := (right : Int), size := wrap64 (l.size + r.size) }
  | _, _, _ => out
def nodeM (dim : Nat) : Nat → List UInt8 → Bool → List Nd → List UInt8 × Bool × List Nd
  | 0, s, _, out => (s, false, out)
  | _ + 1, s, false, out => (s, false, out)
  | k + 1, s, true, out =>
    if s.head? = some 40 then
      let h := headM dim s true
      let p := nodeM dim k h.2.2.1 h.2.2.2 (out ++ [⟨h.1, h.2.1, (out.length : Int) + 1, 0, 0⟩])
      let b := byteM 32 p.1 p.2.1
      let q := nodeM dim k b.1 b.2 p.2.2
      let e := byteM 41 q.1 q.2.1
      (e.1, e.2, if e.2 = true then endM q.2.2 out.length p.2.2.length else q.2.2)
    else
      let n := numM s true
      (n.2.1, n.2.2, out ++ [⟨[], 0, 0, 0, clamp n.1 0 65⟩])
theorem byteM_no (c : UInt8) (s : List UInt8) : byteM c s false = (s, false) := by cases s <;> rfl
theorem byteM_ok {c : UInt8} {s : List UInt8} {ok : Bool} (h : (byteM c s ok).2 = true) : ok = true ∧ s = c :: (byteM c s ok).1 := by
  cases ok with
  | false => rw [byteM_no] at h; cases h
  | true =>
    cases s with
    | nil => cases h
    | cons x r =>
      refine ⟨rfl, ?_⟩
      have e : byteM c (x :: r) true = if x = c then (r, true) else (x :: r, false) := rfl
      rw [e] at h ⊢
      by_cases hx : x = c
      · rw [if_pos hx, hx]
      · rw [if_neg hx] at h; cases h
theorem numM_ok {s : List UInt8} {ok : Bool} (h : (numM s ok).2.2 = true) : ok = true ∧ s = Lib.itoa (numM s ok).1 ++ (numM s ok).2.1 := by
  unfold numM at h ⊢
  split at h
  · rename_i v hv
    split at h
    · rename_i h2
      simp only [if_pos h2]
      refine ⟨h, ?_⟩
      show s = Lib.itoa v ++ s.drop (numP s).length
      rw [h2]
      conv => lhs; rw [← List.take_append_drop (numP s).length s]
      rw [numP_pre]
    · cases h
  · cases h
theorem endM_len (out : List Nd) (a r : Nat) : (endM out a r).length = out.length := by
  unfold endM
  split <;> simp
theorem nodeM_no (dim k : Nat) (s : List UInt8) (out : List Nd) : nodeM dim k s false out = (s, false, out) := by cases k <;> rfl
/-- nodes are appended, none ahead is touched; one at least, if all was as it must be -/
theorem nodeM_ext (dim : Nat) : ∀ (k : Nat) (s : List UInt8) (ok : Bool) (out : List Nd), ∃ ns, (nodeM dim k s ok out).2.2 = out ++ ns ∧ ns.length + 1 ≤ 2 ^ k ∧ ((nodeM dim k s ok out).2.1 = true → 1 ≤ ns.length)
  | 0, s, ok, out => ⟨[], by simp [nodeM], by simp, fun h => by simp [nodeM] at h⟩
  | k + 1, s, false, out => ⟨[], by simp [nodeM], by have := Nat.one_le_two_pow (n := k + 1); simpa using this, fun h => by simp [nodeM] at h⟩
  | k + 1, s, true, out => by
    have hp : 2 ^ (k + 1) = 2 ^ k + 2 ^ k := by rw [Nat.pow_succ]; omega
    have h1 := Nat.one_le_two_pow (n := k)
    simp only [nodeM]
    by_cases hh : s.head? = some 40
    · rw [if_pos hh]
      obtain ⟨n1, e1, l1, o1⟩ := nodeM_ext dim k (headM dim s true).2.2.1 (headM dim s true).2.2.2 (out ++ [⟨(headM dim s true).1, (headM dim s true).2.1, (out.length : Int) + 1, 0, 0⟩])
      obtain ⟨p, hp1⟩ : ∃ p, nodeM dim k (headM dim s true).2.2.1 (headM dim s true).2.2.2 (out ++ [⟨(headM dim s true).1, (headM dim s true).2.1, (out.length : Int) + 1, 0, 0⟩]) = p := ⟨_, rfl⟩
      rw [hp1] at e1 o1 ⊢
      obtain ⟨n2, e2, l2, o2⟩ := nodeM_ext dim k (byteM 32 p.1 p.2.1).1 (byteM 32 p.1 p.2.1).2 p.2.2
      obtain ⟨q, hq1⟩ : ∃ q, nodeM dim k (byteM 32 p.1 p.2.1).1 (byteM 32 p.1 p.2.1).2 p.2.2 = q := ⟨_, rfl⟩
      rw [hq1] at e2 o2 ⊢
      have hall : q.2.2 = out ++ (⟨(headM dim s true).1, (headM dim s true).2.1, (out.length : Int) + 1, 0, 0⟩ :: (n1 ++ n2)) := by rw [e2, e1]; simp
      by_cases he : (byteM 41 q.1 q.2.1).2 = true
      · rw [if_pos he, hall]
        unfold endM
        split
        · rename_i x l r hx hl hr
          rw [List.set_append_right _ _ (Nat.le_refl _), Nat.sub_self, List.set_cons_zero]
          exact ⟨_, rfl, by simp; omega, fun _ => by simp⟩
        · exact ⟨_, rfl, by simp; omega, fun _ => by simp⟩
      · rw [if_neg he, hall]
        exact ⟨_, rfl, by simp; omega, fun h => absurd h he⟩
    · rw [if_neg hh]
      exact ⟨_, rfl, by simp; omega, fun _ => by simp⟩
theorem coefM_next : ∀ (n : Nat) (c : List Int) (s : List UInt8) (ok : Bool), coefM (n + 1) c s ok = ((coefM n c s ok).1 ++ [(numM (coefM n c s ok).2.1 (coefM n c s ok).2.2).1], byteM 32 (numM (coefM n c s ok).2.1 (coefM n c s ok).2.2).2.1 (numM (coefM n c s ok).2.1 (coefM n c s ok).2.2).2.2)
  | 0, c, s, ok => rfl
  | n + 1, c, s, ok => by
    rw [coefM, coefM_next n]
    rfl
theorem byteM_le (c : UInt8) (s : List UInt8) (ok : Bool) : (byteM c s ok).1.length ≤ s.length := by
  cases ok with
  | false => rw [byteM_no]; exact Nat.le_refl _
  | true =>
    cases s with
    | nil => exact Nat.le_refl _
    | cons x r =>
      have e : byteM c (x :: r) true = if x = c then (r, true) else (x :: r, false) := rfl
      rw [e]; split <;> simp
theorem numM_le (s : List UInt8) (ok : Bool) : (numM s ok).2.1.length ≤ s.length := by
  unfold numM
  split
  · split
    · simp
    · exact Nat.le_refl _
  · exact Nat.le_refl _
theorem coefM_le : ∀ (n : Nat) (c : List Int) (s : List UInt8) (ok : Bool), (coefM n c s ok).2.1.length ≤ s.length ∧ (coefM n c s ok).1.length = c.length + n
  | 0, c, s, ok => ⟨Nat.le_refl _, rfl⟩
  | n + 1, c, s, ok => by
    obtain ⟨h1, h2⟩ := coefM_le n (c ++ [(numM s ok).1]) (byteM 32 (numM s ok).2.1 (numM s ok).2.2).1 (byteM 32 (numM s ok).2.1 (numM s ok).2.2).2
    have := byteM_le 32 (numM s ok).2.1 (numM s ok).2.2
    have := numM_le s ok
    rw [coefM]
    refine ⟨by omega, ?_⟩
    rw [h2]; simp; omega
theorem headM_le (dim : Nat) (s : List UInt8) (ok : Bool) : (headM dim s ok).2.2.1.length ≤ s.length := by
  simp only [headM]
  refine Nat.le_trans (byteM_le _ _ _) (Nat.le_trans (numM_le _ _) (Nat.le_trans (byteM_le _ _ _) (Nat.le_trans (byteM_le _ _ _) (Nat.le_trans (coefM_le _ _ _ _).1 (byteM_le _ _ _)))))
theorem nodeM_le (dim : Nat) : ∀ (k : Nat) (s : List UInt8) (ok : Bool) (out : List Nd), (nodeM dim k s ok out).1.length ≤ s.length
  | 0, s, ok, out => Nat.le_refl _
  | k + 1, s, false, out => Nat.le_refl _
  | k + 1, s, true, out => by
    simp only [nodeM]
    split
    · refine Nat.le_trans (byteM_le _ _ _) (Nat.le_trans (nodeM_le dim k _ _ _) (Nat.le_trans (byteM_le _ _ _) (Nat.le_trans (nodeM_le dim k _ _ _) (headM_le _ _ _))))
    · exact numM_le _ _
end Go.Proofs.YtmmgfelifmdnbaaDoor.PrsM
