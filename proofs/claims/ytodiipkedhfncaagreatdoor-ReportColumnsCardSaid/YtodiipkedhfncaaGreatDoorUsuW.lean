/- The usual way to work (copselaw28.Usual), walked; the literal of three vectors. -/
import Derived.Test.YtodiipkedhfncaaGreatDoorTxtE
namespace Go.Proofs.YtodiipkedhfncaaGreatDoor.UsuW
set_option linter.unusedVariables false
set_option linter.unusedSimpArgs false
open Go.RowKit Base SeqM CfM VecW SchY

def usual : Cf := ⟨2, 16, 2, 8, 5, 1, 1, 10, 4, 3, 9⟩
theorem usual_ok : confOk usual := by decide
set_option maxHeartbeats 2000000 in
theorem Usual_any (w : World) : Calls Tryz.prog 31 #[] w fun e w' => e = .returned (.agg (cfC usual).toArray) ∧ Below w.heap.size w w' := by
  unfold CfM.cfC usual
  dsimp only
  go_enter Tryz.func31, Tryz.ntmps31
  go_wp2
  refine bodyPost_ret (v := .agg #[.int .i64 2, .int .i64 16, .int .i64 2, .int .i64 8, .int .i64 5, .int .i64 1, .int .i64 1, .int .i64 10, .int .i64 4, .int .i64 3, .int .i64 9]) (by simp [results, Tryz.results31, go_sem, *]) rfl ?_
  exact ⟨rfl, below_a1 _ _⟩
/-- three vectors of one number each -/
def litW (w : World) (a b c : Int) : World := (((w.alloc (.cells #[.int .i64 a] 3)).alloc (.cells #[.int .i64 b] 3)).alloc (.cells #[.int .i64 c] 3)).alloc
  (.cells #[.slice (some ⟨w.heap.size, 0, none⟩) 1 1, .slice (some ⟨w.heap.size + 1, 0, none⟩) 1 1, .slice (some ⟨w.heap.size + 1 + 1, 0, none⟩) 1 1] 30)
theorem vecs_lit3 (w : World) (a b c : Int) : Vecs (litW w a b c) 0 (litW w a b c).heap.size (.slice (some ⟨w.heap.size + 1 + 1 + 1, 0, none⟩) 3 3) [[a], [b], [c]] ∧ Below w.heap.size w (litW w a b c) := by
  obtain ⟨w1, e1⟩ : ∃ w1, w.alloc (.cells #[.int .i64 a] 3) = w1 := ⟨_, rfl⟩
  obtain ⟨w2, e2⟩ : ∃ w2, w1.alloc (.cells #[.int .i64 b] 3) = w2 := ⟨_, rfl⟩
  obtain ⟨w3, e3⟩ : ∃ w3, w2.alloc (.cells #[.int .i64 c] 3) = w3 := ⟨_, rfl⟩
  have s1 := seq_lit w [a] (by simp) (by simp [maxLen]) 3 #[.int .i64 a] rfl
  have s2 := seq_lit w1 [b] (by simp) (by simp [maxLen]) 3 #[.int .i64 b] rfl
  have s3 := seq_lit w2 [c] (by simp) (by simp [maxLen]) 3 #[.int .i64 c] rfl
  have z1 : w1.heap.size = w.heap.size + 1 := by rw [← e1]; simp
  have z2 : w2.heap.size = w.heap.size + 1 + 1 := by rw [← e2]; simp [z1]
  have z3 : w3.heap.size = w.heap.size + 1 + 1 + 1 := by rw [← e3]; simp [z2]
  have b1 : Below w.heap.size w w1 := by rw [← e1]; exact below_a1 _ _
  have b2 : Below w1.heap.size w1 w2 := by rw [← e2]; exact below_a1 _ _
  have b3 : Below w2.heap.size w2 w3 := by rw [← e3]; exact below_a1 _ _
  rw [e1] at s1
  rw [e2] at s2
  rw [e3] at s3
  unfold litW
  rw [e1, e2, e3]
  have b4 := below_a1 w3 (.cells #[.slice (some ⟨w.heap.size, 0, none⟩) 1 1, .slice (some ⟨w.heap.size + 1, 0, none⟩) 1 1, .slice (some ⟨w.heap.size + 1 + 1, 0, none⟩) 1 1] 30)
  refine ⟨⟨[(.slice (some ⟨w.heap.size, 0, none⟩) 1 1, [a]), (.slice (some ⟨w.heap.size + 1, 0, none⟩) 1 1, [b]), (.slice (some ⟨w.heap.size + 1 + 1, 0, none⟩) 1 1, [c])], rfl, ?_, ?_⟩, bt b4 (bt b3 (bt b2 b1))⟩
  · refine Seq.of_own (e := 30) ⟨rfl, .inr ⟨w.heap.size + 1 + 1 + 1, 3, #[.slice (some ⟨w.heap.size, 0, none⟩) 1 1, .slice (some ⟨w.heap.size + 1, 0, none⟩) 1 1, .slice (some ⟨w.heap.size + 1 + 1, 0, none⟩) 1 1], rfl, Nat.zero_le _, ?_, Nat.le_refl _, by unfold maxLen; omega, rfl, rfl⟩⟩
    rw [← z3]
    exact heap_alloc_new w3 _
  · intro r hr
    rw [z1] at s2
    rw [z2] at s3
    rcases List.mem_cons.1 hr with rfl | hr
    · exact ((s1.up b2).up b3).up b4
    · rcases List.mem_cons.1 hr with rfl | hr
      · exact (s2.up b3).up b4
      · obtain rfl := List.mem_singleton.1 hr
        exact s3.up b4
end Go.Proofs.YtodiipkedhfncaaGreatDoor.UsuW
