/- What lives() counts upon, plainly. No program is in sight. -/
import Derived.Test.YtchgfabgighbfaaGreatDoorScrS
namespace Go.Proofs.YtchgfabgighbfaaGreatDoor.LvdM
set_option linter.unusedVariables false
open Go.Lib TxtM ScrM ScrP ScrR ScrS

def ln1 : Ln := onlyAk ⟨1, 5, [1, -2], 0, 0⟩ [7, 9]
def ln2 : Ln := onlyKept [(3, 64)]
def s0 : List UInt8 := [112, 117, 116, 32, 53, 32, 49, 32, 45, 50, 32, 47, 32, 55, 32, 57, 10, 99, 114, 97, 115, 104, 32, 51, 58, 54, 52, 10]
def s1 : List UInt8 := [111, 112, 101, 110, 10, 115, 116, 111, 112, 32, 48, 49, 10]
theorem dec1 (u : Nat) (h : u < 10) : decDigits u = [UInt8.ofNat (48 + u)] := by rw [decDigits, dif_pos h]
theorem i5 : itoa 5 = [53] := by unfold itoa; rw [if_neg (by decide), show (5 : Int).toNat = 5 from rfl, dec1 5 (by decide)]; rfl
theorem i1 : itoa 1 = [49] := by unfold itoa; rw [if_neg (by decide), show (1 : Int).toNat = 1 from rfl, dec1 1 (by decide)]; rfl
theorem i3 : itoa 3 = [51] := by unfold itoa; rw [if_neg (by decide), show (3 : Int).toNat = 3 from rfl, dec1 3 (by decide)]; rfl
theorem im2 : itoa (-2) = [45, 50] := by unfold itoa; rw [if_pos (by decide), show (-2 : Int).natAbs = 2 from rfl, dec1 2 (by decide)]; rfl
theorem i64 : itoa 64 = [54, 52] := by
  unfold itoa
  rw [if_neg (by decide), show (64 : Int).toNat = 64 from rfl, decDigits, dif_neg (by decide), show 64 / 10 = 6 from rfl, dec1 6 (by decide)]; rfl
theorem d7 : decDigits 7 = [55] := by rw [dec1 7 (by decide)]; rfl
theorem d9 : decDigits 9 = [57] := by rw [dec1 9 (by decide)]; rfl
theorem right1 : Right ln1 := .ask _ _ ⟨⟨by decide, by decide⟩, by decide, by unfold few; decide, by unfold few; decide, by unfold few; decide, by decide, .inl rfl, .inl rfl, .inr (.inr rfl), .inr rfl⟩ (by decide) (.inl rfl) (by decide)
theorem right2 : Right ln2 := .crash _ (by unfold keptOk; decide) (by decide)
theorem text12 : textAll [ln1, ln2] = s0 := by
  simp only [textAll, List.flatMap_cons, List.flatMap_nil, lineT, ln1, ln2, words_ask, words_crash, askW, if_pos, List.map_cons, List.map_nil, keptW, i5, i1, im2, i3, i64, d7, d9, joinW, wPut, wCrash]
  rfl
theorem show12 : showR [ln1, ln2] = (s0, 0) := by
  unfold showR
  rw [if_neg (by decide), if_pos (by simp [right1, right2]), text12, if_neg (by decide)]
theorem parse12 : parseR s0 = ([ln1, ln2], 2, 0) := by simpa using parse_show show12
theorem no01 : readW [wStop, [48, 49]] = none := read_none fun l hr e => by
  obtain ⟨n, _, _, e2⟩ := inv_stop hr e
  have e3 : itoa n = [48, 49] := by simpa using e2.symm
  unfold itoa at e3
  split at e3
  · exact absurd (List.cons.inj e3).1 (by decide)
  · have := (dec_dig n.toNat).1
    rw [e3] at this
    have h1 : n.toNat = 1 := by rw [← this]; rfl
    rw [h1, dec1 1 (by decide)] at e3
    exact absurd e3 (by decide)
theorem parse_s1 : parseR s1 = ([], 1, 350) := by
  have hs : splitC 10 s1 = [wOpen, [115, 116, 111, 112, 32, 48, 49], []] := by decide
  unfold parseR
  rw [if_neg (by decide), hs, parseL, if_neg (by decide), show splitC 32 wOpen = lineW (ln0 5) by decide, read_line .opens]
  dsimp only
  rw [parseL, if_neg (by decide), show splitC 32 [115, 116, 111, 112, 32, 48, 49] = [wStop, [48, 49]] by decide, no01]
  rfl
theorem ne12 : ¬ ln1 = ln2 := fun h => by have := congrArg Ln.kind h; exact absurd this (by decide)
theorem not0 : ¬ Right (ln0 0) := fun h => by
  generalize hl : ln0 0 = l at h
  cases h <;> (have := congrArg Ln.kind hl; simp [ln0, onlyCf, onlyAk, onlyN, onlyKept] at this)
end Go.Proofs.YtchgfabgighbfaaGreatDoor.LvdM
