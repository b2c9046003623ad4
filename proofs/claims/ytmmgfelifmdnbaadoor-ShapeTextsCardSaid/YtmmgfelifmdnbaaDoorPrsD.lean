/- What is read as a right tree is its text: plainly; what comes of a text, and of a tree's text. -/
import Derived.Test.YtmmgfelifmdnbaaDoorPrsC
import Derived.Test.YtmmgfelifmdnbaaDoorParW
namespace Go.Proofs.YtmmgfelifmdnbaaDoor.PrsD
set_option linter.unusedVariables false
open Go.RowKit Go.Lib ShpM TxtM GlbS WrtM RdrW PrsM PrsC PrsW ShpJ ShpI ParW

theorem coef_sound : ∀ (n : Nat) (acc : List Int) (s : List UInt8) (ok : Bool), (coefM n acc s ok).2.2 = true → ok = true ∧ ∃ c, (coefM n acc s ok).1 = acc ++ c ∧ c.length = n ∧ s = coefT c ++ (coefM n acc s ok).2.1
  | 0, acc, s, ok, h => ⟨h, [], by simp [coefM], rfl, by simp [coefM, coefT]⟩
  | n + 1, acc, s, ok, h => by
    rw [coefM] at h ⊢
    obtain ⟨h1, c, e1, e2, e3⟩ := coef_sound n _ _ _ h
    obtain ⟨h2, e4⟩ := byteM_ok h1
    obtain ⟨h3, e5⟩ := numM_ok h2
    refine ⟨h3, (numM s ok).1 :: c, by rw [e1]; simp, by simp [e2], ?_⟩
    rw [e3] at e4
    conv => lhs; rw [e5, e4]
    simp [coefT]
theorem head_sound {dn : Nat} {t : List UInt8} (h : (headM dn t true).2.2.2 = true) : ∃ a, t = 40 :: a ∧ (headM dn t true).1.length = dn ∧ a = coefT (headM dn t true).1 ++ ([60, 32] ++ (itoa (headM dn t true).2.1 ++ (32 :: (headM dn t true).2.2.1))) := by
  simp only [headM] at h ⊢
  obtain ⟨h1, e1⟩ := byteM_ok h
  obtain ⟨h2, e2⟩ := numM_ok h1
  obtain ⟨h3, e3⟩ := byteM_ok h2
  obtain ⟨h4, e4⟩ := byteM_ok h3
  obtain ⟨h5, c, e5, e6, e7⟩ := coef_sound _ _ _ _ h4
  obtain ⟨_, e8⟩ := byteM_ok h5
  refine ⟨_, e8, by rw [e5]; simpa using e6, ?_⟩
  rw [List.nil_append] at e5
  rw [e5]
  conv => lhs; rw [e7, e4, e3, e2, e1]
  simp
theorem at_prefix {p q : List Nd} {b : B} : ∀ {i : Nat}, At (p ++ q) i b → i + b.count ≤ p.length → At p i b := by
  intro i h hl
  obtain ⟨rest, e⟩ := h
  rw [List.drop_append_of_le_length (by omega)] at e
  have hn := nodes_len b i
  refine ⟨(p.drop i).drop b.count, ?_⟩
  have h1 : (p.drop i).take b.count = b.nodes i := by
    have := congrArg (List.take b.count) e
    rw [List.take_append_of_le_length (by rw [List.length_drop]; omega), List.take_append_of_le_length (by omega), List.take_of_length_le (l := b.nodes i) (by omega)] at this
    exact this
  rw [← h1, List.take_append_drop]
theorem at_set {p : List Nd} {i j : Nat} {x : Nd} {b : B} (h : At (p.set i x) j b) (hij : i < j) : At p j b := by
  obtain ⟨rest, e⟩ := h
  refine ⟨rest, ?_⟩
  rw [List.drop_set] at e
  rwa [if_pos hij] at e
theorem node_sound {dim : Int} (dn : Nat) : ∀ (k : Nat) (s : List UInt8) (out : List Nd) (b : B), (nodeM dn k s true out).2.1 = true → At (nodeM dn k s true out).2.2 out.length b → b.ok dim → b.size ≤ 64 → s = txt b ++ (nodeM dn k s true out).1
  | 0, s, out, b, h, _, _, _ => by simp [nodeM] at h
  | k + 1, s, out, b, h, hat, hok, hsz => by
    by_cases hh : s.head? = some 40
    · have e0 : nodeM dn (k + 1) s true out = (let h := headM dn s true
        let p := nodeM dn k h.2.2.1 h.2.2.2 (out ++ [⟨h.1, h.2.1, (out.length : Int) + 1, 0, 0⟩])
        let b := byteM 32 p.1 p.2.1
        let q := nodeM dn k b.1 b.2 p.2.2
        let e := byteM 41 q.1 q.2.1
        (e.1, e.2, if e.2 = true then endM q.2.2 out.length p.2.2.length else q.2.2)) := by simp only [nodeM]; rw [if_pos hh]
      rw [e0] at h hat ⊢
      dsimp only at h hat ⊢
      obtain ⟨H, hH⟩ : ∃ H, headM dn s true = H := ⟨_, rfl⟩
      have hhs := head_sound (dn := dn) (t := s)
      rw [hH] at h hat hhs ⊢
      obtain ⟨n1, x1, l1, o1⟩ := nodeM_ext dn k H.2.2.1 H.2.2.2 (out ++ [⟨H.1, H.2.1, (out.length : Int) + 1, 0, 0⟩])
      have ih1 := fun b' => node_sound (dim := dim) dn k H.2.2.1 (out ++ [⟨H.1, H.2.1, (out.length : Int) + 1, 0, 0⟩]) b'
      have t1 := nodeM_true (dim := dn) (k := k) (s := H.2.2.1) (ok := H.2.2.2) (out := out ++ [⟨H.1, H.2.1, (out.length : Int) + 1, 0, 0⟩])
      obtain ⟨p, hp⟩ : ∃ p, nodeM dn k H.2.2.1 H.2.2.2 (out ++ [⟨H.1, H.2.1, (out.length : Int) + 1, 0, 0⟩]) = p := ⟨_, rfl⟩
      rw [hp] at h hat x1 o1 t1 ⊢
      obtain ⟨bb, hb⟩ : ∃ bb, byteM 32 p.1 p.2.1 = bb := ⟨_, rfl⟩
      have hbo := byteM_ok (c := 32) (s := p.1) (ok := p.2.1)
      rw [hb] at h hat hbo ⊢
      obtain ⟨n2, x2, l2, o2⟩ := nodeM_ext dn k bb.1 bb.2 p.2.2
      have ih2 := fun b' => node_sound (dim := dim) dn k bb.1 p.2.2 b'
      have t2 := nodeM_true (dim := dn) (k := k) (s := bb.1) (ok := bb.2) (out := p.2.2)
      obtain ⟨q, hq⟩ : ∃ q, nodeM dn k bb.1 bb.2 p.2.2 = q := ⟨_, rfl⟩
      rw [hq] at h hat x2 o2 t2 ⊢
      have hyo := byteM_ok (c := 41) (s := q.1) (ok := q.2.1)
      obtain ⟨Y, hY⟩ : ∃ Y, byteM 41 q.1 q.2.1 = Y := ⟨_, rfl⟩
      rw [hY] at h hat hyo ⊢
      obtain ⟨h1, e1⟩ := hyo h
      obtain ⟨h2, e2⟩ := hbo (t2 h1)
      have h3 := t1 h2
      obtain ⟨a, ea, hcl, eb⟩ := hhs h3
      rw [h3] at hp
      rw [t2 h1] at hq
      rw [hp] at ih1
      rw [hq] at ih2
      rw [if_pos h] at hat
      have n1p := o1 h2
      have n2p := o2 h1
      have hlp : p.2.2.length = out.length + 1 + n1.length := by rw [x1]; simp; omega
      have hlq : q.2.2.length = p.2.2.length + n2.length := by rw [x2]; simp
      obtain ⟨X, hX⟩ : ∃ x, q.2.2[out.length]? = some x := ⟨_, List.getElem?_eq_getElem (by omega)⟩
      obtain ⟨XL, hXL⟩ : ∃ x, q.2.2[out.length + 1]? = some x := ⟨_, List.getElem?_eq_getElem (by omega)⟩
      obtain ⟨XR, hXR⟩ : ∃ x, q.2.2[p.2.2.length]? = some x := ⟨_, List.getElem?_eq_getElem (by omega)⟩
      have hX2 : X = ⟨H.1, H.2.1, (out.length : Int) + 1, 0, 0⟩ := by
        rw [x2, x1, List.append_assoc, List.append_assoc, List.getElem?_append_right (Nat.le_refl _), Nat.sub_self] at hX
        simpa using hX.symm
      subst hX2
      rw [endM_eq hX hXL hXR] at hat
      cases b with
      | leaf m =>
        have h0 := at_leaf.1 hat
        rw [List.getElem?_set_self (by omega)] at h0
        have := congrArg Nd.left (Option.some.inj h0)
        dsimp only at this
        omega
      | fork c' a' l r' =>
        obtain ⟨h0, hl, hr⟩ := at_fork.1 hat
        rw [List.getElem?_set_self (by omega)] at h0
        have h0 := Option.some.inj h0
        have hc := congrArg Nd.coef h0
        have ha := congrArg Nd.at_ h0
        have hri := congrArg Nd.right h0
        dsimp only at hc ha hri
        have hr2 : p.2.2.length = out.length + 1 + l.count := by omega
        obtain ⟨_, hokl, hokr⟩ := hok
        have pl := size_pos hokl
        have pr := size_pos hokr
        simp only [B.size] at hsz
        have al : At p.2.2 (out.length + 1) l := by
          have := at_set hl (by omega)
          rw [x2] at this
          exact at_prefix this (by omega)
        have ar : At q.2.2 p.2.2.length r' := by
          rw [hr2]
          exact at_set hr (by omega)
        have s1 := ih1 l h2 (by rw [show (out ++ [(⟨H.1, H.2.1, (out.length : Int) + 1, 0, 0⟩ : Nd)]).length = out.length + 1 by simp]; exact al) hokl (by omega)
        have s2 := ih2 r' h1 ar hokr (by omega)
        rw [ea, eb, s1, e2, s2, e1, hc, ha]
        simp [txt]
    · have e0 := nodeM_leaf (dn := dn) (k := k) (out := out) hh
      rw [e0] at h hat ⊢
      dsimp only at h hat ⊢
      obtain ⟨_, e1⟩ := numM_ok h
      cases b with
      | leaf m =>
        have h0 := at_leaf.1 hat
        rw [List.getElem?_append_right (Nat.le_refl _), Nat.sub_self] at h0
        have h1 : clamp (numM s true).1 0 65 = m := by
          have := congrArg (fun o => o.map Nd.size) h0
          simpa using this
        have hok : 1 ≤ m := hok
        have hsz : m ≤ 64 := hsz
        have : (numM s true).1 = m := by
          unfold clamp at h1
          split at h1
          · omega
          · split at h1 <;> omega
        rw [this] at e1
        exact e1
      | fork c' a' l r' =>
        obtain ⟨h0, _, _⟩ := at_fork.1 hat
        rw [List.getElem?_append_right (Nat.le_refl _), Nat.sub_self] at h0
        have := congrArg (fun o => o.map Nd.left) h0
        simp at this
        omega
theorem isT_nodes {dim : Int} {b : B} (h1 : 1 ≤ dim) (h2 : dim ≤ 8) (hok : b.ok dim) (hs : b.size ≤ 64) (hh : b.high ≤ lg b.size) : IsT dim (b.nodes 0) := ⟨h1, h2, b, at_nodes b, (nodes_len b 0).symm, hok, hs, hh⟩
/-- the text of a right tree is read as it was -/
theorem parse_text {dim : Int} {b : B} (h1 : 1 ≤ dim) (h2 : dim ≤ 8) (hok : b.ok dim) (hs : b.size ≤ 64) (hh : b.high ≤ lg b.size) : parseR (text dim b) = (dim, b.nodes 0, 0) := by
  have hsp := size_pos hok
  have hl6 := (ShpT.lg_cases hsp hs).2.2
  have e : numM (text dim b) true = (dim, 58 :: txt b, true) := num_take dim _ true (stop_of _ (by decide)) (by omega) (by omega)
  have e2 := node_take (dim := dim) b 7 [] [] hok hs (by omega) (.inl rfl)
  rw [List.append_nil] at e2
  unfold parseR
  rw [e]
  dsimp only
  rw [byte_take]
  dsimp only
  rw [if_pos ⟨rfl, h1, h2⟩, e2]
  dsimp only
  rw [if_pos ⟨rfl, rfl, by rw [List.nil_append]; exact isTB_true.2 (isT_nodes h1 h2 hok hs hh)⟩, List.nil_append]
  rfl
/-- what is read is a right tree, and its text is what was read -/
theorem parse_sound {s : List UInt8} {dim : Int} {ls : List Nd} (h : parseR s = (dim, ls, 0)) : IsT dim ls ∧ ∃ b, At ls 0 b ∧ s = text dim b := by
  unfold parseR at h
  dsimp only at h
  split at h
  · rename_i hg
    split at h
    · rename_i hg2
      injection h with e1 e2
      injection e2 with e2 _
      have hT := isTB_true.1 hg2.2.2
      rw [e2, e1] at hT
      refine ⟨hT, ?_⟩
      obtain ⟨_, _, b, hat, hct, hok, hsz, _⟩ := id hT
      refine ⟨b, hat, ?_⟩
      obtain ⟨hb1, hb2⟩ := byteM_ok hg.1
      obtain ⟨_, hn⟩ := numM_ok hb1
      have hpo := hg2.1
      rw [hg.1] at hpo e2
      have := node_sound (dim := dim) _ 7 _ [] b hpo (by rw [e2]; exact hat) hok hsz
      have hend := hg2.2.1
      rw [hg.1] at hend
      rw [hend, List.append_nil] at this
      rw [hn, hb2, this, e1]
      rfl
    · injection h with _ e2
      injection e2 with _ e3
      exact absurd e3 (by decide)
  · injection h with _ e2
    injection e2 with _ e3
    exact absurd e3 (by decide)
theorem parse_fail {s : List UInt8} (h : ∀ (dim : Int) (b : B), IsT dim (b.nodes 0) → s ≠ text dim b) : parseR s = (0, [], 20) := by
  obtain ⟨r, hr⟩ : ∃ r, parseR s = r := ⟨_, rfl⟩
  obtain ⟨dim, ls, e⟩ := r
  by_cases he : e = 0
  · subst he
    obtain ⟨hT, b, hat, hs⟩ := parse_sound hr
    obtain ⟨hd1, hd2, b', hat', hct, hok, hsz, hhi⟩ := id hT
    obtain rfl := at_unique hat hat'
    rw [at_full hat hct] at hT
    exact absurd hs (h dim b hT)
  · rw [hr]
    unfold parseR at hr
    dsimp only at hr
    split at hr
    · split at hr
      · injection hr with _ e2
        injection e2 with _ e3
        exact absurd e3.symm he
      · exact hr.symm
    · exact hr.symm
end Go.Proofs.YtmmgfelifmdnbaaDoor.PrsD
