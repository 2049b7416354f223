/- A folded expression has the type that it had. Own work. -/
import Derived.Test.YtipjanijidbelaaFoldE
import Derived.Test.YtipjanijidbelaaPxPlain
namespace Go.Proofs.Ytipjanijidbelaa
open Go Go.Proofs.Ab Go.Proofs.Px
set_option linter.unusedVariables false
set_option linter.unusedSimpArgs false
set_option maxRecDepth 100000

theorem tyP_mk (vs : List Vr) (m : Int) (x : Ex) : tyP vs m x = tyK vs m x.kind x.name x.num x.l.length (tyPs vs m x.l) := by cases x; rw [tyP]; rfl
theorem tyPs_map (vs : List Vr) (m : Int) : ∀ l : List Ex, tyPs vs m l = l.map (tyP vs m)
  | [] => rfl
  | x :: l => by rw [tyPs, tyPs_map vs m l]; rfl
/-- What is known of one that has a type. -/
theorem ty_forms {vs : List Vr} {m : Int} {x : Ex} (h : (tyP vs m x).1 = 0) :
    (x.kind = 1 ∧ x.l = [] ∧ 0 ≤ x.num ∧ tyP vs m x = (0, 1)) ∨ (x.kind = 2 ∧ x.l = [] ∧ (x.num = 0 ∨ x.num = 1) ∧ tyP vs m x = (0, 2)) ∨ (x.kind = 3 ∧ x.l = []) ∨
    (∃ y, x.kind = 4 ∧ x.l = [y] ∧ tyP vs m y = (0, 1) ∧ tyP vs m x = (0, 1)) ∨
    (∃ y, x.kind = 5 ∧ x.l = [y] ∧ ((x.name = [45] ∧ tyP vs m y = (0, 1) ∧ tyP vs m x = (0, 1)) ∨ (x.name = [33] ∧ tyP vs m y = (0, 2) ∧ tyP vs m x = (0, 2)))) ∨
    (∃ y z, x.kind = 6 ∧ x.l = [y, z] ∧ (tyP vs m y).1 = 0 ∧ (tyP vs m z).1 = 0 ∧ tyP vs m x = twoT x.name (tyP vs m y).2 (tyP vs m z).2) := by
  rw [tyP_mk, tyPs_map] at h ⊢
  have hx := tyP_mk vs m x
  unfold tyK at h ⊢
  by_cases hn : arityP x.kind = (x.l.length : Int)
  · rw [if_neg (fun c => c hn)] at h ⊢
    rcases arity_forms hn with ⟨k, hl⟩ | ⟨k, hl⟩ | ⟨k, hl⟩ | ⟨k, hl⟩ | ⟨k, hl⟩ | ⟨k, hl⟩
    · have hl := List.eq_nil_of_length_eq_zero hl
      simp only [k, if_true] at h ⊢
      by_cases c : 0 ≤ x.num
      · exact .inl ⟨trivial, hl, c, by simp [c]⟩
      · simp [c] at h
    · have hl := List.eq_nil_of_length_eq_zero hl
      refine .inr (.inl ⟨k, hl, ?_⟩)
      by_cases c : x.num = 0 ∨ x.num = 1
      · refine ⟨c, ?_⟩
        simp [k, c]
      · simp [k, c] at h
    · have hl := List.eq_nil_of_length_eq_zero hl
      exact .inr (.inr (.inl ⟨k, hl⟩))
    · obtain ⟨y, hl⟩ := List.length_eq_one_iff.1 hl
      refine .inr (.inr (.inr (.inl ⟨y, k, hl, ?_⟩)))
      simp only [k, hl, List.map_cons, List.map_nil] at h ⊢
      simp at h ⊢
      cases hv : findV x.name m vs with
      | none => simp [hv] at h
      | some v =>
        simp only [hv] at h ⊢
        by_cases c1 : 0 < v.size
        · by_cases c2 : (tyP vs m y).1 = 0
          · by_cases c3 : (tyP vs m y).2 = 1
            · simp [c1, c2, c3]; exact Prod.ext c2 c3
            · simp [c1, c2, c3] at h
          · simp [c1, c2] at h
        · simp [c1] at h
    · obtain ⟨y, hl⟩ := List.length_eq_one_iff.1 hl
      refine .inr (.inr (.inr (.inr (.inl ⟨y, k, hl, ?_⟩))))
      simp only [k, hl, List.map_cons, List.map_nil] at h ⊢
      simp at h ⊢
      by_cases c2 : (tyP vs m y).1 = 0
      · by_cases s1 : x.name = [45]
        · by_cases c3 : (tyP vs m y).2 = 1
          · left; exact ⟨s1, Prod.ext c2 c3, by simp [c2, s1, c3]⟩
          · simp [c2, s1, c3] at h
        · by_cases s2 : x.name = [33]
          · by_cases c3 : (tyP vs m y).2 = 2
            · right; exact ⟨s2, Prod.ext c2 c3, by simp [c2, s2, c3]⟩
            · simp [c2, s2, c3] at h
          · simp [c2, s1, s2] at h
      · simp [c2] at h
    · obtain ⟨y, z, hl⟩ := two_of hl
      refine .inr (.inr (.inr (.inr (.inr ⟨y, z, k, hl, ?_⟩))))
      simp only [k, hl, List.map_cons, List.map_nil] at h ⊢
      simp at h ⊢
      by_cases c2 : (tyP vs m y).1 = 0
      · by_cases c3 : (tyP vs m z).1 = 0
        · exact ⟨c2, c3, by simp [c2, c3]⟩
        · simp [c2, c3] at h
      · simp [c2] at h
  · rw [if_pos hn] at h; simp at h
theorem two_ok {s : List UInt8} {a b : Int} (h : (twoT s a b).1 = 0) : s ∈ binSigns ∧ ((s ∈ [[43], [45], [42], [47], [37]] ∧ a = 1 ∧ b = 1 ∧ twoT s a b = (0, 1)) ∨ (s ∈ [[60], [60, 61]] ∧ a = 1 ∧ b = 1 ∧ twoT s a b = (0, 2)) ∨ (s ∈ [[38, 38], [124, 124]] ∧ a = 2 ∧ b = 2 ∧ twoT s a b = (0, 2)) ∨ (s ∈ [[61, 61], [33, 61]] ∧ a = b ∧ twoT s a b = (0, 2))) := by
  unfold twoT at h ⊢
  by_cases c1 : s = [43] ∨ s = [45] ∨ s = [42] ∨ s = [47] ∨ s = [37]
  · rw [if_pos c1] at h ⊢
    split at h
    · rename_i c; rw [if_pos c]
      refine ⟨by rcases c1 with rfl | rfl | rfl | rfl | rfl <;> decide, .inl ⟨by rcases c1 with rfl | rfl | rfl | rfl | rfl <;> decide, c.1, c.2, rfl⟩⟩
    · simp at h
  rw [if_neg c1] at h ⊢
  by_cases c2 : s = [60] ∨ s = [60, 61]
  · rw [if_pos c2] at h ⊢
    split at h
    · rename_i c; rw [if_pos c]
      refine ⟨by rcases c2 with rfl | rfl <;> decide, .inr (.inl ⟨by rcases c2 with rfl | rfl <;> decide, c.1, c.2, rfl⟩)⟩
    · simp at h
  rw [if_neg c2] at h ⊢
  by_cases c3 : s = [38, 38] ∨ s = [124, 124]
  · rw [if_pos c3] at h ⊢
    split at h
    · rename_i c; rw [if_pos c]
      refine ⟨by rcases c3 with rfl | rfl <;> decide, .inr (.inr (.inl ⟨by rcases c3 with rfl | rfl <;> decide, c.1, c.2, rfl⟩))⟩
    · simp at h
  rw [if_neg c3] at h ⊢
  by_cases c4 : s = [61, 61] ∨ s = [33, 61]
  · rw [if_pos c4] at h ⊢
    split at h
    · rename_i c; rw [if_pos c]
      refine ⟨by rcases c4 with rfl | rfl <;> decide, .inr (.inr (.inr ⟨by rcases c4 with rfl | rfl <;> decide, c, rfl⟩))⟩
    · simp at h
  rw [if_neg c4] at h; simp at h
theorem ty_built {vs : List Vr} {m : Int} {x : Ex} (h : (tyP vs m x).1 = 0) : x.built = true := by
  unfold Ex.built builtP
  rcases ty_forms h with ⟨k, l, n, _⟩ | ⟨k, l, n, _⟩ | ⟨k, l⟩ | ⟨y, k, l, _⟩ | ⟨y, k, l, hs⟩ | ⟨y, z, k, l, h1, h2, h3⟩
  · simp [k, l, partsK, signOk]
  · rcases n with n | n <;> simp [k, l, n, partsK, signOk]
  · simp [k, l, partsK, signOk]
  · simp [k, l, partsK, signOk]
  · rcases hs with ⟨s, _⟩ | ⟨s, _⟩ <;> simp [k, l, s, partsK, signOk]
  · rw [h3] at h
    have := (two_ok h).1
    simp [k, l, partsK, signOk, this]
theorem lit_ty (vs : List Vr) (m : Int) (n : Int) (h : -9223372036854775808 ≤ n) : tyP vs m (litP n) = (0, 1) := by
  have hi : ∀ k : Int, 0 ≤ k → tyP vs m (intE k) = (0, 1) := fun k hk => by unfold intE; rw [tyP]; simp [tyK, arityP, hk]
  have hu : ∀ k : Int, 0 ≤ k → tyP vs m (.mk 5 [45] 0 [intE k]) = (0, 1) := fun k hk => by rw [tyP, tyPs, tyPs, hi k hk]; simp [tyK, arityP]
  unfold litP
  split
  · exact hi _ (by assumption)
  · split
    · rw [tyP, tyPs, tyPs, tyPs, hu _ (by omega), hi _ (by omega)]; simp [tyK, arityP, twoT]
    · exact hu _ (by omega)
theorem bool_ty (vs : List Vr) (m : Int) (n : Int) (h : n = 0 ∨ n = 1) : tyP vs m (boolE n) = (0, 2) := by
  unfold boolE; rw [tyP]; rcases h with rfl | rfl <;> simp [tyK, arityP]
/-- A step of folding changes no type. -/
theorem step_ty {vs : List Vr} {m : Int} {x : Ex} (hx : ExOk x) (h : (tyP vs m x).1 = 0) : tyP vs m (stepP x) = tyP vs m x := by
  unfold stepP
  split
  · rfl
  cases hc : constantP x with
  | some y =>
    show tyP vs m y = _
    have hw := worth_in ev0_ok hx
    unfold constantP at hc
    split at hc
    · split at hc
      · cases hc
      · rename_i c
        simp only [not_or] at c
        obtain ⟨c1, c2, c3⟩ := c
        split at hc
        · rename_i hlg
          cases hc
          rw [bool_ty vs m _ (logic_01 ev0 x hlg)]
          unfold Ex.logic at hlg
          rcases ty_forms h with ⟨k, l, _⟩ | ⟨k, l, _⟩ | ⟨k, l⟩ | ⟨y, k, l, _⟩ | ⟨y, k, l, hs⟩ | ⟨y, z, k, l, h1, h2, h3⟩
          · exact absurd l c3
          · exact absurd l c3
          · exact absurd l c3
          · exact absurd k c2
          · rcases hs with ⟨s, _⟩ | ⟨s, _, hs⟩
            · simp [k, s] at hlg
            · exact hs.symm
          · rw [h3] at h ⊢
            obtain ⟨_, h4⟩ := two_ok h
            rcases h4 with ⟨hs, _, _, h5⟩ | ⟨hs, _, _, h5⟩ | ⟨hs, _, _, h5⟩ | ⟨hs, _, h5⟩
            · have : x.name ∉ logicSigns := by
                revert hs
                simp only [List.mem_cons, List.not_mem_nil, or_false]
                rintro (h | h | h | h | h) <;> rw [h] <;> decide
              simp [k, this] at hlg
            · exact h5.symm
            · exact h5.symm
            · exact h5.symm
        · rename_i hlg
          cases hc
          have hb := ty_built h
          rw [lit_ty vs m _ hw.1]
          unfold Ex.logic at hlg
          rw [hb] at hlg
          rcases ty_forms h with ⟨k, l, _⟩ | ⟨k, l, _⟩ | ⟨k, l⟩ | ⟨y, k, l, _⟩ | ⟨y, k, l, hs⟩ | ⟨y, z, k, l, h1, h2, h3⟩
          · exact absurd l c3
          · exact absurd l c3
          · exact absurd l c3
          · exact absurd k c2
          · rcases hs with ⟨s, _, hs⟩ | ⟨s, _, hs⟩
            · exact hs.symm
            · simp [k, s] at hlg
          · rw [h3] at h ⊢
            obtain ⟨_, h4⟩ := two_ok h
            rcases h4 with ⟨hs, _, _, h5⟩ | ⟨hs, _, _, h5⟩ | ⟨hs, _, _, h5⟩ | ⟨hs, _, h5⟩
            · exact h5.symm
            all_goals
              have : x.name ∈ logicSigns := by
                revert hs
                simp only [List.mem_cons, List.not_mem_nil, or_false]
                rintro (h | h) <;> rw [h] <;> decide
              simp [k, this] at hlg
    · cases hc
  | none =>
    dsimp only
    rcases ty_forms h with ⟨k, l, _⟩ | ⟨k, l, _⟩ | ⟨k, l⟩ | ⟨y, k, l, _⟩ | ⟨y, k, l, hs⟩ | ⟨y, z, k, l, h1, h2, h3⟩
    · rw [l]
    · rw [l]
    · rw [l]
    · rw [l]; simp [k]
    · rw [l]
      simp only [k, if_true]
      unfold unP
      cases hyl : y.l with
      | nil => rfl
      | cons z l2 =>
        dsimp only
        split
        · rename_i c
          simp only [Bool.and_eq_true, decide_eq_true_eq] at c
          obtain ⟨⟨⟨k5, hnm⟩, hyb⟩, _⟩ := c
          rcases hs with ⟨s, t1, t2⟩ | ⟨s, t1, t2⟩
          · have hy : (tyP vs m y).1 = 0 := by rw [t1]
            rcases ty_forms hy with ⟨k', _⟩ | ⟨k', _⟩ | ⟨k', _⟩ | ⟨_, k', _⟩ | ⟨z', k', l', hs'⟩ | ⟨_, _, k', _⟩ <;> first | omega | skip
            rw [hyl] at l'
            cases l'
            rcases hs' with ⟨s', u1, u2⟩ | ⟨s', u1, u2⟩
            · rw [u1, t2]
            · rw [hnm, s] at s'; cases s'
          · have hy : (tyP vs m y).1 = 0 := by rw [t1]
            rcases ty_forms hy with ⟨k', _⟩ | ⟨k', _⟩ | ⟨k', _⟩ | ⟨_, k', _⟩ | ⟨z', k', l', hs'⟩ | ⟨_, _, k', _⟩ <;> first | omega | skip
            rw [hyl] at l'
            cases l'
            rcases hs' with ⟨s', u1, u2⟩ | ⟨s', u1, u2⟩
            · rw [hnm, s] at s'; cases s'
            · rw [u1, t2]
        · rfl
    · rw [l]
      simp only [k, if_true]
      have h' := h
      rw [h3] at h'
      obtain ⟨_, h4⟩ := two_ok h'
      have hy : ∀ a, (tyP vs m y).2 = a → tyP vs m y = (0, a) := fun a ha => Prod.ext h1 ha
      have hz : ∀ a, (tyP vs m z).2 = a → tyP vs m z = (0, a) := fun a ha => Prod.ext h2 ha
      unfold lessP
      rcases h4 with ⟨hs, e1, e2, h5⟩ | ⟨hs, e1, e2, h5⟩ | ⟨hs, e1, e2, h5⟩ | ⟨hs, e1, h5⟩
      · rw [h3, h5]
        have n1 : x.name ≠ [38, 38] := by revert hs; simp only [List.mem_cons, List.not_mem_nil, or_false]; rintro (h | h | h | h | h) <;> rw [h] <;> decide
        have n2 : x.name ≠ [124, 124] := by revert hs; simp only [List.mem_cons, List.not_mem_nil, or_false]; rintro (h | h | h | h | h) <;> rw [h] <;> decide
        rw [if_neg n1, if_neg n2]
        repeat' split
        all_goals first | exact hy 1 e1 | exact hz 1 e2 | (rw [h3, h5])
      · have n : x.name ≠ [38, 38] ∧ x.name ≠ [124, 124] ∧ x.name ≠ [43] ∧ x.name ≠ [45] ∧ x.name ≠ [42] ∧ x.name ≠ [47] := by revert hs; simp only [List.mem_cons, List.not_mem_nil, or_false]; rintro (h | h) <;> rw [h] <;> decide
        rw [if_neg n.1, if_neg n.2.1, if_neg n.2.2.1, if_neg n.2.2.2.1, if_neg n.2.2.2.2.1, if_neg n.2.2.2.2.2]
      · rw [h3, h5]
        have n1 : x.name = [38, 38] ∨ x.name = [124, 124] := by revert hs; simp only [List.mem_cons, List.not_mem_nil, or_false]; exact id
        rcases n1 with n1 | n1
        · rw [if_pos n1]
          repeat' split
          all_goals first | exact hy 2 e1 | exact hz 2 e2 | (rw [h3, h5])
        · rw [if_neg (by rw [n1]; decide), if_pos n1]
          repeat' split
          all_goals first | exact hy 2 e1 | exact hz 2 e2 | (rw [h3, h5])
      · have n : x.name ≠ [38, 38] ∧ x.name ≠ [124, 124] ∧ x.name ≠ [43] ∧ x.name ≠ [45] ∧ x.name ≠ [42] ∧ x.name ≠ [47] := by revert hs; simp only [List.mem_cons, List.not_mem_nil, or_false]; rintro (h | h) <;> rw [h] <;> decide
        rw [if_neg n.1, if_neg n.2.1, if_neg n.2.2.1, if_neg n.2.2.2.1, if_neg n.2.2.2.2.1, if_neg n.2.2.2.2.2]
theorem fold_ty (vs : List Vr) (m : Int) : ∀ x : Ex, ExOk x → (tyP vs m x).1 = 0 → tyP vs m (foldP x) = tyP vs m x := by
  refine Ex.ind fun k s n l ih hx h => ?_
  have hb : builtP k s n l.length = true := ty_built h
  have hl : tyPs vs m (foldPs l) = tyPs vs m l := by
    have hp : ∀ y ∈ l, (tyP vs m y).1 = 0 := by
      rcases ty_forms h with ⟨_, e, _⟩ | ⟨_, e, _⟩ | ⟨_, e⟩ | ⟨y, _, e, t, _⟩ | ⟨y, _, e, hs⟩ | ⟨y, z, _, e, t1, t2, _⟩ <;> simp only [Ex.l_mk] at e <;> subst e
      · intro y hy; cases hy
      · intro y hy; cases hy
      · intro y hy; cases hy
      · intro z hz; rw [List.mem_singleton.1 hz, t]
      · intro z hz; rw [List.mem_singleton.1 hz]; rcases hs with ⟨_, t, _⟩ | ⟨_, t, _⟩ <;> rw [t]
      · intro w hw
        rcases List.mem_cons.1 hw with rfl | hw
        · exact t1
        · rw [List.mem_singleton.1 hw]; exact t2
    rw [foldPs_map, tyPs_map, tyPs_map, List.map_map]
    exact List.map_congr_left fun y hy => ih y hy (hx.l y hy) (hp y hy)
  have e : tyP vs m (.mk k s n (foldPs l)) = tyP vs m (.mk k s n l) := by rw [tyP, tyP, hl, foldPs_len]
  have hok : ExOk (.mk k s n (foldPs l)) := by
    obtain ⟨i1, i2, i3, i4, i5⟩ := hx.inv
    refine .mk i1 i2 i3 (by rw [foldPs_len]; exact i4) fun y hy => ?_
    rw [foldPs_map] at hy
    obtain ⟨z, hz, rfl⟩ := List.mem_map.1 hy
    exact foldP_ok (i5 z hz)
  rw [foldP, if_pos hb, step_ty hok (by rw [e]; exact h), e]
end Go.Proofs.Ytipjanijidbelaa
