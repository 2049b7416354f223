/- Finding names, expressions' types: the reference's. Own work. -/
import Derived.Test.YtipjanijidbelaaPxPlain
import Derived.Test.YtipjanijidbelaaRRef4
namespace Go.Proofs.Ytipjanijidbelaa
open Go Go.Proofs.Ab Go.Proofs.Px
set_option linter.unusedVariables false
set_option linter.unusedSimpArgs false
set_option maxRecDepth 100000

theorem ref04_Find_is (vs : List Vr) (hl : vs.length ≤ 140737488351232) (name : List UInt8) (mark : Int) : den Sp ref04_Find.id [.sl .no T_api_Var (vs.map Vr.v), .str (B name), .int .i64 mark] [] none = some ⟨.ret (.int .i64 (findI name mark vs 0)), [], none⟩ := by
  have key : ∀ i : Nat, i ≤ vs.length → ref04_Find.L1_0_1_0 (vs.map Vr.v) (B name) mark (i : Int) = some ⟨.ret (.int .i64 (findI name mark (vs.drop i) (i : Int))), [], none⟩ := by
    refine down ?_ fun i hi ih => ?_
    · rw [ref04_Find.L1_0_1_0_eq]; simp [findI]
    · rw [ref04_Find.L1_0_1_0_eq, List.drop_eq_getElem_cons hi, findI]
      unfold scopeP
      simp only [Int.natCast_add, Int.natCast_one] at ih
      by_cases h1 : vs[i].name = name <;> by_cases h2 : vs[i].frm ≤ mark <;> by_cases h3 : mark ≤ vs[i].to <;> simp (disch := omega) [hi, wrap_in, h1, h2, h3, ih]
  rw [ref04_Find.eq]
  simpa using key 0 (Nat.zero_le _)
/-- The types of a sign's operands, and of what it makes. -/
def oneP (s : List UInt8) : Int × Int :=
  if s = [43] ∨ s = [45] ∨ s = [42] ∨ s = [47] ∨ s = [37] then (1, 1)
  else if s = [60] ∨ s = [60, 61] then (1, 2)
  else if s = [38, 38] ∨ s = [124, 124] then (2, 2)
  else if s = [61, 61] ∨ s = [33, 61] then (3, 2)
  else (0, 0)
theorem ref04_one_is (s : List UInt8) : den Sp ref04_one.id [.str (B s)] [] none = some ⟨.ret (.tup [.int .i64 (oneP s).1, .int .i64 (oneP s).2]), [], none⟩ := by
  rw [ref04_one.eq]
  unfold oneP
  by_cases h0 : s = [43]
  · subst h0; simp
  by_cases h1 : s = [45]
  · subst h1; simp
  by_cases h2 : s = [42]
  · subst h2; simp
  by_cases h3 : s = [47]
  · subst h3; simp
  by_cases h4 : s = [37]
  · subst h4; simp
  by_cases h5 : s = [60]
  · subst h5; simp
  by_cases h6 : s = [60, 61]
  · subst h6; simp
  by_cases h7 : s = [38, 38]
  · subst h7; simp
  by_cases h8 : s = [124, 124]
  · subst h8; simp
  by_cases h9 : s = [61, 61]
  · subst h9; simp
  by_cases h10 : s = [33, 61]
  · subst h10; simp
  simp [h0, h1, h2, h3, h4, h5, h6, h7, h8, h9, h10]
theorem one_two (s : List UInt8) (a b : Int) : twoT s a b = if (oneP s).2 = 0 then (32, 0) else if a ≠ b then (41, 0) else if (oneP s).1 ≠ 3 then (if a ≠ (oneP s).1 then (41, 0) else (0, (oneP s).2)) else (0, (oneP s).2) := by
  unfold twoT oneP
  by_cases c1 : s = [43] ∨ s = [45] ∨ s = [42] ∨ s = [47] ∨ s = [37]
  · simp only [if_pos c1]
    by_cases ha : a = 1 <;> by_cases hb : a = b <;> simp [ha, hb] <;> simp_all <;> omega
  by_cases c2 : s = [60] ∨ s = [60, 61]
  · simp only [if_neg c1, if_pos c2]
    by_cases ha : a = 1 <;> by_cases hb : a = b <;> simp [ha, hb] <;> simp_all <;> omega
  by_cases c3 : s = [38, 38] ∨ s = [124, 124]
  · simp only [if_neg c1, if_neg c2, if_pos c3]
    by_cases ha : a = 2 <;> by_cases hb : a = b <;> simp [ha, hb] <;> simp_all <;> omega
  by_cases c4 : s = [61, 61] ∨ s = [33, 61]
  · simp only [if_neg c1, if_neg c2, if_neg c3, if_pos c4]
    by_cases hb : a = b <;> simp [hb]
  simp only [if_neg c1, if_neg c2, if_neg c3, if_neg c4, if_true]
theorem tyP_err {vs : List Vr} {m : Int} {x : Ex} (h : (tyP vs m x).1 ≠ 0) : (tyP vs m x).2 = 0 := by
  have t2 : ∀ s a b, (twoT s a b).1 ≠ 0 → (twoT s a b).2 = 0 := fun s a b => by
    unfold twoT
    repeat' split
    all_goals simp
  obtain ⟨k, s, n, l⟩ := x
  rw [tyP] at h ⊢
  unfold tyK at h ⊢
  revert h
  repeat' split
  all_goals first | (intro h; rfl) | (intro h; exact t2 _ _ _ h) | (intro h; exact absurd rfl h) | simp
theorem ref04_TypeOf_is (vs : List Vr) (hl : vs.length ≤ 140737488351232) (mark : Int) : ∀ x : Ex, den Sp ref04_TypeOf.id [.agg x.v, .sl .no T_api_Var (vs.map Vr.v), .int .i64 mark] [] none = some ⟨.ret (.tup [.int .i64 (tyP vs mark x).2, .int .i64 (tyP vs mark x).1]), [], none⟩ := by
  refine Ex.ind fun k s m l ih => ?_
  have ef := ref04_Find_is vs hl s mark
  have eo := ref04_one_is s
  have et : ∀ y ∈ l, ∀ t a, den Sp ref04_typed.id [.agg y.v, .sl .no T_api_Var (vs.map Vr.v), .int .i64 mark, .int .i64 t, .int .i64 a] [] none = some ⟨.ret (.tup (if (tyP vs mark y).1 ≠ 0 then [.int .i64 0, .int .i64 (tyP vs mark y).1] else if (tyP vs mark y).2 ≠ t then [.int .i64 0, .int .i64 41] else [.int .i64 a, .int .i64 0])), [], none⟩ := fun y hy t a => by
    have hy' := ih y hy
    rw [Ex.v_is] at hy' ⊢
    rw [ref04_typed.eq, hy']
    by_cases c1 : (tyP vs mark y).1 = 0
    · by_cases c2 : (tyP vs mark y).2 = t <;> simp [c1, c2]
    · simp [c1]
  rw [Ex.v_mk, ref04_TypeOf.eq, tyP]
  unfold tyK
  by_cases k0 : k < 1 ∨ 6 < k
  · have hn : arityP k = -1 := by unfold arityP; rw [if_neg (by omega), if_neg (by omega), if_neg (by omega)]
    have hn' : arityP k ≠ (l.length : Int) := by omega
    rw [if_pos hn']
    rcases k0 with k0 | k0
    · simp [k0, ref04_TypeOf.J1_1_0_1_0_0_eq]
    · simp [k0, show ¬ k < 1 by omega, ref04_TypeOf.J1_1_0_1_0_0_eq]
  by_cases hn : arityP k = (l.length : Int)
  · rw [if_neg (show ¬ (arityP k ≠ (l.length : Int)) from fun c => c hn)]
    rcases arity_forms hn with ⟨rfl, h⟩ | ⟨rfl, h⟩ | ⟨rfl, h⟩ | ⟨rfl, h⟩ | ⟨rfl, h⟩ | ⟨rfl, h⟩
    · obtain rfl := List.eq_nil_of_length_eq_zero h
      by_cases hm : 0 ≤ m
      · simp [ref04_TypeOf.J1_1_1_0_0_eq, ref04_TypeOf.J1_1_1_1_0_0_eq, hm, show ¬ m < 0 by omega]
      · simp [ref04_TypeOf.J1_1_1_0_0_eq, ref04_TypeOf.J1_1_1_0_1_0_0_eq, hm, show m < 0 by omega]
    · obtain rfl := List.eq_nil_of_length_eq_zero h
      by_cases h0 : m = 0
      · simp [ref04_TypeOf.J1_1_1_0_0_eq, ref04_TypeOf.J1_1_1_1_0_0_eq, h0]
      · by_cases h1 : m = 1
        · simp [ref04_TypeOf.J1_1_1_0_0_eq, ref04_TypeOf.J1_1_1_1_0_0_eq, h1]
        · simp [ref04_TypeOf.J1_1_1_0_0_eq, ref04_TypeOf.J1_1_1_0_1_0_0_eq, h0, h1]
    · obtain rfl := List.eq_nil_of_length_eq_zero h
      rcases find_cases s mark vs 0 with ⟨h1, h2⟩ | ⟨j, hj, h1, h2⟩
      · simp [ref04_TypeOf.J1_1_1_0_0_eq, ref04_TypeOf.J1_1_1_1_0_0_eq, ef, h1, h2]
      · by_cases z0 : vs[j].size = 0
        · simp [ref04_TypeOf.J1_1_1_0_0_eq, ref04_TypeOf.J1_1_1_1_0_0_eq, ref04_TypeOf.J1_1_1_1_1_1_0_1_0_1_1_1_0_0_eq, ef, h1, h2, hj, z0]
        · by_cases z1 : 0 < vs[j].size
          · simp [ref04_TypeOf.J1_1_1_0_0_eq, ref04_TypeOf.J1_1_1_1_0_0_eq, ref04_TypeOf.J1_1_1_1_1_1_0_1_0_1_1_0_1_0_0_eq, ef, h1, h2, hj, z0, z1]
          · simp [ref04_TypeOf.J1_1_1_0_0_eq, ref04_TypeOf.J1_1_1_1_0_0_eq, ref04_TypeOf.J1_1_1_1_1_1_0_1_0_1_1_0_1_0_0_eq, ef, h1, h2, hj, z0, z1, show vs[j].size < 0 by omega]
    · obtain ⟨y, rfl⟩ := List.length_eq_one_iff.1 h
      have hy := et y (List.mem_singleton_self y) 1 1
      rcases find_cases s mark vs 0 with ⟨h1, h2⟩ | ⟨j, hj, h1, h2⟩
      · simp [ref04_TypeOf.J1_1_1_0_0_eq, ref04_TypeOf.J1_1_1_1_0_0_eq, ef, h1, h2, tyPs]
      · by_cases z1 : 0 < vs[j].size
        · by_cases c1 : (tyP vs mark y).1 = 0
          · by_cases c2 : (tyP vs mark y).2 = 1 <;> simp [ref04_TypeOf.J1_1_1_0_0_eq, ref04_TypeOf.J1_1_1_1_0_0_eq, ref04_TypeOf.J1_1_1_1_1_1_0_1_0_1_1_1_0_0_eq, ef, h1, h2, hj, z1, show ¬ vs[j].size < 0 by omega, hy, c1, c2, tyPs]
          · simp [ref04_TypeOf.J1_1_1_0_0_eq, ref04_TypeOf.J1_1_1_1_0_0_eq, ref04_TypeOf.J1_1_1_1_1_1_0_1_0_1_1_1_0_0_eq, ef, h1, h2, hj, z1, show ¬ vs[j].size < 0 by omega, hy, c1, tyPs]
        · simp [ref04_TypeOf.J1_1_1_0_0_eq, ref04_TypeOf.J1_1_1_1_0_0_eq, ref04_TypeOf.J1_1_1_1_1_1_0_1_0_1_1_0_1_0_0_eq, ef, h1, h2, hj, z1, tyPs]
    · obtain ⟨y, rfl⟩ := List.length_eq_one_iff.1 h
      have hy := ih y (List.mem_singleton_self y)
      by_cases c1 : (tyP vs mark y).1 = 0
      · by_cases g1 : s = [45]
        · subst g1
          by_cases c2 : (tyP vs mark y).2 = 1 <;> simp [ref04_TypeOf.J1_1_1_0_0_eq, ref04_TypeOf.J1_1_1_1_0_0_eq, ref04_TypeOf.J1_1_1_1_1_1_1_1_1_0_1_0_1_0_0_eq, ref04_TypeOf.J1_1_1_1_1_1_1_1_1_0_1_0_1_0_1_0_0_eq, ref04_TypeOf.J1_1_1_1_1_1_1_1_1_0_1_0_1_1_0_eq, hy, c1, c2, tyPs]
        · by_cases g2 : s = [33]
          · subst g2
            by_cases c2 : (tyP vs mark y).2 = 2 <;> simp [ref04_TypeOf.J1_1_1_0_0_eq, ref04_TypeOf.J1_1_1_1_0_0_eq, ref04_TypeOf.J1_1_1_1_1_1_1_1_1_0_1_0_1_0_0_eq, ref04_TypeOf.J1_1_1_1_1_1_1_1_1_0_1_0_1_0_1_0_0_eq, ref04_TypeOf.J1_1_1_1_1_1_1_1_1_0_1_0_1_1_0_eq, hy, c1, c2, tyPs]
          · simp [ref04_TypeOf.J1_1_1_0_0_eq, ref04_TypeOf.J1_1_1_1_0_0_eq, ref04_TypeOf.J1_1_1_1_1_1_1_1_1_0_1_0_0_1_0_0_eq, hy, c1, g1, g2, tyPs]
      · simp [ref04_TypeOf.J1_1_1_0_0_eq, ref04_TypeOf.J1_1_1_1_0_0_eq, hy, c1, tyPs]
    · obtain ⟨y, z, rfl⟩ : ∃ y z, l = [y, z] := by
        match l, h with
        | [y, z], _ => exact ⟨y, z, rfl⟩
      have hy := ih y (by simp)
      have hz := ih z (by simp)
      by_cases c1 : (tyP vs mark y).1 = 0
      · by_cases c2 : (tyP vs mark z).1 = 0
        · simp only [tyPs, one_two]
          by_cases d1 : (oneP s).2 = 0
          · simp [ref04_TypeOf.J1_1_1_0_0_eq, ref04_TypeOf.J1_1_1_1_0_0_eq, hy, hz, c1, c2, eo, d1]
          · by_cases d2 : (tyP vs mark y).2 = (tyP vs mark z).2
            · by_cases d3 : (oneP s).1 = 3
              · simp [ref04_TypeOf.J1_1_1_0_0_eq, ref04_TypeOf.J1_1_1_1_0_0_eq, ref04_TypeOf.J1_1_1_1_1_1_1_1_1_1_1_1_1_1_1_0_eq, hy, hz, c1, c2, eo, d1, d2, d3]
              · by_cases d4 : (tyP vs mark z).2 = (oneP s).1
                · simp [ref04_TypeOf.J1_1_1_0_0_eq, ref04_TypeOf.J1_1_1_1_0_0_eq, ref04_TypeOf.J1_1_1_1_1_1_1_1_1_1_1_1_1_1_1_0_eq, hy, hz, c1, c2, eo, d1, d2, d3, d4]
                · simp [ref04_TypeOf.J1_1_1_0_0_eq, ref04_TypeOf.J1_1_1_1_0_0_eq, ref04_TypeOf.J1_1_1_1_1_1_1_1_1_1_1_1_1_1_0_1_0_0_eq, hy, hz, c1, c2, eo, d1, d2, d3, d4]
            · simp [ref04_TypeOf.J1_1_1_0_0_eq, ref04_TypeOf.J1_1_1_1_0_0_eq, ref04_TypeOf.J1_1_1_1_1_1_1_1_1_1_1_1_1_1_0_1_0_0_eq, hy, hz, c1, c2, eo, d1, d2]
        · simp [ref04_TypeOf.J1_1_1_0_0_eq, ref04_TypeOf.J1_1_1_1_0_0_eq, hy, hz, c1, c2, tyPs]
      · simp [ref04_TypeOf.J1_1_1_0_0_eq, ref04_TypeOf.J1_1_1_1_0_0_eq, hy, c1, tyPs]
  · rw [if_pos hn]
    have hk : k = 1 ∨ k = 2 ∨ k = 3 ∨ k = 4 ∨ k = 5 ∨ k = 6 := by omega
    rcases hk with rfl | rfl | rfl | rfl | rfl | rfl
    · have h2 : ¬ l = [] := fun h => hn (by rw [h]; rfl)
      simp [ref04_TypeOf.J1_1_0_1_0_0_eq, h2]
    · have h2 : ¬ l = [] := fun h => hn (by rw [h]; rfl)
      simp [ref04_TypeOf.J1_1_0_1_0_0_eq, h2]
    · have h2 : ¬ l = [] := fun h => hn (by rw [h]; rfl)
      simp [ref04_TypeOf.J1_1_0_1_0_0_eq, h2]
    · have h2 : ¬ ((l.length : Int) = 1) := fun h => hn (by rw [h]; rfl)
      simp [ref04_TypeOf.J1_1_0_1_0_0_eq, h2]
    · have h2 : ¬ ((l.length : Int) = 1) := fun h => hn (by rw [h]; rfl)
      simp [ref04_TypeOf.J1_1_0_1_0_0_eq, h2]
    · have h2 : ¬ ((l.length : Int) = 2) := fun h => hn (by rw [h]; rfl)
      simp [ref04_TypeOf.J1_1_0_1_0_0_eq, h2]
end Go.Proofs.Ytipjanijidbelaa
