/- Finding names, expressions' types: the program's. Own work. -/
import Derived.Test.YtkelkkjkbpdldaaPxProg
import Derived.Test.YtkelkkjkbpdldaaRTypes
namespace Go.Proofs.Ytkelkkjkbpdldaa
open Go Go.Proofs.Ab Go.Proofs.Px
set_option linter.unusedVariables false
set_option linter.unusedSimpArgs false
set_option maxRecDepth 100000

/-- Is a variable one of a name that is in scope at a mark? -/
def scopeP (name : List UInt8) (mark : Int) (v : Vr) : Bool := decide (v.name = name) && decide (v.frm ≤ mark) && decide (mark ≤ v.to)
def findI (name : List UInt8) (mark : Int) : List Vr → Int → Int
  | [], _ => -1
  | v :: l, i => if scopeP name mark v then i else findI name mark l (i + 1)
def findV (name : List UInt8) (mark : Int) : List Vr → Option Vr
  | [] => none
  | v :: l => if scopeP name mark v then some v else findV name mark l
theorem find_cases (name : List UInt8) (mark : Int) : ∀ (l : List Vr) (i : Int), (findV name mark l = none ∧ findI name mark l i = -1) ∨ ∃ (j : Nat) (h : j < l.length), findV name mark l = some l[j] ∧ findI name mark l i = i + (j : Int)
  | [], i => .inl ⟨rfl, rfl⟩
  | v :: l, i => by
    unfold findV findI
    by_cases h : scopeP name mark v = true
    · right; exact ⟨0, by simp, by simp [h], by simp [h]⟩
    · rw [if_neg h, if_neg h]
      rcases find_cases name mark l (i + 1) with h1 | ⟨j, hj, h1, h2⟩
      · exact .inl h1
      · right; exact ⟨j + 1, by simpa using hj, by simpa using h1, by rw [h2]; omega⟩
theorem check_Find_is (vs : List Vr) (hl : vs.length ≤ 140737488351232) (name : List UInt8) (mark : Int) : den Sp check_Find.id [.sl .no T_api_Var (vs.map Vr.v), .str (B name), .int .i64 mark] [] none = some ⟨.ret (.int .i64 (findI name mark vs 0)), [], none⟩ := by
  have key : ∀ i : Nat, i ≤ vs.length → check_Find.L1_0_1_0 (B name) mark (vs.map Vr.v) (vs.length : Int) (i : Int) = some ⟨.ret (.int .i64 (findI name mark (vs.drop i) (i : Int))), [], none⟩ := by
    refine down ?_ fun i hi ih => ?_
    · rw [check_Find.L1_0_1_0_eq]; simp [findI]
    · rw [check_Find.L1_0_1_0_eq, List.drop_eq_getElem_cons hi, findI]
      unfold scopeP
      simp only [Int.natCast_add, Int.natCast_one] at ih
      by_cases h1 : vs[i].name = name <;> by_cases h2 : vs[i].frm ≤ mark <;> by_cases h3 : mark ≤ vs[i].to <;> simp (disch := omega) [hi, wrap_in, h1, h2, h3, ih]
  rw [check_Find.eq]
  simpa using key 0 (Nat.zero_le _)
/-- What checking gives up with; what it answers, or panics with. -/
def givenV (mark e : Int) : V := .iface T_check_given (.agg [.int .i64 mark, .int .i64 e])
def namesB (vs : List Vr) (mark : Int) : Blk := .cells T_check_names [.sl .no T_api_Var (vs.map Vr.v), .int .i64 mark] false
def outB (b : Blk) (mark e : Int) (v : V) : Option Res := some ⟨if e = 0 then .ret v else .pan (givenV mark e), [b], none⟩
theorem need_true (vs : List Vr) (mark e : Int) : den Sp check_names_need.id [.ref 0 0, .bool true, .int .i64 e] [namesB vs mark] none = some ⟨.ret (.tup []), [namesB vs mark], none⟩ := by
  unfold namesB; rw [check_names_need.eq]; rfl
theorem need_false (vs : List Vr) (mark e : Int) : den Sp check_names_need.id [.ref 0 0, .bool false, .int .i64 e] [namesB vs mark] none = some ⟨.pan (givenV mark e), [namesB vs mark], none⟩ := by
  unfold namesB; rw [check_names_need.eq]; rfl
theorem named_is (vs : List Vr) (hl : vs.length ≤ 140737488351232) (mark : Int) (name : List UInt8) : den Sp check_names_named.id [.ref 0 0, .str (B name)] [namesB vs mark] none =
    match findV name mark vs with | some v => some ⟨.ret (.agg v.v), [namesB vs mark], none⟩ | none => some ⟨.pan (givenV mark 40), [namesB vs mark], none⟩ := by
  have e1 := need_true vs mark 40
  have e2 := need_false vs mark 40
  unfold namesB at *
  rw [check_names_named.eq, check_Find_is vs hl]
  rcases find_cases name mark vs 0 with ⟨h1, h2⟩ | ⟨j, hj, h1, h2⟩
  · simp [h1, h2, e2, givenV]
  · simp [h1, h2, e1, hj]
    rfl
def arityP (k : Int) : Int := if k = 1 ∨ k = 2 ∨ k = 3 then 0 else if k = 4 ∨ k = 5 then 1 else if k = 6 then 2 else -1
theorem check_arity_is (k : Int) : den Sp check_arity.id [.int .i64 k] [] none = some ⟨.ret (.int .i64 (arityP k)), [], none⟩ := by
  rw [check_arity.eq]
  by_cases h1 : k = 1
  · subst h1; rfl
  by_cases h2 : k = 2
  · subst h2; rfl
  by_cases h3 : k = 3
  · subst h3; rfl
  by_cases h4 : k = 4
  · subst h4; rfl
  by_cases h5 : k = 5
  · subst h5; rfl
  by_cases h6 : k = 6
  · subst h6; rfl
  simp [h1, h2, h3, h4, h5, h6, arityP]
/-- The type of two with a sign between: an error, or the type. -/
def twoT (s : List UInt8) (a b : Int) : Int × Int :=
  if s = [43] ∨ s = [45] ∨ s = [42] ∨ s = [47] ∨ s = [37] then (if a = 1 ∧ b = 1 then (0, 1) else (41, 0))
  else if s = [60] ∨ s = [60, 61] then (if a = 1 ∧ b = 1 then (0, 2) else (41, 0))
  else if s = [38, 38] ∨ s = [124, 124] then (if a = 2 ∧ b = 2 then (0, 2) else (41, 0))
  else if s = [61, 61] ∨ s = [33, 61] then (if a = b then (0, 2) else (41, 0))
  else (32, 0)
theorem two_is (vs : List Vr) (mark : Int) (s : List UInt8) (a b : Int) : den Sp check_names_two.id [.ref 0 0, .str (B s), .int .i64 a, .int .i64 b] [namesB vs mark] none =
    outB (namesB vs mark) mark (twoT s a b).1 (.int .i64 (twoT s a b).2) := by
  have e1 := need_true vs mark
  have e2 := need_false vs mark
  unfold namesB at *
  rw [check_names_two.eq]
  unfold twoT outB
  by_cases h0 : s = [43]
  · subst h0; by_cases ha : a = 1 <;> by_cases hb : b = 1 <;> simp [ha, hb, e1, e2, givenV]
  by_cases h1 : s = [45]
  · subst h1; by_cases ha : a = 1 <;> by_cases hb : b = 1 <;> simp [ha, hb, e1, e2, givenV]
  by_cases h2 : s = [42]
  · subst h2; by_cases ha : a = 1 <;> by_cases hb : b = 1 <;> simp [ha, hb, e1, e2, givenV]
  by_cases h3 : s = [47]
  · subst h3; by_cases ha : a = 1 <;> by_cases hb : b = 1 <;> simp [ha, hb, e1, e2, givenV]
  by_cases h4 : s = [37]
  · subst h4; by_cases ha : a = 1 <;> by_cases hb : b = 1 <;> simp [ha, hb, e1, e2, givenV]
  by_cases h5 : s = [60]
  · subst h5; by_cases ha : a = 1 <;> by_cases hb : b = 1 <;> simp [ha, hb, e1, e2, givenV]
  by_cases h6 : s = [60, 61]
  · subst h6; by_cases ha : a = 1 <;> by_cases hb : b = 1 <;> simp [ha, hb, e1, e2, givenV]
  by_cases h7 : s = [38, 38]
  · subst h7; by_cases ha : a = 2 <;> by_cases hb : b = 2 <;> simp [ha, hb, e1, e2, givenV]
  by_cases h8 : s = [124, 124]
  · subst h8; by_cases ha : a = 2 <;> by_cases hb : b = 2 <;> simp [ha, hb, e1, e2, givenV]
  by_cases h9 : s = [61, 61]
  · subst h9; by_cases ha : a = b <;> simp [ha, e1, e2, givenV]
  by_cases h10 : s = [33, 61]
  · subst h10; by_cases ha : a = b <;> simp [ha, e1, e2, givenV]
  simp [h0, h1, h2, h3, h4, h5, h6, h7, h8, h9, h10, e2, givenV]
/-- An expression's type: an error, or the type. -/
def tyK (vs : List Vr) (mark : Int) (k : Int) (s : List UInt8) (m : Int) (n : Nat) (rs : List (Int × Int)) : Int × Int :=
  if arityP k ≠ (n : Int) then (32, 0)
  else if k = 1 then (if 0 ≤ m then (0, 1) else (32, 0))
  else if k = 2 then (if m = 0 ∨ m = 1 then (0, 2) else (32, 0))
  else if k = 3 then (match findV s mark vs with | none => (40, 0) | some v => if v.size = 0 then (0, v.type) else (41, 0))
  else match rs with
    | [a] => if k = 4 then (match findV s mark vs with | none => (40, 0) | some v => if 0 < v.size then (if a.1 ≠ 0 then (a.1, 0) else if a.2 = 1 then (0, 1) else (41, 0)) else (41, 0))
      else if a.1 ≠ 0 then (a.1, 0) else if s = [45] then (if a.2 = 1 then (0, a.2) else (41, 0)) else if s = [33] then (if a.2 = 2 then (0, a.2) else (41, 0)) else (32, 0)
    | [a, b] => if a.1 ≠ 0 then (a.1, 0) else if b.1 ≠ 0 then (b.1, 0) else twoT s a.2 b.2
    | _ => (32, 0)
mutual
def tyP (vs : List Vr) (mark : Int) : Ex → Int × Int
  | .mk k s m l => tyK vs mark k s m l.length (tyPs vs mark l)
def tyPs (vs : List Vr) (mark : Int) : List Ex → List (Int × Int)
  | [] => []
  | x :: l => tyP vs mark x :: tyPs vs mark l
end
theorem arity_forms {k : Int} {n : Nat} (h : arityP k = (n : Int)) : (k = 1 ∧ n = 0) ∨ (k = 2 ∧ n = 0) ∨ (k = 3 ∧ n = 0) ∨ (k = 4 ∧ n = 1) ∨ (k = 5 ∧ n = 1) ∨ (k = 6 ∧ n = 2) := by
  unfold arityP at h
  split at h
  · omega
  · split at h
    · omega
    · split at h <;> omega
theorem expr_is (vs : List Vr) (hl : vs.length ≤ 140737488351232) (mark : Int) : ∀ x : Ex, den Sp check_names_expr.id [.ref 0 0, .agg x.v] [namesB vs mark] none = outB (namesB vs mark) mark (tyP vs mark x).1 (.int .i64 (tyP vs mark x).2) := by
  refine Ex.ind fun k s m l ih => ?_
  have e1 := need_true vs mark
  have e2 := need_false vs mark
  have e3 := named_is vs hl mark s
  have e4 := two_is vs mark s
  unfold outB at *
  unfold namesB at *
  rw [Ex.v_mk, check_names_expr.eq, check_arity_is, tyP]
  unfold tyK
  by_cases hn : arityP k = (l.length : Int)
  · have hs : ¬ (arityP k ≠ (l.length : Int)) := fun h => h hn
    rw [if_neg hs]
    rcases arity_forms hn with ⟨rfl, h⟩ | ⟨rfl, h⟩ | ⟨rfl, h⟩ | ⟨rfl, h⟩ | ⟨rfl, h⟩ | ⟨rfl, h⟩
    · by_cases hm : 0 ≤ m <;> simp [arityP, h, e1, e2, hm, givenV]
    · by_cases h0 : m = 0
      · simp [arityP, h, e1, e2, h0]
      · by_cases h1 : m = 1 <;> simp [arityP, h, e1, e2, h0, h1, givenV]
    · cases hv : findV s mark vs with
      | none => simp [arityP, h, e1, e3, hv, givenV]
      | some v => by_cases hz : v.size = 0 <;> simp [arityP, h, e1, e2, e3, hv, hz, givenV]
    · obtain ⟨y, rfl⟩ := List.length_eq_one_iff.1 h
      have hy := ih y (List.mem_singleton_self y)
      cases hv : findV s mark vs with
      | none => simp [arityP, e1, e3, hv, givenV, tyPs]
      | some v =>
        by_cases hz : 0 < v.size
        · by_cases h1 : (tyP vs mark y).1 = 0
          · by_cases h2 : (tyP vs mark y).2 = 1 <;> simp [arityP, e1, e2, e3, hv, hz, hy, h1, h2, givenV, tyPs]
          · simp [arityP, e1, e2, e3, hv, hz, hy, h1, givenV, tyPs]
        · simp [arityP, e1, e2, e3, hv, hz, givenV, tyPs]
    · obtain ⟨y, rfl⟩ := List.length_eq_one_iff.1 h
      have hy := ih y (List.mem_singleton_self y)
      by_cases h1 : (tyP vs mark y).1 = 0
      · by_cases g1 : s = [45]
        · subst g1
          by_cases h2 : (tyP vs mark y).2 = 1 <;> simp [arityP, e1, e2, hy, h1, h2, givenV, tyPs]
        · by_cases g2 : s = [33]
          · subst g2
            by_cases h2 : (tyP vs mark y).2 = 2 <;> simp [arityP, e1, e2, hy, h1, h2, givenV, tyPs]
          · simp [arityP, e1, e2, hy, h1, g1, g2, givenV, tyPs]
      · simp [arityP, e1, e2, hy, h1, givenV, tyPs]
    · obtain ⟨y, z, rfl⟩ : ∃ y z, l = [y, z] := by
        match l, h with
        | [y, z], _ => exact ⟨y, z, rfl⟩
      have hy := ih y (by simp)
      have hz := ih z (by simp)
      by_cases h1 : (tyP vs mark y).1 = 0
      · by_cases h2 : (tyP vs mark z).1 = 0
        · have e5 := e4 (tyP vs mark y).2 (tyP vs mark z).2
          by_cases h3 : (twoT s (tyP vs mark y).2 (tyP vs mark z).2).1 = 0 <;> simp [arityP, e1, e2, hy, hz, h1, h2, h3, e5, givenV, tyPs]
        · simp [arityP, e1, e2, hy, hz, h1, h2, givenV, tyPs]
      · simp [arityP, e1, e2, hy, h1, givenV, tyPs]
  · rw [if_pos hn]
    have hn' : (arityP k == (l.length : Int)) = false := by simp [hn]
    simp [hn, e2, givenV]
end Go.Proofs.Ytkelkkjkbpdldaa
