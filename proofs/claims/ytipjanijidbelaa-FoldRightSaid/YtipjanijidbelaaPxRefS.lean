/- Checking a statement: the reference's. Own work. -/
import Derived.Test.YtipjanijidbelaaPxRefT
namespace Go.Proofs.Ytipjanijidbelaa
open Go Go.Proofs.Ab Go.Proofs.Px
set_option linter.unusedVariables false
set_option linter.unusedSimpArgs false
set_option maxRecDepth 100000

section
variable (vs : List Vr) (hl : vs.length ≤ 140737488351232) (mark : Int)
include hl
theorem ref04_is_is (x : Ex) (t : Int) : den Sp ref04_is.id [.agg x.v, .sl .no T_api_Var (vs.map Vr.v), .int .i64 mark, .int .i64 t] [] none = some ⟨.ret (.int .i64 (typedE vs mark x t)), [], none⟩ := by
  have h := ref04_TypeOf_is vs hl mark x
  rw [Ex.v_is] at h ⊢
  rw [ref04_is.eq, ref04_typed.eq, h]
  unfold typedE
  by_cases c1 : (tyP vs mark x).1 = 0
  · by_cases c2 : (tyP vs mark x).2 = t <;> simp [c1, c2]
  · simp [c1]
/-- The error of a name: of a variable in scope, an array or none, of a type (0: any). -/
def holdE (vs : List Vr) (mark : Int) (name : List UInt8) (arr : Bool) (t : Int) : Int := match findV name mark vs with
  | none => 40
  | some v => if decide (0 < v.size) ≠ arr then 41 else if t ≠ 0 ∧ v.type ≠ t then 41 else 0
theorem ref04_holder_is (name : List UInt8) (arr : Bool) (t : Int) : den Sp ref04_holder.id [.sl .no T_api_Var (vs.map Vr.v), .str (B name), .int .i64 mark, .bool arr, .int .i64 t] [] none = some ⟨.ret (.int .i64 (holdE vs mark name arr t)), [], none⟩ := by
  have ef := ref04_Find_is vs hl name mark
  rw [ref04_holder.eq, ef]
  unfold holdE
  rcases find_cases name mark vs 0 with ⟨h1, h2⟩ | ⟨j, hj, h1, h2⟩
  · simp [h1, h2]
  · simp only [h1, h2]
    by_cases c1 : decide (0 < vs[j].size) = arr
    · by_cases c2 : t = 0
      · simp [hj, c1, c2]
      · by_cases c3 : vs[j].type = t <;> simp [hj, c1, c2, c3]
    · have c1' : (decide (0 < vs[j].size) == arr) = false := by rw [beq_eq_false_iff_ne]; exact c1
      simp [hj, c1, c1']
omit hl in
theorem ref04_first_is (a b c : Int) : den Sp ref04_first.id [.sl .no T_api_Errno [[.int .i64 a], [.int .i64 b], [.int .i64 c]]] [] none = some ⟨.ret (.int .i64 (if a ≠ 0 then a else if b ≠ 0 then b else c)), [], none⟩ := by
  have e3 : ref04_first.L1_0_1_0 [[.int .i64 a], [.int .i64 b], [.int .i64 c]] 3 = some ⟨.ret (.int .i64 0), [], none⟩ := by rw [ref04_first.L1_0_1_0_eq]; rfl
  have e2 : ref04_first.L1_0_1_0 [[.int .i64 a], [.int .i64 b], [.int .i64 c]] 2 = some ⟨.ret (.int .i64 c), [], none⟩ := by
    rw [ref04_first.L1_0_1_0_eq]
    by_cases h : c = 0
    · simp [h, wrap_in, e3]; rw [← e3, h]
    · simp [h]
  have e1 : ref04_first.L1_0_1_0 [[.int .i64 a], [.int .i64 b], [.int .i64 c]] 1 = some ⟨.ret (.int .i64 (if b ≠ 0 then b else c)), [], none⟩ := by
    rw [ref04_first.L1_0_1_0_eq]
    by_cases h : b = 0
    · simp [h, wrap_in]; rw [← e2, h]
    · simp [h]
  rw [ref04_first.eq, ref04_first.L1_0_1_0_eq]
  by_cases h : a = 0
  · simp [h, wrap_in]; rw [h] at e1; simpa using e1
  · simp [h]
end
/-- The number of the first procedure of a name. -/
def lowI (name : List UInt8) : List Prc → Int → Int
  | [], _ => -1
  | p :: l, i => if p.name = name then i else lowI name l (i + 1)
theorem low_cases (name : List UInt8) : ∀ (l : List Prc) (i : Int), (calledP name l = none ∧ lowI name l i = -1) ∨ ∃ (j : Nat) (h : j < l.length), calledP name l = some l[j] ∧ lowI name l i = i + (j : Int)
  | [], i => .inl ⟨rfl, rfl⟩
  | p :: l, i => by
    unfold calledP lowI
    by_cases h : p.name = name
    · right; exact ⟨0, by simp, by simp [h], by simp [h]⟩
    · rw [if_neg h, if_neg h]
      rcases low_cases name l (i + 1) with h1 | ⟨j, hj, h1, h2⟩
      · exact .inl h1
      · right; exact ⟨j + 1, by simpa using hj, by simpa using h1, by rw [h2]; omega⟩
theorem low_take (name : List UInt8) {l : List Prc} {j : Nat} (h : j < l.length) : lowI name (l.take (j + 1)) 0 = if lowI name (l.take j) 0 ≠ -1 then lowI name (l.take j) 0 else if l[j].name = name then (j : Int) else -1 := by
  have app : ∀ (a : List Prc) (p : Prc) (i : Int), 0 ≤ i → lowI name (a ++ [p]) i = if lowI name a i ≠ -1 then lowI name a i else if p.name = name then i + (a.length : Int) else -1 := by
    intro a
    induction a with
    | nil => intro p i hi; simp [lowI]
    | cons q a ih =>
      intro p i hi
      rw [List.cons_append, lowI, lowI]
      by_cases c : q.name = name
      · rw [if_pos c, if_pos c, if_pos (by omega)]
      · rw [if_neg c, if_neg c, ih p (i + 1) (by omega), List.length_cons]
        have e : i + 1 + (a.length : Int) = i + ((a.length + 1 : Nat) : Int) := by omega
        rw [e]
  rw [List.take_succ_eq_append_getElem h, app _ _ 0 (by omega), List.length_take, Nat.min_eq_left (by omega), Int.zero_add]
theorem ref04_call_is (vs : List Vr) (hl : vs.length ≤ 140737488351232) (mark : Int) (ps : List Prc) (hps : ps.length ≤ 140737488351232) (s : Stm) (hs : s.e.length ≤ 140737488351232) (hv : ∀ v, findV s.name mark vs = some v → 0 ≤ v.size) :
    den Sp ref04_call.id [.agg [.sl .no T_api_Proc (ps.map Prc.v)], .agg s.v, .sl .no T_api_Var (vs.map Vr.v), .int .i64 mark] [] none = some ⟨.ret (.int .i64 (callE vs mark ps s)), [], none⟩ := by
  have e4 := ref04_is_is vs hl mark
  have e5 := ref04_holder_is vs hl mark s.name false 0
  have e6 := ref04_Find_is vs hl s.name mark
  have args : ∀ (p : Prc) (hp : s.e.length = p.params.length) (i2 i3 : Int) (i : Nat), i ≤ s.e.length → ref04_call.L1_1_1_1_1_1_0_1_0 (vs.map Vr.v) mark i2 i3 (i : Int) (ps.map Prc.v) s.kind (B s.name) (B s.proc) s.num (s.e.map Ex.v) (s.body.map Stm.v) (s.els.map Stm.v) (B p.name) (p.params.map Par.v) p.type (p.body.map Stm.v) =
      some ⟨.ret (.int .i64 (if argsE vs mark (s.e.drop i) (p.params.drop i) ≠ 0 then argsE vs mark (s.e.drop i) (p.params.drop i) else takesE vs mark s.name p.type)), [], none⟩ := by
    intro p hp i2 i3
    refine down ?_ fun i hi ih => ?_
    · rw [ref04_call.L1_1_1_1_1_1_0_1_0_eq]
      unfold takesE
      unfold holdE at e5
      by_cases h1 : s.name = []
      · simp [h1, argsE]
      · rcases find_cases s.name mark vs 0 with ⟨g1, g2⟩ | ⟨j, hj, g1, g2⟩
        · rw [g1] at e5
          simp [h1, argsE, e5, g1]
        · have hv0 := hv _ g1
          rw [g1] at e5
          rw [g2] at e6
          by_cases z : 0 < vs[j].size
          · simp [z] at e5
            simp [h1, argsE, e5, g1, show ¬ vs[j].size = 0 by omega]
          · simp [z] at e5
            by_cases t0 : p.type = 0
            · simp [h1, argsE, e5, g1, t0]
            · by_cases t1 : vs[j].type = p.type
              · simp [h1, argsE, e5, g1, t0, e6, hj, t1, show vs[j].size = 0 by omega]
              · simp [h1, argsE, e5, g1, t0, e6, hj, t1]
    · have hi' : i < p.params.length := by omega
      rw [ref04_call.L1_1_1_1_1_1_0_1_0_eq, List.drop_eq_getElem_cons hi, List.drop_eq_getElem_cons hi', argsE]
      simp only [Int.natCast_add, Int.natCast_one] at ih
      have e7 := e4 s.e[i] p.params[i].type
      by_cases h1 : typedE vs mark s.e[i] p.params[i].type = 0
      · simp (disch := omega) [hi, hi', h1, wrap_in, ih, e7]
      · simp (disch := omega) [hi, hi', h1, wrap_in, e7]
  have tail : ∀ (i3 : Int), ref04_call.L1_1_0_1_0 (vs.map Vr.v) mark (lowI s.proc ps 0) (-1) (ps.map Prc.v) s.kind (B s.name) (B s.proc) s.num (s.e.map Ex.v) (s.body.map Stm.v) (s.els.map Stm.v) = some ⟨.ret (.int .i64 (callE vs mark ps s)), [], none⟩ := by
    intro i3
    rw [ref04_call.L1_1_0_1_0_eq]
    unfold callE
    rcases low_cases s.proc ps 0 with ⟨h1, h2⟩ | ⟨j, hj, h1, h2⟩
    · simp [h1, h2]
    · simp only [h1, h2]
      by_cases hn : s.e.length = ps[j].params.length
      · have h0 := args ps[j] hn (j : Int) (-1) 0 (Nat.zero_le _)
        simp at h0
        simp [hj, hn]
        simpa using h0
      · have hn' : ¬ ((ps[j].params.length : Int) = (s.e.length : Int)) := by omega
        simp [hj, hn, hn']
  have key : ∀ (j : Nat), j ≤ ps.length → ∀ at_ : Int, (if lowI s.proc (ps.take j) 0 = -1 then at_ else lowI s.proc (ps.take j) 0) = lowI s.proc ps 0 → ref04_call.L1_1_0_1_0 (vs.map Vr.v) mark at_ ((j : Int) - 1) (ps.map Prc.v) s.kind (B s.name) (B s.proc) s.num (s.e.map Ex.v) (s.body.map Stm.v) (s.els.map Stm.v) = some ⟨.ret (.int .i64 (callE vs mark ps s)), [], none⟩ := by
    intro j
    induction j with
    | zero =>
      intro _ at_ h
      rw [List.take_zero] at h
      simp [lowI] at h
      rw [h]
      simpa using tail 0
    | succ j ih =>
      intro hj at_ h
      have hj' : j < ps.length := by omega
      rw [low_take s.proc hj'] at h
      have e : (((j + 1 : Nat) : Int) - 1) = (j : Int) := by omega
      rw [e, ref04_call.L1_1_0_1_0_eq]
      by_cases c : ps[j].name = s.proc
      · have h3 := ih (by omega) (j : Int) (by
          rw [← h]
          by_cases d : lowI s.proc (ps.take j) 0 = -1
          · simp [d, c]
          · simp [d])
        simp (disch := omega) [hj', c, wrap_in]
        exact h3
      · have h3 := ih (by omega) at_ (by
          rw [← h]
          by_cases d : lowI s.proc (ps.take j) 0 = -1 <;> simp [d, c])
        simp (disch := omega) [hj', c, wrap_in]
        exact h3
  rw [Stm.v_is, ref04_call.eq]
  have h0 := key ps.length (Nat.le_refl _) (-1) (by rw [List.take_length]; split <;> omega)
  rw [List.length_map, wrap_in (by omega) (by omega)]
  exact h0
def kindsP (k : Int) : Int := if k < 1 ∨ 10 < k then -2 else if k = 1 then 0 else if k = 2 then 1 else if k = 3 then 2 else if k = 4 then 1 else if k = 5 then 1 else if k = 6 then -1 else if k = 7 then -1 else if k = 8 then 1 else if k = 9 then 0 else 1
theorem ref04_kinds_is (k : Int) : den Sp ref04_kinds.id [.int .i64 k] [] none = some ⟨.ret (.int .i64 (kindsP k)), [], none⟩ := by
  rw [ref04_kinds.eq]
  unfold kindsP
  by_cases h0 : k < 1
  · simp [h0]
  by_cases h1 : 10 < k
  · simp [h0, h1]
  have hk : k = 1 ∨ k = 2 ∨ k = 3 ∨ k = 4 ∨ k = 5 ∨ k = 6 ∨ k = 7 ∨ k = 8 ∨ k = 9 ∨ k = 10 := by omega
  rcases hk with rfl | rfl | rfl | rfl | rfl | rfl | rfl | rfl | rfl | rfl <;> rfl
section
variable (vs : List Vr) (hl : vs.length ≤ 140737488351232) (mark : Int) (ps : List Prc) (hps : ps.length ≤ 140737488351232) (q : Prc) (k : Int) (n p : List UInt8) (m : Int) (e : List Ex) (b l : List Stm) (he : e.length ≤ 140737488351232)
    (hv : ∀ v, findV n mark vs = some v → 0 ≤ v.size)
include hl hps he hv
/-- The switch over kinds. -/
theorem ref04_switch_is (hb : b = [] ∨ k = 4 ∨ k = 5) (hll : l = [] ∨ k = 4) (hk : kindsP k ≠ -2) (hn : 0 ≤ kindsP k → (e.length : Int) = kindsP k) (h7 : k = 7 → e.length ≤ 1) (h1 : k = 1 → -1 ≤ m) (i2 : Int) :
    ref04_stmt.J1_1_1_1_0_0 (vs.map Vr.v) mark i2 (ps.map Prc.v) (B q.name) (q.params.map Par.v) q.type (q.body.map Stm.v) k (B n) (B p) m (e.map Ex.v) (b.map Stm.v) (l.map Stm.v) = some ⟨.ret (.int .i64 (stmtE vs mark ps q (.mk k n p m e b l))), [], none⟩ := by
  have e4 := ref04_is_is vs hl mark
  have e3 := ref04_TypeOf_is vs hl mark
  have e5 := ref04_holder_is vs hl mark n
  have e6 := ref04_Find_is vs hl n mark
  have e7 := ref04_call_is vs hl mark ps hps (.mk k n p m e b l) he hv
  rw [Stm.v_mk] at e7
  have c1 : ¬ (b ≠ [] ∧ k ≠ 4 ∧ k ≠ 5) := fun h => hb.elim h.1 fun h2 => h2.elim h.2.1 h.2.2
  have c2 : ¬ (l ≠ [] ∧ k ≠ 4) := fun h => hll.elim h.1 h.2
  rw [stmtE_mk]
  unfold stmtK
  rw [if_neg c1, if_neg c2, ref04_stmt.J1_1_1_1_0_0_eq]
  unfold holdE at e5
  have hkk : k = 1 ∨ k = 2 ∨ k = 3 ∨ k = 4 ∨ k = 5 ∨ k = 6 ∨ k = 7 ∨ k = 8 ∨ k = 9 ∨ k = 10 := by
    unfold kindsP at hk
    split at hk
    · exact absurd rfl hk
    · omega
  rcases hkk with rfl | rfl | rfl | rfl | rfl | rfl | rfl | rfl | rfl | rfl
  · have he0 : e = [] := by
      have := hn (by decide)
      exact List.eq_nil_of_length_eq_zero (by have : kindsP 1 = 0 := rfl; omega)
    subst he0
    have := h1 rfl
    by_cases c : 64 < m
    · simp [c, show ¬ m < -1 by omega]
    · simp [c, show ¬ m < -1 by omega, ref04_stmt.J1_1_1_1_1_0_eq]
  · obtain ⟨x, rfl⟩ := List.length_eq_one_iff.1 (show e.length = 1 by have := hn (by decide); have : kindsP 2 = 1 := rfl; omega)
    rcases find_cases n mark vs 0 with ⟨g1, g2⟩ | ⟨j, hj, g1, g2⟩
    · have e5 := e5 false 0
      rw [g1] at e5
      simp [e5, g1]
    · have hv0 := hv _ g1
      have e5 := e5 false 0
      rw [g1] at e5
      rw [g2] at e6
      have e8 := e4 x vs[j].type
      by_cases z : 0 < vs[j].size
      · simp [z] at e5
        simp [e5, g1, show ¬ vs[j].size = 0 by omega]
      · simp [z] at e5
        simp [e5, g1, e6, hj, e8, show vs[j].size = 0 by omega]
  · obtain ⟨x, y, rfl⟩ : ∃ x y, e = [x, y] := by
      match e, (show e.length = 2 by have := hn (by decide); have : kindsP 3 = 2 := rfl; omega) with
      | [x, y], _ => exact ⟨x, y, rfl⟩
    have e8 := e4 x 1
    have e9 := e4 y 1
    rcases find_cases n mark vs 0 with ⟨g1, g2⟩ | ⟨j, hj, g1, g2⟩
    · have e5 := e5 true 0
      rw [g1] at e5
      simp [e5, g1, e8, e9, ref04_first_is]
    · have e5 := e5 true 0
      rw [g1] at e5
      by_cases z : 0 < vs[j].size
      · simp [z] at e5
        simp [e5, g1, z, e8, e9, ref04_first_is]
      · simp [z] at e5
        simp [e5, g1, z, e8, e9, ref04_first_is]
  · obtain ⟨x, rfl⟩ := List.length_eq_one_iff.1 (show e.length = 1 by have := hn (by decide); have : kindsP 4 = 1 := rfl; omega)
    have e8 := e4 x 2
    simp [ref04_stmt.J1_1_1_1_0_1_0_1_1_1_1_1_1_1_0_0_eq, e8, oneE]
  · obtain ⟨x, rfl⟩ := List.length_eq_one_iff.1 (show e.length = 1 by have := hn (by decide); have : kindsP 5 = 1 := rfl; omega)
    have e8 := e4 x 2
    simp [ref04_stmt.J1_1_1_1_0_1_0_1_1_1_1_1_1_1_0_0_eq, e8, oneE]
  · simp [ref04_stmt.J1_1_1_1_0_1_0_1_1_1_1_1_1_1_1_0_eq, e7]
  · have h7 := h7 rfl
    match e, h7 with
    | [], _ =>
      by_cases t : q.type = 0
      · simp [ref04_stmt.J1_1_1_1_0_1_0_1_1_1_1_1_1_1_1_0_eq, ref04_stmt.J1_1_1_1_1_0_eq, t, returnsE]
      · simp [ref04_stmt.J1_1_1_1_0_1_0_1_1_1_1_1_1_1_1_0_eq, t, returnsE]
    | [x], _ =>
      have e8 := e4 x q.type
      by_cases t : q.type = 0
      · simp [ref04_stmt.J1_1_1_1_0_1_0_1_1_1_1_1_1_1_1_0_eq, t, returnsE]
      · simp [ref04_stmt.J1_1_1_1_0_1_0_1_1_1_1_1_1_1_1_0_eq, t, returnsE, e8]
  · obtain ⟨x, rfl⟩ := List.length_eq_one_iff.1 (show e.length = 1 by have := hn (by decide); have : kindsP 8 = 1 := rfl; omega)
    have e8 := e3 x
    simp [ref04_stmt.J1_1_1_1_0_1_0_1_1_1_1_1_1_1_1_0_eq, e8, oneE]
  · have he0 : e = [] := by
      have := hn (by decide)
      exact List.eq_nil_of_length_eq_zero (by have : kindsP 9 = 0 := rfl; omega)
    subst he0
    have e5 := e5 false 1
    rcases find_cases n mark vs 0 with ⟨g1, g2⟩ | ⟨j, hj, g1, g2⟩
    · rw [g1] at e5
      simp [ref04_stmt.J1_1_1_1_0_1_0_1_1_1_1_1_1_1_1_0_eq, e5, g1]
    · have hv0 := hv _ g1
      rw [g1] at e5
      by_cases z : 0 < vs[j].size
      · simp [z] at e5
        simp [ref04_stmt.J1_1_1_1_0_1_0_1_1_1_1_1_1_1_1_0_eq, e5, g1, show ¬ vs[j].size = 0 by omega]
      · by_cases t : vs[j].type = 1
        · simp [z, t] at e5
          simp [ref04_stmt.J1_1_1_1_0_1_0_1_1_1_1_1_1_1_1_0_eq, e5, g1, t, show vs[j].size = 0 by omega]
        · simp [z, t] at e5
          simp [ref04_stmt.J1_1_1_1_0_1_0_1_1_1_1_1_1_1_1_0_eq, e5, g1, t]
  · obtain ⟨x, rfl⟩ := List.length_eq_one_iff.1 (show e.length = 1 by have := hn (by decide); have : kindsP 10 = 1 := rfl; omega)
    have e8 := e4 x 2
    simp [ref04_stmt.J1_1_1_1_0_1_0_1_1_1_1_1_1_1_0_0_eq, e8, oneE]
omit hl hps he hv in
theorem kind_bad (c1 : ¬ (b ≠ [] ∧ k ≠ 4 ∧ k ≠ 5)) (c2 : ¬ (l ≠ [] ∧ k ≠ 4)) (h : kindsP k = -2 ∨ (0 ≤ kindsP k ∧ (e.length : Int) ≠ kindsP k) ∨ (k = 7 ∧ 1 < e.length)) : stmtE vs mark ps q (.mk k n p m e b l) = 32 := by
  rw [stmtE_mk]
  unfold stmtK
  rw [if_neg c1, if_neg c2]
  by_cases hk : k < 1 ∨ 10 < k
  · rw [if_neg (by omega), if_neg (by omega), if_neg (by omega), if_neg (by omega), if_neg (by omega), if_neg (by omega), if_neg (by omega), if_neg (by omega)]
  have hkk : k = 1 ∨ k = 2 ∨ k = 3 ∨ k = 4 ∨ k = 5 ∨ k = 6 ∨ k = 7 ∨ k = 8 ∨ k = 9 ∨ k = 10 := by omega
  rcases hkk with rfl | rfl | rfl | rfl | rfl | rfl | rfl | rfl | rfl | rfl
  · have h : e.length ≠ 0 := by have : kindsP 1 = 0 := rfl; omega
    simp [List.length_eq_zero_iff] at h
    simp [h]
  · have h : e.length ≠ 1 := by have : kindsP 2 = 1 := rfl; omega
    match e, h with
    | [], _ => rfl
    | [x], h => exact absurd rfl h
    | x :: y :: r, _ => rfl
  · have h : e.length ≠ 2 := by have : kindsP 3 = 2 := rfl; omega
    match e, h with
    | [], _ => rfl
    | [x], _ => rfl
    | [x, y], h => exact absurd rfl h
    | x :: y :: z :: r, _ => rfl
  · have h : e.length ≠ 1 := by have : kindsP 4 = 1 := rfl; omega
    match e, h with
    | [], _ => rfl
    | [x], h => exact absurd rfl h
    | x :: y :: r, _ => rfl
  · have h : e.length ≠ 1 := by have : kindsP 5 = 1 := rfl; omega
    match e, h with
    | [], _ => rfl
    | [x], h => exact absurd rfl h
    | x :: y :: r, _ => rfl
  · have : kindsP 6 = -1 := rfl
    omega
  · have h : 1 < e.length := by have : kindsP 7 = -1 := rfl; omega
    match e, h with
    | x :: y :: r, _ => rfl
    | [x], h => simp at h
    | [], h => simp at h
  · have h : e.length ≠ 1 := by have : kindsP 8 = 1 := rfl; omega
    match e, h with
    | [], _ => rfl
    | [x], h => exact absurd rfl h
    | x :: y :: r, _ => rfl
  · have h : e.length ≠ 0 := by have : kindsP 9 = 0 := rfl; omega
    match e, h with
    | [], h => exact absurd rfl h
    | x :: r, _ => rfl
  · have h : e.length ≠ 1 := by have : kindsP 10 = 1 := rfl; omega
    match e, h with
    | [], _ => rfl
    | [x], h => exact absurd rfl h
    | x :: y :: r, _ => rfl
theorem ref04_stmt_is : den Sp ref04_stmt.id [.agg [.sl .no T_api_Proc (ps.map Prc.v)], .agg q.v, .agg (Stm.mk k n p m e b l).v, .sl .no T_api_Var (vs.map Vr.v), .int .i64 mark] [] none = some ⟨.ret (.int .i64 (stmtE vs mark ps q (.mk k n p m e b l))), [], none⟩ := by
  have sw := fun h1 h2 h3 h4 h5 h6 => ref04_switch_is vs hl mark ps hps q k n p m e b l he hv h1 h2 h3 h4 h5 h6 (kindsP k)
  have hqv : q.v = [V.str (B q.name), V.sl .no T_api_Param (q.params.map Par.v), V.int .i64 q.type, V.sl .no T_api_Stmt (q.body.map Stm.v)] := rfl
  have nn : ∀ l : List Stm, ((0 : Int) < (l.length : Int)) = (l ≠ []) := fun l => by
    cases l <;> simp <;> omega
  rw [hqv, Stm.v_mk, ref04_stmt.eq, ref04_kinds_is]
  -- the second gate
  have second : (b = [] ∨ k = 4 ∨ k = 5) → (l = [] ∨ k = 4) → (k = 1 → -1 ≤ m) → ref04_stmt.J1_1_1_0_0 (vs.map Vr.v) mark (kindsP k) (ps.map Prc.v) (B q.name) (q.params.map Par.v) q.type (q.body.map Stm.v) k (B n) (B p) m (e.map Ex.v) (b.map Stm.v) (l.map Stm.v) = some ⟨.ret (.int .i64 (stmtE vs mark ps q (.mk k n p m e b l))), [], none⟩ := by
    intro hb hll h1
    have c1 : ¬ (b ≠ [] ∧ k ≠ 4 ∧ k ≠ 5) := fun h => hb.elim h.1 fun h2 => h2.elim h.2.1 h.2.2
    have c2 : ¬ (l ≠ [] ∧ k ≠ 4) := fun h => hll.elim h.1 h.2
    have J : ref04_stmt.J1_1_1_0_1_0_0 (vs.map Vr.v) mark (kindsP k) (ps.map Prc.v) (B q.name) (q.params.map Par.v) q.type (q.body.map Stm.v) k (B n) (B p) m (e.map Ex.v) (b.map Stm.v) (l.map Stm.v) = some ⟨.ret (.int .i64 32), [], none⟩ := ref04_stmt.J1_1_1_0_1_0_0_eq ..
    have kb := kind_bad vs mark ps q k n p m e b l c1 c2
    rw [ref04_stmt.J1_1_1_0_0_eq, List.length_map]
    by_cases hk : kindsP k = -2
    · rw [kb (.inl hk), ← J]; simp [hk]
    · by_cases h7 : k = 7 ∧ 1 < e.length
      · have k7 : kindsP 7 = -1 := rfl
        rw [kb (.inr (.inr h7)), ← J, h7.1, k7]
        simp [h7.2, show (1 : Int) < (e.length : Int) by omega]
      · by_cases hn : 0 ≤ kindsP k
        · by_cases hlen : (e.length : Int) = kindsP k
          · have sw := sw hb hll hk (fun _ => hlen) (fun h => by omega) h1
            by_cases hk7 : k = 7
            · subst hk7; exact absurd hn (by decide)
            · simp [hk, hn, hlen, hk7, sw]
          · rw [kb (.inr (.inl ⟨hn, hlen⟩)), ← J]
            simp [hk, hn, hlen]
        · have sw := sw hb hll hk (fun h => absurd h hn) (fun h => by omega) h1
          by_cases hk7 : k = 7
          · have h1e : ¬ 1 < e.length := fun h => h7 ⟨hk7, h⟩
            subst hk7
            have k7 : kindsP 7 = -1 := rfl
            rw [k7] at sw ⊢
            simp [h1e, show ¬ (1 : Int) < (e.length : Int) by omega]
            exact sw
          · simp [hk, hn, hk7, sw]
  have J0 : ref04_stmt.J1_1_0_1_0_0 (vs.map Vr.v) mark (kindsP k) (ps.map Prc.v) (B q.name) (q.params.map Par.v) q.type (q.body.map Stm.v) k (B n) (B p) m (e.map Ex.v) (b.map Stm.v) (l.map Stm.v) = some ⟨.ret (.int .i64 32), [], none⟩ := ref04_stmt.J1_1_0_1_0_0_eq ..
  by_cases g1 : b ≠ [] ∧ k ≠ 4 ∧ k ≠ 5
  · have e32 : stmtE vs mark ps q (.mk k n p m e b l) = 32 := by rw [stmtE_mk]; unfold stmtK; rw [if_pos g1]
    rw [e32, ← J0]
    simp [List.length_pos_iff, g1.1, g1.2.1, g1.2.2]
  by_cases g2 : l ≠ [] ∧ k ≠ 4
  · have e32 : stmtE vs mark ps q (.mk k n p m e b l) = 32 := by rw [stmtE_mk]; unfold stmtK; rw [if_neg g1, if_pos g2]
    rw [e32, ← J0]
    by_cases hb : b = []
    · simp [List.length_pos_iff, hb, g2.1, g2.2]
    · by_cases k5 : k = 5
      · simp [List.length_pos_iff, hb, g2.1, k5]
      · exact absurd ⟨hb, g2.2, k5⟩ g1
  have hb : b = [] ∨ k = 4 ∨ k = 5 := by
    by_cases hb : b = []
    · exact .inl hb
    · by_cases k4 : k = 4
      · exact .inr (.inl k4)
      · by_cases k5 : k = 5
        · exact .inr (.inr k5)
        · exact absurd ⟨hb, k4, k5⟩ g1
  have hll : l = [] ∨ k = 4 := by
    by_cases hl' : l = []
    · exact .inl hl'
    · by_cases k4 : k = 4
      · exact .inr k4
      · exact absurd ⟨hl', k4⟩ g2
  by_cases g3 : k = 1 ∧ m < -1
  · have e32 : stmtE vs mark ps q (.mk k n p m e b l) = 32 := by
      rw [stmtE_mk]; unfold stmtK; rw [if_neg g1, if_neg g2, if_pos g3.1]
      split
      · rfl
      · rw [if_pos g3.2]
    obtain ⟨rfl, hm⟩ := g3
    have hb0 : b = [] := by rcases hb with h | h | h <;> first | exact h | omega
    have hl0 : l = [] := by rcases hll with h | h <;> first | exact h | omega
    rw [e32, ← J0]
    simp [hb0, hl0, hm]
  · have h1 : k = 1 → -1 ≤ m := fun h => by
      have : ¬ m < -1 := fun h2 => g3 ⟨h, h2⟩
      omega
    have s2 := second hb hll h1
    by_cases k4 : k = 4
    · subst k4
      by_cases hb' : b = [] <;> by_cases hl' : l = [] <;> simp [List.length_pos_iff, hb', hl'] at s2 ⊢ <;> exact s2
    · have hl0 : l = [] := by rcases hll with h | h <;> first | exact h | exact absurd h k4
      subst hl0
      by_cases k5 : k = 5
      · subst k5
        by_cases hb' : b = [] <;> simp [List.length_pos_iff, hb'] at s2 ⊢ <;> exact s2
      · have hb0 : b = [] := by rcases hb with h | h | h <;> first | exact h | exact absurd h k4 | exact absurd h k5
        subst hb0
        by_cases k1 : k = 1
        · have := h1 k1
          simp [k1, show ¬ m < -1 by omega] at s2 ⊢
          exact s2
        · simp [k1] at s2 ⊢
          exact s2
end
end Go.Proofs.Ytipjanijidbelaa
