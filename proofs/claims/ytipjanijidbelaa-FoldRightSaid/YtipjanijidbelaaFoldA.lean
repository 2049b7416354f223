/- What expressions are worth: the program's words and the reference's. Own work. -/
import Derived.Test.YtipjanijidbelaaNumA
import Derived.Test.YtipjanijidbelaaPxS
import Derived.Test.YtipjanijidbelaaPxExpr
import Derived.Test.YtipjanijidbelaaRFold
import Derived.Test.YtipjanijidbelaaREval
namespace Go.Proofs.Ytipjanijidbelaa
open Go Go.Proofs.Ab Go.Proofs.Px
set_option linter.unusedVariables false
set_option linter.unusedSimpArgs false
set_option maxRecDepth 100000

def partsK (k : Int) : Int := if k = 1 ∨ k = 2 ∨ k = 3 then 0 else if k = 4 ∨ k = 5 then 1 else if k = 6 then 2 else -1
theorem fold_parts_is (k : Int) : den Sp fold_parts.id [.int .i64 k] [] none = some ⟨.ret (.int .i64 (partsK k)), [], none⟩ := by
  rw [fold_parts.eq]
  by_cases h1 : k = 1
  · subst h1; rfl
  by_cases h2 : k = 2
  · subst h2; rfl
  by_cases h3 : k = 3
  · subst h3; rfl
  by_cases h4 : k = 4
  · subst h4; rfl
  by_cases h5 : k = 5
  · subst h5; rfl
  by_cases h6 : k = 6
  · subst h6; rfl
  have e : ∀ j : Int, k ≠ j → (k == j) = false := fun j h => by simp [h]
  simp [e, h1, h2, h3, h4, h5, h6, partsK]
/-- The signs between two. -/
def binSigns : List (List UInt8) := [[43], [45], [42], [47], [37], [60], [60, 61], [61, 61], [33, 61], [38, 38], [124, 124]]
def signOk (k : Int) (s : List UInt8) : Bool := if k = 5 then decide (s = [45]) || decide (s = [33]) else if k = 6 then decide (s ∈ binSigns) else true
theorem fold_sign_is (k : Int) (s : List UInt8) (m : Int) (l : List (List V)) : den Sp fold_sign.id [.agg [.int .i64 k, .str (B s), .int .i64 m, .sl .no T_api_Expr l]] [] none = some ⟨.ret (.bool (signOk k s)), [], none⟩ := by
  rw [fold_sign.eq]
  unfold signOk
  by_cases h5 : k = 5
  · subst h5
    by_cases h : s = [45] <;> simp [h]
  by_cases h6 : k = 6
  · subst h6
    by_cases h : s ∈ binSigns
    · unfold binSigns at h
      simp only [List.mem_cons, List.not_mem_nil, or_false] at h
      rcases h with rfl | rfl | rfl | rfl | rfl | rfl | rfl | rfl | rfl | rfl | rfl <;> rfl
    · have h' := h
      unfold binSigns at h'
      simp only [List.mem_cons, List.not_mem_nil, or_false, not_or] at h'
      obtain ⟨g1, g2, g3, g4, g5, g6, g7, g8, g9, g10, g11⟩ := h'
      simp [g1, g2, g3, g4, g5, g6, g7, g8, g9, g10, g11, h]
  have e : ∀ j : Int, k ≠ j → (k == j) = false := fun j h => by simp [h]
  simp [e, h5, h6]
/-- Is an expression built as it must be, its parts aside? -/
def builtP (k : Int) (s : List UInt8) (m : Int) (n : Nat) : Bool := decide (partsK k = (n : Int)) && signOk k s && (decide (k ≠ 2) || decide (m = 0) || decide (m = 1))
def Ex.built (x : Ex) : Bool := builtP x.kind x.name x.num x.l.length
theorem fold_built_is (k : Int) (s : List UInt8) (m : Int) (l : List (List V)) : den Sp fold_built.id [.agg [.int .i64 k, .str (B s), .int .i64 m, .sl .no T_api_Expr l]] [] none = some ⟨.ret (.bool (builtP k s m l.length)), [], none⟩ := by
  rw [fold_built.eq, fold_parts_is, fold_sign_is]
  unfold builtP
  simp only [Option.bind_some, onRet_ret, asInt_int, asBool_bool]
  by_cases h1 : partsK k = (l.length : Int)
  · have h1' : (partsK k == (l.length : Int)) = true := by simp [h1]
    rw [h1', cond_true, decide_eq_true h1]
    cases signOk k s with
    | false => rfl
    | true =>
      by_cases h2 : k = 2
      · subst h2
        by_cases h3 : m = 0
        · subst h3; rfl
        · by_cases h4 : m = 1
          · subst h4; rfl
          · simp [h3, h4]
      · simp [h2]
  · have h1' : (partsK k == (l.length : Int)) = false := by simp [h1]
    rw [h1', decide_eq_false h1]; rfl
def tightN (s : List UInt8) : Int := if s = [124, 124] then 1 else if s = [38, 38] then 2 else if s = [61, 61] ∨ s = [33, 61] ∨ s = [60] ∨ s = [60, 61] then 3 else if s = [43] ∨ s = [45] then 4 else if s = [42] ∨ s = [47] ∨ s = [37] then 5 else 0
def levels : List (List (List UInt8)) := [[[124, 124]], [[38, 38]], [[61, 61], [33, 61], [60], [60, 61]], [[43], [45]], [[42], [47], [37]]]
def tightFrom (s : List UInt8) : List (List (List UInt8)) → Nat → Int
  | [], _ => 0
  | r :: l, i => if s ∈ r then (i : Int) + 1 else tightFrom s l (i + 1)
theorem tightFrom_is (s : List UInt8) : tightFrom s levels 0 = tightN s := by
  unfold tightN levels
  simp only [tightFrom, List.mem_cons, List.not_mem_nil, or_false]
  rfl
theorem ref03_Tight_is (s : List UInt8) : den Sp ref03_Tight.id [.str (B s)] [] none = some ⟨.ret (.int .i64 (tightN s)), [], none⟩ := by
  rw [ref03_Tight.eq, ref03_Tight.L1_1_0_1_0_eq, ← tightFrom_is]
  have hlv : levels.length = 5 := rfl
  have row : ∀ (i : Nat) (hi : i < levels.length) (j : Nat), j ≤ levels[i].length → ref03_Tight.L1_1_0_1_0_0_1_0_0_1_0 (B s) (i : Int) (j : Int) = if s ∈ levels[i].drop j then some ⟨.ret (.int .i64 ((i : Int) + 1)), [], none⟩ else ref03_Tight.L1_1_0_1_0v1 (B s) ((i + 1 : Nat) : Int) (levels[i].length : Int) := by
    intro i hi
    have hlen : levels[i].length < 10 := (by decide : ∀ r ∈ levels, r.length < 10) _ (List.getElem_mem hi)
    have tb : ∀ k : List (List V) → Option Res, V.asSl (List.getD (List.getD (levels.map fun r => [V.sl Tok.no T_string (sv r)]) i []) 0 V.undef) T_string k = k (sv levels[i]) := fun k => by
      rw [map_at _ _ _ hi]
      exact asSl_sl ..
    refine down ?_ fun j hj ih => ?_
    · rw [ref03_Tight.L1_1_0_1_0_0_1_0_0_1_0_eq, if_pos (in_row (show i < 5 from hi)), Int.toNat_natCast]
      refine (tb _).trans ?_
      rw [sv_len, decide_eq_false (Int.lt_irrefl _), cond_false, List.drop_length, if_neg List.not_mem_nil, wrap_nat (by omega)]
    · rw [ref03_Tight.L1_1_0_1_0_0_1_0_0_1_0_eq, if_pos (in_row (show i < 5 from hi)), Int.toNat_natCast]
      refine (tb _).trans ?_
      rw [sv_len, decide_eq_true (show (j : Int) < (levels[i].length : Int) by omega), cond_true, if_pos (in_row (show i < 5 from hi))]
      refine (tb _).trans ?_
      have hm : (s ∈ levels[i].drop j) = (s = levels[i][j] ∨ s ∈ levels[i].drop (j + 1)) := by rw [List.drop_eq_getElem_cons hj, List.mem_cons]
      rw [sv_len, if_pos (in_row hj), Int.toNat_natCast, sv_at _ _ hj, asStr_str, wrap_nat (i := i) (by omega), wrap_nat (i := j) (by omega), ih, B_dec]
      by_cases h : s = levels[i][j]
      · rw [if_pos (show s ∈ levels[i].drop j by rw [hm]; exact .inl h), decide_eq_true (show levels[i][j] = s from h.symm)]; rfl
      · rw [decide_eq_false (fun h2 => h h2.symm), cond_false]
        by_cases h3 : s ∈ levels[i].drop (j + 1)
        · rw [if_pos h3, if_pos (show s ∈ levels[i].drop j by rw [hm]; exact .inr h3)]
        · rw [if_neg h3, if_neg (show ¬ s ∈ levels[i].drop j by rw [hm]; exact fun h4 => h4.elim h h3)]
  have key : ∀ i : Nat, i ≤ 5 → ∀ j : Int, ref03_Tight.L1_1_0_1_0v1 (B s) (i : Int) j = some ⟨.ret (.int .i64 (tightFrom s (levels.drop i) i)), [], none⟩ := by
    refine down (fun j => ?_) fun i hi ih j => ?_
    · rw [ref03_Tight.L1_1_0_1_0v1_eq]; rfl
    · have h0 := row i hi 0 (Nat.zero_le _)
      rw [ref03_Tight.L1_1_0_1_0v1_eq, decide_eq_true (show (i : Int) < ((5 : Nat) : Int) by omega), cond_true]
      refine h0.trans ?_
      rw [ih, List.drop_zero, List.drop_eq_getElem_cons (show i < levels.length from hi), tightFrom]
      have e : levels[i]'hi = levels[i]'(show i < levels.length from hi) := rfl
      by_cases h : s ∈ levels[i]'hi
      · rw [if_pos h]; exact (congrArg (fun x => some (Res.mk (.ret (.int .i64 x)) [] none)) (if_pos h)).symm
      · rw [if_neg h]; exact (congrArg (fun x => some (Res.mk (.ret (.int .i64 x)) [] none)) (if_neg h)).symm
  have h0 := row 0 (by decide) 0 (Nat.zero_le _)
  refine h0.trans ?_
  rw [key 1 (by omega)]
  show (_ : Option Res) = some ⟨.ret (.int .i64 (tightFrom s ([[124, 124]] :: levels.drop 1) 0)), [], none⟩
  rw [tightFrom]
  by_cases h : s ∈ [([124, 124] : List UInt8)]
  · exact (if_pos h).trans (congrArg (fun x => some (Res.mk (.ret (.int .i64 x)) [] none)) (if_pos h)).symm
  · exact (if_neg h).trans (congrArg (fun x => some (Res.mk (.ret (.int .i64 x)) [] none)) (if_neg h)).symm
theorem tight_pos (s : List UInt8) : decide (tightN s > 0) = decide (s ∈ binSigns) := by
  unfold tightN binSigns
  simp only [List.mem_cons, List.not_mem_nil, or_false]
  by_cases a1 : s = [124, 124]
  · simp [a1]
  by_cases a2 : s = [38, 38]
  · simp [a2]
  by_cases a3 : s = [61, 61] ∨ s = [33, 61] ∨ s = [60] ∨ s = [60, 61]
  · rcases a3 with rfl | rfl | rfl | rfl <;> simp
  by_cases a4 : s = [43] ∨ s = [45]
  · rcases a4 with rfl | rfl <;> simp
  by_cases a5 : s = [42] ∨ s = [47] ∨ s = [37]
  · rcases a5 with rfl | rfl | rfl <;> simp
  simp only [not_or] at a3 a4 a5
  obtain ⟨b1, b2, b3, b4⟩ := a3
  obtain ⟨c1, c2⟩ := a4
  obtain ⟨d1, d2, d3⟩ := a5
  simp [a1, a2, b1, b2, b3, b4, c1, c2, d1, d2, d3]
theorem ref05_Built_is (k : Int) (s : List UInt8) (m : Int) (l : List (List V)) : den Sp ref05_Built.id [.agg [.int .i64 k, .str (B s), .int .i64 m, .sl .no T_api_Expr l]] [] none = some ⟨.ret (.bool (builtP k s m l.length)), [], none⟩ := by
  rw [ref05_Built.eq, ref03_Tight_is]
  unfold builtP partsK signOk
  simp only [Option.bind_some, onRet_ret, asInt_int, tight_pos, int_beq]
  generalize l.length = n
  have c0 : decide ((0 : Int) = (n : Int)) = decide (n = 0) := by rw [Bool.eq_iff_iff]; simp; omega
  have c0' : decide ((n : Int) = 0) = decide (n = 0) := by rw [Bool.eq_iff_iff]; simp
  have c1 : decide ((1 : Int) = (n : Int)) = decide (n = 1) := by rw [Bool.eq_iff_iff]; simp; omega
  have c1' : decide ((n : Int) = 1) = decide (n = 1) := by rw [Bool.eq_iff_iff]; simp; omega
  have c2 : decide ((2 : Int) = (n : Int)) = decide (n = 2) := by rw [Bool.eq_iff_iff]; simp; omega
  have c2' : decide ((n : Int) = 2) = decide (n = 2) := by rw [Bool.eq_iff_iff]; simp; omega
  have c3 : decide ((-1 : Int) = (n : Int)) = false := by rw [decide_eq_false]; omega
  by_cases h1 : k = 1
  · subst h1; simp [c0, c0']
  by_cases h3 : k = 3
  · subst h3; simp [c0, c0']
  by_cases h2 : k = 2
  · subst h2
    by_cases h : n = 0
    · subst h
      by_cases h4 : 0 ≤ m
      · have : decide (m ≤ 1) = (decide (m = 0) || decide (m = 1)) := by
          rw [Bool.eq_iff_iff]; simp; omega
        simp [h4, this]
      · have : ¬ m = 0 := by omega
        have : ¬ m = 1 := by omega
        simp [*]
    · simp [h, c0, c0']
  by_cases h4 : k = 4
  · subst h4; simp [c1, c1']
  by_cases h5 : k = 5
  · subst h5
    by_cases h : n = 1
    · subst h
      by_cases h7 : s = [45] <;> simp [h7]
    · simp [h, c1, c1']
  by_cases h6 : k = 6
  · subst h6
    by_cases h : n = 2
    · subst h; simp
    · simp [h, c2, c2']
  simp [h1, h2, h3, h4, h5, h6, c3]
def truthI (b : Bool) : Int := if b then 1 else 0
theorem fold_truth_is (b : Bool) : den Sp fold_truth.id [.bool b] [] none = some ⟨.ret (.int .i64 (truthI b)), [], none⟩ := by rw [fold_truth.eq]; cases b <;> rfl
theorem ref05_truth_is (b : Bool) : den Sp ref05_truth.id [.bool b] [] none = some ⟨.ret (.int .i64 (truthI b)), [], none⟩ := by rw [ref05_truth.eq]; cases b <;> rfl
/-- What two numbers with a sign between are worth. -/
def twoP (s : List UInt8) (a b : Int) : Int × Int :=
  if s = [43] then (IntKind.i64.wrap (a + b), 0) else if s = [45] then (IntKind.i64.wrap (a - b), 0) else if s = [42] then (IntKind.i64.wrap (a * b), 0)
  else if s = [47] then (if b = 0 then (0, 1) else (IntKind.i64.wrap (a.tdiv b), 0)) else if s = [37] then (if b = 0 then (0, 1) else (a.tmod b, 0))
  else if s = [60] then (truthI (decide (a < b)), 0) else if s = [60, 61] then (truthI (decide (a ≤ b)), 0) else if s = [61, 61] then (truthI (decide (a = b)), 0) else (truthI (!decide (a = b)), 0)
theorem fold_two_is (s : List UInt8) (a b : Int) : den Sp fold_two.id [.str (B s), .int .i64 a, .int .i64 b] [] none = some ⟨.ret (.tup [.int .i64 (twoP s a b).1, .int .i64 (twoP s a b).2]), [], none⟩ := by
  rw [fold_two.eq]
  unfold twoP
  simp only [num_Add_is, num_Sub_is, num_Mul_is, num_Div_is, num_Mod_is, fold_truth_is, Option.bind_some, onRet_ret, asInt_int]
  by_cases h1 : s = [43]
  · subst h1; simp
  by_cases h2 : s = [45]
  · subst h2; simp
  by_cases h3 : s = [42]
  · subst h3; simp
  by_cases h4 : s = [47]
  · subst h4
    by_cases hb : b = 0 <;> simp [hb]
  by_cases h5 : s = [37]
  · subst h5
    by_cases hb : b = 0 <;> simp [hb]
  by_cases h6 : s = [60]
  · subst h6; simp
  by_cases h7 : s = [60, 61]
  · subst h7; simp
  by_cases h8 : s = [61, 61]
  · subst h8; simp
  simp [h1, h2, h3, h4, h5, h6, h7, h8]
/-- The same with the signs that look at the second one alone. -/
def twoR (s : List UInt8) (a b : Int) : Int × Int := if s = [38, 38] ∨ s = [124, 124] then (truthI (!decide (b = 0)), 0) else twoP s a b
theorem ref05_Two_is (s : List UInt8) (a b : Int) (ha : i64 a) (hb : i64 b) (hs : s ∈ binSigns) : den Sp ref05_Two.id [.str (B s), .int .i64 a, .int .i64 b] [] none = some ⟨.ret (.tup [.int .i64 (twoR s a b).1, .int .i64 (twoR s a b).2]), [], none⟩ := by
  rw [ref05_Two.eq]
  unfold twoR twoP
  simp only [ref01_Add_is, ref01_Sub_is, ref01_Mul_is, ref01_Div_is a b ha hb, ref01_Mod_is a b ha hb, ref05_truth_is, Option.bind_some, onRet_ret, asInt_int]
  unfold binSigns at hs
  simp only [List.mem_cons, List.not_mem_nil, or_false] at hs
  have e : (decide (a < b) || decide (a = b)) = decide (a ≤ b) := by rw [Bool.eq_iff_iff]; simp; omega
  rcases hs with rfl | rfl | rfl | rfl | rfl | rfl | rfl | rfl | rfl | rfl | rfl
  · simp
  · simp
  · simp
  · by_cases hb : b = 0 <;> simp [hb]
  · by_cases hb : b = 0 <;> simp [hb]
  · simp
  · by_cases h : a < b
    · have : a ≤ b := by omega
      simp [h, this]
    · have : (decide (a = b)) = decide (a ≤ b) := by rw [Bool.eq_iff_iff]; simp; omega
      simp [h, this]
  · simp
  · simp
  · simp
  · simp
end Go.Proofs.Ytipjanijidbelaa
