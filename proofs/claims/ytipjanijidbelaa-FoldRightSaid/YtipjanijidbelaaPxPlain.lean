/- Checking, plainly: types, scopes, statements, procedures, programs. Own work. -/
import Derived.Test.YtipjanijidbelaaPxFlat
namespace Go.Proofs.Ytipjanijidbelaa
open Go Go.Proofs.Ab Go.Proofs.Px
set_option linter.unusedVariables false
set_option linter.unusedSimpArgs false
set_option maxRecDepth 100000


/-- Is a variable one of a name that is in scope at a mark? -/
def scopeP (name : List UInt8) (mark : Int) (v : Vr) : Bool := decide (v.name = name) && decide (v.frm ≤ mark) && decide (mark ≤ v.to)
def findI (name : List UInt8) (mark : Int) : List Vr → Int → Int
  | [], _ => -1
  | v :: l, i => if scopeP name mark v then i else findI name mark l (i + 1)
def findV (name : List UInt8) (mark : Int) : List Vr → Option Vr
  | [] => none
  | v :: l => if scopeP name mark v then some v else findV name mark l
theorem find_cases (name : List UInt8) (mark : Int) : ∀ (l : List Vr) (i : Int), (findV name mark l = none ∧ findI name mark l i = -1) ∨ ∃ (j : Nat) (h : j < l.length), findV name mark l = some l[j] ∧ findI name mark l i = i + (j : Int)
  | [], i => .inl ⟨rfl, rfl⟩
  | v :: l, i => by
    unfold findV findI
    by_cases h : scopeP name mark v = true
    · right; exact ⟨0, by simp, by simp [h], by simp [h]⟩
    · rw [if_neg h, if_neg h]
      rcases find_cases name mark l (i + 1) with h1 | ⟨j, hj, h1, h2⟩
      · exact .inl h1
      · right; exact ⟨j + 1, by simpa using hj, by simpa using h1, by rw [h2]; omega⟩
def arityP (k : Int) : Int := if k = 1 ∨ k = 2 ∨ k = 3 then 0 else if k = 4 ∨ k = 5 then 1 else if k = 6 then 2 else -1
/-- The type of two with a sign between: an error, or the type. -/
def twoT (s : List UInt8) (a b : Int) : Int × Int :=
  if s = [43] ∨ s = [45] ∨ s = [42] ∨ s = [47] ∨ s = [37] then (if a = 1 ∧ b = 1 then (0, 1) else (41, 0))
  else if s = [60] ∨ s = [60, 61] then (if a = 1 ∧ b = 1 then (0, 2) else (41, 0))
  else if s = [38, 38] ∨ s = [124, 124] then (if a = 2 ∧ b = 2 then (0, 2) else (41, 0))
  else if s = [61, 61] ∨ s = [33, 61] then (if a = b then (0, 2) else (41, 0))
  else (32, 0)
/-- An expression's type: an error, or the type. -/
def tyK (vs : List Vr) (mark : Int) (k : Int) (s : List UInt8) (m : Int) (n : Nat) (rs : List (Int × Int)) : Int × Int :=
  if arityP k ≠ (n : Int) then (32, 0)
  else if k = 1 then (if 0 ≤ m then (0, 1) else (32, 0))
  else if k = 2 then (if m = 0 ∨ m = 1 then (0, 2) else (32, 0))
  else if k = 3 then (match findV s mark vs with | none => (40, 0) | some v => if v.size = 0 then (0, v.type) else (41, 0))
  else match rs with
    | [a] => if k = 4 then (match findV s mark vs with | none => (40, 0) | some v => if 0 < v.size then (if a.1 ≠ 0 then (a.1, 0) else if a.2 = 1 then (0, 1) else (41, 0)) else (41, 0))
      else if a.1 ≠ 0 then (a.1, 0) else if s = [45] then (if a.2 = 1 then (0, a.2) else (41, 0)) else if s = [33] then (if a.2 = 2 then (0, a.2) else (41, 0)) else (32, 0)
    | [a, b] => if a.1 ≠ 0 then (a.1, 0) else if b.1 ≠ 0 then (b.1, 0) else twoT s a.2 b.2
    | _ => (32, 0)
mutual
def tyP (vs : List Vr) (mark : Int) : Ex → Int × Int
  | .mk k s m l => tyK vs mark k s m l.length (tyPs vs mark l)
def tyPs (vs : List Vr) (mark : Int) : List Ex → List (Int × Int)
  | [] => []
  | x :: l => tyP vs mark x :: tyPs vs mark l
end
theorem arity_forms {k : Int} {n : Nat} (h : arityP k = (n : Int)) : (k = 1 ∧ n = 0) ∨ (k = 2 ∧ n = 0) ∨ (k = 3 ∧ n = 0) ∨ (k = 4 ∧ n = 1) ∨ (k = 5 ∧ n = 1) ∨ (k = 6 ∧ n = 2) := by
  unfold arityP at h
  split at h
  · omega
  · split at h
    · omega
    · split at h <;> omega
def typedE (vs : List Vr) (mark : Int) (x : Ex) (t : Int) : Int := if (tyP vs mark x).1 ≠ 0 then (tyP vs mark x).1 else if (tyP vs mark x).2 = t then 0 else 41
def calledP (name : List UInt8) : List Prc → Option Prc
  | [] => none
  | p :: l => if p.name = name then some p else calledP name l
def argsE (vs : List Vr) (mark : Int) : List Ex → List Par → Int
  | [], _ => 0
  | x :: l, [] => 0
  | x :: l, p :: ps => if typedE vs mark x p.type ≠ 0 then typedE vs mark x p.type else argsE vs mark l ps
/-- The error of what takes an answer. -/
def takesE (vs : List Vr) (mark : Int) (name : List UInt8) (t : Int) : Int :=
  if name = [] then 0 else match findV name mark vs with | none => 40 | some v => if v.size = 0 ∧ t ≠ 0 ∧ v.type = t then 0 else 41
def callE (vs : List Vr) (mark : Int) (ps : List Prc) (s : Stm) : Int := match calledP s.proc ps with
  | none => 40
  | some p => if s.e.length ≠ p.params.length then 41 else if argsE vs mark s.e p.params ≠ 0 then argsE vs mark s.e p.params else takesE vs mark s.name p.type
def returnsE (vs : List Vr) (mark : Int) (q : Prc) (l : List Ex) : Int := match l with
  | [] => if q.type = 0 then 0 else 41
  | [x] => if q.type = 0 then 41 else typedE vs mark x q.type
  | _ => 32

/-- What is asked of the one expression. -/
def oneE (f : Ex → Int) : List Ex → Int
  | [x] => f x
  | _ => 32
/-- The error of a statement that has a variable: a plain one of a type (0: any), or an array. -/
def stmtE (vs : List Vr) (mark : Int) (ps : List Prc) (q : Prc) (s : Stm) : Int :=
  if s.body ≠ [] ∧ s.kind ≠ 4 ∧ s.kind ≠ 5 then 32
  else if s.els ≠ [] ∧ s.kind ≠ 4 then 32
  else if s.kind = 1 then (if s.e.length ≠ 0 then 32 else if s.num < -1 then 32 else if 64 < s.num then 2 else 0)
  else if s.kind = 2 then (match s.e with
    | [x] => (match findV s.name mark vs with | none => 40 | some v => if v.size = 0 then typedE vs mark x v.type else 41)
    | _ => 32)
  else if s.kind = 3 then (match s.e with
    | [x, y] => (match findV s.name mark vs with | none => 40 | some v => if 0 < v.size then (if typedE vs mark x 1 ≠ 0 then typedE vs mark x 1 else typedE vs mark y 1) else 41)
    | _ => 32)
  else if s.kind = 4 ∨ s.kind = 5 ∨ s.kind = 10 then oneE (fun x => typedE vs mark x 2) s.e
  else if s.kind = 8 then oneE (fun x => (tyP vs mark x).1) s.e
  else if s.kind = 9 then (match s.e with
    | [] => (match findV s.name mark vs with | none => 40 | some v => if v.size = 0 ∧ v.type = 1 then 0 else 41)
    | _ => 32)
  else if s.kind = 6 then callE vs mark ps s
  else if s.kind = 7 then returnsE vs mark q s.e
  else 32
/-- The same of its parts. -/
def stmtK (vs : List Vr) (mark : Int) (ps : List Prc) (q : Prc) (k : Int) (n p : List UInt8) (m : Int) (e : List Ex) (b l : List Stm) : Int :=
  if b ≠ [] ∧ k ≠ 4 ∧ k ≠ 5 then 32
  else if l ≠ [] ∧ k ≠ 4 then 32
  else if k = 1 then (if e.length ≠ 0 then 32 else if m < -1 then 32 else if 64 < m then 2 else 0)
  else if k = 2 then (match e with
    | [x] => (match findV n mark vs with | none => 40 | some v => if v.size = 0 then typedE vs mark x v.type else 41)
    | _ => 32)
  else if k = 3 then (match e with
    | [x, y] => (match findV n mark vs with | none => 40 | some v => if 0 < v.size then (if typedE vs mark x 1 ≠ 0 then typedE vs mark x 1 else typedE vs mark y 1) else 41)
    | _ => 32)
  else if k = 4 ∨ k = 5 ∨ k = 10 then oneE (fun x => typedE vs mark x 2) e
  else if k = 8 then oneE (fun x => (tyP vs mark x).1) e
  else if k = 9 then (match e with
    | [] => (match findV n mark vs with | none => 40 | some v => if v.size = 0 ∧ v.type = 1 then 0 else 41)
    | _ => 32)
  else if k = 6 then callE vs mark ps (.mk k n p m e b l)
  else if k = 7 then returnsE vs mark q e
  else 32
theorem stmtE_mk (vs : List Vr) (mark : Int) (ps : List Prc) (q : Prc) (k : Int) (n p : List UInt8) (m : Int) (e : List Ex) (b l : List Stm) : stmtE vs mark ps q (.mk k n p m e b l) = stmtK vs mark ps q k n p m e b l := rfl

/-- Statements one after the other: the last mark that was looked at, and the error. -/
def runE (f : Int → Stm → Int) : Int → List Stm → Int × Int
  | m, [] => (m, 0)
  | m, s :: l => if f (m + 1) s ≠ 0 then (m + 1, f (m + 1) s) else runE f (m + 1) l
theorem runE_app (f : Int → Stm → Int) : ∀ (a : List Stm) (m : Int) (b : List Stm), runE f m (a ++ b) = if (runE f m a).2 ≠ 0 then runE f m a else runE f (runE f m a).1 b
  | [], m, b => by simp [runE]
  | s :: a, m, b => by
    simp only [List.cons_append, runE]
    by_cases h : f (m + 1) s = 0
    · simp only [h]; simpa using runE_app f a (m + 1) b
    · simp [h]
theorem runE_mark (f : Int → Stm → Int) : ∀ (a : List Stm) (m : Int), m ≤ (runE f m a).1 ∧ (runE f m a).1 ≤ m + (a.length : Int) ∧ ((runE f m a).2 = 0 → (runE f m a).1 = m + (a.length : Int))
  | [], m => by simp [runE]
  | s :: a, m => by
    have h := runE_mark f a (m + 1)
    unfold runE
    by_cases c : f (m + 1) s = 0
    · simp only [c, ne_eq, not_true_eq_false, if_false, List.length_cons]
      refine ⟨by omega, by omega, fun h2 => ?_⟩
      have := h.2.2 h2; omega
    · rw [if_pos c]
      refine ⟨by simp only; omega, by simp only [List.length_cons]; omega, fun h2 => absurd h2 c⟩
/-- A variable that a statement declares. -/
def varOf (s : Stm) (m last : Int) : Vr := ⟨s.name, if s.num = -1 then 2 else 1, if s.num = -1 then 0 else if 65 < s.num then 65 else s.num, m + 1, last⟩
/-- The variables of a row of statements, the first one's mark being given. -/
def varsOf : List (Stm × Int) → Int → List Vr
  | [], _ => []
  | (s, last) :: l, m => if s.kind = 1 then varOf s m last :: varsOf l (m + 1) else varsOf l (m + 1)
theorem varsOf_app : ∀ (a b : List (Stm × Int)) (m : Int), varsOf (a ++ b) m = varsOf a m ++ varsOf b (m + (a.length : Int))
  | [], b, m => by simp [varsOf]
  | (s, last) :: a, b, m => by
    have h := varsOf_app a b (m + 1)
    have e : m + 1 + (a.length : Int) = m + ((a.length : Int) + 1) := by omega
    rw [e] at h
    simp only [List.cons_append, varsOf, List.length_cons, Int.natCast_add, Int.natCast_one]
    by_cases c : s.kind = 1 <;> simp [c, h]
theorem varsOf_len : ∀ (a : List (Stm × Int)) (m : Int), (varsOf a m).length ≤ a.length
  | [], m => by simp [varsOf]
  | (s, last) :: a, m => by
    have h := varsOf_len a (m + 1)
    unfold varsOf
    split <;> simp <;> omega
def declP (l : List Stm) (m : Int) : List Vr := varsOf (Stm.items l m (m + (Stm.counts l : Int) - 1)) m

/-- Names that were met, as a map. -/
def seenM (l : List (List UInt8)) : List (V × V) := l.map fun n => (.str (B n), .bool true)
theorem seen_get (s : List UInt8) : ∀ l : List (List UInt8), mpGet (.str (B s)) (.bool false) (seenM l) = .bool (decide (s ∈ l))
  | [] => by simp [seenM, mpGet]
  | a :: l => by
    have h := seen_get s l
    simp only [seenM, List.map_cons, mpGet, V.same] at h ⊢
    by_cases c : s = a
    · simp [c]
    · have c' : ¬ a = s := fun h => c h.symm
      simp [c, h]
theorem seen_set (s : List UInt8) : ∀ l : List (List UInt8), s ∉ l → mpSet (.str (B s)) (.bool true) (seenM l) = seenM (l ++ [s])
  | [], _ => by simp [seenM, mpSet]
  | a :: l, hn => by
    have hc : ¬ s = a := fun h => hn (h ▸ List.mem_cons_self ..)
    have h := seen_set s l fun h => hn (List.mem_cons_of_mem _ h)
    simp only [seenM, List.map_cons, mpSet, V.same, List.cons_append] at h ⊢
    simp [hc, h]
/-- Is a name met twice? -/
def dupP : List (List UInt8) → List (List UInt8) → Bool
  | [], _ => false
  | n :: l, seen => decide (n ∈ seen) || dupP l (seen ++ [n])
theorem dup_iff : ∀ (l seen : List (List UInt8)), dupP l seen = false ↔ l.Nodup ∧ ∀ n ∈ l, n ∉ seen
  | [], seen => by simp [dupP]
  | a :: l, seen => by
    have h := dup_iff l (seen ++ [a])
    simp only [dupP, Bool.or_eq_false_iff, decide_eq_false_iff_not, h, List.nodup_cons, List.mem_append, List.mem_singleton, not_or, List.forall_mem_cons]
    constructor
    · rintro ⟨h1, h2, h3⟩
      exact ⟨⟨fun h4 => (h3 a h4).2 rfl, h2⟩, h1, fun n hn => (h3 n hn).1⟩
    · rintro ⟨⟨h1, h2⟩, h3, h4⟩
      exact ⟨h3, h2, fun n hn => ⟨h4 n hn, fun h5 => h1 (h5 ▸ hn)⟩⟩
/-- A procedure's parameters as variables. -/
def parVars (c : Int) : List Par → List Vr
  | [] => []
  | x :: l => ⟨x.name, x.type, 0, 0, c⟩ :: parVars c l
theorem parVars_len (c : Int) : ∀ l : List Par, (parVars c l).length = l.length
  | [] => rfl
  | x :: l => by rw [parVars, List.length_cons, List.length_cons, parVars_len c l]
def varsP (q : Prc) : List Vr := parVars ((Stm.counts q.body : Int) + 1) q.params ++ declP q.body 1
theorem declP_len (l : List Stm) (m : Int) : (declP l m).length ≤ Stm.counts l := by
  have := varsOf_len (Stm.items l m (m + (Stm.counts l : Int) - 1)) m
  rw [Stm.items_len] at this
  exact this
mutual
/-- Does each way return? -/
def Stm.ends : Stm → Bool
  | .mk k _ _ _ _ b l => decide (k = 7) || (decide (k = 4) && Stm.endss b && Stm.endss l)
def Stm.endss : List Stm → Bool
  | [] => false
  | x :: l => Stm.ends x || Stm.endss l
end
theorem Stm.ends_is (x : Stm) : x.ends = (decide (x.kind = 7) || (decide (x.kind = 4) && Stm.endss x.body && Stm.endss x.els)) := by cases x; rw [Stm.ends]; rfl
def mainP (p : Prc) : Bool := decide (p.name = [109, 97, 105, 110]) && decide (p.params.length = 0) && decide (p.type = 0)
def wholeE (ps : List Prc) : Int := if 40 < ps.length then 2 else if dupP (ps.map (·.name)) [] then 40 else if ps.any mainP then 0 else 42
/-- A procedure's first error: its mark, and it. -/
def procE (ps : List Prc) (q : Prc) : Int × Int :=
  if 8 < q.params.length ∨ 60 < (varsP q).length then (0, 2)
  else if dupP ((varsP q).map (·.name)) [] then (0, 40)
  else if (runE (fun m s => stmtE (varsP q) m ps q s) 0 (Stm.flats q.body)).2 ≠ 0 then runE (fun m s => stmtE (varsP q) m ps q s) 0 (Stm.flats q.body)
  else if q.type = 0 ∨ Stm.endss q.body = true then (0, 0) else ((runE (fun m s => stmtE (varsP q) m ps q s) 0 (Stm.flats q.body)).1 + 1, 43)

/-- The first error of some procedures: which, where, what. -/
def procsE (all : List Prc) : List Prc → Int → Option (Int × Int × Int)
  | [], _ => none
  | q :: l, i => if (procE all q).2 ≠ 0 then some (i, procE all q) else procsE all l (i + 1)
/-- Rows of variables, as cells. -/
def vrows (l : List (List Vr)) : List (List V) := l.map fun r => [.sl .no T_api_Var (r.map Vr.v)]
@[simp] theorem vrows_len (l : List (List Vr)) : (vrows l).length = l.length := by simp [vrows]
def infoV (vs : List (List Vr)) (ms : List Int) : V := .agg [.sl .no T_L_api_Var (vrows vs), .sl .no T_int (iv ms)]
/-- What checking answers: an error and its place, or what is known. -/
def checkP (ps : List Prc) : Int × Int × Int := if wholeE ps ≠ 0 then (0, 0, wholeE ps) else (procsE ps ps 0).getD (0, 0, 0)
def checkR (ps : List Prc) : Option Res := some ⟨.ret (.tup [if (checkP ps).2.2 = 0 then infoV (ps.map varsP) (ps.map fun q => (Stm.counts q.body : Int)) else infoV [] [], .agg [.int .i64 (checkP ps).1, .int .i64 (checkP ps).2.1], .int .i64 (checkP ps).2.2]), [], none⟩
theorem procsE_ne {all : List Prc} : ∀ {l : List Prc} {i : Int} {r : Int × Int × Int}, procsE all l i = some r → r.2.2 ≠ 0
  | q :: l, i, r, h => by
    unfold procsE at h
    split at h
    · rename_i c; cases h; exact c
    · exact procsE_ne h

theorem vrows_at (l : List (List Vr)) (i : Nat) (h : i < l.length) : List.getD (List.getD (vrows l) i []) 0 V.undef = .sl .no T_api_Var (l[i].map Vr.v) := by
  unfold vrows
  rw [map_at _ _ _ h]; rfl

theorem procsE_none {all : List Prc} : ∀ {l : List Prc} {i : Int}, procsE all l i = none → ∀ q ∈ l, (procE all q).2 = 0
  | [], _, _, q, h => by cases h
  | a :: l, i, h, q, hq => by
    unfold procsE at h
    split at h
    · cases h
    · rename_i c
      rcases List.mem_cons.1 hq with rfl | hq
      · simpa using c
      · exact procsE_none h q hq
/-- What a right program is. -/
theorem checkP_ok {ps : List Prc} (h : (checkP ps).2.2 = 0) : wholeE ps = 0 ∧ procsE ps ps 0 = none ∧ checkP ps = (0, 0, 0) := by
  unfold checkP at *
  by_cases hw : wholeE ps = 0
  · rw [if_neg (fun c => c hw)] at h ⊢
    cases hp : procsE ps ps 0 with
    | none => exact ⟨hw, rfl, rfl⟩
    | some r => rw [hp] at h; exact absurd h (procsE_ne hp)
  · rw [if_pos hw] at h
    exact absurd h hw
theorem procE_ok {all : List Prc} {q : Prc} (h : (procE all q).2 = 0) : q.params.length ≤ 8 ∧ (varsP q).length ≤ 60 ∧ dupP ((varsP q).map (·.name)) [] = false ∧ (runE (fun m s => stmtE (varsP q) m all q s) 0 (Stm.flats q.body)).2 = 0 ∧ (q.type = 0 ∨ Stm.endss q.body = true) := by
  unfold procE at h
  split at h
  · simp at h
  · rename_i c1
    split at h
    · simp at h
    · rename_i c2
      split at h
      · rename_i c3; exact absurd h c3
      · rename_i c3
        split at h
        · rename_i c4
          refine ⟨by omega, by omega, by simpa using c2, by simpa using c3, c4⟩
        · simp at h
/-- Of unlike names each is found. -/
theorem find_unlike (mark : Int) : ∀ (l : List Vr) (i : Int) (j : Nat) (h : j < l.length), (l.map (·.name)).Nodup → scopeP l[j].name mark l[j] = true → findI l[j].name mark l i = i + (j : Int)
  | v :: l, i, 0, h, hn, hs => by
    simp only [List.getElem_cons_zero] at hs ⊢
    rw [findI, if_pos hs]; simp
  | v :: l, i, j + 1, h, hn, hs => by
    simp only [List.getElem_cons_succ] at hs ⊢
    have hj : j < l.length := by simpa using h
    rw [List.map_cons, List.nodup_cons] at hn
    have hne : ¬ v.name = l[j].name := fun e => hn.1 (e ▸ List.mem_map.2 ⟨l[j], List.getElem_mem hj, rfl⟩)
    rw [findI, if_neg (by simp [scopeP, hne]), find_unlike mark l (i + 1) j hj hn.2 hs]
    omega
theorem parVars_at (c : Int) : ∀ (l : List Par) (j : Nat) (h : j < l.length), (parVars c l)[j]'(by rw [parVars_len]; exact h) = ⟨l[j].name, l[j].type, 0, 0, c⟩
  | x :: l, 0, h => rfl
  | x :: l, j + 1, h => by
    simp only [parVars, List.getElem_cons_succ]
    exact parVars_at c l j (by simpa using h)
theorem varsP_par (q : Prc) (j : Nat) (h : j < q.params.length) (h' : j < (varsP q).length) : (varsP q)[j] = ⟨q.params[j].name, q.params[j].type, 0, 0, (Stm.counts q.body : Int) + 1⟩ := by
  have h1 : (varsP q)[j]? = some ⟨q.params[j].name, q.params[j].type, 0, 0, (Stm.counts q.body : Int) + 1⟩ := by
    unfold varsP
    rw [List.getElem?_append_left (by rw [parVars_len]; exact h), List.getElem?_eq_getElem (by rw [parVars_len]; exact h), parVars_at _ _ j h]
  rw [List.getElem?_eq_getElem h'] at h1
  exact Option.some.inj h1

theorem called_more {name : List UInt8} {p : Prc} : ∀ {ps : List Prc} {qs : List Prc}, calledP name ps = some p → calledP name (ps ++ qs) = some p
  | [], qs, h => by cases h
  | a :: l, qs, h => by
    unfold calledP at h
    rw [List.cons_append, calledP]
    split at h
    · rename_i c; rw [if_pos c]; exact h
    · rename_i c; rw [if_neg c]; exact called_more h
theorem callE_more {vs : List Vr} {m : Int} {ps qs : List Prc} {s : Stm} (h : callE vs m ps s = 0) : callE vs m (ps ++ qs) s = 0 := by
  unfold callE at h ⊢
  cases hc : calledP s.proc ps with
  | none => rw [hc] at h; simp at h
  | some p => rw [called_more hc]; rw [hc] at h; exact h
theorem stmtE_more {vs : List Vr} {m : Int} {ps qs : List Prc} {q : Prc} {s : Stm} (h : stmtE vs m ps q s = 0) : stmtE vs m (ps ++ qs) q s = 0 := by
  unfold stmtE at h ⊢
  by_cases c1 : s.body ≠ [] ∧ s.kind ≠ 4 ∧ s.kind ≠ 5
  · rw [if_pos c1] at h ⊢; exact h
  rw [if_neg c1] at h ⊢
  by_cases c2 : s.els ≠ [] ∧ s.kind ≠ 4
  · rw [if_pos c2] at h ⊢; exact h
  rw [if_neg c2] at h ⊢
  by_cases c3 : s.kind = 1
  · rw [if_pos c3] at h ⊢; exact h
  rw [if_neg c3] at h ⊢
  by_cases c4 : s.kind = 2
  · rw [if_pos c4] at h ⊢; exact h
  rw [if_neg c4] at h ⊢
  by_cases c5 : s.kind = 3
  · rw [if_pos c5] at h ⊢; exact h
  rw [if_neg c5] at h ⊢
  by_cases c6 : s.kind = 4 ∨ s.kind = 5 ∨ s.kind = 10
  · rw [if_pos c6] at h ⊢; exact h
  rw [if_neg c6] at h ⊢
  by_cases c7 : s.kind = 8
  · rw [if_pos c7] at h ⊢; exact h
  rw [if_neg c7] at h ⊢
  by_cases c8 : s.kind = 9
  · rw [if_pos c8] at h ⊢; exact h
  rw [if_neg c8] at h ⊢
  by_cases c9 : s.kind = 6
  · rw [if_pos c9] at h ⊢; exact callE_more h
  rw [if_neg c9] at h ⊢
  exact h
theorem runE_congr {f g : Int → Stm → Int} (h : ∀ m s, f m s = 0 → g m s = 0) : ∀ (l : List Stm) (m : Int), (runE f m l).2 = 0 → runE g m l = runE f m l
  | [], m, _ => rfl
  | s :: l, m, h0 => by
    unfold runE at h0 ⊢
    by_cases c : f (m + 1) s = 0
    · simp only [c, h _ _ c, ne_eq, not_true_eq_false, if_false] at h0 ⊢
      exact runE_congr h l (m + 1) h0
    · rw [if_pos c] at h0; exact absurd h0 c
theorem procE_more {ps qs : List Prc} {q : Prc} (h : (procE ps q).2 = 0) : (procE (ps ++ qs) q).2 = 0 := by
  obtain ⟨h1, h2, h3, h4, h5⟩ := procE_ok h
  have hr := runE_congr (f := fun m s => stmtE (varsP q) m ps q s) (g := fun m s => stmtE (varsP q) m (ps ++ qs) q s) (fun m s => stmtE_more) _ _ h4
  unfold procE
  rw [if_neg (by omega), if_neg (by simp [h3]), hr, if_neg (by simpa using h4), if_pos h5]
theorem procsE_app (all : List Prc) : ∀ (a b : List Prc) (i : Int), (∀ q ∈ a, (procE all q).2 = 0) → procsE all (a ++ b) i = procsE all b (i + (a.length : Int))
  | [], b, i, _ => by simp
  | q :: a, b, i, h => by
    rw [List.cons_append, procsE, if_neg (by simpa using h q (List.mem_cons_self ..)), procsE_app all a b (i + 1) fun r hr => h r (List.mem_cons_of_mem _ hr), List.length_cons]
    congr 1; omega
theorem whole_ok {ps : List Prc} (h : wholeE ps = 0) : ps.length ≤ 40 ∧ dupP (ps.map (·.name)) [] = false ∧ ps.any mainP = true := by
  unfold wholeE at h
  split at h
  · simp at h
  · rename_i c1
    split at h
    · simp at h
    · rename_i c2
      split at h
      · rename_i c3; exact ⟨by omega, by simpa using c2, c3⟩
      · simp at h
/-- **One procedure more.** -/
theorem check_more {ps : List Prc} {q : Prc} (h : (checkP ps).2.2 = 0) (hl : ps.length < 40) (hn : ∀ p ∈ ps, p.name ≠ q.name) : checkP (ps ++ [q]) = (if (procE (ps ++ [q]) q).2 = 0 then (0, 0, 0) else ((ps.length : Int), procE (ps ++ [q]) q)) := by
  obtain ⟨g1, g2, g3⟩ := checkP_ok h
  obtain ⟨w1, w2, w3⟩ := whole_ok g1
  have hw : wholeE (ps ++ [q]) = 0 := by
    unfold wholeE
    have hd : dupP ((ps ++ [q]).map (·.name)) [] = false := by
      rw [dup_iff] at w2 ⊢
      refine ⟨?_, fun n _ h => by cases h⟩
      rw [List.map_append, List.nodup_append]
      refine ⟨w2.1, by simp, fun a ha b hb => ?_⟩
      obtain ⟨p, hp, rfl⟩ := List.mem_map.1 ha
      simp only [List.map_cons, List.map_nil, List.mem_singleton] at hb
      subst hb
      exact hn p hp
    rw [if_neg (by simp; omega), if_neg (by rw [hd]; simp), if_pos (by rw [List.any_append, w3]; rfl)]
  unfold checkP
  rw [if_neg (fun c => c hw), procsE_app _ _ _ _ fun r hr => procE_more (procsE_none g2 r hr), procsE]
  by_cases c : (procE (ps ++ [q]) q).2 = 0
  · rw [if_neg (fun d => d c), if_pos c]; rfl
  · rw [if_pos c, if_neg c]; simp
end Go.Proofs.Ytipjanijidbelaa
