/- Own texts under the law SynBrackets, merged, without what it does not lean on: part 1 of 6 (the abstract machine and its proof; residual forms; contracts; the plain law). -/
import Derived.Laws.AppendOwn
import Derived.Deep.Draws
import Derived.Orders
import Derived.Below
import Derived.Laws.StructEq
import Derived.WalkKit
import Derived.Laws.BytesArg
import Derived.Laws.Slices
import Derived.Laws.Tables
set_option linter.unusedVariables false
set_option linter.unusedSimpArgs false
set_option linter.unusedSectionVars false
set_option maxRecDepth 100000
namespace Go.Proofs.Ab
open Go
inductive Tok where
 | no | nil | nn | row (n : Nat)
inductive V where
 | int (k : IntKind) (n : Int)
 | bool (b : Bool)
 | str (s : ByteArray)
 | nilp | nili | nilf | nils
 | iface (t : TypeId) (v : V)
 | fn (f : FuncId) (cap : List V)
 | agg (cs : List V)
 | tup (vs : List V)
 | sl (tok : Tok) (e : TypeId) (es : List (List V))
 | ptr (cs : List V) (off : Nat)
 | ref (id off : Nat)
 | el (id : Nat) (e : TypeId) (i j : Nat)
 | arr (id : Nat) (e : TypeId)
 | sub (id : Nat) (e : TypeId) (off len : Nat)
 | mp (id : Nat)
 | fr (t : Nat) (ps : List (List Int))
 | undef
 | hole
instance : Inhabited V := ⟨.undef⟩
inductive Blk where
 | cells (e : TypeId) (cs : List V) (fz : Bool)
 | vec (e : TypeId) (es : List (List V)) (fz : Bool)
 | mp (kt et : TypeId) (es : List (V × V)) (fz : Bool)
inductive Out where
 | ret (v : V)
 | pan (v : V)
structure St where
 bl : List (Nat × Blk)
 used : List Nat
 dead : List Nat
 df : List (FuncId × List V)
 pn : Option (Option V)
structure Res where
 out : Out
 bl : List Blk
 pn : Option (Option V)
inductive Ex where
 | normal | exit (id : Nat) | ret | pan (v : V)
abbrev Env := List (Nat × V)
def Env.get : Env -> Nat -> V
 | [], _ => .undef
 | (k, v) :: r, t => bif Nat.beq k t then v else Env.get r t
def getB : List (Nat × Blk) -> Nat -> Option Blk
 | [], _ => none
 | (k, b) :: r, t => bif Nat.beq k t then some b else getB r t
def setB : List (Nat × Blk) -> Nat -> Blk -> List (Nat × Blk)
 | [], t, b' => [(t, b')]
 | (k, b) :: r, t, b' => bif Nat.beq k t then (k, b') :: r else (k, b) :: setB r t b'
def aid (t : Tmp) : Nat := 1000 + t
def rid (t : Tmp) (p : Nat) : Nat := 2000 + 16 * t + p
abbrev K := Ex -> Env -> St -> Option Res
abbrev DSem := FuncId -> List V -> List Blk -> Option (Option V) -> Option Res
structure Pg where
 P : Program
 gl : Nat -> Option (List V)
 pz : TypeId -> Bool
 keep : FuncId -> List (Nat × Bool)
 own : TypeId -> List Nat
 joins : FuncId -> List Nat
 nat : FuncId -> Option (List V -> List Blk -> Option Res)
 pan : FuncId -> Option TypeId
 mutl : FuncId -> List Tmp
 dfs : Bool
 unr : FuncId -> Nat -> Nat := fun _ _ => 0
 pre : FuncId -> TypeId -> Option Nat := fun _ _ => none
 nbx : FuncId -> List Tmp := fun _ => []
 inl : FuncId -> Bool := fun _ => false
 /-- per parameter: which slice cells go over with their spare places -/
 oa : FuncId -> List (Option (List Nat)) := fun _ => []
 /-- which slice cells of the answer come back so -/
 oo : FuncId -> Option (List Nat) := fun _ => none
 /-- element types (slices of numbers) whose slices own their elements' rows: the numbers' type -/
 dpe : TypeId -> Option TypeId := fun _ => none
def most : Nat := 1099511627776
section
variable {R : Type}
def V.asInt (v : V) (kd : IntKind) (k : Int -> Option R) : Option R :=
 match v with | .int kd' n => (if kd' = kd then k n else none) | _ => none
def V.asBool (v : V) (k : Bool -> Option R) : Option R :=
 match v with | .bool b => k b | _ => none
def V.asStr (v : V) (k : ByteArray -> Option R) : Option R :=
 match v with | .str s => k s | _ => none
def V.asSl (v : V) (e : TypeId) (k : List (List V) -> Option R) : Option R :=
 match v with | .sl _ e' es => (if e' = e then k es else none) | _ => none
def V.asSlN (v : V) (e : TypeId) (k : Bool -> List (List V) -> Option R) : Option R :=
 match v with
 | .sl .nil e' es => (if e' = e then k true es else none)
 | .sl .nn e' es => (if e' = e then k false es else none)
 | _ => none
def V.asSlR (v : V) (p : Nat) (e : TypeId) (k : List (List V) -> Option R) : Option R :=
 match v with | .sl (.row q) e' es => (if q = p ∧ e' = e then k es else none) | _ => none
def V.asPtr (v : V) (kn : Option R) (kp : List V -> Nat -> Option R) : Option R :=
 match v with | .nilp => kn | .ptr cs off => kp cs off | _ => none
def V.asIface (v : V) (t : TypeId) (k : V -> Option R) : Option R :=
 match v with | .iface t' w => (if t' = t then k w else none) | _ => none
def V.asFr (v : V) (p : Nat) (k : List (List Int) -> Option R) : Option R :=
 match v with | .fr q ps => (if q = p then k ps else none) | _ => none
def V.asArr (v : V) (i : Nat) (e : TypeId) (k : Option R) : Option R :=
 match v with | .arr i' e' => (if i' = i ∧ e' = e then k else none) | _ => none
def V.asAgg (v : V) (n : Nat) (k : (Nat -> V) -> Option R) : Option R :=
 match v with | .agg cs => (if cs.length = n then k (fun j => cs.getD j .undef) else none) | _ => none
def V.asTup (v : V) (n : Nat) (k : (Nat -> V) -> Option R) : Option R :=
 match v with | .tup cs => (if cs.length = n then k (fun j => cs.getD j .undef) else none) | _ => none
def Blk.asCells (b : Blk) (t : TypeId) (n : Nat) (k : (Nat -> V) -> Option R) : Option R :=
 match b with | .cells t' cs false => (if t' = t ∧ cs.length = n then k (fun j => cs.getD j .undef) else none) | _ => none
def Blk.asVec (b : Blk) (e : TypeId) (n : Nat) (k : List (List V) -> Option R) : Option R :=
 match b with | .vec e' es false => (if e' = e ∧ es.length = n then k es else none) | _ => none
def Blk.asMp (b : Blk) (kt et : TypeId) (k : List (V × V) -> Option R) : Option R :=
 match b with | .mp kt' et' es false => (if kt' = kt ∧ et' = et then k es else none) | _ => none
def Res.onOut (r : Res) (kr kp : V -> Option R) : Option R :=
 match r.out with | .ret v => kr v | .pan v => kp v
def Res.onRet (r : Res) (kr : V -> Option R) : Option R :=
 match r.out with | .ret v => kr v | .pan _ => none
def Res.onPn (r : Res) (k0 : Option R) (k1 : V -> Option R) : Option R :=
 match r.pn with | some none => k0 | some (some v) => k1 v | none => none
end
def sz (P : Program) (t : TypeId) : Nat := ((P.info? t).map (·.size)).getD 0
def byt (P : Program) (t : TypeId) : Nat := ((P.info? t).map (·.bytes)).getD 0
def isAg (P : Program) (t : TypeId) : Bool :=
 match P.underlying t with | some (.struct _) => true | some (.array _ _) => true | _ => false
def flat (P : Program) : Nat -> TypeId -> List TypeId
 | 0, _ => []
 | n + 1, t => match P.underlying t with
  | some (.struct fs) => (fs.toList.map fun f => flat P n f.type).flatten
  | some (.array k e) => (List.replicate k (flat P n e)).flatten
  | _ => [t]
def deep : Nat := 12
def tokOf (pz : Bool) (tok : Tok) (es : List (List V)) : Tok :=
 bif pz then (match tok with | .nil => .nil | .nn => .nn | .row _ => (match es with | [] => .nil | _ :: _ => .nn) | .no => .no) else .no
section
variable {R : Type} (pg : Pg)
def dec1 (t : TypeId) (v : V) (k : V -> Option R) : Option R :=
 match pg.P.underlying t with
 | some (.int kd) => v.asInt kd fun n => k (.int kd n)
 | some .bool => v.asBool fun b => k (.bool b)
 | some .string => v.asStr fun s => k (.str s)
 | some (.slice e) => bif pg.pz e then v.asSlN e fun b es => bif b then k (.sl .nil e es) else k (.sl .nn e es) else v.asSl e fun es => k (.sl .no e es)
 | some (.pointer _) => v.asPtr (k .nilp) fun cs off => k (.ptr cs off)
 | some _ => (match v with | .undef => none | .arr _ _ => none | .sl _ _ _ => none | .mp _ => none | .fr _ _ => none | v => k v)
 | none => none
def decL : List TypeId -> (Nat -> V) -> Nat -> (List V -> Option R) -> Option R
 | [], _, _, k => k []
 | t :: ts, rd, off, k => dec1 pg t (rd off) fun v => decL ts rd (off + 1) fun vs => k (v :: vs)
def decT (t : TypeId) (rd : Nat -> V) (off : Nat) (k : V -> Option R) : Option R :=
 bif isAg pg.P t then (bif Nat.beq (flat pg.P deep t).length (sz pg.P t) then decL pg (flat pg.P deep t) rd off fun vs => k (.agg vs) else none) else dec1 pg t (rd off) k
def decR (t : TypeId) (v : V) (k : V -> Option R) : Option R :=
 bif isAg pg.P t then v.asAgg (flat pg.P deep t).length fun rd => decL pg (flat pg.P deep t) rd 0 fun vs => k (.agg vs) else dec1 pg t v k
def decTup : List TypeId -> (Nat -> V) -> Nat -> (List V -> Option R) -> Option R
 | [], _, _, k => k []
 | t :: ts, rd, i, k => decR pg t (rd i) fun v' => decTup ts rd (i + 1) fun vs' => k (v' :: vs')
def decRes (ts : List TypeId) (v : V) (k : V -> Option R) : Option R :=
 match ts with
 | [t] => decR pg t v k
 | ts => v.asTup ts.length fun rd => decTup pg ts rd 0 fun vs' => k (.tup vs')
end
def V.val : V -> Value
 | .int k n => .int k n | .bool b => .bool b | .str s => .string s | _ => Go.undef
def V.prim : V -> Bool
 | .int _ _ => true | .bool _ => true | .str _ => true | _ => false
def keyOk (P : Program) (kt : TypeId) (v : V) : Bool :=
 match P.underlying kt, v with
 | some (.int k), .int k' _ => decide (k' = k)
 | some .bool, .bool _ => true
 | some .string, .str _ => true
 | _, _ => false
def V.same : V -> V -> Bool
 | .int _ a, .int _ b => a == b
 | .bool a, .bool b => a == b
 | .str a, .str b => decide (a = b)
 | _, _ => false
def mpHas (k : V) : List (V × V) -> Bool
 | [] => false
 | p :: l => k.same p.1 || mpHas k l
def mpGet (k z : V) : List (V × V) -> V
 | [] => z
 | p :: l => bif k.same p.1 then p.2 else mpGet k z l
def mpSet (k v : V) : List (V × V) -> List (V × V)
 | [] => [(k, v)]
 | p :: l => bif k.same p.1 then (k, v) :: l else p :: mpSet k v l
def cvC (P : Program) (t : TypeId) : Value -> V
 | .int k n => .int k n
 | .bool b => .bool b
 | .string s => .str s
 | .pointer none => .nilp
 | .nilIface => .nili
 | .nilFunc => .nilf
 | .slice none 0 0 => (match P.underlying t with | some (.slice e) => .sl .nil e [] | _ => .nils)
 | _ => .undef
def cvL (P : Program) : List TypeId -> List Value -> List V
 | t :: ts, v :: vs => cvC P t v :: cvL P ts vs
 | _, _ => []
def zeroL (P : Program) (t : TypeId) : Option (List V) :=
 match P.info? t with
 | some i => (match i.zero with
  | some z => (let ts := flat P deep t; bif ts.length == z.cells.size then some (cvL P ts z.cells.toList) else none)
  | none => none)
 | none => none
def kn (P : Program) (t : TypeId) : Bool := (P.underlying t).isSome
def cvK (P : Program) (t : TypeId) (v : Value) : V :=
 match v with
 | .agg cs => bif Nat.beq (flat P deep t).length cs.size then .agg (cvL P (flat P deep t) cs.toList) else .undef
 | v => cvC P t v
def zeroV (P : Program) (t : TypeId) : Option V :=
 match P.info? t with
 | some i => (match i.zero with | some z => some (cvK P t z) | none => none)
 | none => none
def beqTok : Tok -> Tok -> Bool
 | .no, .no => true | .nil, .nil => true | .nn, .nn => true | .row a, .row b => Nat.beq a b | _, _ => false
theorem beqTok_eq {a b : Tok} (h : beqTok a b = true) : a = b := by
 cases a <;> cases b <;> first | rfl | cases h | skip
 exact congrArg _ (Nat.eq_of_beq_eq_true h)
theorem beqTok_self (a : Tok) : beqTok a a = true := by cases a <;> simp [beqTok]
mutual
def beqV : V -> V -> Bool
 | .int k n, b => (match b with | .int k' n' => decide (k = k') && decide (n = n') | _ => false)
 | .bool x, b => (match b with | .bool y => x == y | _ => false)
 | .str s, b => (match b with | .str t => decide (s = t) | _ => false)
 | .nilp, b => (match b with | .nilp => true | _ => false)
 | .nili, b => (match b with | .nili => true | _ => false)
 | .nilf, b => (match b with | .nilf => true | _ => false)
 | .nils, b => (match b with | .nils => true | _ => false)
 | .sl tok e es, b => (match b with | .sl tok' e' es' => beqTok tok tok' && Nat.beq e e' && beqLL es es' | _ => false)
 | .agg cs, b => (match b with | .agg ds => beqL cs ds | _ => false)
 | .ptr cs o, b => (match b with | .ptr ds o' => beqL cs ds && Nat.beq o o' | _ => false)
 | .ref i o, b => (match b with | .ref i' o' => Nat.beq i i' && Nat.beq o o' | _ => false)
 | .arr i e, b => (match b with | .arr i' e' => Nat.beq i i' && Nat.beq e e' | _ => false)
 | .iface t v, b => (match b with | .iface t' v' => Nat.beq t t' && beqV v v' | _ => false)
 | .fn f cs, b => (match b with | .fn g ds => Nat.beq f g && beqL cs ds | _ => false)
 | .tup cs, b => (match b with | .tup ds => beqL cs ds | _ => false)
 | .el i e j k, b => (match b with | .el i' e' j' k' => Nat.beq i i' && Nat.beq e e' && Nat.beq j j' && Nat.beq k k' | _ => false)
 | .sub i e j k, b => (match b with | .sub i' e' j' k' => Nat.beq i i' && Nat.beq e e' && Nat.beq j j' && Nat.beq k k' | _ => false)
 | .mp i, b => (match b with | .mp j => Nat.beq i j | _ => false)
 | .fr i ps, b => (match b with | .fr j qs => Nat.beq i j && decide (ps = qs) | _ => false)
 | .undef, b => (match b with | .undef => true | _ => false)
 | .hole, b => (match b with | .hole => true | _ => false)
def beqL : List V -> List V -> Bool
 | [], b => (match b with | [] => true | _ => false)
 | v :: l, b => (match b with | w :: m => beqV v w && beqL l m | _ => false)
def beqLL : List (List V) -> List (List V) -> Bool
 | [], b => (match b with | [] => true | _ => false)
 | v :: l, b => (match b with | w :: m => beqL v w && beqLL l m | _ => false)
end
mutual
theorem beqV_eq : ∀ {a b : V}, beqV a b = true -> a = b
 | .int k n, b, h => by cases b <;> simp [beqV] at h; obtain ⟨rfl, rfl⟩ := h; rfl
 | .bool x, b, h => by cases b <;> simp [beqV] at h; subst h; rfl
 | .str s, b, h => by cases b <;> simp [beqV] at h; subst h; rfl
 | .nilp, b, h => by cases b <;> simp [beqV] at h; rfl
 | .nili, b, h => by cases b <;> simp [beqV] at h; rfl
 | .nilf, b, h => by cases b <;> simp [beqV] at h; rfl
 | .nils, b, h => by cases b <;> simp [beqV] at h; rfl
 | .sl tok e es, b, h => by
  cases b <;> simp [beqV] at h
  obtain ⟨⟨h1, rfl⟩, h2⟩ := h
  rw [beqTok_eq h1, beqLL_eq h2]
 | .agg cs, b, h => by cases b <;> simp [beqV] at h; rw [beqL_eq h]
 | .ptr cs o, b, h => by
  cases b <;> simp [beqV] at h
  obtain ⟨h1, rfl⟩ := h
  rw [beqL_eq h1]
 | .ref i o, b, h => by cases b <;> simp [beqV] at h; obtain ⟨rfl, rfl⟩ := h; rfl
 | .arr i o, b, h => by cases b <;> simp [beqV] at h; obtain ⟨rfl, rfl⟩ := h; rfl
 | .iface t v, b, h => by
  cases b <;> simp [beqV] at h
  obtain ⟨rfl, h2⟩ := h
  rw [beqV_eq h2]
 | .fn f cs, b, h => by
  cases b <;> simp [beqV] at h
  obtain ⟨rfl, h2⟩ := h
  rw [beqL_eq h2]
 | .tup cs, b, h => by cases b <;> simp [beqV] at h; rw [beqL_eq h]
 | .el _ _ _ _, b, h => by cases b <;> simp [beqV] at h; obtain ⟨⟨⟨rfl, rfl⟩, rfl⟩, rfl⟩ := h; rfl
 | .sub _ _ _ _, b, h => by cases b <;> simp [beqV] at h; obtain ⟨⟨⟨rfl, rfl⟩, rfl⟩, rfl⟩ := h; rfl
 | .mp _, b, h => by cases b <;> simp [beqV] at h; subst h; rfl
 | .fr _ _, b, h => by cases b <;> simp [beqV] at h; obtain ⟨rfl, rfl⟩ := h; rfl
 | .undef, b, h => by cases b <;> simp [beqV] at h; rfl
 | .hole, b, h => by cases b <;> simp [beqV] at h; rfl
theorem beqL_eq : ∀ {a b : List V}, beqL a b = true -> a = b
 | [], b, h => by cases b <;> simp [beqL] at h; rfl
 | v :: l, b, h => by
  cases b <;> simp [beqL] at h
  rw [beqV_eq h.1, beqL_eq h.2]
theorem beqLL_eq : ∀ {a b : List (List V)}, beqLL a b = true -> a = b
 | [], b, h => by cases b <;> simp [beqLL] at h; rfl
 | v :: l, b, h => by
  cases b <;> simp [beqLL] at h
  rw [beqL_eq h.1, beqLL_eq h.2]
end
mutual
theorem beqV_self : ∀ (a : V), beqV a a = true
 | .int k n => by simp [beqV]
 | .bool x => by simp [beqV]
 | .str s => by simp [beqV]
 | .nilp => rfl
 | .nili => rfl
 | .nilf => rfl
 | .nils => rfl
 | .sl tok e es => by simp [beqV, beqTok_self, beqLL_self es]
 | .agg cs => by simp [beqV, beqL_self cs]
 | .ptr cs o => by simp [beqV, beqL_self cs]
 | .ref i o => by simp [beqV]
 | .arr i e => by simp [beqV]
 | .iface t v => by simp [beqV, beqV_self v]
 | .fn f cs => by simp [beqV, beqL_self cs]
 | .tup cs => by simp [beqV, beqL_self cs]
 | .el _ _ _ _ => by simp [beqV]
 | .sub _ _ _ _ => by simp [beqV]
 | .mp _ => by simp [beqV]
 | .fr _ _ => by simp [beqV]
 | .undef => rfl
 | .hole => rfl
theorem beqL_self : ∀ (a : List V), beqL a a = true
 | [] => rfl
 | v :: l => by simp [beqL, beqV_self v, beqL_self l]
theorem beqLL_self : ∀ (a : List (List V)), beqLL a a = true
 | [] => rfl
 | v :: l => by simp [beqLL, beqL_self v, beqLL_self l]
end
end Go.Proofs.Ab
namespace Go.Proofs.Ab
open Go
section
variable (pg : Pg)
def evO (env : Env) (t : TypeId) : Operand -> V
 | .tmp s => env.get s
 | .const v => cvK pg.P t v
 | .global g => (match pg.gl g with | some cs => .ptr cs 0 | none => .undef)
 | .func f => .fn f []
def mapO {α β : Type} (f : α -> Option β) : List α -> Option (List β)
 | [] => some []
 | a :: l => match f a with | some b => (match mapO f l with | some bs => some (b :: bs) | none => none) | none => none
def pur (bl : List (Nat × Blk)) : Nat -> V -> Option V
 | 0, _ => none
 | n + 1, v => match v with
  | .sl tok e es => some (.sl (tokOf (pg.pz e) tok es) e es)
  | .arr id e => (match getB bl id with | some (.vec e' es _) => bif Nat.beq e e' then some (.sl (bif pg.pz e then .nn else .no) e es) else none | _ => none)
  | .ref id off => (match getB bl id with | some (.cells _ cs _) => (mapO (pur bl n) cs).map fun cs' => .ptr cs' off | _ => none)
  | .agg cs => (mapO (pur bl n) cs).map .agg
  | .tup vs => (mapO (pur bl n) vs).map .tup
  | .iface t v => (pur bl n v).map (.iface t)
  | .fn f cap => (match cap with | [] => some (.fn f []) | _ => none)
  | .el _ _ _ _ => none
  | .sub _ _ _ _ => none
  | .mp _ => none
  | .fr _ _ => none
  | .undef => none
  | .hole => none
  | .nils => none
  | v => some v
def idsOf (bl : List (Nat × Blk)) : Nat -> V -> List Nat
 | 0, _ => []
 | n + 1, v => match v with
  | .arr id _ => [id]
  | .ref id _ => (match getB bl id with | some (.cells _ cs _) => id :: (cs.map (idsOf bl n)).flatten | _ => [])
  | .agg cs => (cs.map (idsOf bl n)).flatten
  | .tup vs => (vs.map (idsOf bl n)).flatten
  | .iface _ v => idsOf bl n v
  | _ => []
def Blk.freeze : Blk -> Blk
 | .cells e cs _ => .cells e cs true
 | .vec e es _ => .vec e es true
 | .mp kt et es _ => .mp kt et es true
def freeze (bl : List (Nat × Blk)) : List Nat -> List (Nat × Blk)
 | [] => bl
 | id :: ids => freeze (match getB bl id with | some b => setB bl id b.freeze | none => bl) ids
def pdeep : Nat := 6
def purAll (bl : List (Nat × Blk)) (vs : List V) : Option (List V × List (Nat × Blk)) :=
 match mapO (pur pg bl pdeep) vs with
 | some vs' => some (vs', freeze bl ((vs.map (idsOf bl pdeep)).flatten))
 | none => none
def pur1 : V -> Bool
 | .int _ _ => true | .bool _ => true | .str _ => true | .nilp => true | .nili => true | .nilf => true | .ptr _ _ => true
 | .sl .no _ _ => true | .sl .nil _ _ => true | .sl .nn _ _ => true | .fn _ [] => true | _ => false
def one : V -> Bool
 | .agg _ => false | .tup _ => false | .undef => false | .hole => false | .nils => false | _ => true
def cellsOf : V -> List V
 | .agg cs => cs
 | v => [v]
def group (s n : Nat) (l : List V) : List (List V) := (List.range n).map fun i => (l.drop (i * s)).take s
def setAt (l : List V) (off : Nat) : List V -> List V
 | [] => l
 | v :: vs => setAt (l.set off v) (off + 1) vs
def isRef : V -> Bool
 | .ref _ _ => true | _ => false
def hasPtr (P : Program) (t : TypeId) : Bool := (flat P deep t).any fun u => match P.underlying u with | some (.pointer _) => true | _ => false
def newBlk (cl : Bool) (t : TypeId) (vs : List V) : Option Blk :=
 match pg.P.underlying t with
 | some (.array n e) => bif hasPtr pg.P e || cl then some (.cells t vs false) else bif vs.all pur1 && Nat.beq vs.length (n * sz pg.P e) then some (.vec e (group (sz pg.P e) n vs) false) else none
 | some _ => some (.cells t vs false)
 | none => none
section
variable {R : Type}
def arith (op : BinOp) (kd : IntKind) (a b : Int) (k : V -> Option R) : Option R :=
 match op with
 | .add => k (.int kd (kd.wrap (a + b)))
 | .sub => k (.int kd (kd.wrap (a - b)))
 | .mul => k (.int kd (kd.wrap (a * b)))
 | .quo => if b = 0 then none else k (.int kd (kd.wrap (a.tdiv b)))
 | .rem => if b = 0 then none else k (.int kd (a.tmod b))
 | .and => k (.int kd (kd.wrap ((BitVec.ofInt kd.bits a &&& BitVec.ofInt kd.bits b).toNat : Nat)))
 | .or => k (.int kd (kd.wrap ((BitVec.ofInt kd.bits a ||| BitVec.ofInt kd.bits b).toNat : Nat)))
 | .xor => k (.int kd (kd.wrap ((BitVec.ofInt kd.bits a ^^^ BitVec.ofInt kd.bits b).toNat : Nat)))
 | .andNot => k (.int kd (kd.wrap ((BitVec.ofInt kd.bits a &&& ~~~BitVec.ofInt kd.bits b).toNat : Nat)))
 | .eql => k (.bool (a == b))
 | .neq => k (.bool (a != b))
 | .lss => k (.bool (decide (a < b)))
 | .leq => k (.bool (decide (a <= b)))
 | .gtr => k (.bool (decide (a > b)))
 | .geq => k (.bool (decide (a >= b)))
 | _ => none
def strOp (op : BinOp) (a b : ByteArray) (k : V -> Option R) : Option R :=
 match op with
 | .add => if a.size + b.size <= most then k (.str (a ++ b)) else none
 | .eql => k (.bool (decide (a = b)))
 | .neq => k (.bool (!decide (a = b)))
 | _ => none
def eqC (P : Program) (t : TypeId) (a b : V) : Option Bool :=
 match P.underlying t, a, b with
 | some (.int _), .int k a, .int k' b => bif decide (k = k') then some (a == b) else none
 | some .bool, .bool a, .bool b => some (a == b)
 | some .string, .str a, .str b => some (decide (a = b))
 | _, _, _ => none
def eqF (P : Program) (cs ds : List V) : List Field -> Option Bool
 | [] => some true
 | f :: fs => bif f.name == "_" || isAg P f.type || !Nat.blt f.offset cs.length || !Nat.blt f.offset ds.length then none else
  (match eqC P f.type (cs.getD f.offset .undef) (ds.getD f.offset .undef) with
  | some x => (match eqF P cs ds fs with | some y => some (x && y) | none => none)
  | none => none)
def nilS : V -> Option Bool
 | .sl .nil _ _ => some true | .sl .nn _ _ => some false | .sl _ _ (_ :: _) => some false | .arr _ _ => some false | _ => none
def nilP : V -> Option Bool
 | .nilp => some true | .ref _ _ => some false | .ptr _ _ => some false | _ => none
def nilI : V -> Option Bool
 | .nili => some true | .iface _ _ => some false | _ => none
def nilF : V -> Option Bool
 | .nilf => some true | .fn _ _ => some false | _ => none
def eqV (P : Program) (t : TypeId) (cst : Bool) (a b : V) : Option Bool :=
 match P.underlying t, a, b with
 | some (.struct fs), .agg cs, .agg ds => bif P.stoodInHeld t || P.eqGuardType P.depth t then none else eqF P cs ds fs.toList
 | some .bool, .bool a, .bool b => some (a == b)
 | some (.slice _), a, .sl .nil _ _ => bif cst then nilS a else none
 | some (.pointer _), a, .nilp => bif cst then nilP a else none
 | some (.interface _), a, .nili => bif cst then nilI a else none
 | some (.func _ _ _), a, .nilf => bif cst then nilF a else none
 | _, _, _ => none
def binK (P : Program) (op : BinOp) (t : TypeId) (cst : Bool) (a b : V) (k : V -> Option R) : Option R :=
 match op, a, b with
 | .shl, .int kd a, .int _ b => if b < 0 then none else k (.int kd (kd.wrap (a * 2 ^ (min b.toNat kd.bits))))
 | .shr, .int kd a, .int _ b => if b < 0 then none else k (.int kd (a.fdiv (2 ^ (min b.toNat kd.bits))))
 | op, .int kd a, .int kd' b => if kd = kd' then arith op kd a b k else none
 | op, .str a, .str b => strOp op a b k
 | .eql, a, b => (match eqV P t cst a b with | some x => k (.bool x) | none => none)
 | .neq, a, b => (match eqV P t cst a b with | some x => k (.bool (!x)) | none => none)
 | _, _, _ => none
def isC : Operand -> Bool
 | .const _ => true | _ => false
def unK (op : UnOp) (a : V) (k : V -> Option R) : Option R :=
 match op, a with
 | .not, .bool b => k (.bool (!b))
 | .neg, .int kd n => k (.int kd (kd.wrap (0 - n)))
 | .xor, .int kd n => arith .xor kd (if kd.signed then -1 else kd.max) n k
 | _, _ => none
def bytesOk : List (List V) -> Bool
 | [] => true
 | [.int .u8 _] :: l => bytesOk l
 | _ => false
def toBytes : List (List V) -> List UInt8
 | [] => []
 | [.int _ n] :: l => UInt8.ofNat n.toNat :: toBytes l
 | _ :: l => toBytes l
def ofBytes (s : ByteArray) : List (List V) := s.data.toList.map fun b => [.int .u8 b.toNat]
def byteAt (s : ByteArray) (i : Nat) : Int := ((s.data.toList.getD i 0).toNat : Int)
def convK (src dst : TypeId) (x : V) (k : V -> Option R) : Option R :=
 match pg.P.underlying src, pg.P.underlying dst, x with
 | some _, some (.int kd), .int _ n => k (.int kd (kd.wrap n))
 | some _, some .string, .str s => k (.str s)
 | some (.slice e), some .string, .sl _ e' es =>
  (match pg.P.underlying e with
  | some (.int .u8) => bif Nat.beq e e' then (if bytesOk es then k (.str ⟨(toBytes es).toArray⟩) else none) else none
  | _ => none)
 | _, _, _ => none
def bnd (env : Env) (o : Option Operand) (d : Nat) (k : Nat -> Option R) : Option R :=
 match o with
 | none => k d
 | some x => (match evO pg env 3 x with | .int _ i => if 0 <= i then k i.toNat else none | _ => none)
def sliceK (t : TypeId) (x : V) (env : Env) (lo hi mx : Option Operand) (k : V -> Option R) : Option R :=
 match pg.P.underlying t, x with
 | some .string, .str s => (match mx with
  | none => bnd pg env lo 0 fun l => bnd pg env hi s.size fun h => if l <= h ∧ h <= s.size then k (.str (s.extract l h)) else none
  | some _ => none)
 | some (.slice e0), .sl _ e es => (match mx with
  | none => bif Nat.beq e0 e && kn pg.P e then bnd pg env lo 0 fun l => bnd pg env hi es.length fun h => if l <= h ∧ h <= es.length then k (.sl .no e ((es.drop l).take (h - l))) else none else none
  | some _ => none)
 | _, _ => none
def fieldK (s : TypeId) (f : Nat) (k : Nat -> TypeId -> Option R) : Option R :=
 match pg.P.underlying s with
 | some (.struct fs) => (match fs[f]? with | some fd => k fd.offset fd.type | none => none)
 | _ => none
def addrK (x : V) (d : Nat) (k : V -> Option R) : Option R :=
 match x with
 | .ref id off => k (.ref id (off + d))
 | .el id e i j => k (.el id e i (j + d))
 | .ptr cs off => k (.ptr cs (off + d))
 | _ => none
def partV (t : TypeId) (cs : List V) (off : Nat) (k : V -> Option R) : Option R :=
 bif kn pg.P t then (bif isAg pg.P t then k (.agg ((cs.drop off).take (sz pg.P t))) else (match cs.getD off .undef with | .undef => none | v => k v)) else none
def indexK (t : TypeId) (x ix : V) (k : V -> Option R) : Option R :=
 match pg.P.underlying t, x, ix with
 | some .string, .str s, .int _ i => if 0 <= i ∧ i < (s.size : Int) then k (.int .u8 (byteAt s i.toNat)) else none
 | some (.array n e), .agg cs, .int _ i => if 0 <= i ∧ i < (n : Int) then (bif hasPtr pg.P e && cs.any isRef then partV pg e cs (i.toNat * sz pg.P e) k else decT pg e (fun j => cs.getD (i.toNat * sz pg.P e + j) .undef) 0 k) else none
 | _, _, _ => none
def indexAddrK (t : TypeId) (x ix : V) (k : V -> Option R) : Option R :=
 match pg.P.underlying t, x, ix with
 | some (.slice e), .sl _ e' es, .int _ i => bif Nat.beq e e' && kn pg.P e then (if 0 <= i ∧ i < (es.length : Int) then k (.ptr (es.getD i.toNat []) 0) else none) else none
 | _, _, _ => none
def assertK (asserted : TypeId) (commaOk : Bool) (x : V) (k : V -> Option R) : Option R :=
 match pg.P.underlying asserted with
 | some (.interface _) => none
 | some _ => (match x with
  | .iface t v => if t = asserted then decR pg asserted v (fun v => bif commaOk then k (.tup [v, .bool true]) else k v)
    else bif commaOk then (match zeroV pg.P asserted with | some z => k (.tup [z, .bool false]) | none => none) else none
  | .nili => bif commaOk then (match zeroV pg.P asserted with | some z => k (.tup [z, .bool false]) | none => none) else none
  | _ => none)
 | none => none
def fillV (place : Nat -> Option (Nat × Nat)) (cells : List V) : List (Nat × List V) -> Option (List V)
 | [] => some cells
 | (i, vs) :: rest => (match place i with
  | none => none
  | some (off, s) => bif vs.length == s && Nat.ble (off + s) cells.length && vs.all one then fillV place (setAt cells off vs) rest else none)
def buildK (env : Env) (t : TypeId) (parts : List (Nat × Operand)) (k : V -> Option R) : Option R :=
 match pg.P.underlying t, zeroL pg.P t with
 | some (.struct fs), some z => bif !(fs.toList.all fun f => kn pg.P f.type) then none else
  (match fillV (fun i => (fs[i]?).map fun f => (f.offset, sz pg.P f.type)) z (parts.map fun p => (p.1, cellsOf (evO pg env (((fs[p.1]?).map (·.type)).getD 0) p.2))) with
  | some cs => k (.agg cs) | none => none)
 | some (.array _ e), some z => bif !(kn pg.P e) then none else
  (match fillV (fun i => some (i * sz pg.P e, sz pg.P e)) z (parts.map fun p => (p.1, cellsOf (evO pg env e p.2))) with
  | some cs => k (.agg cs) | none => none)
 | _, _ => none
def maxK (op : Builtin) (kd : IntKind) (a : Int) : List V -> (V -> Option R) -> Option R
 | [], k => k (.int kd a)
 | .int kd' b :: l, k => if kd' = kd then maxK op kd (match op with | .max => (if b > a then b else a) | _ => (if b < a then b else a)) l k else none
 | _, _ => none
def lenK (t : TypeId) (v : V) (k : V -> Option R) : Option R :=
 match pg.P.underlying t, v with
 | some .string, .str s => k (.int .i64 (s.size : Int))
 | some (.slice _), .sl _ _ es => k (.int .i64 (es.length : Int))
 | some (.slice _), .nils => k (.int .i64 0)
 | _, _ => none
def biQ (b : Builtin) (ts : List TypeId) (args : List V) (k : V -> Option R) : Option R :=
 match b, ts, args with
 | .len, [t], [v] => lenK pg t v k
 | .max, _, .int kd a :: l => maxK .max kd a l k
 | .min, _, .int kd a :: l => maxK .min kd a l k
 | _, _, _ => none
def opQ (env : Env) (o : Oper) (k : V -> Option R) : Option R :=
 match o.op with
 | .move x => k (evO pg env o.type x)
 | .assign x => k (evO pg env o.type x)
 | .pick c a b => (match evO pg env 0 c, evO pg env o.type a, evO pg env o.type b with
  | .bool true, a, _ => k a
  | .bool false, _, b => k b
  | _, _, _ => none)
 | .nilCheck x => (match evO pg env 0 x with
  | .ref id off => k (.ref id off) | .el id e i j => k (.el id e i j) | .ptr cs off => k (.ptr cs off) | .fn f cap => k (.fn f cap) | _ => none)
 | .binOp op xt x y _ => binK pg.P op xt (isC y) (evO pg env xt x) (evO pg env xt y) k
 | .unOp op xt x => unK op (evO pg env xt x) k
 | .convert src dst x => convK pg src dst (evO pg env src x) k
 | .typeAssert x _ asserted commaOk => assertK pg asserted commaOk (evO pg env 0 x) k
 | .slice t x lo hi mx => sliceK pg t (evO pg env t x) env lo hi mx k
 | .fieldAddr s x f => fieldK pg s f fun d ft => bif Nat.beq (sz pg.P ft) 0 then none else addrK (evO pg env 0 x) d k
 | .field s x f => fieldK pg s f fun d ft => (match evO pg env s x with | .agg cs => partV pg ft cs d k | _ => none)
 | .index t x ix => indexK pg t (evO pg env t x) (evO pg env 3 ix) k
 | .indexAddr t x ix => indexAddrK pg t (evO pg env t x) (evO pg env 3 ix) k
 | .extract t i => (match evO pg env 0 t with | .tup vs => (match vs.getD i .undef with | .undef => none | v => k v) | _ => none)
 | .load t a => (match evO pg env 0 a with | .ptr cs off => decT pg t (fun j => cs.getD (off + j) .undef) 0 k | _ => none)
 | .build t parts => buildK pg env t parts.toList k
 | .call { callee := .builtin b, args := args, argTypes := ts } => bif Nat.beq args.size ts.size then biQ pg b ts.toList ((args.toList.zip ts.toList).map fun p => evO pg env p.2 p.1) k else none
 | _ => none
end
end
end Go.Proofs.Ab
namespace Go.Proofs.Ab
open Go
section
variable (pg : Pg)
structure Gv where
 n : Nat
 seen : List Nat
def giveOwn (dead : List Nat) (g : Gv) : V -> Option (V × Gv)
 | .sl .nil e es => bif (pg.dpe e).isSome then some (.fr g.n [], { g with n := g.n + 1 }) else some (.sl (.row g.n) e es, { g with n := g.n + 1 })
 | .fr t ps => bif dead.contains t || g.seen.contains t then none else some (.fr g.n ps, { n := g.n + 1, seen := t :: g.seen })
 | .sl (.row t) e es => bif dead.contains t || g.seen.contains t then none else some (.sl (.row g.n) e es, { n := g.n + 1, seen := t :: g.seen })
 | _ => none
def ownable : V -> Bool
 | .sl .nil _ _ => true | .sl (.row _) _ _ => true | .fr _ _ => true | _ => false
def capIn (n0 : List Nat) : List V -> Bool
 | [] => true
 | .ref id _ :: l => n0.contains id && capIn n0 l
 | _ => false
def letGo (n0 : List Nat) : V -> V
 | .sl tok e es => .sl (tokOf (pg.pz e) tok es) e es
 | .ref id off => bif n0.contains id then .ref id off else .undef
 | .el id e i j => bif n0.contains id then .el id e i j else .undef
 | .arr id e => bif n0.contains id then .arr id e else .undef
 | .sub id e o l => bif n0.contains id then .sub id e o l else .undef
 | .mp id => bif n0.contains id then .mp id else .undef
 | .fr _ _ => .undef
 | .agg cs => .agg (cs.map fun c => match c with
  | .sl tok e es => .sl (tokOf (pg.pz e) tok es) e es
  | .ref id off => bif n0.contains id then .ref id off else .undef
  | .el _ _ _ _ => .undef | .arr _ _ => .undef | .sub _ _ _ _ => .undef | .mp _ => .undef | .fr _ _ => .undef | .agg _ => .undef | .tup _ => .undef | .iface _ _ => .undef | .fn _ _ => .undef
  | c => c)
 | .tup _ => .undef
 | .iface t v => (match v with | .int k n => .iface t (.int k n) | _ => .undef)
 | .fn f cap => bif capIn n0 cap then .fn f cap else .undef
 | v => v
def border : V -> V
 | .ref _ _ => .undef | .el _ _ _ _ => .undef | .sub _ _ _ _ => .undef | .mp _ => .undef | .agg _ => .undef | .tup _ => .undef
 | .fn f cap => (match cap with | [] => .fn f [] | _ => .undef)
 | .iface t v => (match v with | .int k n => .iface t (.int k n) | _ => .undef)
 | v => v
def goes (bd : Bool) (n0 : List Nat) (v : V) : V := bif bd then border (letGo pg n0 v) else letGo pg n0 v
def canCells (bd : Bool) (n0 : List Nat) (dead : List Nat) (own : List Nat) : Nat -> List V -> Gv -> Option (List V × Gv)
 | _, [], g => some ([], g)
 | j, v :: l, g =>
  bif own.contains j && (bd || ownable v) then (match giveOwn pg dead g v with
   | some (v', g') => (match canCells bd n0 dead own (j + 1) l g' with | some (l', g'') => some (v' :: l', g'') | none => none)
   | none => none)
  else (match canCells bd n0 dead own (j + 1) l g with | some (l', g'') => some (goes pg bd n0 v :: l', g'') | none => none)
def ownVal (dead : List Nat) (l : List Nat) (g : Gv) (v : V) : Option (V × Gv) :=
 match v with
 | .agg cs => (match canCells pg true [] dead l 0 cs g with | some (cs', g') => some (.agg cs', g') | none => none)
 | v => giveOwn pg dead g v
def aggV : V -> Bool
 | .agg _ => true | _ => false
def ownIdx (j : Nat) (v : V) : List Nat := match v with
 | .agg cs => go j cs
 | _ => []
where go : Nat -> List V -> List Nat
 | _, [] => []
 | j, v :: l => bif ownable v then j :: go (j + 1) l else go (j + 1) l
def canEnv (n0 : List Nat) (dead : List Nat) (env : Env) : List (Nat × Bool) -> Gv -> Option (Env × Gv)
 | [], g => some ([], g)
 | (t, own) :: l, g =>
  bif own && ownable (env.get t) then (match giveOwn pg dead g (env.get t) with
   | some (v, g') => (match canEnv n0 dead env l g' with | some (env', g'') => some ((t, v) :: env', g'') | none => none)
   | none => none)
  else bif own && aggV (env.get t) then (match ownVal pg dead (ownIdx 0 (env.get t)) g (env.get t) with
   | some (v, g') => (match canEnv n0 dead env l g' with | some (env', g'') => some ((t, v) :: env', g'') | none => none)
   | none => none)
  else (match canEnv n0 dead env l g with | some (env', g'') => some ((t, letGo pg n0 (env.get t)) :: env', g'') | none => none)
def ownAt : Nat -> List TypeId -> List Nat
 | _, [] => []
 | j, t :: l => (match pg.P.underlying t with
  | some (.slice e) => bif pg.pz e then ownAt (j + 1) l else j :: ownAt (j + 1) l
  | _ => ownAt (j + 1) l)
def ownH (e : TypeId) : List Nat := ownAt pg 0 (flat pg.P deep e)
def canBlk (bd : Bool) (n0 : List Nat) (dead : List Nat) (b : Blk) (g : Gv) : Option (Blk × Gv) :=
 match b with
 | .cells e cs fz => (match canCells pg bd n0 dead (bif bd then pg.own e else ownH pg e) 0 cs g with | some (cs', g') => some (.cells e cs' fz, g') | none => none)
 | .vec e es fz => some (.vec e es fz, g)
 | .mp kt et es fz => some (.mp kt et es fz, g)
def canBlks (bd : Bool) (n0 : List Nat) (dead : List Nat) : List Blk -> Gv -> Option (List Blk × Gv)
 | [], g => some ([], g)
 | b :: l, g => (match canBlk pg bd n0 dead b g with
  | some (b', g') => (match canBlks bd n0 dead l g' with | some (l', g'') => some (b' :: l', g'') | none => none)
  | none => none)
def takeB (bl : List (Nat × Blk)) : List Nat -> Option (List Blk)
 | [] => some []
 | id :: l => (match getB bl id with
  | some b => (match takeB bl l with | some bs => some (b :: bs) | none => none)
  | none => none)
def canon (f : FuncId) (n0 : List Nat) (x : Env × St) : Option (Env × St) :=
 bif !(x.2.df.all fun p => capIn n0 p.2) then none else
 match canEnv pg n0 x.2.dead x.1 (pg.keep f) ⟨0, []⟩ with
 | some (env', g) => (match takeB x.2.bl n0 with
  | some bs => (match canBlks pg false n0 x.2.dead bs g with
   | some (bl', g') => some (env', { x.2 with bl := n0.zip bl', used := List.range g'.n, dead := [] })
   | none => none)
  | none => none)
 | none => none
def ownVals (dead : List Nat) : List (Option (List Nat)) -> List V -> List V -> Gv -> Option (List V × Gv)
 | [], _, ws, g => some (ws, g)
 | none :: os, _ :: vs, w :: ws, g => (match ownVals dead os vs ws g with | some (ws', g') => some (w :: ws', g') | none => none)
 | some l :: os, v :: vs, _ :: ws, g => (match ownVal pg dead l g v with
  | some (w, g1) => (match ownVals dead os vs ws g1 with | some (ws', g') => some (w :: ws', g') | none => none)
  | none => none)
 | _, _, _, _ => none
def ownN : List (Option (List Nat)) -> Nat
 | [] => 0
 | none :: l => ownN l
 | some x :: l => x.length + ownN l
def keysOf (bl : List (Nat × Blk)) : List Nat := bl.map (·.1)
abbrev Hand := List (Nat × Nat × Option TypeId)
def handIdx (h : Hand) (id : Nat) : Option Nat :=
 match h with
 | [] => none
 | x :: l => bif Nat.beq x.1 id then some 0 else (handIdx l id).map (· + 1)
def ptee (t : TypeId) : Option TypeId := match pg.P.underlying t with | some (.pointer e) => some e | _ => none
def handArgs : List TypeId -> List V -> Hand -> Option (List V × Hand)
 | t :: ts, v :: vs, h => (match v with
  | .ref id off => (match ptee pg t with
   | some e => (match handIdx h id with
    | some _ => none
    | none => (match handArgs ts vs (h ++ [(id, off, some e)]) with | some (vs', h') => some (.ref h.length 0 :: vs', h') | none => none))
   | none => none)
  | v => (match handArgs ts vs h with | some (vs', h') => some (v :: vs', h') | none => none))
 | [], vs, h => handCap vs h
 | _ :: _, [], _ => none
where
 /-- what was captured: pointers to variables -/
 handCap : List V -> Hand -> Option (List V × Hand)
  | [], h => some ([], h)
  | v :: vs, h => (match v with
   | .ref id off => (match handIdx h id with
    | some _ => none
    | none => (match handCap vs (h ++ [(id, off, none)]) with | some (vs', h') => some (.ref h.length 0 :: vs', h') | none => none))
   | v => (match handCap vs h with | some (vs', h') => some (v :: vs', h') | none => none))
def handCells : List V -> Hand -> List V × Hand
 | [], h => ([], h)
 | v :: l, h => (match v with
  | .arr id e => (match handIdx h id with
   | some i => (let r := handCells l h; ((match h[i]? with | some (_, 0, none) => .arr i e | _ => .undef) :: r.1, r.2))
   | none => (let r := handCells l (h ++ [(id, 0, none)]); (.arr h.length e :: r.1, r.2)))
  | v => (let r := handCells l h; (border v :: r.1, r.2)))
def preN (f : FuncId) (t : TypeId) : Nat := match pg.pre f t with | some n => n | none => sz pg.P t
def pieceOf (f : FuncId) (bl : List (Nat × Blk)) (x : Nat × Nat × Option TypeId) : Option Blk :=
 match getB bl x.1, x.2.2 with
 | some (.cells _ cs fz), some t => (match pg.P.underlying t with
  | some (.array _ _) => none
  | _ => bif Nat.ble (x.2.1 + preN pg f t) cs.length then some (.cells t ((cs.drop x.2.1).take (preN pg f t)) fz) else none)
 | some (.cells e cs fz), none => bif Nat.beq x.2.1 0 then some (.cells e cs fz) else none
 | some (.vec e es fz), _ => bif Nat.beq x.2.1 0 then some (.vec e es fz) else none
 | some (.mp _ _ _ _), _ => none
 | none, _ => none
def pieces (f : FuncId) (bl : List (Nat × Blk)) : Nat -> Nat -> Hand -> Option (List Blk × Hand)
 | 0, _, _ => none
 | n + 1, i, h => (match h[i]? with
  | none => some ([], h)
  | some x => (match pieceOf pg f bl x with
   | some (.cells e cs fz) => (let r := handCells cs h
    match pieces f bl n (i + 1) r.2 with | some (l, h') => some (.cells e r.1 fz :: l, h') | none => none)
   | some b => (match pieces f bl n (i + 1) h with | some (l, h') => some (b :: l, h') | none => none)
   | none => none))
def rowsIn : List Blk -> List Nat
 | [] => []
 | .cells e cs _ :: l => ((pg.own e).filterMap fun j => match cs.getD j .undef with | .sl (.row t) _ _ => some t | .fr t _ => some t | _ => none) ++ rowsIn l
 | _ :: l => rowsIn l
section
variable {R : Type}
def backCells (own : List Nat) (nt : Tmp) (rd : Nat -> V) : Nat -> List TypeId -> List V -> Nat -> (List V -> Nat -> Option R) -> Option R
 | _, _, [], p, k => k [] p
 | j, t :: ts, w :: ws, p, k =>
  bif own.contains j then (match pg.P.underlying t with
   | some (.slice e) => bif (pg.dpe e).isSome then (rd j).asFr p fun ps => backCells own nt rd (j + 1) ts ws (p + 1) fun l p' => k (.fr (rid nt p) ps :: l) p'
    else (rd j).asSlR p e fun es => backCells own nt rd (j + 1) ts ws (p + 1) fun l p' => k (.sl (.row (rid nt p)) e es :: l) p'
   | _ => none)
  else (match w with
   | .arr i e => (rd j).asArr i e (backCells own nt rd (j + 1) ts ws p fun l p' => k (.arr i e :: l) p')
   | _ => dec1 pg t (rd j) fun v' => backCells own nt rd (j + 1) ts ws p fun l p' => k (v' :: l) p')
 | _, _, _, _, _ => none
def unhand (h : Hand) : V -> V
 | .arr i e => (match h[i]? with | some x => .arr x.1 e | none => .undef)
 | v => v
def backAll (nt : Tmp) (h : Hand) (bs : List Blk) : Nat -> List (Nat × Nat × Option TypeId) -> List Blk -> List (Nat × Blk) -> Nat -> (List (Nat × Blk) -> Nat -> Option R) -> Option R
 | _, [], [], bl, p, k => k bl p
 | i, x :: xs, w :: ws, bl, p, k => (match w with
  | .cells t cs fz => bif fz then none else (bs.getD i (.cells 0 [] true)).asCells t cs.length fun rd =>
    backCells pg (pg.own t) nt rd 0 (flat pg.P deep t) cs p fun l p' =>
    (match getB bl x.1 with
    | some (.cells e old fz) => backAll nt h bs (i + 1) xs ws (setB bl x.1 (.cells e (setAt old x.2.1 (l.map (unhand h))) fz)) p' k
    | _ => none)
  | .vec e es fz => bif fz then none else (bs.getD i (.cells 0 [] true)).asVec e es.length fun es' =>
    backAll nt h bs (i + 1) xs ws (setB bl x.1 (.vec e es' false)) p k
  | .mp _ _ _ _ => none)
 | _, _, _, _, _, _ => none
def decOwn (l : List Nat) (nt : Tmp) (ts : List TypeId) (v : V) (p : Nat) (k : V -> Nat -> Option R) : Option R :=
 match ts with
 | [t] => bif isAg pg.P t then v.asAgg (flat pg.P deep t).length fun rd => backCells pg l nt rd 0 (flat pg.P deep t) (List.replicate (flat pg.P deep t).length .undef) p fun cs p' => k (.agg cs) p'
   else (match pg.P.underlying t with
    | some (.slice e) => v.asSlR p e fun es => k (.sl (.row (rid nt p)) e es) (p + 1)
    | _ => none)
 | _ => none
def callK (D : DSem) (f : FuncId) (vs : List V) (nt : Tmp) (st : St) (pn : Option (Option V)) (k : V -> St -> Res -> Option R) (kp : V -> St -> Option R) : Option R :=
 match pg.P.funcs[f]? with
 | none => none
 | some fn =>
  match handArgs pg fn.params.toList vs [] with
  | none => none
  | some (vs1, h0) =>
   match purArgs vs1 with
   | none => none
   | some vs2 =>
    match pieces pg f (freeze st.bl ((vs1.map (idsA st.bl)).flatten)) 40 0 h0 with
    | none => none
    | some (ps, h) =>
     match canBlks pg true (List.range 40) st.dead ps ⟨0, []⟩ with
     | none => none
     | some (sub, g) =>
      match ownVals pg st.dead (pg.oa f) vs vs2 g with
      | none => none
      | some (vs3, g2) =>
      match pg.oo f with
      | some l =>
       bif ((List.range 16).any fun p => st.used.contains (rid nt p)) || Nat.blt 15 g.n || !Nat.beq (rowsIn pg sub).length g.n || !Nat.beq g2.n (g.n + ownN (pg.oa f)) || (pg.pan f).isSome then none else
       (D f vs3 sub pn).bind fun res =>
        backAll pg nt h res.bl 0 h sub (freeze st.bl ((vs1.map (idsA st.bl)).flatten)) 0 fun bl' p' =>
         bif !Nat.beq p' g.n then none else
         res.onRet fun v => decOwn pg l nt fn.resultTypes.toList v p' fun v' p2 => bif Nat.blt 16 p2 then none else k v' { st with bl := bl', used := (List.range p2).map (rid nt) ++ st.used, dead := g2.seen ++ st.dead } res
      | none =>
      bif ((List.range g.n).any fun p => st.used.contains (rid nt p)) || Nat.blt 15 g.n || !Nat.beq (rowsIn pg sub).length g.n || !Nat.beq g2.n (g.n + ownN (pg.oa f)) then none else
      (D f vs3 sub pn).bind fun res =>
       backAll pg nt h res.bl 0 h sub (freeze st.bl ((vs1.map (idsA st.bl)).flatten)) 0 fun bl' p' =>
        bif !Nat.beq p' g.n then none else
        match pg.pan f with
        | none => res.onRet fun v => decRes pg fn.resultTypes.toList v fun v' => k v' { st with bl := bl', used := (List.range g.n).map (rid nt) ++ st.used, dead := g2.seen ++ st.dead } res
        | some t => res.onOut
         (fun v => decRes pg fn.resultTypes.toList v fun v' => k v' { st with bl := bl', used := (List.range g.n).map (rid nt) ++ st.used, dead := g2.seen ++ st.dead } res)
         (fun v => v.asIface t fun w => decR pg t w fun w' => kp (.iface t w') { st with bl := bl', used := (List.range g.n).map (rid nt) ++ st.used, dead := g2.seen ++ st.dead })
where
 /-- arguments but pointers handed over -/
 purArgs : List V -> Option (List V) := mapO fun v => match v with | .ref id off => some (.ref id off) | v => pur pg st.bl pdeep v
 idsA (bl : List (Nat × Blk)) (v : V) : List Nat := match v with | .ref _ _ => [] | v => idsOf bl pdeep v
end
section
variable {R : Type} (D : DSem)
def newB (d : Tmp) (b : Blk) (bl : List (Nat × Blk)) (k : List (Nat × Blk) -> Option R) : Option R :=
 match getB bl (aid d) with | some _ => none | none => k (setB bl (aid d) b)
def loadS (t : TypeId) (a : V) (bl : List (Nat × Blk)) (k : V -> Option R) : Option R :=
 match a with
 | .ref id off => (match getB bl id with
  | some (.cells _ cs _) => bif Nat.ble (off + sz pg.P t) cs.length && kn pg.P t then (bif isAg pg.P t then k (.agg ((cs.drop off).take (sz pg.P t))) else (match cs.getD off .undef with | .undef => none | v => k v)) else none
  | some (.vec e es _) => bif isAg pg.P t && Nat.beq (sz pg.P e) 1 && Nat.beq (flat pg.P deep t).length (sz pg.P t) then decL pg (flat pg.P deep t) (fun j => (es.getD (off + j) []).getD 0 .undef) 0 fun vs => k (.agg vs) else none
  | some (.mp _ _ _ _) => none
  | none => none)
 | .el id e1 i j => (match getB bl id with
  | some (.vec e es _) => bif !Nat.beq e e1 then none else decT pg t (fun x => (es.getD i []).getD (j + x) .undef) 0 k
  | _ => none)
 | _ => none
def storeS (t : TypeId) (a v : V) (bl : List (Nat × Blk)) (k : List (Nat × Blk) -> Option R) : Option R :=
 bif (cellsOf v).length == sz pg.P t && (cellsOf v).all one && kn pg.P t then
  match a with
  | .ref id off => (match getB bl id with
   | some (.cells e cs false) => bif Nat.ble (off + sz pg.P t) cs.length then k (setB bl id (.cells e (setAt cs off (cellsOf v)) false)) else none
   | some (.vec e es false) => bif Nat.beq off 0 && Nat.beq (sz pg.P e) 1 then
     (if es.length = (cellsOf v).length then
      (match purAll pg bl (cellsOf v) with | some (vs, bl') => bif ((cellsOf v).map (idsOf bl pdeep)).flatten.contains id then none else k (setB bl' id (.vec e (vs.map fun c => [c]) false)) | none => none) else none)
    else none
   | _ => none)
  | .el id e1 i j => (match getB bl id with
   | some (.vec e es false) => bif !Nat.beq e e1 then none else (match purAll pg bl (cellsOf v) with
    | some (vs, bl') => bif ((cellsOf v).map (idsOf bl pdeep)).flatten.contains id then none else
      bif Nat.beq j 0 && Nat.beq (sz pg.P t) (sz pg.P e) then k (setB bl' id (.vec e (es.set i vs) false))
      else bif Nat.ble (j + sz pg.P t) (sz pg.P e) then k (setB bl' id (.vec e (es.set i (setAt (es.getD i []) j vs)) false)) else none
    | none => none)
   | _ => none)
  | _ => none
 else none
def appGo (e : TypeId) (x : V) (d : Tmp) (st : St) (k : V -> St -> Option R) (old : List Nat) (es : List (List V)) : Option R :=
 bif Nat.ble (byt pg.P e) 128 && Nat.blt 0 (sz pg.P e) && !st.used.contains (aid d) && (match zeroL pg.P e with | some z => Nat.beq z.length (sz pg.P e) | none => false) then
  (match x with
  | .sl _ e' xs => bif Nat.beq e e' then (if es.length + xs.length <= most then k (.sl (.row (aid d)) e (es ++ xs)) { st with used := aid d :: st.used, dead := old ++ st.dead } else none) else none
  | .arr id e' => (match getB st.bl id with
   | some (.vec e'' xs _) => bif Nat.beq e e' && Nat.beq e e'' then (if es.length + xs.length <= most then k (.sl (.row (aid d)) e (es ++ xs)) { st with used := aid d :: st.used, dead := old ++ st.dead } else none) else none
   | _ => none)
  | .str b => (match pg.P.underlying e with
   | some (.int .u8) => bif !Nat.beq (sz pg.P e) 1 then none else if es.length + b.size <= most then k (.sl (.row (aid d)) e (es ++ ofBytes b)) { st with used := aid d :: st.used, dead := old ++ st.dead } else none
   | _ => none)
  | _ => none)
 else none
def nils1 : List (List V) -> Bool
 | [] => true
 | [.sl .nil _ _] :: l => nils1 l
 | _ => false
def appFr (e : TypeId) (x : V) (d : Tmp) (st : St) (k : V -> St -> Option R) (old : List Nat) (ps : List (List Int)) : Option R :=
 bif Nat.ble (byt pg.P e) 128 && Nat.beq (sz pg.P e) 1 && !st.used.contains (aid d) && (match zeroL pg.P e with | some z => Nat.beq z.length (sz pg.P e) | none => false) then
  (match x with
  | .sl _ e' xs => bif Nat.beq e e' && nils1 xs then (if ps.length + xs.length <= most then k (.fr (aid d) (ps ++ List.replicate xs.length [])) { st with used := aid d :: st.used, dead := old ++ st.dead } else none) else none
  | _ => none)
 else none
def appendS (e : TypeId) (s x : V) (d : Tmp) (st : St) (k : V -> St -> Option R) : Option R :=
 match s with
 | .sl .nil e1 es => bif Nat.beq e e1 then (bif (pg.dpe e).isSome then none else appGo pg e x d st k [] es) else none
 | .fr t ps => bif (pg.dpe e).isSome && !st.dead.contains t && st.used.contains t then appFr pg e x d st k [t] ps else none
 | .sl (.row t) e1 es => bif Nat.beq e e1 && !st.dead.contains t && st.used.contains t then appGo pg e x d st k [t] es else none
 | _ => none
def makeS (t : TypeId) (l c : V) (d : Tmp) (bl : List (Nat × Blk)) (k : V -> List (Nat × Blk) -> Option R) : Option R :=
 match pg.P.underlying t, l, c with
 | some (.slice e), .int .i64 n, .int .i64 m => (match zeroL pg.P e with
  | some z => bif Nat.ble (byt pg.P e) 128 && Nat.blt 0 (sz pg.P e) && z.all pur1 && Nat.beq z.length (sz pg.P e) then
    (if n = m ∧ 0 <= n ∧ n <= (most : Int) then newB d (.vec e (List.replicate n.toNat z) false) bl fun bl' => k (.arr (aid d) e) bl' else none)
   else none
  | none => none)
 | _, _, _ => none
def fillS (s n : Nat) (es : List (List V)) : List Nat -> List (List V) -> Option (List (List V))
  | [], [] => some es
  | i :: is, vs :: vss => bif Nat.blt i n && vs.length == s && vs.all one then fillS s n (es.set i vs) is vss else none
  | _, _ => none
def pickI (i : Int) : Nat -> (Nat -> Option R) -> Option R
 | 0, _ => none
 | n + 1, k => if i = (n : Int) then k n else pickI i n k
def opR (env : Env) (o : Oper) (bl : List (Nat × Blk)) (k : V -> Option R) : Option R :=
 match o.op with
 | .load t a => (match evO pg env 0 a with
  | .ptr cs off => decT pg t (fun j => cs.getD (off + j) .undef) 0 k
  | a => loadS pg t a bl k)
 | .makeFunc (.func f) first cap => (match first.toList with
  | [] => k (.fn f (cap.toList.map (evO pg env 0)))
  | _ => none)
 | .indexAddr t x ix => (match evO pg env t x, evO pg env 0 ix with
  | .arr id e, .int _ i => (match pg.P.underlying t, getB bl id with
   | some (.slice e'), some (.vec e'' es _) => bif Nat.beq e e' && Nat.beq e e'' && kn pg.P e then (if 0 <= i ∧ i < (es.length : Int) then k (.el id e i.toNat 0) else none) else none
   | _, _ => none)
  | .ref id off, .int _ i => (match pg.P.underlying t, getB bl id with
   | some (.array n e'), some (.vec e'' es _) => bif Nat.beq e' e'' && Nat.beq off 0 && kn pg.P e' then (if 0 <= i ∧ i < (n : Int) ∧ i < (es.length : Int) then k (.el id e' i.toNat 0) else none) else none
   | some (.array n e'), some (.cells _ _ _) => bif kn pg.P e' && Nat.ble n 8 then pickI i n fun j => k (.ref id (off + j * sz pg.P e')) else none
   | _, _ => none)
  | x, i => indexAddrK pg t x i k)
 | .slice t x lo hi mx => (match evO pg env t x with
  | .ref id off => (match pg.P.underlying t, getB bl id, hi, mx with
   | some (.array n e'), some (.vec e'' es _), none, none => bif Nat.beq e' e'' && Nat.beq off 0 && kn pg.P e' then
     bnd pg env lo 0 fun l => if l <= n ∧ es.length = n then k (.sub id e' l (n - l)) else none else none
   | _, _, _, _ => none)
  | x => sliceK pg t x env lo hi mx k)
 | .convert src dst x => (match evO pg env src x with
  | .sub id e o l => (match pg.P.underlying src, pg.P.underlying dst, getB bl id, pg.P.underlying e with
   | some (.slice e1), some .string, some (.vec e2 es _), some (.int .u8) => bif Nat.beq e e1 && Nat.beq e e2 then
     (if bytesOk ((es.drop o).take l) ∧ o + l <= es.length then k (.str ⟨(toBytes ((es.drop o).take l)).toArray⟩) else none) else none
   | _, _, _, _ => none)
  | x => convK pg src dst x k)
 | .call { callee := .builtin .len, args := args, argTypes := ts } => (match args.toList, ts.toList with
  | [x], [t] => (match evO pg env t x with
   | .arr id e => (match pg.P.underlying t, getB bl id with | some (.slice _), some (.vec e' es _) => bif Nat.beq e e' then k (.int .i64 (es.length : Int)) else none | _, _ => none)
   | v => lenK pg t v k)
  | _, _ => none)
 | .lookup t x ix commaOk => (match evO pg env t x with
  | .mp id => (match pg.P.underlying t, getB bl id with
   | some (.map kt et), some (.mp kt' et' es false) => bif Nat.beq kt kt' && Nat.beq et et' && keyOk pg.P kt (evO pg env kt ix) then
     (match zeroV pg.P et with
     | some z => bif z.prim then dec1 pg et (mpGet (evO pg env kt ix) z es) fun v => bif commaOk then k (.tup [v, .bool (mpHas (evO pg env kt ix) es)]) else k v else none
     | none => none) else none
   | _, _ => none)
  | _ => none)
 | _ => opQ pg env o k
def opB (f : FuncId) (env : Env) (o : Oper) (bl : List (Nat × Blk)) (k : V -> List (Nat × Blk) -> Option R) : Option R :=
 match o.op with
 | .alloc t => (match zeroL pg.P t, o.dst with
  | some z, some d => (match newBlk pg ((pg.mutl f).contains d) t z with | some b => newB d b bl fun bl' => k (.ref (aid d) 0) bl' | none => none)
  | _, _ => none)
 | .box t x => (match o.dst with
  | some d => bif (pg.nbx f).contains d then (match purAll pg bl [evO pg env t x] with
    | some ([v], bl') => bif (cellsOf v).length == sz pg.P t && (cellsOf v).all one then k (.ptr (cellsOf v) 0) bl' else none
    | _ => none)
   else (let vs := cellsOf (evO pg env t x)
   bif vs.length == sz pg.P t && vs.all one then (match newBlk pg ((pg.mutl f).contains d) t vs with | some b => newB d b bl fun bl' => k (.ref (aid d) 0) bl' | none => none) else none)
  | none => none)
 | .store t a x => storeS pg t (evO pg env 0 a) (evO pg env t x) bl fun bl' => k .undef bl'
 | .makeInterface xt x => (match purAll pg bl [evO pg env xt x], pg.P.underlying xt with
  | some ([v], bl'), some (.int _) => k (.iface xt v) bl'
  | some ([v], bl'), some (.struct _) => k (.iface xt v) bl'
  | some ([v], bl'), some .string => k (.iface xt v) bl'
  | _, _ => none)
 | .makeSlice t l c => (match o.dst with | some d => makeS pg t (evO pg env 0 l) (evO pg env 0 c) d bl k | none => none)
 | .buildSlice t n parts => (match pg.P.underlying t with
  | some (.slice e) => (match zeroL pg.P e, purAll pg bl (parts.toList.map fun p => evO pg env e p.2) with
   | some z, some (vs, bl') => bif Nat.ble (n * sz pg.P e) 65536 && Nat.blt 0 (sz pg.P e) && z.all pur1 && Nat.beq z.length (sz pg.P e) then
     (match fillS (sz pg.P e) n (List.replicate n z) (parts.toList.map (·.1)) (vs.map cellsOf) with
     | some es => (match o.dst with
      | some d => bif (pg.mutl f).contains d then newB d (.vec e es false) bl' fun bl'' => k (.arr (aid d) e) bl'' else k (.sl (bif pg.pz e then .nn else .no) e es) bl'
      | none => none)
     | none => none) else none
   | _, _ => none)
  | _ => none)
 | .convert src dst x => (match evO pg env src x with
  | .str s => (match pg.P.underlying src, pg.P.underlying dst with
   | some .string, some (.slice e) => (match pg.P.underlying e with
    | some (.int .u8) => bif Nat.beq (sz pg.P e) 1 then (if s.size <= most then k (.sl (bif pg.pz e then .nn else .no) e (ofBytes s)) bl else none) else none
    | _ => none)
   | _, _ => convK pg src dst (.str s) fun v => k v bl)
  | _ => opR pg env o bl fun v => k v bl)
 | .makeMap t none => (match pg.P.underlying t, o.dst with
  | some (.map kt et), some d => newB d (.mp kt et [] false) bl fun bl' => k (.mp (aid d)) bl'
  | _, _ => none)
 | .mapUpdate t m key x => (match evO pg env t m with
  | .mp id => (match pg.P.underlying t, getB bl id with
   | some (.map kt et), some (.mp kt' et' es false) => bif Nat.beq kt kt' && Nat.beq et et' && keyOk pg.P kt (evO pg env kt key) && (evO pg env et x).prim then
     k .undef (setB bl id (.mp kt et (mpSet (evO pg env kt key) (evO pg env et x) es) false)) else none
   | _, _ => none)
  | _ => none)
 | _ => opR pg env o bl fun v => k v bl
def putE (nt : Nat) (env : Env) (d : Option Tmp) (v : V) : Option Env :=
 match d with
 | none => some env
 | some t => bif Nat.blt t nt then some ((t, v) :: env) else none
def setC (env : Env) (c : Operand) (b : Bool) : Env := match c with | .tmp t => (t, .bool b) :: env | _ => env
def bodyOf (fn : Func) : Code := match fn.body with | some c => c | none => .skip
def args0 : Nat -> List V -> Env
 | _, [] => []
 | n, v :: vs => (n, v) :: args0 (n + 1) vs
def mkB (f : FuncId) (o : Oper) : Bool :=
 match o.op with
 | .alloc _ => true | .makeSlice _ _ _ => true | .makeMap _ _ => true
 | .box _ _ => (match o.dst with | some d => !(pg.nbx f).contains d | none => false)
 | .buildSlice _ _ _ => (match o.dst with | some d => (pg.mutl f).contains d | none => false)
 | _ => false
def opI (f : FuncId) (env : Env) (o : Oper) (st : St) (k : V -> St -> Option R) (kp : V -> St -> Option R) : Option R :=
 bif mkB pg f o then none else
 match o.op with
 | .panic x => (match evO pg env 0 x with | .iface t v => kp (.iface t v) st | _ => none)
 | .call { callee := .builtin .append, args := args, argTypes := ts } => (match args.toList, ts.toList, o.dst with
  | [s, x], [t, u], some d => (match pg.P.underlying t with
   | some (.slice e) => bif Nat.beq t u || (match pg.P.underlying u with | some .string => true | _ => false) then appendS pg e (evO pg env t s) (evO pg env u x) d st k else none
   | _ => none)
  | _, _, _ => none)
 | .call { callee := .builtin .recover, args := _, argTypes := _ } => none
 | .call { callee := .builtin .panic, args := _, argTypes := _ } => none
 | .call { callee := .value _, args := _, argTypes := _ } => none
 | .defer _ => none
 | _ => opB pg f env o st.bl fun v bl' => k v { st with bl := bl' }
def evIOps (f : FuncId) (nt : Nat) : List Oper -> Env -> St -> (Ex -> Env -> St -> Option R) -> Option R
 | [], env, st, k => k .normal env st
 | o :: rest, env, st, k => (match o.guard with
  | none => opI pg f env o st (fun v st' => match putE nt env o.dst v with | some env' => evIOps f nt rest env' st' k | none => none) (fun v st' => k (.pan v) env st')
  | some _ => none)
def kI (evb : Env -> St -> Option R) (k : Ex -> Env -> St -> Option R) : Ex -> Env -> St -> Option R := fun ex env st => match ex with | .normal => evb env st | ex => k ex env st
def evI (f : FuncId) (nt : Nat) : Code -> Env -> St -> (Ex -> Env -> St -> Option R) -> Option R
 | .skip, env, st, k => k .normal env st
 | .seq a b, env, st, k => evI f nt a env st (kI (fun env st => evI f nt b env st k) k)
 | .cond c a b, env, st, k => (match evO pg env 0 c with
  | .bool t => bif t then evI f nt a (setC env c true) st k else evI f nt b (setC env c false) st k
  | _ => none)
 | .scope c, env, st, k => evI f nt c env st k
 | .ret, env, st, k => k .ret env st
 | .region _ ops draw, env, st, k => bif draw then none else evIOps pg f nt ops.toList env st k
 | _, _, _, _ => none
def resI (fn : Func) (env : Env) (k : V -> Option R) : Option R := match fn.results.toList with
 | [] => k (.tup [])
 | [.tmp t] => k (env.get t)
 | _ => none
def kInl (fn : Func) (k kp : V -> St -> Option R) : Ex -> Env -> St -> Option R := fun ex env st => match ex with
 | .normal => resI fn env fun v => k v st
 | .ret => resI fn env fun v => k v st
 | .pan v => kp v st
 | .exit _ => none
def inlK (f : FuncId) (fn : Func) (vs : List V) (st : St) (k kp : V -> St -> Option R) : Option R :=
 bif fn.body.isNone || fn.name == "runtime.NumGoroutine" || Nat.blt fn.ntmps vs.length then none else
 evI pg f fn.ntmps (bodyOf fn) (args0 0 vs) st (kInl fn k kp)
def opS (f : FuncId) (env : Env) (o : Oper) (st : St) (k : V -> St -> Option R) (kp : V -> St -> Option R) : Option R :=
 match o.op with
 | .panic x => (match evO pg env 0 x with | .iface t v => kp (.iface t v) st | _ => none)
 | .call { callee := .builtin .append, args := args, argTypes := ts } => (match args.toList, ts.toList, o.dst with
  | [s, x], [t, u], some d => (match pg.P.underlying t with
   | some (.slice e) => bif Nat.beq t u || (match pg.P.underlying u with | some .string => true | _ => false) then appendS pg e (evO pg env t s) (evO pg env u x) d st k else none
   | _ => none)
  | _, _, _ => none)
 | .call { callee := .builtin .recover, args := _, argTypes := _ } => none
 | .call { callee := .builtin .panic, args := args, argTypes := _ } => (match args.toList with
  | [x] => (match evO pg env 0 x with | .iface t v => kp (.iface t v) st | _ => none)
  | _ => none)
 | .call { callee := .value fv, args := args, argTypes := _ } => (match evO pg env 0 fv, o.dst with
  | .fn f cap, some d => (match pg.P.funcs[f]? with
   | some fn => bif Nat.beq args.size fn.params.size then (bif pg.inl f then inlK pg f fn (((args.toList.zip fn.params.toList).map fun p => evO pg env p.2 p.1) ++ cap) st k kp else callK pg D f (((args.toList.zip fn.params.toList).map fun p => evO pg env p.2 p.1) ++ cap) d st none (fun v st' _ => k v st') kp) else none
   | none => none)
  | _, _ => none)
 | .defer { callee := .value fv, args := args, argTypes := _ } => bif pg.dfs then (match evO pg env 0 fv, args.toList with
  | .fn f cap, [] => k .undef { st with df := (f, cap) :: st.df }
  | _, _ => none) else none
 | _ => opB pg f env o st.bl fun v bl' => k v { st with bl := bl' }
end
section
variable (D : DSem) (f : FuncId) (nt : Nat)
def dstOf (all : List Oper) (g : Nat) : Option Tmp := match all[g]? with | some o => o.dst | none => none
def evOps (all : List Oper) : List Oper -> Env -> St -> K -> Option Res
 | [], env, st, k => k .normal env st
 | o :: rest, env, st, k =>
  let go (env : Env) : Option Res := opS pg D f env o st (fun v st' => match putE nt env o.dst v with | some env' => evOps all rest env' st' k | none => none) (fun v st' => k (.pan v) env st')
  let skip (env : Env) : Option Res := (match putE nt env o.dst .hole with | some env' => evOps all rest env' st k | none => none)
  match o.guard with
  | none => go env
  | some (g, want) => (match dstOf all g with
   | none => none
   | some t => (match env.get t with
    | .bool b => (match want with
     | true => bif b then go ((t, .bool true) :: env) else skip ((t, .bool false) :: env)
     | false => bif b then skip ((t, .bool true) :: env) else go ((t, .bool false) :: env))
    | .hole => skip env
    | _ => none))
def iter {X R : Type} (Φ : (X -> Option R) -> X -> Option R) : Nat -> X -> Option R
 | 0 => fun _ => none
 | n + 1 => Φ (iter Φ n)
open Classical in
noncomputable def lfp {X R : Type} (Φ : (X -> Option R) -> X -> Option R) (x : X) : Option R :=
 if h : ∃ r n, iter Φ n x = some r then some (Classical.choose h) else none
def idsV : Nat -> V -> List Nat
 | 0, _ => []
 | n + 1, v => match v with
  | .ref id _ => [id] | .el id _ _ _ => [id] | .arr id _ => [id] | .sub id _ _ _ => [id] | .mp id => [id]
  | .agg cs => (cs.map (idsV n)).flatten
  | .tup vs => (vs.map (idsV n)).flatten
  | .iface _ v => idsV n v
  | .fn _ cap => (cap.map (idsV n)).flatten
  | _ => []
def idsB : Blk -> List Nat
 | .cells _ cs _ => (cs.map (idsV pdeep)).flatten
 | .vec _ _ _ => []
 | .mp _ _ _ _ => []
def reach (bl : List (Nat × Blk)) : Nat -> List Nat -> List Nat
 | 0, ids => ids
 | n + 1, ids => ids ++ reach bl n ((ids.map fun id => match getB bl id with | some b => idsB b | none => []).flatten)
def dedup : List Nat -> List Nat
 | [] => []
 | a :: l => bif l.contains a then dedup l else a :: dedup l
def tmpsOf (o : Oper) : List Tmp := o.op.operands.toList.filterMap fun | .tmp t => some t | _ => none
def envF (env : Env) (l : List Tmp) : Env := l.map fun t => (t, env.get t)
def idsE (env : Env) : List Nat := (env.map fun p => idsV pdeep p.2).flatten
structure Ft where
 rd : List Nat
 wr : List Nat
 row : Bool
def mk (o : Oper) : List Nat := match o.dst with | some d => [aid d] | none => []
def footOf (env : Env) (bl : List (Nat × Blk)) (o : Oper) : Ft :=
 match o.op with
 | .panic _ => ⟨[], [], true⟩
 | .alloc _ => ⟨[], mk o, false⟩
 | .makeSlice _ _ _ => ⟨[], mk o, false⟩
 | .makeMap _ _ => ⟨[], mk o, false⟩
 | .mapUpdate _ _ _ _ => ⟨[], dedup (reach bl 3 (idsE env)), false⟩
 | .lookup _ _ _ _ => ⟨dedup (idsE env), [], false⟩
 | .box _ _ => ⟨[], mk o, false⟩
 | .buildSlice _ _ _ => ⟨[], dedup (mk o ++ reach bl 3 (idsE env)), false⟩
 | .makeInterface _ _ => ⟨[], dedup (reach bl 3 (idsE env)), false⟩
 | .store _ _ _ => ⟨[], dedup (reach bl 3 (idsE env)), false⟩
 | .call { callee := .builtin .append, args := _, argTypes := _ } => ⟨dedup (idsE env), [], true⟩
 | .call { callee := .value _, args := _, argTypes := _ } => ⟨[], dedup (reach bl 3 (idsE env)), true⟩
 | .load _ _ => ⟨dedup (idsE env), [], false⟩
 | .indexAddr _ _ _ => ⟨dedup (idsE env), [], false⟩
 | .slice _ _ _ _ _ => ⟨dedup (idsE env), [], false⟩
 | .convert _ _ _ => ⟨dedup (idsE env), [], false⟩
 | .call { callee := .builtin .len, args := _, argTypes := _ } => ⟨dedup (idsE env), [], false⟩
 | _ => ⟨[], [], false⟩
def subB (bl : List (Nat × Blk)) (ids : List Nat) : List (Nat × Blk) := ids.filterMap fun id => (getB bl id).map fun b => (id, b)
def overB (bl bl' : List (Nat × Blk)) : List Nat -> List (Nat × Blk)
 | [] => bl
 | id :: l => overB (match getB bl' id with | some b => setB bl id b | none => bl) bl' l
def meets (a b : List Nat) : Bool := a.any fun x => b.contains x
def Ft.apart (a b : Ft) : Bool := !meets a.wr b.rd && !meets a.wr b.wr && !meets a.rd b.wr && !(a.row && b.row)
def predsOf (ops : List Oper) : List (List Nat) :=
 ops.foldl (fun acc o => acc ++ [dedup ((o.after.toList.filter (Region.binds .any)).map fun e => e.on :: acc.getD e.on []).flatten]) []
def isRow (o : Oper) : Bool :=
 match o.op with
 | .panic _ => true
 | .call { callee := .builtin .append, args := _, argTypes := _ } => true
 | .call { callee := .value _, args := _, argTypes := _ } => true
 | _ => false
def notDrawn (o : Oper) : Bool :=
 match o.op with
 | .call { callee := .builtin .recover, args := _, argTypes := _ } => true
 | .call { callee := .builtin .panic, args := _, argTypes := _ } => true
 | .defer _ => true
 | .select _ _ => true
 | _ => false
def Ft.still (a : Ft) : Bool := a.wr.isEmpty && !a.row
def dstIn (ops : Array Oper) (x z : Oper) : Bool := match z.dst with | some d => (x.looksAt ops).contains d | none => false
def between (ops : Array Oper) (preds : List Nat) (x : Nat × Oper × Ft) (tr : List (Nat × Oper × Ft)) : Bool :=
 tr.all fun z => Nat.blt z.1 x.1 || (!dstIn ops x.2.1 z.2.1 && (preds.contains z.1 || !meets z.2.2.wr x.2.2.rd))
def okDraw (ops : Array Oper) (preds : List Nat) (o : Oper) (ft : Ft) (tr : List (Nat × Oper × Ft)) : Bool :=
 tr.all fun x => preds.contains x.1 || (x.2.1.apart ops o && (x.2.2.apart ft || (x.2.2.still && between ops preds x tr)))
def again (f : FuncId) (env : Env) (bl : List (Nat × Blk)) (x : Nat × Oper × Ft) (tr : List (Nat × Oper × Ft)) : Bool :=
 match x.2.1.dst with
 | none => false
 | some d => (tr.all fun z => !Nat.blt x.1 z.1 || (match z.2.1.dst with | some d' => !Nat.beq d' d | none => true)) &&
   (match opB pg f (envF env (tmpsOf x.2.1)) x.2.1 (subB bl (dedup (x.2.2.rd ++ x.2.2.wr))) (fun v bl' => some (v, bl')) with
   | some (v, bl') => (bl'.all fun p => (dedup (x.2.2.rd ++ x.2.2.wr)).contains p.1) && beqV (env.get d) v
   | none => false)
def recheck (f : FuncId) (preds : List Nat) (env : Env) (bl : List (Nat × Blk)) (ft : Ft) (tr tr0 : List (Nat × Oper × Ft)) : Bool :=
 tr0.all fun x => preds.contains x.1 || x.2.2.apart ft || again pg f env bl x tr
def goDraw (env : Env) (o : Oper) (ft : Ft) (ok : Ft -> Bool) (st : St) (kk kkp : Ft -> V -> St -> Option Res) : Option Res :=
 bif !ok ft || notDrawn o then none else
 bif isRow o then opS pg D f env o { st with bl := subB st.bl (dedup (ft.rd ++ ft.wr)) }
  (fun v st' => bif (st'.bl.all fun p => (dedup (ft.rd ++ ft.wr)).contains p.1) then kk ft v { st' with bl := overB st.bl st'.bl ft.wr } else none)
  (fun v st' => bif (st'.bl.all fun p => (dedup (ft.rd ++ ft.wr)).contains p.1) then kkp ft v { st' with bl := overB st.bl st'.bl ft.wr } else none)
 else opB pg f env o (subB st.bl (dedup (ft.rd ++ ft.wr))) (fun v bl' => bif (bl'.all fun p => (dedup (ft.rd ++ ft.wr)).contains p.1) then kk ft v { st with bl := overB st.bl bl' ft.wr } else none)
abbrev Md := Option (Nat × V × St)
def Md.waits (preds : List (List Nat)) (md : Md) (i : Nat) : Bool := match md with | none => false | some m => (preds.getD i []).contains m.1
def Md.ok (n0 : List Nat) (o : Oper) (ft : Ft) (md : Md) : Bool := match md with | none => true | some _ => !isRow o && !meets ft.wr n0
def okPan (preds : List (List Nat)) (n0 : List Nat) (i : Nat) (tr : List (Nat × Oper × Ft)) : Bool := tr.all fun x => (preds.getD i []).contains x.1 || !meets x.2.2.wr n0
def undefE (ops : Array Oper) (env : Env) : Env := (ops.toList.filterMap (·.dst)).map (fun t => (t, V.undef)) ++ env
def evDraw (ops : Array Oper) (preds : List (List Nat)) (n0 : List Nat) : Nat -> List Oper -> Env -> St -> List (Nat × Oper × Ft) -> Md -> K -> Option Res
 | _, [], env, st, _, md, k => (match md with
  | none => k .normal env st
  | some m => (match canon pg f n0 (undefE ops env, m.2.2) with | some x => k (.pan m.2.1) x.1 x.2 | none => none))
 | i, o :: rest, env, st, tr, md, k =>
  bif md.waits preds i then evDraw ops preds n0 (i + 1) rest env st tr md k else
  let go (env : Env) : Option Res :=
   goDraw pg D f (envF env (tmpsOf o)) o (footOf (envF env (tmpsOf o)) st.bl o) (fun ft => okDraw ops (preds.getD i []) o ft tr && md.ok n0 o ft) st (fun ft v st' => match putE nt env o.dst v with
    | some env' => bif recheck pg f (preds.getD i []) env' st'.bl ft ((i, o, ft) :: tr) tr then evDraw ops preds n0 (i + 1) rest env' st' ((i, o, ft) :: tr) md k else none
    | none => none)
    (fun ft v st' => bif okPan preds n0 i tr then (match pur pg [] pdeep v with
     | some v' => evDraw ops preds n0 (i + 1) rest env st ((i, o, ft) :: tr) (some (i, v', st')) k
     | none => none) else none)
  let skip (env : Env) : Option Res :=
   bif !okDraw ops (preds.getD i []) o ⟨[], [], false⟩ tr || notDrawn o then none else
   (match putE nt env o.dst .hole with | some env' => evDraw ops preds n0 (i + 1) rest env' st ((i, o, ⟨[], [], false⟩) :: tr) md k | none => none)
  match o.guard with
  | none => go env
  | some (g, want) => (match dstOf ops.toList g with
   | none => none
   | some t => (match env.get t with
    | .bool b => (match want with
     | true => bif b then go ((t, .bool true) :: env) else skip ((t, .bool false) :: env)
     | false => bif b then skip ((t, .bool true) :: env) else go ((t, .bool false) :: env))
    | .hole => skip env
    | _ => none))
def kSeq (evb : Env -> St -> K -> Option Res) (k : K) : K := fun ex env st => match ex with | .normal => evb env st k | ex => k ex env st
def kBlk (id : Nat) (k : K) : K := fun ex env st => match ex with
 | .exit id' => bif Nat.beq id' id then k .normal env st else k (.exit id') env st
 | ex => k ex env st
def kLoop (cn : Env × St -> Option (Env × St)) (rec : Env × St -> Option Res) (k : K) : K := fun ex env st => match ex with
 | .normal => (match cn (env, st) with | some y => rec y | none => none)
 | ex => k ex env st
noncomputable def LP (evc : Env -> St -> K -> Option Res) (cn : Env × St -> Option (Env × St)) (k : K) : Env × St -> Option Res :=
 lfp fun rec x => evc x.1 x.2 (kLoop cn rec k)
noncomputable def kLp (evc : Env -> St -> K -> Option Res) (cn : Env × St -> Option (Env × St)) (k : K) : K := kLoop cn (LP evc cn k) k
def okTopo : Nat -> List Oper -> Bool
 | _, [] => true
 | i, o :: l => (o.after.toList.all fun e => !(Region.binds .any e) || Nat.blt e.on i) && okTopo (i + 1) l
def evReg (ops : Array Oper) (draw : Bool) (env : Env) (st : St) (k : K) : Option Res :=
 bif draw then (bif okTopo 0 ops.toList then evDraw pg D f nt ops (predsOf ops.toList) (keysOf st.bl) 0 ops.toList env st [] none k else none) else evOps pg D f nt ops.toList ops.toList env st k
noncomputable def JR (ops : Array Oper) (draw : Bool) (k : K) : Env × St -> Option Res := lfp fun _ x => evReg pg D f nt ops draw x.1 x.2 k
def headId : Code -> Nat
 | .seq a b => (match headId a with | 0 => headId b | n + 1 => n + 1)
 | .cond _ a b => (match headId a with | 0 => headId b | n + 1 => n + 1)
 | .block _ c => headId c
 | .loop c => headId c
 | .scope c => headId c
 | .region id _ _ => id + 1
 | _ => 0
noncomputable def ev : Code -> Env -> St -> K -> Option Res
 | .skip, env, st, k => k .normal env st
 | .label _, env, st, k => k .normal env st
 | .seq a b, env, st, k => ev a env st (kSeq (ev b) k)
 | .cond c a b, env, st, k => (match evO pg env 0 c with
  | .bool t => bif t then ev a (setC env c true) st k else ev b (setC env c false) st k
  | _ => none)
 | .block id c, env, st, k => ev c env st (kBlk id k)
 | .loop c, env, st, k => (match canon pg f (keysOf st.bl) (env, st) with
  | some x => bif Nat.beq (pg.unr f (headId c)) 0 then LP (ev c) (canon pg f (keysOf st.bl)) k x else iter (fun rec y => ev c y.1 y.2 (kLoop (canon pg f (keysOf st.bl)) rec k)) (pg.unr f (headId c)) x
  | none => none)
 | .scope c, env, st, k => ev c env st k
 | .exit id, env, st, k => k (.exit id) env st
 | .ret, env, st, k => k .ret env st
 | .region id ops draw, env, st, k =>
  bif (pg.joins f).contains id then (match canon pg f (keysOf st.bl) (env, st) with
   | some x => JR pg D f nt ops draw k x
   | none => none)
  else evReg pg D f nt ops draw env st k
 | _, _, _, _ => none
end
def kid : Code -> Nat -> Code
 | .seq a b, i => (match i with | 0 => a | _ => b)
 | .cond _ a b, i => (match i with | 0 => a | _ => b)
 | .block _ c, _ => c
 | .loop c, _ => c
 | .scope c, _ => c
 | c, _ => c
def cAt (c : Code) : List Nat -> Code
 | [] => c
 | i :: p => cAt (kid c i) p
def resVals (env : Env) (st : St) : List ResultVar -> (List V -> Option Res) -> Option Res
 | [], k => k []
 | .tmp t :: l, k => resVals env st l fun vs => k (env.get t :: vs)
 | .cell a t :: l, k => loadS pg t (env.get a) st.bl fun v => resVals env st l fun vs => k (v :: vs)
def leave (o : Option (List Nat)) (m : Nat) (st : St) (mk : V -> Out) (v : V) : Option Res :=
 match purAll pg st.bl [v] with
 | some ([v'], bl) => (match takeB bl (List.range m) with
  | some bs => (match canBlks pg true (List.range m) st.dead bs ⟨0, []⟩ with
   | some (bl', g) => (match o with
    | none => some ⟨mk v', bl', st.pn⟩
    | some l => (match ownVal pg st.dead l g v with
     | some (v2, _) => some ⟨mk v2, bl', st.pn⟩
     | none => none))
   | none => none)
  | none => none)
 | _ => none
def runDef (D : DSem) (cur : Option V) : List (FuncId × List V) -> St -> (Option V -> St -> Option Res) -> Option Res
 | [], st, k => k cur st
 | (f, cap) :: l, st, k => callK pg D f cap 100000 st (some cur) (fun _ st' res => res.onPn (runDef D none l st' k) (fun _ => runDef D cur l st' k)) (fun _ _ => none)
def kFin (D : DSem) (o : Option (List Nat)) (fn : Func) (m : Nat) : K := fun ex env st =>
 match ex with
 | .normal => runDef pg D none st.df { st with df := [] } (fin env)
 | .ret => runDef pg D none st.df { st with df := [] } (fin env)
 | .pan v => (match st.df with
  | [] => fin env (some v) st
  | d :: l => (match purAll pg st.bl [v] with
   | some ([v'], bl) => runDef pg D (some v') (d :: l) { st with df := [], bl := bl } (fin env)
   | _ => none))
 | _ => none
where
 fin (env : Env) (c : Option V) (st : St) : Option Res := match c with
  | none => resVals pg env st fn.results.toList fun vs => leave pg o m st .ret (match vs with | [v] => v | vs => .tup vs)
  | some v => leave pg none m st .pan v
def kFinD (D : DSem) (o : Option (List Nat)) (fn : Func) (m : Nat) : K := fun ex env st => match st.df with
 | [] => kFin pg D o fn m ex env st
 | _ :: _ => none
def curV : Option V -> V
 | some v => v
 | none => .nili
def recHead (c : Code) : Option (Oper × Array Oper × Code) :=
 match c with
 | .seq (.region _ ops false) rest => (match ops.toList with
  | o :: _ => (match o.op, o.guard with
   | .call { callee := .builtin .recover, args := args, argTypes := _ }, none => bif Nat.beq args.size 0 then some (o, ops, rest) else none
   | _, _ => none)
  | [] => none)
 | _ => none
def rowsOf (bl : List Blk) : Nat := (rowsIn pg bl).length
def addLast (a : Int) : List (List Int) -> List (List Int)
 | [] => []
 | [l] => [l ++ [a]]
 | l :: m :: ps => l :: addLast a (m :: ps)
def natHere (tR e : TypeId) (vs : List V) (bl : List Blk) : Option Res :=
 match vs, bl with
 | [.ref 0 0], [.cells tR' [.sl tok e' es, .int .i64 k, .fr 0 ps] false] => bif Nat.beq e e' && Nat.beq tR tR' then
   (if 0 <= k ∧ k < (es.length : Int) then (match (es.getD k.toNat []).getD 3 .undef with
    | .int .i64 a => if (ps.getLastD []).length < most ∧ ps.length < most then some ⟨.ret (.tup []), [.cells tR [.sl .no e' es, .int .i64 k, .fr 0 (addLast a ps)] false], none⟩ else none
    | _ => none) else none) else none
 | _, _ => none
noncomputable def evF (D : DSem) (f : FuncId) (vs : List V) (bl : List Blk) (pn : Option (Option V)) : Option Res :=
 match pg.nat f with
 | some g => (match pn with | none => g vs bl | some _ => none)
 | none => (match pg.P.funcs[f]? with
  | some fn => bif fn.body.isNone || fn.name == "runtime.NumGoroutine" || Nat.blt fn.ntmps vs.length then none else
    (match pn with
    | none => ev pg D f fn.ntmps (bodyOf fn) (args0 0 vs) { bl := (List.range bl.length).zip bl, used := List.range (rowsOf pg bl + ownN (pg.oa f)), dead := [], df := [], pn := none } (kFin pg D (pg.oo f) fn bl.length)
    | some cur => (match recHead (bodyOf fn) with
     | some (o, ops, rest) => (match putE fn.ntmps (args0 0 vs) o.dst (curV cur) with
      | some env => evOps pg D f fn.ntmps ops.toList (ops.toList.drop 1) env { bl := (List.range bl.length).zip bl, used := List.range (rowsOf pg bl + ownN (pg.oa f)), dead := [], df := [], pn := some none } (kSeq (ev pg D f fn.ntmps rest) (kFinD pg D (pg.oo f) fn bl.length))
      | none => none)
     | none => ev pg D f fn.ntmps (bodyOf fn) (args0 0 vs) { bl := (List.range bl.length).zip bl, used := List.range (rowsOf pg bl + ownN (pg.oa f)), dead := [], df := [], pn := some cur } (kFinD pg D (pg.oo f) fn bl.length)))
  | none => none)
noncomputable def call : Nat -> DSem
 | 0 => fun _ _ _ _ => none
 | n + 1 => evF pg (call n)
open Classical in
noncomputable def den : DSem := fun f vs bl pn => if h : ∃ r n, call pg n f vs bl pn = some r then some (Classical.choose h) else none
end
end Go.Proofs.Ab
namespace Go.Proofs.Ab
open Go
section
variable {R S : Type} (g : R -> Option S)
theorem asInt_bind (v : V) (kd : IntKind) (k : Int -> Option R) : (v.asInt kd k).bind g = v.asInt kd fun n => (k n).bind g := by
 unfold V.asInt; split
 ·split <;> rfl
 ·rfl
theorem asBool_bind (v : V) (k : Bool -> Option R) : (v.asBool k).bind g = v.asBool fun n => (k n).bind g := by
 unfold V.asBool; split <;> rfl
theorem asStr_bind (v : V) (k : ByteArray -> Option R) : (v.asStr k).bind g = v.asStr fun n => (k n).bind g := by
 unfold V.asStr; split <;> rfl
theorem asSl_bind (v : V) (e : TypeId) (k : List (List V) -> Option R) : (v.asSl e k).bind g = v.asSl e fun n => (k n).bind g := by
 unfold V.asSl; split
 ·split <;> rfl
 ·rfl
theorem asSlR_bind (v : V) (p : Nat) (e : TypeId) (k : List (List V) -> Option R) : (v.asSlR p e k).bind g = v.asSlR p e fun n => (k n).bind g := by
 unfold V.asSlR; split
 ·split <;> rfl
 ·rfl
theorem asFr_bind (v : V) (p : Nat) (k : List (List Int) -> Option R) : (v.asFr p k).bind g = v.asFr p fun n => (k n).bind g := by
 unfold V.asFr; split
 ·split <;> rfl
 ·rfl
theorem asSlN_bind (v : V) (e : TypeId) (k : Bool -> List (List V) -> Option R) : (v.asSlN e k).bind g = v.asSlN e fun b n => (k b n).bind g := by
 unfold V.asSlN; split
 ·split <;> rfl
 ·split <;> rfl
 ·rfl
theorem asPtr_bind (v : V) (kn : Option R) (k : List V -> Nat -> Option R) : (v.asPtr kn k).bind g = v.asPtr (kn.bind g) fun b n => (k b n).bind g := by
 unfold V.asPtr; split <;> rfl
theorem asIface_bind (v : V) (t : TypeId) (k : V -> Option R) : (v.asIface t k).bind g = v.asIface t fun n => (k n).bind g := by
 unfold V.asIface; split
 ·split <;> rfl
 ·rfl
theorem asArr_bind (v : V) (i : Nat) (t : TypeId) (k : Option R) : (v.asArr i t k).bind g = v.asArr i t (k.bind g) := by
 unfold V.asArr; split
 ·split <;> rfl
 ·rfl
theorem asAgg_bind (v : V) (n : Nat) (k : (Nat -> V) -> Option R) : (v.asAgg n k).bind g = v.asAgg n fun n => (k n).bind g := by
 unfold V.asAgg; split
 ·split <;> rfl
 ·rfl
theorem asTup_bind (v : V) (n : Nat) (k : (Nat -> V) -> Option R) : (v.asTup n k).bind g = v.asTup n fun n => (k n).bind g := by
 unfold V.asTup; split
 ·split <;> rfl
 ·rfl
theorem asCells_bind (b : Blk) (t : TypeId) (n : Nat) (k : (Nat -> V) -> Option R) : (b.asCells t n k).bind g = b.asCells t n fun n => (k n).bind g := by
 unfold Blk.asCells; split
 ·split <;> rfl
 ·rfl
theorem asVec_bind (b : Blk) (t : TypeId) (n : Nat) (k : List (List V) -> Option R) : (b.asVec t n k).bind g = b.asVec t n fun n => (k n).bind g := by
 unfold Blk.asVec; split
 ·split <;> rfl
 ·rfl
theorem onOut_bind (r : Res) (k kp : V -> Option R) : (r.onOut k kp).bind g = r.onOut (fun v => (k v).bind g) (fun v => (kp v).bind g) := by
 unfold Res.onOut; split <;> rfl
theorem onRet_bind (r : Res) (k : V -> Option R) : (r.onRet k).bind g = r.onRet (fun v => (k v).bind g) := by
 unfold Res.onRet; split <;> rfl
theorem cond_bind (b : Bool) (x y : Option R) : (bif b then x else y).bind g = bif b then x.bind g else y.bind g := by cases b <;> rfl
theorem ite_bind (c : Prop) [Decidable c] (x y : Option R) : (if c then x else y).bind g = if c then x.bind g else y.bind g := by split <;> rfl
variable (pg : Pg)
theorem dec1_bind (t : TypeId) (v : V) (k : V -> Option R) : (dec1 pg t v k).bind g = dec1 pg t v fun v => (k v).bind g := by
 unfold dec1
 split
 ·rw [asInt_bind]
 ·rw [asBool_bind]
 ·rw [asStr_bind]
 ·rw [cond_bind, asSlN_bind, asSl_bind]
  congr 2
  funext b es
  exact cond_bind ..
 ·rw [asPtr_bind]
 ·split <;> rfl
 ·rfl
theorem decL_bind : ∀ (ts : List TypeId) (rd : Nat -> V) (off : Nat) (k : List V -> Option R), (decL pg ts rd off k).bind g = decL pg ts rd off fun l => (k l).bind g
 | [], _, _, _ => rfl
 | t :: ts, rd, off, k => by
  simp only [decL, dec1_bind, decL_bind ts]
theorem decT_bind (t : TypeId) (rd : Nat -> V) (off : Nat) (k : V -> Option R) : (decT pg t rd off k).bind g = decT pg t rd off fun v => (k v).bind g := by
 unfold decT; rw [cond_bind, cond_bind, decL_bind, dec1_bind]; rfl
theorem decR_bind (t : TypeId) (v : V) (k : V -> Option R) : (decR pg t v k).bind g = decR pg t v fun v => (k v).bind g := by
 unfold decR; rw [cond_bind, asAgg_bind, dec1_bind]; simp only [decL_bind]
theorem decTup_bind : ∀ (ts : List TypeId) (rd : Nat -> V) (i : Nat) (k : List V -> Option R), (decTup pg ts rd i k).bind g = decTup pg ts rd i fun l => (k l).bind g
 | [], _, _, _ => rfl
 | t :: ts, rd, i, k => by simp only [decTup, decR_bind, decTup_bind ts]
theorem decRes_bind (ts : List TypeId) (v : V) (k : V -> Option R) : (decRes pg ts v k).bind g = decRes pg ts v fun v => (k v).bind g := by
 unfold decRes; split
 ·rw [decR_bind]
 ·rw [asTup_bind]; simp only [decTup_bind]
theorem arith_bind (op : BinOp) (kd : IntKind) (a b : Int) (k : V -> Option R) : (arith op kd a b k).bind g = arith op kd a b fun v => (k v).bind g := by
 unfold arith; split <;> first | rfl | (split <;> rfl)
theorem strOp_bind (op : BinOp) (a b : ByteArray) (k : V -> Option R) : (strOp op a b k).bind g = strOp op a b fun v => (k v).bind g := by
 unfold strOp; split <;> first | rfl | (split <;> rfl)
theorem binK_bind (P : Program) (op : BinOp) (t : TypeId) (cst : Bool) (a b : V) (k : V -> Option R) : (binK P op t cst a b k).bind g = binK P op t cst a b fun v => (k v).bind g := by
 unfold binK; split <;> first | rfl | (split <;> first | rfl | rw [arith_bind]) | rw [strOp_bind]
theorem unK_bind (op : UnOp) (a : V) (k : V -> Option R) : (unK op a k).bind g = unK op a fun v => (k v).bind g := by
 unfold unK; split <;> first | rfl | rw [arith_bind]
theorem convK_bind (s d : TypeId) (x : V) (k : V -> Option R) : (convK pg s d x k).bind g = convK pg s d x fun v => (k v).bind g := by
 unfold convK
 split
 ·rfl
 ·rfl
 ·split
  ·rw [cond_bind, ite_bind]; rfl
  ·rfl
 ·rfl
theorem bnd_bind (env : Env) (o : Option Operand) (d : Nat) (k : Nat -> Option R) : (bnd pg env o d k).bind g = bnd pg env o d fun v => (k v).bind g := by
 unfold bnd
 split
 ·rfl
 ·split
  ·split <;> rfl
  ·rfl
theorem sliceK_bind (t : TypeId) (x : V) (env : Env) (lo hi mx : Option Operand) (k : V -> Option R) : (sliceK pg t x env lo hi mx k).bind g = sliceK pg t x env lo hi mx fun v => (k v).bind g := by
 unfold sliceK
 split
 ·split
  ·simp only [bnd_bind, ite_bind]; rfl
  ·rfl
 ·split
  ·simp only [cond_bind, bnd_bind, ite_bind]; rfl
  ·rfl
 ·rfl
theorem fieldK_bind (s : TypeId) (f : Nat) (k : Nat -> TypeId -> Option R) : (fieldK pg s f k).bind g = fieldK pg s f fun a b => (k a b).bind g := by
 unfold fieldK
 split
 ·split <;> rfl
 ·rfl
theorem addrK_bind (x : V) (d : Nat) (k : V -> Option R) : (addrK x d k).bind g = addrK x d fun v => (k v).bind g := by
 unfold addrK; split <;> rfl
theorem partV_bind (t : TypeId) (cs : List V) (off : Nat) (k : V -> Option R) : (partV pg t cs off k).bind g = partV pg t cs off fun v => (k v).bind g := by
 unfold partV; rw [cond_bind, cond_bind]; congr 2; split <;> rfl
theorem indexK_bind (t : TypeId) (x ix : V) (k : V -> Option R) : (indexK pg t x ix k).bind g = indexK pg t x ix fun v => (k v).bind g := by
 unfold indexK
 split
 ·rw [ite_bind]; rfl
 ·rw [ite_bind, cond_bind, partV_bind, decT_bind]; rfl
 ·rfl
theorem indexAddrK_bind (t : TypeId) (x ix : V) (k : V -> Option R) : (indexAddrK pg t x ix k).bind g = indexAddrK pg t x ix fun v => (k v).bind g := by
 unfold indexAddrK
 split
 ·rw [cond_bind, ite_bind]; rfl
 ·rfl
theorem assertK_bind (a : TypeId) (ok : Bool) (x : V) (k : V -> Option R) : (assertK pg a ok x k).bind g = assertK pg a ok x fun v => (k v).bind g := by
 unfold assertK
 split
 ·rfl
 ·split
  ·rw [ite_bind, decR_bind, cond_bind]
   simp only [cond_bind]
   congr 2
   split <;> rfl
  ·rw [cond_bind]
   congr 1
   split <;> rfl
  ·rfl
 ·rfl
theorem buildK_bind (env : Env) (t : TypeId) (parts : List (Nat × Operand)) (k : V -> Option R) : (buildK pg env t parts k).bind g = buildK pg env t parts fun v => (k v).bind g := by
 unfold buildK
 split
 ·rw [cond_bind]; congr 1; split <;> rfl
 ·rw [cond_bind]; congr 1; split <;> rfl
 ·rfl
theorem maxK_bind (op : Builtin) (kd : IntKind) : ∀ (l : List V) (a : Int) (k : V -> Option R), (maxK op kd a l k).bind g = maxK op kd a l fun v => (k v).bind g
 | [], _, _ => rfl
 | v :: l, a, k => by
  unfold maxK
  split
  ·cases ‹_ :: _ = []›
  ·rename_i h
   cases h
   rw [ite_bind, maxK_bind op kd]; rfl
  ·rfl
theorem lenK_bind (t : TypeId) (v : V) (k : V -> Option R) : (lenK pg t v k).bind g = lenK pg t v fun v => (k v).bind g := by
 unfold lenK; split <;> rfl
theorem biQ_bind (b : Builtin) (ts : List TypeId) (args : List V) (k : V -> Option R) : (biQ pg b ts args k).bind g = biQ pg b ts args fun v => (k v).bind g := by
 unfold biQ; split <;> first | rfl | rw [maxK_bind] | rw [lenK_bind]
theorem opQ_bind (env : Env) (o : Oper) (k : V -> Option R) : (opQ pg env o k).bind g = opQ pg env o fun v => (k v).bind g := by
 unfold opQ
 split
 ·rfl
 ·rfl
 ·split <;> rfl
 ·split <;> rfl
 ·rw [binK_bind]
 ·rw [unK_bind]
 ·rw [convK_bind]
 ·rw [assertK_bind]
 ·rw [sliceK_bind]
 ·rw [fieldK_bind]; congr 1; funext d ft; rw [cond_bind, addrK_bind]; rfl
 ·rw [fieldK_bind]; congr 1; funext d ft; split <;> first | rw [partV_bind] | rfl
 ·rw [indexK_bind]
 ·rw [indexAddrK_bind]
 ·split
  ·split <;> rfl
  ·rfl
 ·split
  ·rw [decT_bind]
  ·rfl
 ·rw [buildK_bind]
 ·rw [cond_bind, biQ_bind]; rfl
 ·rfl
end
end Go.Proofs.Ab
namespace Go.Proofs.Ab
open Go
section
variable {R S : Type} (g : R -> Option S) (pg : Pg)
theorem backCells_bind (own : List Nat) (nt : Tmp) (rd : Nat -> V) : ∀ (ts : List TypeId) (ws : List V) (j p : Nat) (k : List V -> Nat -> Option R),
  (backCells pg own nt rd j ts ws p k).bind g = backCells pg own nt rd j ts ws p fun l p => (k l p).bind g
 | [], [], _, _, _ => rfl
 | [], _ :: _, _, _, _ => rfl
 | _ :: _, [], _, _, _ => rfl
 | t :: ts, w :: ws, j, p, k => by
  unfold backCells
  rw [cond_bind]
  congr 1
  ·split
   ·rw [cond_bind, asSlR_bind, asFr_bind]; simp only [backCells_bind own nt rd ts ws]
   ·rfl
  ·split
   ·rw [asArr_bind, backCells_bind own nt rd ts ws]
   ·rw [dec1_bind]; simp only [backCells_bind own nt rd ts ws]
theorem backAll_bind (nt : Tmp) (h : Hand) (bs : List Blk) : ∀ (xs : List (Nat × Nat × Option TypeId)) (ws : List Blk) (i : Nat) (bl : List (Nat × Blk)) (p : Nat) (k : List (Nat × Blk) -> Nat -> Option R),
  (backAll pg nt h bs i xs ws bl p k).bind g = backAll pg nt h bs i xs ws bl p fun l p => (k l p).bind g
 | [], [], _, _, _, _ => rfl
 | [], _ :: _, _, _, _, _ => rfl
 | _ :: _, [], _, _, _, _ => rfl
 | x :: xs, w :: ws, i, bl, p, k => by
  unfold backAll
  split
  ·rw [cond_bind, asCells_bind]
   simp only [backCells_bind]
   congr 2
   funext rd
   congr 1
   funext l p'
   split
   ·rw [backAll_bind nt h bs xs ws]
   ·rfl
  ·rw [cond_bind, asVec_bind]
   simp only [backAll_bind nt h bs xs ws]
   rfl
  ·rfl
theorem decOwn_bind (l : List Nat) (nt : Tmp) (ts : List TypeId) (v : V) (p : Nat) (k : V -> Nat -> Option R) :
  (decOwn pg l nt ts v p k).bind g = decOwn pg l nt ts v p fun v p => (k v p).bind g := by
 unfold decOwn
 split
 ·rw [cond_bind]
  congr 1
  ·rw [asAgg_bind]; simp only [backCells_bind]
  ·split
   ·rw [asSlR_bind]
   ·rfl
 ·rfl
theorem callK_bind (D : DSem) (f : FuncId) (vs : List V) (d : Tmp) (st : St) (pn : Option (Option V)) (k : V -> St -> Res -> Option R) (kp : V -> St -> Option R) :
  (callK pg D f vs d st pn k kp).bind g = callK pg D f vs d st pn (fun v s r => (k v s r).bind g) (fun v s => (kp v s).bind g) := by
 unfold callK
 split
 ·rfl
 ·split
  ·rfl
  ·split
   ·rfl
   ·split
    ·rfl
    ·split
     ·rfl
     ·split
      ·rfl
      ·split
       ·rw [cond_bind, Option.bind_assoc]
        congr 1
        congr 1
        funext res
        rw [backAll_bind]
        congr 1
        funext bl' p
        rw [cond_bind]
        congr 1
        rw [onRet_bind]
        simp only [decOwn_bind, cond_bind]
        rfl
       ·rw [cond_bind, Option.bind_assoc]
        congr 1
        congr 1
        funext res
        rw [backAll_bind]
        congr 1
        funext bl' p
        rw [cond_bind]
        congr 1
        split
        ·rw [onRet_bind]; simp only [decRes_bind]
        ·rw [onOut_bind]; simp only [decRes_bind, asIface_bind, decR_bind]
theorem loadS_bind (t : TypeId) (a : V) (bl : List (Nat × Blk)) (k : V -> Option R) : (loadS pg t a bl k).bind g = loadS pg t a bl fun v => (k v).bind g := by
 unfold loadS
 split
 ·split
  ·rw [cond_bind, cond_bind]; congr 2; split <;> rfl
  ·rw [cond_bind, decL_bind]; rfl
  ·rfl
  ·rfl
 ·split
  ·rw [cond_bind, decT_bind]; rfl
  ·rfl
 ·rfl
theorem storeS_bind (t : TypeId) (a v : V) (bl : List (Nat × Blk)) (k : List (Nat × Blk) -> Option R) : (storeS pg t a v bl k).bind g = storeS pg t a v bl fun v => (k v).bind g := by
 unfold storeS
 rw [cond_bind]
 congr 1
 split
 ·split
  ·rw [cond_bind]; rfl
  ·rw [cond_bind, ite_bind]; congr 2; split
   ·rw [cond_bind]; rfl
   ·rfl
  ·rfl
 ·split
  ·rw [cond_bind]
   congr 1
   split
   ·rw [cond_bind, cond_bind, cond_bind]; rfl
   ·rfl
  ·rfl
 ·rfl
theorem appGo_bind (e : TypeId) (x : V) (d : Tmp) (st : St) (k : V -> St -> Option R) (old : List Nat) (es : List (List V)) :
  (appGo pg e x d st k old es).bind g = appGo pg e x d st (fun v s => (k v s).bind g) old es := by
 unfold appGo
 rw [cond_bind]
 congr 1
 split
 ·rw [cond_bind, ite_bind]; rfl
 ·split
  ·rw [cond_bind, ite_bind]; rfl
  ·rfl
 ·split
  ·rw [cond_bind, ite_bind]; rfl
  ·rfl
 ·rfl
theorem appFr_bind (e : TypeId) (x : V) (d : Tmp) (st : St) (k : V -> St -> Option R) (old : List Nat) (ps : List (List Int)) :
  (appFr pg e x d st k old ps).bind g = appFr pg e x d st (fun v s => (k v s).bind g) old ps := by
 unfold appFr
 rw [cond_bind]
 congr 1
 split
 ·rw [cond_bind, ite_bind]; rfl
 ·rfl
theorem appendS_bind (e : TypeId) (s x : V) (d : Tmp) (st : St) (k : V -> St -> Option R) : (appendS pg e s x d st k).bind g = appendS pg e s x d st fun v s => (k v s).bind g := by
 unfold appendS
 split
 ·rw [cond_bind, cond_bind, appGo_bind]; rfl
 ·rw [cond_bind, appFr_bind]; rfl
 ·rw [cond_bind, appGo_bind]; rfl
 ·rfl
theorem newB_bind (d : Tmp) (b : Blk) (bl : List (Nat × Blk)) (k : List (Nat × Blk) -> Option R) : (newB d b bl k).bind g = newB d b bl fun s => (k s).bind g := by
 unfold newB; split <;> rfl
theorem makeS_bind (t : TypeId) (l c : V) (d : Tmp) (bl : List (Nat × Blk)) (k : V -> List (Nat × Blk) -> Option R) : (makeS pg t l c d bl k).bind g = makeS pg t l c d bl fun v s => (k v s).bind g := by
 unfold makeS
 split
 ·split
  ·rw [cond_bind, ite_bind, newB_bind]; rfl
  ·rfl
 ·rfl
theorem pickI_bind (i : Int) : ∀ (n : Nat) (k : Nat -> Option R), (pickI i n k).bind g = pickI i n fun j => (k j).bind g
 | 0, _ => rfl
 | n + 1, k => by
  show (if i = (n : Int) then k n else pickI i n k).bind g = if i = (n : Int) then (k n).bind g else pickI i n fun j => (k j).bind g
  rw [ite_bind, pickI_bind i n k]
theorem opR_bind (env : Env) (o : Oper) (bl : List (Nat × Blk)) (k : V -> Option R) : (opR pg env o bl k).bind g = opR pg env o bl fun v => (k v).bind g := by
 unfold opR
 split
 ·split
  ·rw [decT_bind]
  ·rw [loadS_bind]
 ·split <;> rfl
 ·split
  ·split
   ·rw [cond_bind, ite_bind]; rfl
   ·rfl
  ·split
   ·rw [cond_bind, ite_bind]; rfl
   ·rw [cond_bind, pickI_bind]; rfl
   ·rfl
  ·rw [indexAddrK_bind]
 ·split
  ·split
   ·rw [cond_bind, bnd_bind]; simp only [ite_bind]; rfl
   ·rfl
  ·rw [sliceK_bind]
 ·split
  ·split
   ·rw [cond_bind, ite_bind]; rfl
   ·rfl
  ·rw [convK_bind]
 ·split
  ·split
   ·split
    ·rw [cond_bind]; rfl
    ·rfl
   ·rw [lenK_bind]
  ·rfl
 ·split
  ·split
   ·rw [cond_bind]
    congr 1
    split
    ·rw [cond_bind, dec1_bind]; simp only [cond_bind]; rfl
    ·rfl
   ·rfl
  ·rfl
 ·rw [opQ_bind]
theorem opB_bind (f : FuncId) (env : Env) (o : Oper) (bl : List (Nat × Blk)) (k : V -> List (Nat × Blk) -> Option R) : (opB pg f env o bl k).bind g = opB pg f env o bl fun v b => (k v b).bind g := by
 unfold opB
 split
 ·split
  ·split
   ·rw [newB_bind]
   ·rfl
  ·rfl
 ·split
  ·rw [cond_bind]
   congr 1
   ·split
    ·rw [cond_bind]; rfl
    ·rfl
   ·dsimp only
    rw [cond_bind]
    congr 1
    split
    ·rw [newB_bind]
    ·rfl
  ·rfl
 ·rw [storeS_bind]
 ·split <;> rfl
 ·split
  ·rw [makeS_bind]
  ·rfl
 ·split
  ·split
   ·rw [cond_bind]
    congr 1
    split
    ·split
     ·rw [cond_bind, newB_bind]
     ·rfl
    ·rfl
   ·rfl
  ·rfl
 ·split
  ·split
   ·split
    ·rw [cond_bind, ite_bind]; rfl
    ·rfl
   ·rw [convK_bind]
  ·rw [opR_bind]
 ·split
  ·rw [newB_bind]
  ·rfl
 ·split
  ·split
   ·rw [cond_bind]; rfl
   ·rfl
  ·rfl
 ·rw [opR_bind]
theorem opI_bind (f : FuncId) (env : Env) (o : Oper) (st : St) (k kp : V -> St -> Option R) :
  (opI pg f env o st k kp).bind g = opI pg f env o st (fun v s => (k v s).bind g) (fun v s => (kp v s).bind g) := by
 unfold opI
 rw [cond_bind]
 congr 1
 split
 ·split <;> rfl
 ·split
  ·split
   ·rw [cond_bind, appendS_bind]; rfl
   ·rfl
  ·rfl
 ·rfl
 ·rfl
 ·rfl
 ·rfl
 ·rw [opB_bind]
theorem evIOps_bind (f : FuncId) (nt : Nat) : ∀ (l : List Oper) (env : Env) (st : St) (k : Ex -> Env -> St -> Option R),
  (evIOps pg f nt l env st k).bind g = evIOps pg f nt l env st fun ex env st => (k ex env st).bind g
 | [], env, st, k => rfl
 | o :: l, env, st, k => by
  unfold evIOps
  split
  ·rw [opI_bind]
   congr 1
   funext v st'
   split
   ·exact evIOps_bind f nt l _ _ _
   ·rfl
  ·rfl
theorem evI_bind (f : FuncId) (nt : Nat) : ∀ (c : Code) (env : Env) (st : St) (k : Ex -> Env -> St -> Option R),
  (evI pg f nt c env st k).bind g = evI pg f nt c env st fun ex env st => (k ex env st).bind g := by
 intro c
 induction c with
 | seq a b iha ihb =>
  intro env st k
  unfold evI
  rw [iha]
  congr 1
  funext ex env st
  cases ex with
  | normal => exact ihb _ _ _
  | _ => rfl
 | cond c a b iha ihb =>
  intro env st k
  unfold evI
  split
  ·rw [cond_bind, iha, ihb]
  ·rfl
 | scope c ih => intro env st k; unfold evI; exact ih _ _ _
 | region id ops draw => intro env st k; unfold evI; rw [cond_bind, evIOps_bind]; rfl
 | _ => intro env st k; rfl
theorem inlK_bind (f : FuncId) (fn : Func) (vs : List V) (st : St) (k kp : V -> St -> Option R) :
  (inlK pg f fn vs st k kp).bind g = inlK pg f fn vs st (fun v s => (k v s).bind g) (fun v s => (kp v s).bind g) := by
 unfold inlK
 rw [cond_bind, evI_bind]
 congr 2
 funext ex env st
 have hr : ∀ k : V -> Option R, (resI fn env k).bind g = resI fn env fun v => (k v).bind g := fun k => by unfold resI; split <;> rfl
 cases ex with
 | normal => exact hr fun v => k v st
 | ret => exact hr fun v => k v st
 | _ => rfl
theorem opS_bind (D : DSem) (f : FuncId) (env : Env) (o : Oper) (st : St) (k kp : V -> St -> Option R) :
  (opS pg D f env o st k kp).bind g = opS pg D f env o st (fun v s => (k v s).bind g) (fun v s => (kp v s).bind g) := by
 unfold opS
 split
 ·split <;> rfl
 ·split
  ·split
   ·rw [cond_bind, appendS_bind]; rfl
   ·rfl
  ·rfl
 ·rfl
 ·split
  ·split <;> rfl
  ·rfl
 ·split
  ·split
   ·rw [cond_bind, cond_bind, callK_bind, inlK_bind]; rfl
   ·rfl
  ·rfl
 ·rw [cond_bind]; congr 1; split <;> rfl
 ·rw [opB_bind]
end
inductive Step where
 | val (v : V) (st : St)
 | pan (v : V) (st : St)
def step1 (pg : Pg) (D : DSem) (f : FuncId) (env : Env) (o : Oper) (st : St) : Option Step := opS pg D f env o st (fun v s => some (.val v s)) (fun v s => some (.pan v s))
theorem opS_step {R : Type} (pg : Pg) (D : DSem) (f : FuncId) (env : Env) (o : Oper) (st : St) (k kp : V -> St -> Option R) :
  opS pg D f env o st k kp = (step1 pg D f env o st).bind fun | .val v s => k v s | .pan v s => kp v s := by
 unfold step1
 rw [opS_bind]
 rfl
def stepB (pg : Pg) (f : FuncId) (env : Env) (o : Oper) (bl : List (Nat × Blk)) : Option (V × List (Nat × Blk)) := opB pg f env o bl fun v b => some (v, b)
theorem opB_step {R : Type} (pg : Pg) (f : FuncId) (env : Env) (o : Oper) (bl : List (Nat × Blk)) (k : V -> List (Nat × Blk) -> Option R) :
  opB pg f env o bl k = (stepB pg f env o bl).bind fun s => k s.1 s.2 := by
 unfold stepB
 rw [opB_bind]
 rfl
inductive CStep where
 | ret (v : V) (st : St) (r : Res)
 | pan (v : V) (st : St)
def call1 (pg : Pg) (D : DSem) (f : FuncId) (vs : List V) (d : Tmp) (st : St) (pn : Option (Option V)) : Option CStep := callK pg D f vs d st pn (fun v s r => some (.ret v s r)) (fun v s => some (.pan v s))
theorem callK_step {R : Type} (pg : Pg) (D : DSem) (f : FuncId) (vs : List V) (d : Tmp) (st : St) (pn : Option (Option V)) (k : V -> St -> Res -> Option R) (kp : V -> St -> Option R) :
  callK pg D f vs d st pn k kp = (call1 pg D f vs d st pn).bind fun | .ret v s r => k v s r | .pan v s => kp v s := by
 unfold call1
 rw [callK_bind]
 rfl
structure Lim {R : Type} (xs : Nat -> Option R) (x : Option R) : Prop where
 up : ∀ n r, xs n = some r -> xs (n + 1) = some r
 to : ∀ r, x = some r ↔ ∃ n, xs n = some r
theorem Lim.const {R : Type} (x : Option R) : Lim (fun _ => x) x := ⟨fun _ _ h => h, fun _ => ⟨fun h => ⟨0, h⟩, fun ⟨_, h⟩ => h⟩⟩
theorem Lim.le {R : Type} {xs : Nat -> Option R} {x : Option R} (h : Lim xs x) {n m : Nat} (hnm : n <= m) {r : R} (hn : xs n = some r) : xs m = some r := by
 induction hnm with
 | refl => exact hn
 | step _ ih => exact h.up _ _ ih
theorem Lim.bind {R S : Type} {xs : Nat -> Option R} {x : Option R} {fs : Nat -> R -> Option S} {f : R -> Option S} (h : Lim xs x) (hf : ∀ r, Lim (fun n => fs n r) (f r)) :
  Lim (fun n => (xs n).bind (fs n)) (x.bind f) := by
 refine ⟨fun n r hr => ?_, fun r => ⟨fun hr => ?_, fun ⟨n, hr⟩ => ?_⟩⟩
 ·obtain ⟨a, ha, hb⟩ := Option.bind_eq_some_iff.1 hr
  exact Option.bind_eq_some_iff.2 ⟨a, h.up _ _ ha, (hf a).up _ _ hb⟩
 ·obtain ⟨a, ha, hb⟩ := Option.bind_eq_some_iff.1 hr
  obtain ⟨n, hn⟩ := (h.to a).1 ha
  obtain ⟨m, hm⟩ := ((hf a).to r).1 hb
  exact ⟨max n m, Option.bind_eq_some_iff.2 ⟨a, h.le (Nat.le_max_left _ _) hn, (hf a).le (Nat.le_max_right _ _) hm⟩⟩
 ·obtain ⟨a, ha, hb⟩ := Option.bind_eq_some_iff.1 hr
  exact Option.bind_eq_some_iff.2 ⟨a, (h.to a).2 ⟨n, ha⟩, ((hf a).to r).2 ⟨n, hb⟩⟩
theorem lfp_iff {X R : Type} (Φ : (X -> Option R) -> X -> Option R) (hup : ∀ n x r, iter Φ n x = some r -> iter Φ (n + 1) x = some r) (x : X) (r : R) :
  lfp Φ x = some r ↔ ∃ n, iter Φ n x = some r := by
 have le : ∀ {n m : Nat} {x : X} {r : R}, n <= m -> iter Φ n x = some r -> iter Φ m x = some r := by
  intro n m x r h hn
  induction h with
  | refl => exact hn
  | step _ ih => exact hup _ _ _ ih
 unfold lfp
 constructor
 ·intro h
  split at h
  ·rename_i h'
   have := Classical.choose_spec h'
   cases h
   exact this
  ·cases h
 ·rintro ⟨n, hn⟩
  have h' : ∃ r n, iter Φ n x = some r := ⟨r, n, hn⟩
  rw [dif_pos h']
  obtain ⟨m, hm⟩ := Classical.choose_spec h'
  have h1 := le (Nat.le_max_left n m) hn
  have h2 := le (Nat.le_max_right n m) hm
  rw [h1] at h2
  cases h2
  rfl
theorem lfp_const {X R : Type} (g : X -> Option R) (x : X) : lfp (fun _ y => g y) x = g x := by
 have up : ∀ n x r, iter (fun (_ : X -> Option R) y => g y) n x = some r -> iter (fun (_ : X -> Option R) y => g y) (n + 1) x = some r := by
  intro n x r h
  cases n with
  | zero => cases h
  | succ n => exact h
 apply Option.ext
 intro r
 rw [lfp_iff _ up]
 constructor
 ·rintro ⟨n, h⟩
  cases n with
  | zero => cases h
  | succ n => exact h
 ·intro h; exact ⟨1, h⟩
theorem JR_eq (pg : Pg) (D : DSem) (f : FuncId) (nt : Nat) (ops : Array Oper) (draw : Bool) (k : K) (x : Env × St) : JR pg D f nt ops draw k x = evReg pg D f nt ops draw x.1 x.2 k := lfp_const _ x
def LimD (Ds : Nat -> DSem) (D : DSem) : Prop := ∀ f vs bl pn, Lim (fun n => Ds n f vs bl pn) (D f vs bl pn)
def LimK (ks : Nat -> K) (k : K) : Prop := ∀ ex env st, Lim (fun n => ks n ex env st) (k ex env st)
section
variable (pg : Pg) {Ds : Nat -> DSem} {D : DSem} (hD : LimD Ds D)
include hD
theorem call1_lim (f : FuncId) (vs : List V) (d : Tmp) (st : St) (pn : Option (Option V)) : Lim (fun n => call1 pg (Ds n) f vs d st pn) (call1 pg D f vs d st pn) := by
 unfold call1 callK
 split
 ·exact Lim.const _
 ·split
  ·exact Lim.const _
  ·split
   ·exact Lim.const _
   ·split
    ·exact Lim.const _
    ·split
     ·exact Lim.const _
     ·split
      ·exact Lim.const _
      ·split
       ·cases (((List.range 16).any fun p => st.used.contains (rid d p)) || Nat.blt 15 _ || !Nat.beq (rowsIn pg _).length _ || !Nat.beq _ _ || (pg.pan f).isSome) with
        | true => exact Lim.const none
        | false => exact Lim.bind (hD _ _ _ _) fun _ => Lim.const _
       ·cases (((List.range _).any fun p => st.used.contains (rid d p)) || Nat.blt 15 _ || !Nat.beq (rowsIn pg _).length _ || !Nat.beq _ _) with
        | true => exact Lim.const none
        | false => exact Lim.bind (hD _ _ _ _) fun _ => Lim.const _
theorem step1_lim (f : FuncId) (env : Env) (o : Oper) (st : St) : Lim (fun n => step1 pg (Ds n) f env o st) (step1 pg D f env o st) := by
 unfold step1 opS
 split
 case h_5 =>
  split
  ·split
   ·cases (Nat.beq (Array.size _) (Array.size _)) with
    | false => exact Lim.const none
    | true =>
     simp only [callK_step, cond_true]
     cases pg.inl _ with
     | true => exact Lim.const _
     | false => exact Lim.bind (call1_lim pg hD _ _ _ _ _) fun s => by cases s <;> exact Lim.const _
   ·exact Lim.const _
  ·exact Lim.const _
 all_goals exact Lim.const _
theorem evOps_lim {ks : Nat -> K} {k : K} (hk : LimK ks k) (f : FuncId) (nt : Nat) (all : List Oper) : ∀ (ops : List Oper) (env : Env) (st : St),
  Lim (fun n => evOps pg (Ds n) f nt all ops env st (ks n)) (evOps pg D f nt all ops env st k)
 | [], env, st => hk _ _ _
 | o :: rest, env, st => by
  have go : ∀ (env : Env), Lim
    (fun n => opS pg (Ds n) f env o st (fun v st' => match putE nt env o.dst v with | some env' => evOps pg (Ds n) f nt all rest env' st' (ks n) | none => none) (fun v st' => ks n (.pan v) env st'))
    (opS pg D f env o st (fun v st' => match putE nt env o.dst v with | some env' => evOps pg D f nt all rest env' st' k | none => none) (fun v st' => k (.pan v) env st')) := by
   intro env
   simp only [opS_step (R := Res)]
   refine Lim.bind (step1_lim pg hD f env o st) fun s => ?_
   cases s with
   | val v st' =>
    dsimp only
    cases putE nt env o.dst v with
    | some env' => exact evOps_lim hk f nt all rest env' st'
    | none => exact Lim.const _
   | pan v st' => exact hk _ _ _
  have skip : ∀ (env : Env), Lim
    (fun n => match putE nt env o.dst .hole with | some env' => evOps pg (Ds n) f nt all rest env' st (ks n) | none => none)
    (match putE nt env o.dst .hole with | some env' => evOps pg D f nt all rest env' st k | none => none) := by
   intro env
   cases putE nt env o.dst .hole with
   | some env' => exact evOps_lim hk f nt all rest env' st
   | none => exact Lim.const _
  unfold evOps
  dsimp only
  cases o.guard with
  | none => exact go env
  | some gw =>
   obtain ⟨g, want⟩ := gw
   dsimp only
   cases dstOf all g with
   | none => exact Lim.const _
   | some t =>
    dsimp only
    cases env.get t with
    | bool b =>
     dsimp only
     cases want with
     | true => cases b with
      | true => exact go _
      | false => exact skip _
     | false => cases b with
      | true => exact skip _
      | false => exact go _
    | hole => exact skip _
    | _ => exact Lim.const _
theorem goDraw_lim (f : FuncId) (env : Env) (o : Oper) (ft : Ft) (ok : Ft -> Bool) (st : St) {kks kps : Nat -> Ft -> V -> St -> Option Res} {kk kp : Ft -> V -> St -> Option Res} (hk : ∀ ft v st, Lim (fun n => kks n ft v st) (kk ft v st)) (hp : ∀ ft v st, Lim (fun n => kps n ft v st) (kp ft v st)) :
  Lim (fun n => goDraw pg (Ds n) f env o ft ok st (kks n) (kps n)) (goDraw pg D f env o ft ok st kk kp) := by
 unfold goDraw
 cases (!ok ft || notDrawn o) with
 | true => exact Lim.const none
 | false =>
  cases isRow o with
  | true =>
   dsimp only [cond_true, cond_false]
   simp only [opS_step (R := Res)]
   refine Lim.bind (step1_lim pg hD f _ o _) fun s => ?_
   cases s with
   | val v st' =>
    dsimp only
    cases (List.all _ _) with
    | true => exact hk _ _ _
    | false => exact Lim.const none
   | pan v st' =>
    dsimp only
    cases (List.all _ _) with
    | true => exact hp _ _ _
    | false => exact Lim.const none
  | false =>
   dsimp only [cond_true, cond_false]
   simp only [opB_step (R := Res)]
   refine Lim.bind (Lim.const _) fun s => ?_
   cases (List.all _ _) with
   | true => exact hk _ _ _
   | false => exact Lim.const none
theorem evDraw_lim {ks : Nat -> K} {k : K} (hk : LimK ks k) (f : FuncId) (nt : Nat) (ops : Array Oper) (preds : List (List Nat)) (n0 : List Nat) : ∀ (rest : List Oper) (i : Nat) (env : Env) (st : St) (tr : List (Nat × Oper × Ft)) (md : Md),
  Lim (fun n => evDraw pg (Ds n) f nt ops preds n0 i rest env st tr md (ks n)) (evDraw pg D f nt ops preds n0 i rest env st tr md k)
 | [], i, env, st, tr, md => by
  unfold evDraw
  cases md with
  | none => exact hk _ _ _
  | some m =>
   dsimp only
   cases canon pg f n0 (undefE ops env, m.2.2) with
   | some x => exact hk _ _ _
   | none => exact Lim.const _
 | o :: rest, i, env, st, tr, md => by
  have go : ∀ (env : Env), Lim
    (fun n => goDraw pg (Ds n) f (envF env (tmpsOf o)) o (footOf (envF env (tmpsOf o)) st.bl o) (fun ft => okDraw ops (preds.getD i []) o ft tr && md.ok n0 o ft) st (fun ft v st' => match putE nt env o.dst v with
     | some env' => bif recheck pg f (preds.getD i []) env' st'.bl ft ((i, o, ft) :: tr) tr then evDraw pg (Ds n) f nt ops preds n0 (i + 1) rest env' st' ((i, o, ft) :: tr) md (ks n) else none
     | none => none)
     (fun ft v st' => bif okPan preds n0 i tr then (match pur pg [] pdeep v with
     | some v' => evDraw pg (Ds n) f nt ops preds n0 (i + 1) rest env st ((i, o, ft) :: tr) (some (i, v', st')) (ks n)
     | none => none) else none))
    (goDraw pg D f (envF env (tmpsOf o)) o (footOf (envF env (tmpsOf o)) st.bl o) (fun ft => okDraw ops (preds.getD i []) o ft tr && md.ok n0 o ft) st (fun ft v st' => match putE nt env o.dst v with
     | some env' => bif recheck pg f (preds.getD i []) env' st'.bl ft ((i, o, ft) :: tr) tr then evDraw pg D f nt ops preds n0 (i + 1) rest env' st' ((i, o, ft) :: tr) md k else none
     | none => none)
     (fun ft v st' => bif okPan preds n0 i tr then (match pur pg [] pdeep v with
     | some v' => evDraw pg D f nt ops preds n0 (i + 1) rest env st ((i, o, ft) :: tr) (some (i, v', st')) k
     | none => none) else none)) := by
   intro env
   refine goDraw_lim pg hD f _ o _ _ st (fun ft v st' => ?_) fun ft v st' => ?_
   ·cases putE nt env o.dst v with
    | some env' =>
     dsimp only
     cases recheck pg f (preds.getD i []) env' st'.bl ft ((i, o, ft) :: tr) tr with
     | true => exact evDraw_lim hk f nt ops preds n0 rest _ env' _ _ _
     | false => exact Lim.const none
    | none => exact Lim.const _
   ·cases okPan preds n0 i tr with
    | false => exact Lim.const none
    | true =>
     dsimp only [cond_true]
     cases pur pg [] pdeep v with
     | none => exact Lim.const none
     | some v' => exact evDraw_lim hk f nt ops preds n0 rest _ env _ _ _
  have skip : ∀ (env : Env), Lim
    (fun n => bif !okDraw ops (preds.getD i []) o ⟨[], [], false⟩ tr || notDrawn o then none else
     (match putE nt env o.dst .hole with | some env' => evDraw pg (Ds n) f nt ops preds n0 (i + 1) rest env' st ((i, o, ⟨[], [], false⟩) :: tr) md (ks n) | none => none))
    (bif !okDraw ops (preds.getD i []) o ⟨[], [], false⟩ tr || notDrawn o then none else
     (match putE nt env o.dst .hole with | some env' => evDraw pg D f nt ops preds n0 (i + 1) rest env' st ((i, o, ⟨[], [], false⟩) :: tr) md k | none => none)) := by
   intro env
   cases (!okDraw ops (preds.getD i []) o ⟨[], [], false⟩ tr || notDrawn o) with
   | true => exact Lim.const none
   | false =>
    dsimp only [cond_false]
    cases putE nt env o.dst .hole with
    | some env' => exact evDraw_lim hk f nt ops preds n0 rest _ env' st _ _
    | none => exact Lim.const _
  unfold evDraw
  cases md.waits preds i with
  | true => exact evDraw_lim hk f nt ops preds n0 rest _ env st tr md
  | false =>
  dsimp only [cond_false]
  cases o.guard with
  | none => exact go env
  | some gw =>
   obtain ⟨g, want⟩ := gw
   dsimp only
   cases dstOf ops.toList g with
   | none => exact Lim.const _
   | some t =>
    dsimp only
    cases env.get t with
    | bool b =>
     dsimp only
     cases want with
     | true => cases b with
      | true => exact go _
      | false => exact skip _
     | false => cases b with
      | true => exact skip _
      | false => exact go _
    | hole => exact skip _
    | _ => exact Lim.const _
theorem evReg_lim {ks : Nat -> K} {k : K} (hk : LimK ks k) (f : FuncId) (nt : Nat) (ops : Array Oper) (draw : Bool) (env : Env) (st : St) :
  Lim (fun n => evReg pg (Ds n) f nt ops draw env st (ks n)) (evReg pg D f nt ops draw env st k) := by
 unfold evReg
 cases draw with
 | true => cases (okTopo 0 ops.toList) with
  | true => exact evDraw_lim pg hD hk f nt _ _ _ _ _ env st _ _
  | false => exact Lim.const none
 | false => exact evOps_lim pg hD hk f nt _ _ env st
end
theorem kSeq_lim {ks : Nat -> K} {k : K} (hk : LimK ks k) {es : Nat -> Env -> St -> K -> Option Res} {e : Env -> St -> K -> Option Res}
  (he : ∀ env st, Lim (fun n => es n env st (ks n)) (e env st k)) : LimK (fun n => kSeq (es n) (ks n)) (kSeq e k) := by
 intro ex env st
 cases ex with
 | normal => exact he env st
 | _ => exact hk _ _ _
theorem kBlk_lim {ks : Nat -> K} {k : K} (hk : LimK ks k) (id : Nat) : LimK (fun n => kBlk id (ks n)) (kBlk id k) := by
 intro ex env st
 cases ex with
 | exit id' =>
  unfold kBlk
  dsimp only
  cases Nat.beq id' id with
  | true => exact hk _ _ _
  | false => exact hk _ _ _
 | _ => exact hk _ _ _
theorem kLoop_lim {ks : Nat -> K} {k : K} (hk : LimK ks k) (cn : Env × St -> Option (Env × St)) {rs : Nat -> Env × St -> Option Res} {r : Env × St -> Option Res}
  (hr : ∀ x, Lim (fun n => rs n x) (r x)) : LimK (fun n => kLoop cn (rs n) (ks n)) (kLoop cn r k) := by
 intro ex env st
 cases ex with
 | normal =>
  unfold kLoop
  dsimp only
  cases cn (env, st) with
  | some y => exact hr y
  | none => exact Lim.const _
 | _ => exact hk _ _ _
theorem LP_lim {ks : Nat -> K} {k : K} (hk : LimK ks k) (cn : Env × St -> Option (Env × St)) {es : Nat -> Env -> St -> K -> Option Res} {e : Env -> St -> K -> Option Res}
  (he : ∀ (ks : Nat -> K) (k : K), LimK ks k -> ∀ env st, Lim (fun n => es n env st (ks n)) (e env st k))
  (hs : ∀ n (k' : K) (ks' : Nat -> K), LimK ks' k' -> ∀ env st, Lim (fun m => es n env st (ks' m)) (es n env st k'))
  (hee : ∀ (k' : K) (ks' : Nat -> K), LimK ks' k' -> ∀ env st, Lim (fun m => e env st (ks' m)) (e env st k'))
  (x : Env × St) : Lim (fun n => LP (es n) cn (ks n) x) (LP e cn k x) := by
 have it : ∀ m x, Lim (fun n => iter (fun rec x => es n x.1 x.2 (kLoop cn rec (ks n))) m x) (iter (fun rec x => e x.1 x.2 (kLoop cn rec k)) m x) := by
  intro m
  induction m with
  | zero => intro x; exact Lim.const _
  | succ m ih => intro x; exact he _ _ (kLoop_lim hk cn ih) x.1 x.2
 have upn : ∀ n m x r, iter (fun rec x => es n x.1 x.2 (kLoop cn rec (ks n))) m x = some r -> iter (fun rec x => es n x.1 x.2 (kLoop cn rec (ks n))) (m + 1) x = some r := by
  intro n m
  induction m with
  | zero => intro x r h; cases h
  | succ m ih =>
   intro x r h
   have hl : LimK (fun j => kLoop cn (iter (fun rec x => es n x.1 x.2 (kLoop cn rec (ks n))) (if j = 0 then m else m + 1)) (ks n)) (kLoop cn (iter (fun rec x => es n x.1 x.2 (kLoop cn rec (ks n))) (m + 1)) (ks n)) := by
    refine kLoop_lim (ks := fun _ => ks n) (k := ks n) (fun _ _ _ => Lim.const _) cn (rs := fun j => iter (fun rec x => es n x.1 x.2 (kLoop cn rec (ks n))) (if j = 0 then m else m + 1)) (r := iter (fun rec x => es n x.1 x.2 (kLoop cn rec (ks n))) (m + 1)) fun y => ⟨fun j r hj => ?_, fun r => ⟨fun h => ⟨1, h⟩, fun ⟨j, hj⟩ => ?_⟩⟩
    ·by_cases h0 : j = 0
     ·subst h0; simpa using ih y r (by simpa using hj)
     ·simpa [h0] using hj
    ·by_cases h0 : j = 0
     ·subst h0; exact ih y r (by simpa using hj)
     ·simpa [h0] using hj
   exact ((hs n _ _ hl x.1 x.2).to r).2 ⟨0, by simpa [iter] using h⟩
 have up : ∀ m x r, iter (fun rec x => e x.1 x.2 (kLoop cn rec k)) m x = some r -> iter (fun rec x => e x.1 x.2 (kLoop cn rec k)) (m + 1) x = some r := by
  intro m x r h
  obtain ⟨n, hn⟩ := ((it m x).to r).1 h
  exact ((it (m + 1) x).to r).2 ⟨n, upn n m x r hn⟩
 refine ⟨fun n r h => ?_, fun r => ⟨fun h => ?_, fun ⟨n, h⟩ => ?_⟩⟩
 ·obtain ⟨m, hm⟩ := (lfp_iff _ (upn n) x r).1 h
  exact (lfp_iff _ (upn (n + 1)) x r).2 ⟨m, (it m x).up n r hm⟩
 ·obtain ⟨m, hm⟩ := (lfp_iff _ up x r).1 h
  obtain ⟨n, hn⟩ := ((it m x).to r).1 hm
  exact ⟨n, (lfp_iff _ (upn n) x r).2 ⟨m, hn⟩⟩
 ·obtain ⟨m, hm⟩ := (lfp_iff _ (upn n) x r).1 h
  exact (lfp_iff _ up x r).2 ⟨m, ((it m x).to r).2 ⟨n, hm⟩⟩
theorem ev_lim (pg : Pg) (f : FuncId) (nt : Nat) : ∀ (c : Code) {Ds : Nat -> DSem} {D : DSem} (hD : LimD Ds D) {ks : Nat -> K} {k : K} (hk : LimK ks k) (env : Env) (st : St),
  Lim (fun n => ev pg (Ds n) f nt c env st (ks n)) (ev pg D f nt c env st k) := by
 intro c
 induction c with
 | skip => intro Ds D hD ks k hk env st; exact hk _ _ _
 | label l => intro Ds D hD ks k hk env st; exact hk _ _ _
 | seq a b iha ihb =>
  intro Ds D hD ks k hk env st
  exact iha hD (kSeq_lim hk fun env st => ihb hD hk env st) env st
 | cond c a b iha ihb =>
  intro Ds D hD ks k hk env st
  simp only [ev]
  cases evO pg env 0 c with
  | bool t => cases t with
   | true => exact iha hD hk _ st
   | false => exact ihb hD hk _ st
  | _ => exact Lim.const _
 | block id c ih =>
  intro Ds D hD ks k hk env st
  exact ih hD (kBlk_lim hk id) env st
 | loop c ih =>
  intro Ds D hD ks k hk env st
  simp only [ev]
  cases canon pg f (keysOf st.bl) (env, st) with
  | none => exact Lim.const _
  | some x =>
   dsimp only
   cases Nat.beq (pg.unr f (headId c)) 0 with
   | false =>
    rw [cond_false]
    simp only [cond_false]
    have it : ∀ m x, Lim (fun n => iter (fun rec y => ev pg (Ds n) f nt c y.1 y.2 (kLoop (canon pg f (keysOf st.bl)) rec (ks n))) m x) (iter (fun rec y => ev pg D f nt c y.1 y.2 (kLoop (canon pg f (keysOf st.bl)) rec k)) m x) := by
     intro m
     induction m with
     | zero => intro x; exact Lim.const _
     | succ m ihm => intro x; exact ih hD (kLoop_lim hk _ ihm) x.1 x.2
    exact it _ _
   | true =>
   rw [cond_true]
   simp only [cond_true]
   exact LP_lim hk _ (fun ks k hk env st => ih hD hk env st) (fun n k' ks' hk' env st => ih (Ds := fun _ => Ds n) (D := Ds n) (fun _ _ _ _ => Lim.const _) hk' env st)
    (fun k' ks' hk' env st => ih (Ds := fun _ => D) (D := D) (fun _ _ _ _ => Lim.const _) hk' env st) x
 | scope c ih => intro Ds D hD ks k hk env st; exact ih hD hk env st
 | exit id => intro Ds D hD ks k hk env st; exact hk _ _ _
 | ret => intro Ds D hD ks k hk env st; exact hk _ _ _
 | region id ops draw =>
  intro Ds D hD ks k hk env st
  simp only [ev]
  cases (pg.joins f).contains id with
  | true =>
   dsimp only [cond_true]
   cases canon pg f (keysOf st.bl) (env, st) with
   | none => exact Lim.const _
   | some x =>
    dsimp only
    simp only [JR_eq]
    exact evReg_lim pg hD hk f nt ops draw x.1 x.2
  | false => exact evReg_lim pg hD hk f nt ops draw env st
 | goto l => intro Ds D hD ks k hk env st; exact Lim.const _
 | rangeFunc f ps a b iha ihb => intro Ds D hD ks k hk env st; exact Lim.const _
 | refuse w => intro Ds D hD ks k hk env st; exact Lim.const _
theorem runDef_lim (pg : Pg) {Ds : Nat -> DSem} {D : DSem} (hD : LimD Ds D) (k : Option V -> St -> Option Res) : ∀ (l : List (FuncId × List V)) (cur : Option V) (st : St),
  Lim (fun n => runDef pg (Ds n) cur l st k) (runDef pg D cur l st k)
 | [], _, _ => Lim.const _
 | (f, cap) :: l, cur, st => by
  simp only [runDef, callK_step]
  refine Lim.bind (call1_lim pg hD _ _ _ _ _) fun s => ?_
  cases s with
  | ret v st' r =>
   dsimp only [Res.onPn]
   split
   ·exact runDef_lim pg hD k l none st'
   ·exact runDef_lim pg hD k l _ st'
   ·exact Lim.const _
  | pan v st' => exact Lim.const _
theorem kFin_lim (pg : Pg) {Ds : Nat -> DSem} {D : DSem} (hD : LimD Ds D) (o : Option (List Nat)) (fn : Func) (m : Nat) : LimK (fun n => kFin pg (Ds n) o fn m) (kFin pg D o fn m) := by
 intro ex env st
 cases ex with
 | normal => exact runDef_lim pg hD _ _ _ _
 | ret => exact runDef_lim pg hD _ _ _ _
 | pan v =>
  show Lim (fun n => kFin pg (Ds n) o fn m (.pan v) env st) (kFin pg D o fn m (.pan v) env st)
  unfold kFin
  dsimp only
  split
  ·exact Lim.const _
  ·split
   ·exact runDef_lim pg hD _ _ _ _
   ·exact Lim.const _
 | exit id => exact Lim.const _
theorem kFinD_lim (pg : Pg) {Ds : Nat -> DSem} {D : DSem} (hD : LimD Ds D) (o : Option (List Nat)) (fn : Func) (m : Nat) : LimK (fun n => kFinD pg (Ds n) o fn m) (kFinD pg D o fn m) := by
 intro ex env st
 show Lim (fun n => kFinD pg (Ds n) o fn m ex env st) (kFinD pg D o fn m ex env st)
 unfold kFinD
 split
 ·exact kFin_lim pg hD o fn m ex env st
 ·exact Lim.const _
theorem evF_lim (pg : Pg) {Ds : Nat -> DSem} {D : DSem} (hD : LimD Ds D) : LimD (fun n => evF pg (Ds n)) (evF pg D) := by
 intro f vs bl pn
 show Lim (fun n => evF pg (Ds n) f vs bl pn) (evF pg D f vs bl pn)
 simp only [evF]
 cases hn : pg.nat f with
 | some g => cases pn with
  | none => exact Lim.const (g vs bl)
  | some c => exact Lim.const none
 | none =>
  dsimp only
  cases hf : pg.P.funcs[f]? with
  | none => exact Lim.const none
  | some fn =>
   dsimp only
   cases hb : (fn.body.isNone || fn.name == "runtime.NumGoroutine" || Nat.blt fn.ntmps vs.length) with
   | true => exact Lim.const none
   | false =>
    rw [cond_false]
    split
    ·exact ev_lim pg f fn.ntmps _ hD (kFin_lim pg hD _ fn _) _ _
    ·split
     ·split
      ·exact evOps_lim pg hD (kSeq_lim (kFinD_lim pg hD _ fn _) fun env st => ev_lim pg f fn.ntmps _ hD (kFinD_lim pg hD _ fn _) env st) f fn.ntmps _ _ _ _
      ·exact Lim.const _
     ·exact ev_lim pg f fn.ntmps _ hD (kFinD_lim pg hD _ fn _) _ _
theorem call_up (pg : Pg) : ∀ n f vs bl pn r, call pg n f vs bl pn = some r -> call pg (n + 1) f vs bl pn = some r
 | 0, _, _, _, _, _, h => by cases h
 | n + 1, f, vs, bl, pn, r, h => by
  have ih := call_up pg n
  have hl : LimD (fun j => call pg (if j = 0 then n else n + 1)) (call pg (n + 1)) := by
   intro f vs bl pn
   refine ⟨fun j r hj => ?_, fun r => ⟨fun h => ⟨1, h⟩, fun ⟨j, hj⟩ => ?_⟩⟩
   ·by_cases h0 : j = 0
    ·subst h0; simpa using ih _ _ _ _ _ (by simpa using hj)
    ·simpa [h0] using hj
   ·by_cases h0 : j = 0
    ·subst h0; exact ih _ _ _ _ _ (by simpa using hj)
    ·simpa [h0] using hj
  exact ((evF_lim pg hl f vs bl pn).to r).2 ⟨0, by simpa [call] using h⟩
theorem den_iff (pg : Pg) (f : FuncId) (vs : List V) (bl : List Blk) (pn : Option (Option V)) (r : Res) : den pg f vs bl pn = some r ↔ ∃ n, call pg n f vs bl pn = some r := by
 have le : ∀ {n m : Nat} {r : Res}, n <= m -> call pg n f vs bl pn = some r -> call pg m f vs bl pn = some r := by
  intro n m r h hn
  induction h with
  | refl => exact hn
  | step _ ih => exact call_up pg _ _ _ _ _ _ ih
 unfold den
 constructor
 ·intro h
  split at h
  ·rename_i h'
   have := Classical.choose_spec h'
   cases h
   exact this
  ·cases h
 ·rintro ⟨n, hn⟩
  have h' : ∃ r n, call pg n f vs bl pn = some r := ⟨r, n, hn⟩
  rw [dif_pos h']
  obtain ⟨m, hm⟩ := Classical.choose_spec h'
  have h1 := le (Nat.le_max_left n m) hn
  have h2 := le (Nat.le_max_right n m) hm
  rw [h1] at h2
  cases h2
  rfl
theorem den_lim (pg : Pg) : LimD (call pg) (den pg) := fun f vs bl pn => ⟨fun n r h => call_up pg n f vs bl pn r h, fun r => den_iff pg f vs bl pn r⟩
theorem den_eq (pg : Pg) (f : FuncId) (vs : List V) (bl : List Blk) (pn : Option (Option V)) : den pg f vs bl pn = evF pg (den pg) f vs bl pn := by
 have h := evF_lim pg (den_lim pg) f vs bl pn
 apply Option.ext
 intro r
 constructor
 ·intro hd
  obtain ⟨n, hn⟩ := (den_iff pg f vs bl pn r).1 hd
  cases n with
  | zero => cases hn
  | succ n => exact (h.to r).2 ⟨n, hn⟩
 ·intro he
  obtain ⟨n, hn⟩ := (h.to r).1 he
  exact (den_iff pg f vs bl pn r).2 ⟨n + 1, hn⟩
theorem LP_eq (pg : Pg) (D : DSem) (f : FuncId) (nt : Nat) (c : Code) (cn : Env × St -> Option (Env × St)) (k : K) (x : Env × St) :
  LP (ev pg D f nt c) cn k x = ev pg D f nt c x.1 x.2 (kLp (ev pg D f nt c) cn k) := by
 have hc : ∀ {ks : Nat -> K} {k : K}, LimK ks k -> ∀ env st, Lim (fun n => ev pg D f nt c env st (ks n)) (ev pg D f nt c env st k) :=
  fun hk env st => ev_lim pg f nt c (Ds := fun _ => D) (D := D) (fun _ _ _ _ => Lim.const _) hk env st
 have up : ∀ m x r, iter (fun rec x => ev pg D f nt c x.1 x.2 (kLoop cn rec k)) m x = some r -> iter (fun rec x => ev pg D f nt c x.1 x.2 (kLoop cn rec k)) (m + 1) x = some r := by
  intro m
  induction m with
  | zero => intro x r h; cases h
  | succ m ih =>
   intro x r h
   have hl : LimK (fun j => kLoop cn (iter (fun rec x => ev pg D f nt c x.1 x.2 (kLoop cn rec k)) (if j = 0 then m else m + 1)) k) (kLoop cn (iter (fun rec x => ev pg D f nt c x.1 x.2 (kLoop cn rec k)) (m + 1)) k) := by
    refine kLoop_lim (ks := fun _ => k) (k := k) (fun _ _ _ => Lim.const _) cn (rs := fun j => iter (fun rec x => ev pg D f nt c x.1 x.2 (kLoop cn rec k)) (if j = 0 then m else m + 1)) (r := iter (fun rec x => ev pg D f nt c x.1 x.2 (kLoop cn rec k)) (m + 1)) fun y => ⟨fun j r hj => ?_, fun r => ⟨fun h => ⟨1, h⟩, fun ⟨j, hj⟩ => ?_⟩⟩
    ·by_cases h0 : j = 0
     ·subst h0; simpa using ih y r (by simpa using hj)
     ·simpa [h0] using hj
    ·by_cases h0 : j = 0
     ·subst h0; exact ih y r (by simpa using hj)
     ·simpa [h0] using hj
   exact ((hc hl x.1 x.2).to r).2 ⟨0, by simpa [iter] using h⟩
 have hL : ∀ x, Lim (fun m => iter (fun rec x => ev pg D f nt c x.1 x.2 (kLoop cn rec k)) m x) (LP (ev pg D f nt c) cn k x) :=
  fun x => ⟨fun m r h => up m x r h, fun r => lfp_iff _ up x r⟩
 have h2 := hc (kLoop_lim (ks := fun _ => k) (k := k) (fun _ _ _ => Lim.const _) cn hL) x.1 x.2
 apply Option.ext
 intro r
 constructor
 ·intro h
  obtain ⟨m, hm⟩ := ((hL x).to r).1 h
  exact (h2.to r).2 ⟨m, up m x r hm⟩
 ·intro h
  obtain ⟨m, hm⟩ := (h2.to r).1 h
  exact ((hL x).to r).2 ⟨m + 1, hm⟩
end Go.Proofs.Ab
namespace Go.Proofs.Ab
open Go
def TokFit (tok : Tok) (base : Option Addr) (cap len : Nat) : Prop :=
 match tok with | .no => True | .nil => base = none ∧ cap = 0 ∧ len = 0 | .nn => base ≠ none | .row _ => False
inductive PRep (P : Program) (w : World) (prot : Nat -> Nat -> Prop) : V -> Value -> Prop where
 | int (k : IntKind) (n : Int) : PRep P w prot (.int k n) (.int k n)
 | bool (b : Bool) : PRep P w prot (.bool b) (.bool b)
 | str (s : ByteArray) : PRep P w prot (.str s) (.string s)
 | nilp : PRep P w prot .nilp (.pointer none)
 | nili : PRep P w prot .nili .nilIface
 | nilf : PRep P w prot .nilf .nilFunc
 | iface (t : TypeId) {v : V} {x : Value} (h : PRep P w prot v x) : PRep P w prot (.iface t v) (.iface t x)
 | fn (f : FuncId) : PRep P w prot (.fn f []) (.func (.func f) #[] #[])
 | agg {cs : List V} {xs : Array Value} (hl : cs.length = xs.size) (h : ∀ j, j < cs.length -> PRep P w prot (cs.getD j .undef) (xs.getD j Go.undef)) : PRep P w prot (.agg cs) (.agg xs)
 | tup {cs : List V} {xs : Array Value} (hl : cs.length = xs.size) (h : ∀ j, j < cs.length -> PRep P w prot (cs.getD j .undef) (xs.getD j Go.undef)) : PRep P w prot (.tup cs) (.tuple xs)
 | sl {tok : Tok} {e : TypeId} {es : List (List V)} {base : Option Addr} {cap : Nat} (f : Nat -> Nat -> Value) (b o : Nat)
   (ht : TokFit tok base cap es.length) (hb : (es ≠ [] -> base = some ⟨b, o, none⟩) ∧ es.length <= cap) (hl : ∀ i, i < es.length -> (es.getD i []).length = sz P e)
   (hc : ∀ i j, i < es.length -> j < sz P e -> prot b (o + i * sz P e + j) ∧ w.cell? ⟨b, o + i * sz P e + j, none⟩ = some (f i j) ∧ (f i j).oneCell' = true)
   (hr : ∀ i j, i < es.length -> j < sz P e -> PRep P w prot ((es.getD i []).getD j .undef) (f i j)) : PRep P w prot (.sl tok e es) (.slice base es.length cap)
 | ptr {cs : List V} {off : Nat} (f : Nat -> Value) (b o : Nat)
   (hc : ∀ j, j < cs.length -> prot b (o + j) ∧ w.cell? ⟨b, o + j, none⟩ = some (f j) ∧ (f j).oneCell' = true)
   (hr : ∀ j, j < cs.length -> PRep P w prot (cs.getD j .undef) (f j)) : PRep P w prot (.ptr cs off) (.pointer (some ⟨b, o + off, none⟩))
theorem PRep.mono {P : Program} {w w' : World} {prot prot' : Nat -> Nat -> Prop} (hx : ∀ b x, prot b x -> prot' b x ∧ w'.cell? ⟨b, x, none⟩ = w.cell? ⟨b, x, none⟩) {v : V} {x : Value}
  (h : PRep P w prot v x) : PRep P w' prot' v x := by
 induction h with
 | int k n => exact .int k n
 | bool b => exact .bool b
 | str s => exact .str s
 | nilp => exact .nilp
 | nili => exact .nili
 | nilf => exact .nilf
 | iface t _ ih => exact .iface t ih
 | fn f => exact .fn f
 | agg hl _ ih => exact .agg hl ih
 | tup hl _ ih => exact .tup hl ih
 | sl f b o ht hb hl hc _ ih => exact .sl f b o ht hb hl (fun i j hi hj => ⟨(hx _ _ (hc i j hi hj).1).1, (hx _ _ (hc i j hi hj).1).2.trans (hc i j hi hj).2.1, (hc i j hi hj).2.2⟩) ih
 | ptr f b o hc _ ih => exact .ptr f b o (fun j hj => ⟨(hx _ _ (hc j hj).1).1, (hx _ _ (hc j hj).1).2.trans (hc j hj).2.1, (hc j hj).2.2⟩) ih
structure Cx where
 w : World
 blk : Nat -> Option (Nat × Nat × Nat)
 row : Nat -> Option (Value × TypeId × Nat)
 prot : Nat -> Nat -> Prop
 out : Nat -> Prop
def encL (l : List Int) : Value := .tuple (l.map fun n => Value.int .i64 n).toArray
def encP (ps : List (List Int)) : Value := .tuple (ps.map encL).toArray
theorem map_inj_list {α β : Type} {f : α -> β} (hf : ∀ a b, f a = f b -> a = b) : ∀ {l m : List α}, l.map f = m.map f -> l = m
 | [], [], _ => rfl
 | [], _ :: _, h => by cases h
 | _ :: _, [], h => by cases h
 | a :: l, b :: m, h => by
  rw [List.map_cons, List.map_cons] at h
  injection h with h1 h2
  rw [hf _ _ h1, map_inj_list hf h2]
theorem encL_inj {a b : List Int} (h : encL a = encL b) : a = b := by
 unfold encL at h
 injection h with h
 refine map_inj_list (fun a b h => by injection h) (f := fun n => Value.int .i64 n) ?_
 simpa using congrArg Array.toList h
theorem encP_inj {a b : List (List Int)} (h : encP a = encP b) : a = b := by
 unfold encP at h
 injection h with h
 refine map_inj_list (fun a b h => encL_inj h) (f := encL) ?_
 simpa using congrArg Array.toList h
inductive VRep (P : Program) (c : Cx) : V -> Value -> Prop where
 | pure {v : V} {x : Value} (h : PRep P c.w c.prot v x) : VRep P c v x
 | ref {id b o n : Nat} (off : Nat) (h : c.blk id = some (b, o, n)) : VRep P c (.ref id off) (.pointer (some ⟨b, o + off, none⟩))
 | el {id b o n : Nat} (e : TypeId) (i j : Nat) (h : c.blk id = some (b, o, n)) (hi : i < n) : VRep P c (.el id e i j) (.pointer (some ⟨b, o + i * sz P e + j, none⟩))
 | arr {id b o n : Nat} (e : TypeId) (cap : Nat) (h : c.blk id = some (b, o, n)) (hcap : n <= cap) : VRep P c (.arr id e) (.slice (some ⟨b, o, none⟩) n cap)
 | sub {id b o n : Nat} (e : TypeId) (off len cap : Nat) (h : c.blk id = some (b, o, n)) (hl : off + len <= n) :
   VRep P c (.sub id e off len) (.slice (some ⟨b, o + (if len = 0 then 0 else off * sz P e), none⟩) len cap)
 | mp {id b n : Nat} (h : c.blk id = some (b, 0, n)) : VRep P c (.mp id) (.map (some b))
 | row {t : Nat} {e : TypeId} {es : List (List V)} {base : Option Addr} {cap : Nat} (h : PRep P c.w c.prot (.sl .no e es) (.slice base es.length cap))
   (hr : c.row t = some (.slice base es.length cap, e, es.length)) (hn : es = [] -> base = none ∧ cap = 0) : VRep P c (.sl (.row t) e es) (.slice base es.length cap)
 | fr {t : Nat} {ps : List (List Int)} {x : Value} {eO eI : TypeId} (hr : c.row t = some (.tuple #[x, encP ps], eO, eI)) (h1 : x.oneCell' = true) : VRep P c (.fr t ps) x
 | agg {cs : List V} {xs : Array Value} (hl : cs.length = xs.size) (h : ∀ j, j < cs.length -> VRep P c (cs.getD j .undef) (xs.getD j Go.undef)) : VRep P c (.agg cs) (.agg xs)
 | tup {cs : List V} {xs : Array Value} (hl : cs.length = xs.size) (h : ∀ j, j < cs.length -> VRep P c (cs.getD j .undef) (xs.getD j Go.undef)) : VRep P c (.tup cs) (.tuple xs)
 | iface (t : TypeId) {v : V} {x : Value} (h : VRep P c v x) : VRep P c (.iface t v) (.iface t x)
 | fn (f : FuncId) {cap : List V} {xs : Array Value} (hl : cap.length = xs.size) (h : ∀ j, j < cap.length -> VRep P c (cap.getD j .undef) (xs.getD j Go.undef)) :
   VRep P c (.fn f cap) (.func (.func f) #[] xs)
 | nils : VRep P c .nils (.slice none 0 0)
 | undef (x : Value) : VRep P c .undef x
 | hole : VRep P c .hole Go.undef
structure Ext (c c' : Cx) : Prop where
 prot : ∀ b x, c.prot b x -> c'.prot b x ∧ c'.w.cell? ⟨b, x, none⟩ = c.w.cell? ⟨b, x, none⟩
 blk : ∀ id r, c.blk id = some r -> c'.blk id = some r
 row : ∀ t r, c.row t = some r -> c'.row t = some r
theorem Ext.refl (c : Cx) : Ext c c := ⟨fun _ _ h => ⟨h, rfl⟩, fun _ _ h => h, fun _ _ h => h⟩
theorem Ext.trans {a b c : Cx} (h : Ext a b) (k : Ext b c) : Ext a c :=
 ⟨fun x y hp => ⟨(k.prot x y (h.prot x y hp).1).1, (k.prot x y (h.prot x y hp).1).2.trans (h.prot x y hp).2⟩, fun id r hr => k.blk id r (h.blk id r hr), fun t r hr => k.row t r (h.row t r hr)⟩
theorem VRep.mono {P : Program} {c c' : Cx} (hx : Ext c c') {v : V} {x : Value} (h : VRep P c v x) : VRep P c' v x := by
 induction h with
 | pure h => exact .pure (h.mono hx.prot)
 | ref off h => exact .ref off (hx.blk _ _ h)
 | el e i j h hi => exact .el e i j (hx.blk _ _ h) hi
 | arr e cap h hc => exact .arr e cap (hx.blk _ _ h) hc
 | sub e off len cap h hl => exact .sub e off len cap (hx.blk _ _ h) hl
 | mp h => exact .mp (hx.blk _ _ h)
 | row h hr hn => exact .row (h.mono hx.prot) (hx.row _ _ hr) hn
 | fr hr h1 => exact .fr (hx.row _ _ hr) h1
 | agg hl _ ih => exact .agg hl ih
 | tup hl _ ih => exact .tup hl ih
 | iface t _ ih => exact .iface t ih
 | fn f hl _ ih => exact .fn f hl ih
 | nils => exact .nils
 | undef x => exact .undef x
 | hole => exact .hole
section
variable {P : Program} {w : World} {prot : Nat -> Nat -> Prop} {c : Cx} {x : Value}
theorem VRep.int_inv {k : IntKind} {n : Int} (h : VRep P c (.int k n) x) : x = .int k n := by
 cases h with | pure h => cases h; rfl
theorem VRep.bool_inv {b : Bool} (h : VRep P c (.bool b) x) : x = .bool b := by
 cases h with | pure h => cases h; rfl
theorem VRep.str_inv {s : ByteArray} (h : VRep P c (.str s) x) : x = .string s := by
 cases h with | pure h => cases h; rfl
theorem VRep.nilp_inv (h : VRep P c .nilp x) : x = .pointer none := by
 cases h with | pure h => cases h; rfl
theorem VRep.nili_inv (h : VRep P c .nili x) : x = .nilIface := by
 cases h with | pure h => cases h; rfl
theorem VRep.nilf_inv (h : VRep P c .nilf x) : x = .nilFunc := by
 cases h with | pure h => cases h; rfl
theorem VRep.nils_inv (h : VRep P c .nils x) : x = .slice none 0 0 := by
 cases h with
 | pure h => cases h
 | nils => rfl
theorem VRep.hole_inv (h : VRep P c .hole x) : x = Go.undef := by
 cases h with
 | pure h => cases h
 | hole => rfl
theorem VRep.ref_inv {id off : Nat} (h : VRep P c (.ref id off) x) : ∃ b o n, c.blk id = some (b, o, n) ∧ x = .pointer (some ⟨b, o + off, none⟩) := by
 cases h with
 | pure h => cases h
 | ref _ h => exact ⟨_, _, _, h, rfl⟩
theorem VRep.el_inv {id i j : Nat} {e : TypeId} (h : VRep P c (.el id e i j) x) : ∃ b o n, c.blk id = some (b, o, n) ∧ x = .pointer (some ⟨b, o + i * sz P e + j, none⟩) := by
 cases h with
 | pure h => cases h
 | el _ _ _ h hi => exact ⟨_, _, _, h, rfl⟩
theorem VRep.el_inv' {id i j : Nat} {e : TypeId} (h : VRep P c (.el id e i j) x) : ∃ b o n, c.blk id = some (b, o, n) ∧ x = .pointer (some ⟨b, o + i * sz P e + j, none⟩) ∧ i < n := by
 cases h with
 | pure h => cases h
 | el _ _ _ h hi => exact ⟨_, _, _, h, rfl, hi⟩
theorem VRep.arr_inv {id : Nat} {e : TypeId} (h : VRep P c (.arr id e) x) : ∃ b o n cap, c.blk id = some (b, o, n) ∧ x = .slice (some ⟨b, o, none⟩) n cap := by
 cases h with
 | pure h => cases h
 | arr _ cap h hc => exact ⟨_, _, _, cap, h, rfl⟩
theorem VRep.arr_inv' {id : Nat} {e : TypeId} (h : VRep P c (.arr id e) x) : ∃ b o n cap, c.blk id = some (b, o, n) ∧ x = .slice (some ⟨b, o, none⟩) n cap ∧ n <= cap := by
 cases h with
 | pure h => cases h
 | arr _ cap h hc => exact ⟨_, _, _, cap, h, rfl, hc⟩
theorem VRep.sub_inv {id off len : Nat} {e : TypeId} (h : VRep P c (.sub id e off len) x) :
  ∃ b o n cap, c.blk id = some (b, o, n) ∧ off + len <= n ∧ x = .slice (some ⟨b, o + (if len = 0 then 0 else off * sz P e), none⟩) len cap := by
 cases h with
 | pure h => cases h
 | sub _ _ _ cap h hl => exact ⟨_, _, _, cap, h, hl, rfl⟩
theorem VRep.mp_inv {id : Nat} (h : VRep P c (.mp id) x) : ∃ b n, c.blk id = some (b, 0, n) ∧ x = .map (some b) := by
 cases h with
 | pure h => cases h
 | mp h => exact ⟨_, _, h, rfl⟩
theorem VRep.fr_inv {t : Nat} {ps : List (List Int)} (h : VRep P c (.fr t ps) x) : ∃ eO eI, c.row t = some (.tuple #[x, encP ps], eO, eI) ∧ x.oneCell' = true := by
 cases h with
 | pure h => cases h
 | fr hr h1 => exact ⟨_, _, hr, h1⟩
theorem VRep.ptr_inv {cs : List V} {off : Nat} (h : VRep P c (.ptr cs off) x) : PRep P c.w c.prot (.ptr cs off) x := by
 cases h with | pure h => exact h
theorem VRep.sl_inv {tok : Tok} {e : TypeId} {es : List (List V)} (h : VRep P c (.sl tok e es) x) : PRep P c.w c.prot (.sl .no e es) x := by
 cases h with
 | pure h => cases h with | sl f b o ht hb hl hc hr => exact .sl f b o trivial hb hl hc hr
 | row h hr hn => exact h
theorem VRep.agg_inv {cs : List V} (h : VRep P c (.agg cs) x) : ∃ xs : Array Value, x = .agg xs ∧ cs.length = xs.size ∧ ∀ j, j < cs.length -> VRep P c (cs.getD j .undef) (xs.getD j Go.undef) := by
 cases h with
 | pure h => cases h with | agg hl h => exact ⟨_, rfl, hl, fun j hj => .pure (h j hj)⟩
 | agg hl h => exact ⟨_, rfl, hl, h⟩
theorem VRep.tup_inv {cs : List V} (h : VRep P c (.tup cs) x) : ∃ xs : Array Value, x = .tuple xs ∧ cs.length = xs.size ∧ ∀ j, j < cs.length -> VRep P c (cs.getD j .undef) (xs.getD j Go.undef) := by
 cases h with
 | pure h => cases h with | tup hl h => exact ⟨_, rfl, hl, fun j hj => .pure (h j hj)⟩
 | tup hl h => exact ⟨_, rfl, hl, h⟩
theorem VRep.iface_inv {t : TypeId} {v : V} (h : VRep P c (.iface t v) x) : ∃ y, x = .iface t y ∧ VRep P c v y := by
 cases h with
 | pure h => cases h with | iface _ h => exact ⟨_, rfl, .pure h⟩
 | iface _ h => exact ⟨_, rfl, h⟩
theorem VRep.fn_inv {f : FuncId} {cap : List V} (h : VRep P c (.fn f cap) x) : ∃ xs : Array Value, x = .func (.func f) #[] xs ∧ cap.length = xs.size ∧ ∀ j, j < cap.length -> VRep P c (cap.getD j .undef) (xs.getD j Go.undef) := by
 cases h with
 | pure h => cases h with | fn _ => exact ⟨#[], rfl, rfl, fun j hj => by cases hj⟩
 | fn _ hl h => exact ⟨_, rfl, hl, h⟩
end
theorem VRep.one {P : Program} {c : Cx} {v : V} {x : Value} (h : VRep P c v x) (h1 : Ab.one v = true) : x.oneCell' = true := by
 cases h with
 | pure h => cases h <;> first | rfl | cases h1
 | agg hl h => cases h1
 | tup hl h => cases h1
 | undef x => cases h1
 | hole => cases h1
 | fr hr h => exact h
 | _ => rfl
theorem VRep.cells {P : Program} {c : Cx} {v : V} {x : Value} (h : VRep P c v x) (hnu : v ≠ .undef) (hnt : ∀ l, v ≠ .tup l) (hnh : v ≠ .hole) :
  (cellsOf v).length = x.cells.size ∧ ∀ j, j < (cellsOf v).length -> VRep P c ((cellsOf v).getD j .undef) (x.cells.getD j Go.undef) := by
 cases v with
 | agg cs =>
  obtain ⟨xs, rfl, hl, hr⟩ := h.agg_inv
  exact ⟨hl, hr⟩
 | undef => exact absurd rfl hnu
 | tup l => exact absurd rfl (hnt l)
 | hole => exact absurd rfl hnh
 | _ =>
  have h1 : x.oneCell' = true := by first | exact h.one rfl | (rw [h.nils_inv]; rfl)
  have hx : x.cells = #[x] := by cases x <;> first | rfl | cases h1
  rw [hx]
  refine ⟨rfl, fun j hj => ?_⟩
  have : j = 0 := by simpa [cellsOf] using hj
  subst this
  simpa [cellsOf] using h
end Go.Proofs.Ab
namespace Go.Proofs.Ab
open Go
section
variable {R : Type} {r : R}
theorem asInt_some {v : V} {kd : IntKind} {k : Int -> Option R} (h : v.asInt kd k = some r) : ∃ n, v = .int kd n ∧ k n = some r := by
 unfold V.asInt at h
 split at h
 ·split at h
  ·rename_i e; subst e; exact ⟨_, rfl, h⟩
  ·cases h
 ·cases h
theorem asBool_some {v : V} {k : Bool -> Option R} (h : v.asBool k = some r) : ∃ n, v = .bool n ∧ k n = some r := by
 unfold V.asBool at h
 split at h
 ·exact ⟨_, rfl, h⟩
 ·cases h
theorem asStr_some {v : V} {k : ByteArray -> Option R} (h : v.asStr k = some r) : ∃ n, v = .str n ∧ k n = some r := by
 unfold V.asStr at h
 split at h
 ·exact ⟨_, rfl, h⟩
 ·cases h
theorem asSl_some {v : V} {e : TypeId} {k : List (List V) -> Option R} (h : v.asSl e k = some r) : ∃ tok es, v = .sl tok e es ∧ k es = some r := by
 unfold V.asSl at h
 split at h
 ·split at h
  ·rename_i e'; subst e'; exact ⟨_, _, rfl, h⟩
  ·cases h
 ·cases h
theorem asSlR_some {v : V} {p : Nat} {e : TypeId} {k : List (List V) -> Option R} (h : v.asSlR p e k = some r) : ∃ es, v = .sl (.row p) e es ∧ k es = some r := by
 unfold V.asSlR at h
 split at h
 ·split at h
  ·rename_i he; obtain ⟨rfl, rfl⟩ := he; exact ⟨_, rfl, h⟩
  ·cases h
 ·cases h
theorem asFr_some {v : V} {p : Nat} {k : List (List Int) -> Option R} (h : v.asFr p k = some r) : ∃ ps, v = .fr p ps ∧ k ps = some r := by
 unfold V.asFr at h
 split at h
 ·split at h
  ·rename_i he; subst he; exact ⟨_, rfl, h⟩
  ·cases h
 ·cases h
theorem asSlN_some {v : V} {e : TypeId} {k : Bool -> List (List V) -> Option R} (h : v.asSlN e k = some r) : ∃ b es, v = .sl (bif b then .nil else .nn) e es ∧ k b es = some r := by
 unfold V.asSlN at h
 split at h
 ·split at h
  ·rename_i e'; subst e'; exact ⟨true, _, rfl, h⟩
  ·cases h
 ·split at h
  ·rename_i e'; subst e'; exact ⟨false, _, rfl, h⟩
  ·cases h
 ·cases h
theorem asPtr_some {v : V} {kn : Option R} {k : List V -> Nat -> Option R} (h : v.asPtr kn k = some r) : (v = .nilp ∧ kn = some r) ∨ ∃ cs off, v = .ptr cs off ∧ k cs off = some r := by
 unfold V.asPtr at h
 split at h
 ·exact .inl ⟨rfl, h⟩
 ·exact .inr ⟨_, _, rfl, h⟩
 ·cases h
theorem asIface_some {v : V} {t : TypeId} {k : V -> Option R} (h : v.asIface t k = some r) : ∃ w, v = .iface t w ∧ k w = some r := by
 unfold V.asIface at h
 split at h
 ·split at h
  ·rename_i e'; subst e'; exact ⟨_, rfl, h⟩
  ·cases h
 ·cases h
theorem asAgg_some {v : V} {n : Nat} {k : (Nat -> V) -> Option R} (h : v.asAgg n k = some r) : ∃ cs, v = .agg cs ∧ cs.length = n ∧ k (fun j => cs.getD j .undef) = some r := by
 unfold V.asAgg at h
 split at h
 ·split at h
  ·rename_i e'; exact ⟨_, rfl, e', h⟩
  ·cases h
 ·cases h
theorem asTup_some {v : V} {n : Nat} {k : (Nat -> V) -> Option R} (h : v.asTup n k = some r) : ∃ cs, v = .tup cs ∧ cs.length = n ∧ k (fun j => cs.getD j .undef) = some r := by
 unfold V.asTup at h
 split at h
 ·split at h
  ·rename_i e'; exact ⟨_, rfl, e', h⟩
  ·cases h
 ·cases h
theorem cond_some {b : Bool} {x y : Option R} (h : (bif b then x else y) = some r) : (b = true ∧ x = some r) ∨ (b = false ∧ y = some r) := by
 cases b
 ·exact .inr ⟨rfl, h⟩
 ·exact .inl ⟨rfl, h⟩
theorem condL_some {b : Bool} {x : Option R} (h : (bif b then x else none) = some r) : b = true ∧ x = some r := by
 cases b
 ·cases h
 ·exact ⟨rfl, h⟩
theorem condR_some {b : Bool} {x : Option R} (h : (bif b then none else x) = some r) : b = false ∧ x = some r := by
 cases b
 ·exact ⟨rfl, h⟩
 ·cases h
theorem iteL_some {c : Prop} [Decidable c] {x : Option R} (h : (if c then x else none) = some r) : c ∧ x = some r := by
 split at h
 ·exact ⟨‹_›, h⟩
 ·cases h
theorem iteR_some {c : Prop} [Decidable c] {x : Option R} (h : (if c then none else x) = some r) : ¬c ∧ x = some r := by
 split at h
 ·cases h
 ·exact ⟨‹_›, h⟩
theorem dec1_some {pg : Pg} {t : TypeId} {v : V} {k : V -> Option R} (h : dec1 pg t v k = some r) :
  ∃ v', k v' = some r ∧ v ≠ .undef ∧ (∃ d, pg.P.underlying t = some d) ∧ ∀ w prot x, PRep pg.P w prot v x -> PRep pg.P w prot v' x := by
 unfold dec1 at h
 split at h
 ·rename_i hu
  obtain ⟨n, rfl, h2⟩ := asInt_some h
  exact ⟨_, h2, nofun, ⟨_, hu⟩, fun _ _ _ hp => hp⟩
 ·rename_i hu
  obtain ⟨n, rfl, h2⟩ := asBool_some h
  exact ⟨_, h2, nofun, ⟨_, hu⟩, fun _ _ _ hp => hp⟩
 ·rename_i hu
  obtain ⟨n, rfl, h2⟩ := asStr_some h
  exact ⟨_, h2, nofun, ⟨_, hu⟩, fun _ _ _ hp => hp⟩
 ·rename_i eT hu
  rcases cond_some h with ⟨_, h⟩ | ⟨_, h⟩
  ·obtain ⟨b, es, rfl, h2'⟩ := asSlN_some h
   have h2 : k (.sl (bif b then .nil else .nn) eT es) = some r := by cases b <;> exact h2'
   exact ⟨_, h2, nofun, ⟨_, hu⟩, fun _ _ _ hp => hp⟩
  ·obtain ⟨tok, es, rfl, h2⟩ := asSl_some h
   exact ⟨_, h2, nofun, ⟨_, hu⟩, fun _ _ _ hp => by cases hp with | sl f b o ht hb hl hc hr => exact .sl (tok := .no) f b o trivial hb hl hc hr⟩
 ·rename_i hu
  rcases asPtr_some h with ⟨rfl, h2⟩ | ⟨cs, off, rfl, h2⟩
  ·exact ⟨_, h2, nofun, ⟨_, hu⟩, fun _ _ _ hp => hp⟩
  ·exact ⟨_, h2, nofun, ⟨_, hu⟩, fun _ _ _ hp => hp⟩
 ·rename_i hu
  split at h
  ·cases h
  ·cases h
  ·cases h
  ·cases h
  ·cases h
  ·rename_i hv _ _ _ _; exact ⟨_, h, hv, ⟨_, hu⟩, fun _ _ _ hp => hp⟩
 ·cases h
theorem decL_some {pg : Pg} : ∀ {ts : List TypeId} {rd : Nat -> V} {off : Nat} {k : List V -> Option R}, decL pg ts rd off k = some r ->
  ∃ vs, k vs = some r ∧ vs.length = ts.length ∧ ∀ j, j < ts.length -> rd (off + j) ≠ .undef ∧ ∀ w prot x, PRep pg.P w prot (rd (off + j)) x -> PRep pg.P w prot (vs.getD j .undef) x
 | [], _, _, _, h => ⟨[], h, rfl, fun j hj => by cases hj⟩
 | t :: ts, rd, off, k, h => by
  obtain ⟨v, h1, hn, _, hp⟩ := dec1_some h
  obtain ⟨vs, h2, hl, hr⟩ := decL_some h1
  refine ⟨v :: vs, h2, by simp [hl], fun j hj => ?_⟩
  cases j with
  | zero => exact ⟨hn, hp⟩
  | succ j =>
   have := hr j (by simpa using hj)
   rw [show off + (j + 1) = off + 1 + j by omega]
   simpa using this
end
section
variable {P : Program} {t : TypeId} {w : World}
theorem info_of_underlying {d : TypeDesc} (h : P.underlying t = some d) : ∃ i, P.info? t = some i := by
 unfold Program.underlying at h
 split at h
 ·exact ⟨_, ‹_›⟩
 ·exact ⟨_, ‹_›⟩
 ·cases h
theorem run_sizeOf' {i : TypeInfo} (h : P.info? t = some i) : (sizeOf t).run P w = .ok (sz P t) w := by
 simp [sizeOf, typeInfo, h, sz]
theorem run_sizeOf_u {d : TypeDesc} (h : P.underlying t = some d) : (sizeOf t).run P w = .ok (sz P t) w := by
 obtain ⟨i, hi⟩ := info_of_underlying h
 exact run_sizeOf' hi
theorem run_isAgg' {d : TypeDesc} (h : P.underlying t = some d) : (isAgg t).run P w = .ok (isAg P t) w := by
 unfold isAgg isAg
 simp only [Sem.run_bind, run_underlying h, Result.andThen_ok, h]
 cases d <;> rfl
end
theorem getD_of_ne {l : List V} {j : Nat} (h : l.getD j .undef ≠ .undef) : j < l.length := by
 rcases Nat.lt_or_ge j l.length with h' | h'
 ·exact h'
 ·exact absurd (by simp [List.getD, List.getElem?_eq_none h']) h
theorem run_loadVar_ptr {R : Type} {r : R} {pg : Pg} {w : World} {prot : Nat -> Nat -> Prop} {t : TypeId} {k : V -> Option R} {rd : Nat -> V} {b o : Nat} {f : Nat -> Value} {n : Nat}
  (h : decT pg t rd 0 k = some r) (hn : ∀ j, rd j ≠ .undef -> j < n) (hc : ∀ j, j < n -> w.cell? ⟨b, o + j, none⟩ = some (f j)) (hr : ∀ j, j < n -> PRep pg.P w prot (rd j) (f j)) :
  ∃ v x, k v = some r ∧ (loadVar t ⟨b, o, none⟩).run pg.P w = .ok x w ∧ PRep pg.P w prot v x := by
 unfold decT at h
 rcases cond_some h with ⟨ha, h⟩ | ⟨ha, h⟩
 ·obtain ⟨hs, h⟩ := condL_some h
  have hs : (flat pg.P deep t).length = sz pg.P t := by simpa using hs
  obtain ⟨vs, hk, hl, hp⟩ := decL_some h
  have hd : ∃ d, pg.P.underlying t = some d := by
   unfold isAg at ha
   cases hd : pg.P.underlying t with
   | none => rw [hd] at ha; cases ha
   | some d => exact ⟨d, rfl⟩
  obtain ⟨d, hd⟩ := hd
  have hlt : ∀ j, j < sz pg.P t -> j < n := fun j hj => hn j (by have := (hp j (by rw [hs]; exact hj)).1; simpa using this)
  refine ⟨.agg vs, .agg ((List.range (sz pg.P t)).map f).toArray, hk, ?_, .agg (by simp [hl, hs]) fun j hj => ?_⟩
  ·unfold loadVar
   simp only [Sem.run_bind, run_isAgg' hd, Result.andThen_ok, ha, if_true, run_sizeOf_u hd]
   rw [run_loadCells w ⟨b, o, none⟩ (sz pg.P t) f fun j hj => by rw [Addr.add_lit]; exact hc j (hlt j hj)]
   rfl
  ·have hj' : j < sz pg.P t := by rw [hl, hs] at hj; exact hj
   have := (hp j (by rw [hs]; exact hj')).2 w prot (f j) (by have := hr j (hlt j hj'); simpa using this)
   simpa [hj'] using this
 ·obtain ⟨v, hk, hne, ⟨d, hd⟩, hp⟩ := dec1_some h
  have h0 := hn 0 hne
  refine ⟨v, f 0, hk, ?_, hp _ _ _ (hr 0 h0)⟩
  unfold loadVar
  have := hc 0 h0
  simp only [Nat.add_zero] at this
  simp [Sem.run_bind, run_isAgg' hd, ha, this]
end Go.Proofs.Ab
namespace Go.Proofs.Ab
open Go
section
variable {R : Type} {r : R} {P : Program} {c : Cx} {w : World}
theorem PRep.int' {prot : Nat -> Nat -> Prop} {k : IntKind} {a b : Int} (h : a = b) : PRep P w prot (.int k a) (.int k b) := by subst h; exact .int _ _
theorem arith_sound {op : BinOp} {kd : IntKind} {a b : Int} {k : V -> Option R} (t : TypeId) (h : arith op kd a b k = some r) :
  ∃ v z, k v = some r ∧ (binOp op t (.int kd a) (.int kd b)).run P c.w = .ok z c.w ∧ VRep P c v z := by
 unfold arith at h
 split at h
 ·exact ⟨_, _, h, by rw [binOp_add]; rfl, .pure (.int _ _)⟩
 ·exact ⟨_, _, h, by rw [binOp_sub]; rfl, .pure (.int _ _)⟩
 ·exact ⟨_, _, h, by rw [binOp_mul]; rfl, .pure (.int _ _)⟩
 ·obtain ⟨hb, h⟩ := iteR_some h
  exact ⟨_, _, h, by rw [binOp_quo]; simp only [Op.intDiv, if_neg hb]; rfl, .pure (.int _ _)⟩
 ·obtain ⟨hb, h⟩ := iteR_some h
  exact ⟨_, _, h, by rw [binOp_rem]; simp only [Op.intDiv, if_neg hb]; rfl, .pure (.int _ _)⟩
 ·exact ⟨_, _, h, by rw [binOp_and]; rfl, .pure (.int _ _)⟩
 ·exact ⟨_, _, h, by rw [binOp_or]; rfl, .pure (.int _ _)⟩
 ·exact ⟨_, _, h, by rw [binOp_xor]; rfl, .pure (.int _ _)⟩
 ·exact ⟨_, _, h, by rw [binOp_andNot]; rfl, .pure (.int _ _)⟩
 ·exact ⟨_, _, h, by rw [binOp_eql]; rfl, .pure (.bool _)⟩
 ·exact ⟨_, _, h, by rw [binOp_neq]; rfl, .pure (.bool _)⟩
 ·exact ⟨_, _, h, by rw [binOp_lss]; rfl, .pure (.bool _)⟩
 ·exact ⟨_, _, h, by rw [binOp_leq]; rfl, .pure (.bool _)⟩
 ·exact ⟨_, _, h, by rw [binOp_gtr]; rfl, .pure (.bool _)⟩
 ·exact ⟨_, _, h, by rw [binOp_geq]; rfl, .pure (.bool _)⟩
 ·cases h
theorem toList_beq (a b : ByteArray) : (a.toList == b.toList) = decide (a = b) := by
 rw [<- beq_toListBytes]
 by_cases h : a = b
 ·subst h; simp [beq_toListBytes]
 ·have : (a == b) = false := by
   rw [beq_toListBytes, ByteArray.toList_eq, ByteArray.toList_eq]
   rw [Bool.eq_false_iff]
   intro hh
   have := eq_of_beq hh
   exact h (by cases a; cases b; congr; exact Array.toList_inj.1 this)
  rw [this]; simp [h]
theorem strOp_sound {op : BinOp} {a b : ByteArray} {k : V -> Option R} (t : TypeId) (h : strOp op a b k = some r) :
  ∃ v z, k v = some r ∧ (binOp op t (.string a) (.string b)).run P c.w = .ok z c.w ∧ VRep P c v z := by
 unfold strOp at h
 split at h
 ·obtain ⟨hs, h⟩ := iteL_some h
  refine ⟨_, _, h, ?_, .pure (.str _)⟩
  have : ¬ (((a.size + b.size : Nat) : Int) > IntKind.i64.max) := by rw [IntKind.max_i64]; unfold most at hs; omega
  simp only [binOp, Op.stringOp, if_neg this]
  rfl
 ·exact ⟨_, _, h, by simp only [binOp, Op.stringOp, toList_beq]; rfl, .pure (.bool _)⟩
 ·exact ⟨_, _, h, by simp only [binOp, Op.stringOp, toList_beq]; rfl, .pure (.bool _)⟩
 ·cases h
theorem part_one {t : TypeId} {d : TypeDesc} (hu : P.underlying t = some d) (ha : isAg P t = false) {cs : Array Value} {off : Nat} (h : off < cs.size) : (part t cs off).run P w = .ok (cs.getD off Go.undef) w := by
 unfold part
 simp [Sem.run_bind, run_isAgg' hu, ha, h]
theorem eqC_sound {t : TypeId} {a b : V} {q : Bool} {x y : Value} (h : eqC P t a b = some q) (hx : VRep P c a x) (hy : VRep P c b y) (d : Nat) :
  (Op.equalIn (d + 1) t x y).run P c.w = .ok q c.w ∧ ∃ dd, P.underlying t = some dd := by
 unfold eqC at h
 split at h
 ·rename_i hu
  have e1 := hx.int_inv
  have e2 := hy.int_inv
  subst e1; subst e2
  obtain ⟨hk, h0⟩ := condL_some h
  clear h
  have h := h0
  have hk := of_decide_eq_true hk
  subst hk
  have h := Option.some.inj h
  subst h
  exact ⟨run_equalIn_int c.w d t _ _ _ _ hu, _, hu⟩
 ·rename_i hu
  have e1 := hx.bool_inv
  have e2 := hy.bool_inv
  subst e1; subst e2
  cases h
  exact ⟨run_equalIn_bool' c.w d t _ _ hu, _, hu⟩
 ·rename_i hu
  have e1 := hx.str_inv
  have e2 := hy.str_inv
  subst e1; subst e2
  cases h
  exact ⟨by rw [run_equalIn_string c.w d t _ _ hu, toList_beq], _, hu⟩
 ·cases h
theorem eqF_sound {cs ds : List V} {xs ys : Array Value} (hl : cs.length = xs.size) (hx : ∀ j, j < cs.length -> VRep P c (cs.getD j .undef) (xs.getD j Go.undef))
  (hm : ds.length = ys.size) (hy : ∀ j, j < ds.length -> VRep P c (ds.getD j .undef) (ys.getD j Go.undef)) (d : Nat) : ∀ {fs : List Field} {q : Bool}, eqF P cs ds fs = some q ->
  (Op.eqFields (d + 1) xs ys fs).run P c.w = .ok q c.w
 | [], q, h => by cases h; rfl
 | f :: fs, q, h => by
  unfold eqF at h
  obtain ⟨hb, h⟩ := condR_some h
  simp only [Bool.or_eq_false_iff, Bool.not_eq_false'] at hb
  obtain ⟨⟨⟨hn, ha⟩, h1⟩, h2⟩ := hb
  have h1 : f.offset < cs.length := by simpa [Nat.blt_eq] using h1
  have h2 : f.offset < ds.length := by simpa [Nat.blt_eq] using h2
  split at h
  ·rename_i a hq
   split at h
   ·rename_i b hr
    cases h
    obtain ⟨he, dd, hu⟩ := eqC_sound hq (hx _ h1) (hy _ h2) d
    have hn' : f.name ≠ "_" := by simpa using hn
    rw [Op.eqFields]
    simp only [if_pos hn', Sem.run_bind, part_one hu ha (by omega : f.offset < xs.size), part_one hu ha (by omega : f.offset < ys.size), he, Result.andThen_ok]
    have := eqF_sound hl hx hm hy d hr
    cases a
    ·simp
    ·simpa using this
   ·cases h
  ·cases h
theorem eqN_slice (d : Nat) {t e : TypeId} (hu : P.underlying t = some (.slice e)) (b : Option Addr) (n cap : Nat) : (Op.equalIn (d + 1) t (.slice b n cap) (.slice none 0 0)).run P w = .ok b.isNone w := by
 cases b <;> simp [Op.equalIn, run_underlying hu]
theorem eqN_pointer (d : Nat) {t e : TypeId} (hu : P.underlying t = some (.pointer e)) (b : Option Addr) : (Op.equalIn (d + 1) t (.pointer b) (.pointer none)).run P w = .ok b.isNone w := by
 cases b <;> simp [Op.equalIn, run_underlying hu]
theorem eqN_nili (d : Nat) {t : TypeId} {ms : Array (String × TypeId)} (hu : P.underlying t = some (.interface ms)) : (Op.equalIn (d + 1) t .nilIface .nilIface).run P w = .ok true w := by
 simp [Op.equalIn, run_underlying hu]
theorem eqN_iface (d : Nat) {t : TypeId} {ms : Array (String × TypeId)} (hu : P.underlying t = some (.interface ms)) (u : TypeId) (z : Value) : (Op.equalIn (d + 1) t (.iface u z) .nilIface).run P w = .ok false w := by
 simp [Op.equalIn, run_underlying hu]
theorem eqN_nilf (d : Nat) {t : TypeId} {ps rs : Array TypeId} {vr : Bool} (hu : P.underlying t = some (.func ps rs vr)) : (Op.equalIn (d + 1) t .nilFunc .nilFunc).run P w = .ok true w := by
 simp [Op.equalIn, run_underlying hu]
theorem eqN_func (d : Nat) {t : TypeId} {ps rs : Array TypeId} {vr : Bool} (hu : P.underlying t = some (.func ps rs vr)) (f : Fn) (a b : Array Value) : (Op.equalIn (d + 1) t (.func f a b) .nilFunc).run P w = .ok false w := by
 simp [Op.equalIn, run_underlying hu]
theorem two_of {t : TypeId} {X Y : Value} {q : Bool} (he : (Op.equal t X Y).run P w = .ok q w)
  (h1 : binOp .eql t X Y = (do pure (.bool (<- Op.equal t X Y)) : Sem Value)) (h2 : binOp .neq t X Y = (do pure (.bool (!(<- Op.equal t X Y))) : Sem Value)) :
  (Op.equal t X Y).run P w = .ok q w ∧ (binOp .eql t X Y).run P w = .ok (.bool q) w ∧ (binOp .neq t X Y).run P w = .ok (.bool (!q)) w := by
 refine ⟨he, ?_, ?_⟩
 ·rw [h1]; simp only [Sem.run_bind, he, Result.andThen_ok, Sem.run_pure]
 ·rw [h2]; simp only [Sem.run_bind, he, Result.andThen_ok, Sem.run_pure]
theorem eqV_sound {t : TypeId} {cst : Bool} {a b : V} {q : Bool} {x y : Value} (h : eqV P t cst a b = some q) (hx : VRep P c a x) (hy : VRep P c b y) (xo yo : Operand) (hc : cst = true -> ∃ v, yo = .const v) (op : BinOp) :
  (eqGuard op t xo yo x y).run P c.w = .ok () c.w ∧ (Op.equal t x y).run P c.w = .ok q c.w ∧
   (binOp .eql t x y).run P c.w = .ok (.bool q) c.w ∧ (binOp .neq t x y).run P c.w = .ok (.bool (!q)) c.w := by
 unfold eqV at h
 split at h
 ·rename_i fs cs ds hu
  obtain ⟨hb, h⟩ := condR_some h
  simp only [Bool.or_eq_false_iff] at hb
  obtain ⟨xs, rfl, hl, hr⟩ := hx.agg_inv
  obtain ⟨ys, rfl, hm, hs⟩ := hy.agg_inv
  have hf : P.fieldsOf t = fs := by simp [Program.fieldsOf, hu]
  have he : (Op.equalIn 10000 t (.agg xs) (.agg ys)).run P c.w = .ok q c.w := by
   rw [run_equalIn_struct (P := P) c.w 9999 t xs ys (by rw [hf]; exact hu) hb.1, hf]
   exact eqF_sound hl hr hm hs 9998 h
  refine ⟨run_eqGuard_agg c.w op t xo yo xs ys hb.2, he, ?_, ?_⟩
  ·rw [run_eql_struct, he]; rfl
  ·rw [run_neq_struct, he]; rfl
 ·rename_i hu
  have e1 := hx.bool_inv
  have e2 := hy.bool_inv
  subst e1; subst e2
  cases h
  exact ⟨by rw [eqGuard_at_bool]; rfl, run_equal_bool c.w t _ _ hu, run_eql_bool c.w t _ _ hu, run_neq_bool c.w t _ _ hu⟩
 ·rename_i hu
  obtain ⟨hc', h⟩ := condL_some h
  obtain ⟨v0, rfl⟩ := hc hc'
  obtain rfl : y = .slice none 0 0 := by
   cases hy with | pure hp => cases hp with | sl f b o ht hb hl hc hr => obtain ⟨rfl, rfl, h0⟩ := ht; rw [h0]
  obtain ⟨base, n, cap, rfl, hq⟩ : ∃ base n cap, x = .slice base n cap ∧ base.isNone = q := by
   unfold nilS at h
   split at h
   ·cases h; cases hx with | pure hp => cases hp with | sl f b o ht hb hl hc hr => exact ⟨_, _, _, rfl, by rw [ht.1]; rfl⟩
   ·cases h; cases hx with | pure hp => cases hp with | @sl _ _ _ base _ f b o ht hb hl hc hr => exact ⟨_, _, _, rfl, by cases base <;> first | rfl | exact absurd rfl ht⟩
   ·cases h; cases hx.sl_inv with | sl f b o ht hb hl hc hr => exact ⟨_, _, _, rfl, by rw [hb.1 nofun]; rfl⟩
   ·cases h; obtain ⟨b, o, n, cap, _, rfl⟩ := hx.arr_inv; exact ⟨_, _, _, rfl, rfl⟩
   ·cases h
  subst hq
  exact ⟨by rw [eqGuard_at_slice]; rfl, two_of (eqN_slice 9999 hu base n cap) rfl rfl⟩
 ·rename_i hu
  obtain ⟨hc', h⟩ := condL_some h
  obtain ⟨v0, rfl⟩ := hc hc'
  obtain rfl := hy.nilp_inv
  obtain ⟨p, rfl, hq⟩ : ∃ p, x = .pointer p ∧ p.isNone = q := by
   unfold nilP at h
   split at h
   ·cases h; exact ⟨none, hx.nilp_inv, rfl⟩
   ·cases h; obtain ⟨b, o, n, _, rfl⟩ := hx.ref_inv; exact ⟨_, rfl, rfl⟩
   ·cases h; cases hx.ptr_inv; exact ⟨_, rfl, rfl⟩
   ·cases h
  subst hq
  exact ⟨by rw [eqGuard_at_pointer]; rfl, two_of (eqN_pointer 9999 hu p) rfl rfl⟩
 ·rename_i hu
  obtain ⟨hc', h⟩ := condL_some h
  obtain ⟨v0, rfl⟩ := hc hc'
  obtain rfl := hy.nili_inv
  unfold nilI at h
  split at h
  ·cases h
   obtain rfl := hx.nili_inv
   exact ⟨by rw [eqGuard_nil_constR]; rfl, two_of (eqN_nili 9999 hu) rfl rfl⟩
  ·cases h
   obtain ⟨z, rfl, _⟩ := hx.iface_inv
   exact ⟨by rw [eqGuard_at_iface]; rfl, two_of (eqN_iface 9999 hu _ z) rfl rfl⟩
  ·cases h
 ·rename_i hu
  obtain ⟨hc', h⟩ := condL_some h
  obtain ⟨v0, rfl⟩ := hc hc'
  obtain rfl := hy.nilf_inv
  unfold nilF at h
  split at h
  ·cases h
   obtain rfl := hx.nilf_inv
   exact ⟨by rw [eqGuard_at_nilFunc]; rfl, two_of (eqN_nilf 9999 hu) rfl rfl⟩
  ·cases h
   obtain ⟨zs, rfl, _⟩ := hx.fn_inv
   exact ⟨by rw [eqGuard_at_func]; rfl, two_of (eqN_func 9999 hu _ _ _) rfl rfl⟩
  ·cases h
 ·cases h
end
end Go.Proofs.Ab
namespace Go.Proofs.Ab
open Go
section
variable {R : Type} {r : R} {P : Program} {c : Cx} {w : World}
theorem binK_sound {op : BinOp} {t : TypeId} {cst : Bool} {va vb : V} {k : V -> Option R} {x y : Value} (h : binK P op t cst va vb k = some r) (hx : VRep P c va x) (hy : VRep P c vb y)
  (xo yo : Operand) (hc : cst = true -> ∃ v, yo = .const v) :
  ∃ v z, k v = some r ∧ (do eqGuard op t xo yo x y; binOp op t x y : Sem Value).run P c.w = .ok z c.w ∧ VRep P c v z := by
 unfold binK at h
 split at h
 ·have e1 := hx.int_inv; have e2 := hy.int_inv; subst e1; subst e2
  obtain ⟨hb, h⟩ := iteR_some h
  exact ⟨_, _, h, by rw [eqGuard_at_int, binOp_shl]; simp only [Op.shift, if_neg hb]; rfl, .pure (.int _ _)⟩
 ·have e1 := hx.int_inv; have e2 := hy.int_inv; subst e1; subst e2
  obtain ⟨hb, h⟩ := iteR_some h
  exact ⟨_, _, h, by rw [eqGuard_at_int, binOp_shr]; simp only [Op.shift, if_neg hb]; rfl, .pure (.int _ _)⟩
 ·have e1 := hx.int_inv; have e2 := hy.int_inv; subst e1; subst e2
  obtain ⟨hk, h9⟩ := iteL_some h
  subst hk
  obtain ⟨v, z, h1, h2, h3⟩ := arith_sound (P := P) (c := c) t h9
  exact ⟨v, z, h1, by rw [eqGuard_at_int]; simpa using h2, h3⟩
 ·have e1 := hx.str_inv; have e2 := hy.str_inv; subst e1; subst e2
  obtain ⟨v, z, h1, h2, h3⟩ := strOp_sound (P := P) (c := c) t h
  exact ⟨v, z, h1, by rw [eqGuard_at_string]; simpa using h2, h3⟩
 ·split at h
  ·rename_i q hq
   obtain ⟨h1, _, h2, _⟩ := eqV_sound hq hx hy xo yo hc .eql
   exact ⟨_, _, h, by simp only [Sem.run_bind, h1, Result.andThen_ok, h2], .pure (.bool _)⟩
  ·cases h
 ·split at h
  ·rename_i q hq
   obtain ⟨h1, _, _, h2⟩ := eqV_sound hq hx hy xo yo hc .neq
   exact ⟨_, _, h, by simp only [Sem.run_bind, h1, Result.andThen_ok, h2], .pure (.bool _)⟩
  ·cases h
 ·cases h
theorem unK_sound {op : UnOp} {va : V} {k : V -> Option R} {x : Value} (h : unK op va k = some r) (hx : VRep P c va x) : ∃ v z, k v = some r ∧ (Op.unary op x).run P c.w = .ok z c.w ∧ VRep P c v z := by
 unfold unK at h
 split at h
 ·have e1 := hx.bool_inv; subst e1
  exact ⟨_, _, h, rfl, .pure (.bool _)⟩
 ·have e1 := hx.int_inv; subst e1
  exact ⟨_, _, h, rfl, .pure (.int _ _)⟩
 ·have e1 := hx.int_inv; subst e1
  obtain ⟨v, z, h1, h2, h3⟩ := arith_sound (P := P) (c := c) 0 h
  rw [binOp_xor] at h2
  exact ⟨v, z, h1, h2, h3⟩
 ·cases h
theorem bytes_of : ∀ {es : List (List V)}, bytesOk es = true -> ∃ xs : List Int, xs.length = es.length ∧ toBytes es = xs.map (fun n => UInt8.ofNat n.toNat) ∧ ∀ i, i < es.length -> es.getD i [] = [.int .u8 (xs.getD i 0)]
 | [], _ => ⟨[], rfl, rfl, fun i hi => by cases hi⟩
 | a :: l, h => by
  unfold bytesOk at h
  split at h
  ·cases ‹_ :: _ = []›
  ·rename_i n l' heq
   cases heq
   obtain ⟨xs, h1, h2, h3⟩ := bytes_of h
   refine ⟨n :: xs, by simp [h1], by simp [toBytes, h2], fun i hi => ?_⟩
   cases i with
   | zero => rfl
   | succ i => have := h3 i (by simpa using hi); simpa using this
  ·cases h
theorem run_convert_cells {src dst e : TypeId} (hs : P.underlying src = some (.slice e)) (he : P.underlying e = some (.int .u8)) (hd : P.underlying dst = some .string) {es : List (List V)} (hb : bytesOk es = true)
  (base : Option Addr) (cap : Nat) {b o : Nat} (hbase : es ≠ [] -> base = some ⟨b, o, none⟩) (f : Nat -> Value) (hc : ∀ i, i < es.length -> w.cell? ⟨b, o + i, none⟩ = some (f i))
  (hr : ∀ i n, i < es.length -> es.getD i [] = [.int .u8 n] -> f i = .int .u8 n) :
  (convert src dst (.slice base es.length cap)).run P w = .ok (.string ⟨(toBytes es).toArray⟩) w := by
 obtain ⟨xs, h1, h2, h3⟩ := bytes_of hb
 rw [h2]
 show _ = Result.ok (Value.string (strOfNums xs)) w
 by_cases h0 : es = []
 ·subst h0
  have : xs = [] := List.length_eq_zero_iff.1 h1
  subst this
  cases base with
  | none => rw [run_convert_bytes_nil w src e hs he _ _ dst hd]; rfl
  | some a =>
   rw [run_convert_bytes_string w src dst e _ _ cap hs he hd]
   exact run_bytesToString w a 0 cap [] (by rw [run_loadCells w a 0 (fun _ => Go.undef) (fun j hj => by cases hj)]; rfl)
 ·rw [hbase h0]
  exact run_convert_bytes_arg w src e hs he b o _ cap xs h1 (fun i hi => by rw [hc i hi, hr i _ hi (h3 i hi)]) dst hd
theorem convK_sound {pg : Pg} {c : Cx} {src dst : TypeId} {va : V} {k : V -> Option R} {x : Value} (h : convK pg src dst va k = some r) (hx : VRep pg.P c va x) :
  ∃ v z, k v = some r ∧ (convert src dst x).run pg.P c.w = .ok z c.w ∧ VRep pg.P c v z := by
 unfold convK at h
 split at h
 ·rename_i hs hd
  obtain rfl := hx.int_inv
  exact ⟨_, _, h, by simp [convert, run_underlying hs, run_underlying hd, Conv.intToInt], .pure (.int _ _)⟩
 ·rename_i hs hd
  obtain rfl := hx.str_inv
  exact ⟨_, _, h, by simp [convert, run_underlying hs, run_underlying hd], .pure (.str _)⟩
 ·rename_i e tok e' es hs hd
  split at h
  ·rename_i he
   obtain ⟨_, h2⟩ := condL_some h
   obtain ⟨hb, h3⟩ := iteL_some h2
   cases hx.sl_inv with
   | @sl _ _ _ base cap f b o ht hbb hl hc hr =>
    refine ⟨_, _, h3, run_convert_cells hs he hd hb base cap hbb.1 (fun i => f i 0) (fun i hi => ?_) (fun i n hi hn => ?_), .pure (.str _)⟩
    ·have h1 : sz pg.P e' = 1 := by
      obtain ⟨xs, _, _, h4⟩ := bytes_of hb
      rw [<- hl i hi, h4 i hi]; rfl
     have := (hc i 0 hi (by omega)).2.1
     rw [h1] at this
     simpa using this
    ·have h1 : sz pg.P e' = 1 := by rw [<- hl i hi, hn]; rfl
     have := hr i 0 hi (by omega)
     rw [hn] at this
     generalize hf : f i 0 = y at this
     cases this
     rfl
  ·cases h
 ·cases h
theorem dec1_form' {pg : Pg} {t : TypeId} {v : V} {k : V -> Option R} (h : dec1 pg t v k = some r) :
  ∃ v', k v' = some r ∧ v ≠ .undef ∧ (∃ d, pg.P.underlying t = some d) ∧ (v' = v ∨ ∃ tok e es, v = .sl tok e es ∧ v' = .sl .no e es) ∧ (∀ id e, v' ≠ .arr id e) ∧ (∀ t e es, v' ≠ .sl (.row t) e es) ∧ ∀ t ps, v' ≠ .fr t ps := by
 unfold dec1 at h
 split at h
 ·rename_i hu
  obtain ⟨n, rfl, h2⟩ := asInt_some h
  exact ⟨_, h2, nofun, ⟨_, hu⟩, .inl rfl, nofun, nofun, nofun⟩
 ·rename_i hu
  obtain ⟨n, rfl, h2⟩ := asBool_some h
  exact ⟨_, h2, nofun, ⟨_, hu⟩, .inl rfl, nofun, nofun, nofun⟩
 ·rename_i hu
  obtain ⟨n, rfl, h2⟩ := asStr_some h
  exact ⟨_, h2, nofun, ⟨_, hu⟩, .inl rfl, nofun, nofun, nofun⟩
 ·rename_i eT hu
  rcases cond_some h with ⟨_, h⟩ | ⟨_, h⟩
  ·obtain ⟨b, es, rfl, h2'⟩ := asSlN_some h
   have h2 : k (.sl (bif b then .nil else .nn) eT es) = some r := by cases b <;> exact h2'
   exact ⟨_, h2, nofun, ⟨_, hu⟩, .inl rfl, nofun, by cases b <;> nofun, nofun⟩
  ·obtain ⟨tok, es, rfl, h2⟩ := asSl_some h
   exact ⟨_, h2, nofun, ⟨_, hu⟩, .inr ⟨_, _, _, rfl, rfl⟩, nofun, nofun, nofun⟩
 ·rename_i hu
  rcases asPtr_some h with ⟨rfl, h2⟩ | ⟨cs, off, rfl, h2⟩
  ·exact ⟨_, h2, nofun, ⟨_, hu⟩, .inl rfl, nofun, nofun, nofun⟩
  ·exact ⟨_, h2, nofun, ⟨_, hu⟩, .inl rfl, nofun, nofun, nofun⟩
 ·rename_i hu
  split at h
  ·cases h
  ·cases h
  ·cases h
  ·cases h
  ·cases h
  ·rename_i h1 h2 h3 _ h5; exact ⟨_, h, h1, ⟨_, hu⟩, .inl rfl, fun id e => h2 id e, fun t e es => h3 _ e es, fun t ps => h5 t ps⟩
 ·cases h
theorem dec1_form {pg : Pg} {t : TypeId} {v : V} {k : V -> Option R} (h : dec1 pg t v k = some r) :
  ∃ v', k v' = some r ∧ v ≠ .undef ∧ (∃ d, pg.P.underlying t = some d) ∧ (v' = v ∨ ∃ tok e es, v = .sl tok e es ∧ v' = .sl .no e es) := by
 obtain ⟨v', h1, h2, h3, h4, _⟩ := dec1_form' h
 exact ⟨v', h1, h2, h3, h4⟩
theorem VRep.sl_no {tok : Tok} {e : TypeId} {es : List (List V)} {x : Value} (h : VRep P c (.sl tok e es) x) : VRep P c (.sl .no e es) x := .pure h.sl_inv
theorem dec1_vrep {pg : Pg} {t : TypeId} {v : V} {k : V -> Option R} (h : dec1 pg t v k = some r) :
  ∃ v', k v' = some r ∧ v ≠ .undef ∧ (∃ d, pg.P.underlying t = some d) ∧ ∀ c x, VRep pg.P c v x -> VRep pg.P c v' x := by
 obtain ⟨v', h1, h2, h3, h4⟩ := dec1_form h
 refine ⟨v', h1, h2, h3, fun c x hx => ?_⟩
 rcases h4 with rfl | ⟨tok, e, es, rfl, rfl⟩
 ·exact hx
 ·exact hx.sl_no
theorem decL_vrep {pg : Pg} : ∀ {ts : List TypeId} {rd : Nat -> V} {off : Nat} {k : List V -> Option R}, decL pg ts rd off k = some r ->
  ∃ vs, k vs = some r ∧ vs.length = ts.length ∧ ∀ j, j < ts.length -> rd (off + j) ≠ .undef ∧ ∀ c x, VRep pg.P c (rd (off + j)) x -> VRep pg.P c (vs.getD j .undef) x
 | [], _, _, _, h => ⟨[], h, rfl, fun j hj => by cases hj⟩
 | t :: ts, rd, off, k, h => by
  obtain ⟨v, h1, hn, _, hp⟩ := dec1_vrep h
  obtain ⟨vs, h2, hl, hr⟩ := decL_vrep h1
  refine ⟨v :: vs, h2, by simp [hl], fun j hj => ?_⟩
  cases j with
  | zero => exact ⟨hn, hp⟩
  | succ j =>
   have := hr j (by simpa using hj)
   rw [show off + (j + 1) = off + 1 + j by omega]
   simpa using this
theorem isAg_kn {P : Program} {t : TypeId} (ha : isAg P t = true) : ∃ d, P.underlying t = some d := by
 unfold isAg at ha
 cases hd : P.underlying t with
 | none => rw [hd] at ha; cases ha
 | some d => exact ⟨d, rfl⟩
theorem kn_some {P : Program} {t : TypeId} (ha : kn P t = true) : ∃ d, P.underlying t = some d := by
 unfold kn at ha
 cases hd : P.underlying t with
 | none => rw [hd] at ha; cases ha
 | some d => exact ⟨d, rfl⟩
theorem run_part_vrep {pg : Pg} {c : Cx} {w : World} {t : TypeId} {k : V -> Option R} {rd : Nat -> V} {xs : Array Value} {off : Nat}
  (h : decT pg t rd 0 k = some r) (hn : ∀ j, rd j ≠ .undef -> off + j < xs.size) (hr : ∀ j, off + j < xs.size -> VRep pg.P c (rd j) (xs.getD (off + j) Go.undef)) :
  ∃ v x, k v = some r ∧ (part t xs off).run pg.P w = .ok x w ∧ VRep pg.P c v x := by
 unfold decT at h
 rcases cond_some h with ⟨ha, h1⟩ | ⟨ha, h1⟩
 ·obtain ⟨hs, h2⟩ := condL_some h1
  have hs : (flat pg.P deep t).length = sz pg.P t := by simpa using hs
  obtain ⟨vs, hk, hl, hp⟩ := decL_vrep h2
  obtain ⟨d, hd⟩ := isAg_kn ha
  have hlt : ∀ j, j < sz pg.P t -> off + j < xs.size := fun j hj => hn j (by have := (hp j (by rw [hs]; exact hj)).1; simpa using this)
  have hle : sz pg.P t = 0 ∨ off + sz pg.P t <= xs.size := by
   rcases Nat.eq_zero_or_pos (sz pg.P t) with h0 | h0
   ·exact .inl h0
   ·right; have := hlt (sz pg.P t - 1) (by omega); omega
  refine ⟨.agg vs, .agg (xs.extract off (off + sz pg.P t)), hk, ?_, .agg ?_ fun j hj => ?_⟩
  ·unfold part
   simp [Sem.run_bind, run_isAgg' hd, ha, run_sizeOf_u hd]
  ·rw [hl, hs]; simp; omega
  ·have hj' : j < sz pg.P t := by rw [hl, hs] at hj; exact hj
   have h3 := hlt j hj'
   have := (hp j (by rw [hs]; exact hj')).2 c (xs.getD (off + j) Go.undef) (by simpa using hr j h3)
   have e : (xs.extract off (off + sz pg.P t)).getD j Go.undef = xs.getD (off + j) Go.undef := by
    have h4 : j < (xs.extract off (off + sz pg.P t)).size := by simp; omega
    have h5 : j < min (off + sz pg.P t) xs.size - off := by omega
    simp [Array.getD, h3, h5]
   rw [e]; exact this
 ·obtain ⟨v, hk, hne, ⟨d, hd⟩, hp⟩ := dec1_vrep h1
  have h0 : off < xs.size := by simpa using hn 0 hne
  exact ⟨v, xs.getD off Go.undef, hk, part_one hd ha h0, hp _ _ (by simpa using hr 0 (by simpa using h0))⟩
end
end Go.Proofs.Ab
namespace Go.Proofs.Ab
open Go
section
variable {R : Type} {r : R} {pg : Pg} {c : Cx} {w : World} {ρ : Operand -> Value} {env : Env}
def BndAt (ρ : Operand -> Value) (o : Option Operand) (d n : Nat) : Prop := (o = none ∧ n = d) ∨ ∃ x kd i, o = some x ∧ ρ x = .int kd i ∧ 0 <= i ∧ n = i.toNat
theorem bnd_sound {o : Option Operand} {d : Nat} {k : Nat -> Option R} (h : bnd pg env o d k = some r) (hρ : ∀ x, o = some x -> VRep pg.P c (evO pg env 3 x) (ρ x)) :
  ∃ n, k n = some r ∧ BndAt ρ o d n := by
 unfold bnd at h
 split at h
 ·exact ⟨_, h, .inl ⟨rfl, rfl⟩⟩
 ·split at h
  ·rename_i x _ kd i hx
   obtain ⟨hi, h2⟩ := iteL_some h
   have := hρ x rfl
   rw [hx] at this
   exact ⟨_, h2, .inr ⟨x, kd, i, rfl, this.int_inv, hi, rfl⟩⟩
  ·cases h
theorem run_bounds {lo hi : Option Operand} {b : Bool} {len cap l h : Nat} (hl : BndAt ρ lo 0 l) (hh : BndAt ρ hi len h) (h1 : l <= h) (h2 : h <= cap) {P : Program} :
  (Instr.sliceBounds b len cap (lo.map ρ) (hi.map ρ) none).run P w = .ok (l, h, cap) w := by
 rcases hl with ⟨rfl, rfl⟩ | ⟨x, kd, i, rfl, hx, hi0, rfl⟩ <;> rcases hh with ⟨rfl, rfl⟩ | ⟨y, kd', j, rfl, hy, hj0, rfl⟩
 ·simp [Instr.sliceBounds]
 ·have h2 : j <= (cap : Int) := by omega
  cases b <;> simp [Instr.sliceBounds, hy, Instr.sliceBound, asIntOf, hj0, h2]
 ·have h1 : i <= (h : Int) := by omega
  simp [Instr.sliceBounds, hx, Instr.sliceBound, asIntOf, hi0, h1]
 ·have h2 : j <= (cap : Int) := by omega
  have h1 : i <= j := by omega
  have h3 : max j 0 = j := by omega
  cases b <;> simp [Instr.sliceBounds, hx, hy, Instr.sliceBound, asIntOf, hi0, hj0, h1, h2, h3]
theorem sliceK_sound {t : TypeId} {va : V} {lo hi mx : Option Operand} {k : V -> Option R} {x : Value} (h : sliceK pg t va env lo hi mx k = some r) (hx : VRep pg.P c va x)
  (hlo : ∀ y, lo = some y -> VRep pg.P c (evO pg env 3 y) (ρ y)) (hhi : ∀ y, hi = some y -> VRep pg.P c (evO pg env 3 y) (ρ y)) :
  ∃ v z, k v = some r ∧ (Instr.sliceAt t x (lo.map ρ) (hi.map ρ) (mx.map ρ)).run pg.P c.w = .ok z c.w ∧ VRep pg.P c v z := by
 unfold sliceK at h
 split at h
 ·rename_i s hu
  split at h
  ·obtain rfl := hx.str_inv
   obtain ⟨l, h1, hl⟩ := bnd_sound h hlo
   obtain ⟨n, h2, hn⟩ := bnd_sound h1 hhi
   obtain ⟨⟨h3, h4⟩, h5⟩ := iteL_some h2
   refine ⟨_, _, h5, ?_, .pure (.str _)⟩
   simp [Instr.sliceAt, run_underlying hu, Instr.slice, run_bounds hl hn h3 h4]
  ·cases h
 ·rename_i e0 tok e es hu
  split at h
  ·obtain ⟨he, h0⟩ := condL_some h
   simp only [Bool.and_eq_true] at he
   obtain ⟨he, hkn⟩ := he
   have he : e0 = e := by simpa using he
   subst he
   obtain ⟨l, h1, hl⟩ := bnd_sound h0 hlo
   obtain ⟨n, h2, hn⟩ := bnd_sound h1 hhi
   obtain ⟨⟨h3, h4⟩, h5⟩ := iteL_some h2
   obtain ⟨d, hd⟩ := kn_some hkn
   cases hx.sl_inv with
   | @sl _ _ _ base cap f b o ht hbb hl' hc hr =>
    have hlen : ((es.drop l).take (n - l)).length = n - l := by simp; omega
    have hget : ∀ i, i < n - l -> ((es.drop l).take (n - l)).getD i [] = es.getD (i + l) [] := fun i hi => by
     simp [List.getD, hi, Nat.add_comm]
    refine ⟨_, .slice (if cap = l then base else base.map (·.add (l * sz pg.P e0))) (n - l) (cap - l), h5, ?_, ?_⟩
    ·simp [Instr.sliceAt, run_underlying hu, Instr.slice, run_bounds hl hn h3 (Nat.le_trans h4 hbb.2), run_sizeOf_u hd]
    ·have key : PRep pg.P c.w c.prot (.sl .no e0 ((es.drop l).take (n - l))) (.slice (if cap = l then base else base.map (·.add (l * sz pg.P e0))) ((es.drop l).take (n - l)).length (cap - l)) := by
      refine .sl (fun i j => f (i + l) j) b (o + l * sz pg.P e0) trivial ⟨fun hne => ?_, by rw [hlen]; have := hbb.2; omega⟩ (fun i hi => ?_) (fun i j hi hj => ?_) (fun i j hi hj => ?_)
      ·have h6 : n - l ≠ 0 := by
        intro h6
        rw [h6] at hne
        simp at hne
       have h7 : es ≠ [] := by intro h7; subst h7; simp at h4; omega
       rw [if_neg (by have := hbb.2; omega), hbb.1 h7]
       simp [Addr.add_lit]
      ·rw [hlen] at hi; rw [hget i hi]; exact hl' _ (by omega)
      ·rw [hlen] at hi
       have := hc (i + l) j (by omega) hj
       rw [show o + (i + l) * sz pg.P e0 + j = o + l * sz pg.P e0 + i * sz pg.P e0 + j by rw [Nat.add_mul]; omega] at this
       exact this
      ·rw [hlen] at hi; rw [hget i hi]; exact hr _ _ (by omega) hj
     rw [hlen] at key
     exact .pure key
  ·cases h
 ·cases h
theorem fieldK_some {s : TypeId} {f : Nat} {k : Nat -> TypeId -> Option R} (h : fieldK pg s f k = some r) : ∃ fs fd, pg.P.underlying s = some (.struct fs) ∧ fs[f]? = some fd ∧ k fd.offset fd.type = some r := by
 unfold fieldK at h
 split at h
 ·split at h
  ·exact ⟨_, _, ‹_›, ‹_›, h⟩
  ·cases h
 ·cases h
theorem addrK_sound {x : V} {d : Nat} {k : V -> Option R} {y : Value} (h : addrK x d k = some r) (hy : VRep pg.P c x y) : ∃ v b o, k v = some r ∧ y = .pointer (some ⟨b, o, none⟩) ∧ VRep pg.P c v (.pointer (some ⟨b, o + d, none⟩)) := by
 unfold addrK at h
 split at h
 ·obtain ⟨b, o, n, hb, rfl⟩ := hy.ref_inv
  exact ⟨_, _, _, h, rfl, by rw [Nat.add_assoc]; exact .ref _ hb⟩
 ·obtain ⟨b, o, n, hb, rfl, hi⟩ := hy.el_inv'
  exact ⟨_, _, _, h, rfl, by rw [Nat.add_assoc]; exact .el _ _ _ hb hi⟩
 ·cases hy.ptr_inv with
  | ptr f b o hc hr => exact ⟨_, _, _, h, rfl, by rw [Nat.add_assoc]; exact .pure (.ptr f b o hc hr)⟩
 ·cases h
theorem info_of_sz {P : Program} {t : TypeId} (h : sz P t ≠ 0) : ∃ i, P.info? t = some i := by
 unfold sz at h
 cases hi : P.info? t with
 | none => rw [hi] at h; exact absurd rfl h
 | some i => exact ⟨i, rfl⟩
theorem partV_sound {t : TypeId} {cs : List V} {xs : Array Value} {off : Nat} {k : V -> Option R} (h : partV pg t cs off k = some r) (hl : cs.length = xs.size) (hr : ∀ j, j < cs.length -> VRep pg.P c (cs.getD j .undef) (xs.getD j Go.undef)) :
  ∃ v x, k v = some r ∧ (part t xs off).run pg.P w = .ok x w ∧ VRep pg.P c v x := by
 unfold partV at h
 obtain ⟨hk, h1⟩ := condL_some h
 obtain ⟨d, hd⟩ := kn_some hk
 rcases cond_some h1 with ⟨ha, h2⟩ | ⟨ha, h2⟩
 ·refine ⟨_, .agg (xs.extract off (off + sz pg.P t)), h2, ?_, .agg (by simp; omega) fun j hj => ?_⟩
  ·unfold part
   simp [Sem.run_bind, run_isAgg' hd, ha, run_sizeOf_u hd]
  ·have hj' : j < sz pg.P t ∧ off + j < cs.length := by simp at hj; omega
   have h3 : off + j < xs.size := by omega
   have h5 : j < min (off + sz pg.P t) xs.size - off := by omega
   have e1 : ((cs.drop off).take (sz pg.P t)).getD j V.undef = cs.getD (off + j) V.undef := by simp [List.getD, hj'.1]
   have e2 : (xs.extract off (off + sz pg.P t)).getD j Go.undef = xs.getD (off + j) Go.undef := by simp [Array.getD, h3, h5]
   rw [e1, e2]; exact hr _ hj'.2
 ·split at h2
  ·cases h2
  ·rename_i hne
   have h3 := getD_of_ne hne
   exact ⟨_, _, h2, part_one hd ha (by omega), hr _ h3⟩
theorem indexK_sound {t : TypeId} {va vi : V} {k : V -> Option R} {x y : Value} (h : indexK pg t va vi k = some r) (hx : VRep pg.P c va x) (hy : VRep pg.P c vi y) :
  ∃ v z, k v = some r ∧ (Instr.index t x y).run pg.P c.w = .ok z c.w ∧ VRep pg.P c v z := by
 unfold indexK at h
 split at h
 ·rename_i s kd i hu
  obtain rfl := hx.str_inv
  obtain rfl := hy.int_inv
  obtain ⟨hi, h1⟩ := iteL_some h
  refine ⟨_, _, h1, by rw [run_index_string c.w t s kd i hu, dif_pos hi], ?_⟩
  refine .pure (PRep.int' ?_)
  have h2 : i.toNat < s.size := by omega
  have h3 : i.toNat < s.data.toList.length := by rw [Array.length_toList]; exact h2
  unfold byteAt
  simp [List.getD, List.getElem?_eq_getElem h3]
  rfl
 ·rename_i n e cs kd i hu
  obtain ⟨xs, rfl, hl, hr⟩ := hx.agg_inv
  obtain rfl := hy.int_inv
  obtain ⟨hi, h1⟩ := iteL_some h
  rcases cond_some h1 with ⟨_, h1⟩ | ⟨_, h1⟩
  ·have hd : ∃ d, pg.P.underlying e = some d := by
    unfold partV at h1
    exact kn_some (condL_some h1).1
   obtain ⟨v, z, h2, h3, h4⟩ := partV_sound (w := c.w) h1 hl hr
   obtain ⟨d, hd⟩ := hd
   refine ⟨v, z, h2, ?_, h4⟩
   simp [Instr.index, asIntOf, run_underlying hu, hi, run_sizeOf_u hd, h3]
  obtain ⟨v, z, h2, h3, h4⟩ := run_part_vrep (w := c.w) (c := c) (xs := xs) (off := i.toNat * sz pg.P e) h1 (fun j hj => by rw [<- hl]; exact getD_of_ne hj) (fun j hj => hr _ (by omega))
  have hd : ∃ d, pg.P.underlying e = some d := by
   unfold decT at h1
   rcases cond_some h1 with ⟨ha, h1⟩ | ⟨ha, h1⟩
   ·exact isAg_kn ha
   ·exact (dec1_vrep h1).choose_spec.2.2.1
  obtain ⟨d, hd⟩ := hd
  refine ⟨v, z, h2, ?_, h4⟩
  simp [Instr.index, asIntOf, run_underlying hu, hi, run_sizeOf_u hd, h3]
 ·cases h
theorem indexAddrK_sound {t : TypeId} {va vi : V} {k : V -> Option R} {x y : Value} (h : indexAddrK pg t va vi k = some r) (hx : VRep pg.P c va x) (hy : VRep pg.P c vi y) :
  ∃ v z, k v = some r ∧ (Instr.indexAt t x y).run pg.P c.w = .ok z c.w ∧ VRep pg.P c v z := by
 unfold indexAddrK at h
 split at h
 ·rename_i e tok e' es kd i hu
  obtain rfl := hy.int_inv
  obtain ⟨he, h1⟩ := condL_some h
  simp only [Bool.and_eq_true] at he
  obtain ⟨he, hk⟩ := he
  have he : e = e' := by simpa using he
  subst he
  obtain ⟨d, hd⟩ := kn_some hk
  obtain ⟨hi, h2⟩ := iteL_some h1
  cases hx.sl_inv with
  | @sl _ _ _ base cap f b o ht hbb hl hc hr =>
   have hne : es ≠ [] := by intro h0; subst h0; simp at hi; omega
   rw [hbb.1 hne]
   have hlt : i.toNat < es.length := by omega
   refine ⟨_, .pointer (some ⟨b, o + i.toNat * sz pg.P e, none⟩), h2, ?_, .pure ?_⟩
   ·simp [Instr.indexAt, asIntOf, run_underlying hu, hi, run_sizeOf_u hd, Addr.add_lit]
   ·have hln := hl _ hlt
    refine .ptr (off := 0) (fun j => f i.toNat j) b (o + i.toNat * sz pg.P e) (fun j hj => ?_) (fun j hj => ?_)
    ·rw [hln] at hj; exact hc _ _ hlt hj
    ·rw [hln] at hj; exact hr _ _ hlt hj
 ·cases h
end
end Go.Proofs.Ab
namespace Go.Proofs.Ab
open Go
section
variable {R : Type} {r : R} {pg : Pg} {c : Cx} {w : World} {ρ : Operand -> Value} {env : Env}
theorem arr_getD (xs : Array Value) (j : Nat) : xs.toList.getD j Go.undef = xs.getD j Go.undef := by
 by_cases h : j < xs.size <;> simp [Array.getD, List.getD, h]
theorem cvC_rep {P : Program} (t : TypeId) (v : Value) : VRep P c (cvC P t v) v := by
 unfold cvC
 split
 ·exact .pure (.int _ _)
 ·exact .pure (.bool _)
 ·exact .pure (.str _)
 ·exact .pure .nilp
 ·exact .pure .nili
 ·exact .pure .nilf
 ·split
  ·exact .pure (.sl (es := []) (fun _ _ => Go.undef) 0 0 ⟨rfl, rfl, rfl⟩ ⟨fun h => absurd rfl h, Nat.le_refl _⟩ (fun i hi => by cases hi) (fun i j hi => by cases hi) (fun i j hi => by cases hi))
  ·exact .nils
 ·exact .undef _
theorem cvL_rep {P : Program} : ∀ (ts : List TypeId) (vs : List Value), ts.length = vs.length -> (cvL P ts vs).length = vs.length ∧ ∀ j, VRep P c ((cvL P ts vs).getD j .undef) (vs.getD j Go.undef)
 | [], [], _ => ⟨rfl, fun j => by exact .undef _⟩
 | t :: ts, v :: vs, h => by
  obtain ⟨h1, h2⟩ := cvL_rep (P := P) ts vs (by simpa using h)
  refine ⟨by simp [cvL, h1], fun j => ?_⟩
  cases j with
  | zero => exact cvC_rep t v
  | succ j => simpa [cvL] using h2 j
theorem cvK_rep {P : Program} (t : TypeId) (v : Value) : VRep P c (cvK P t v) v := by
 unfold cvK
 split
 ·rename_i cs
  cases hb : Nat.beq (flat P deep t).length cs.size with
  | false => exact .undef _
  | true =>
   have hl : (flat P deep t).length = cs.toList.length := by simpa using hb
   obtain ⟨h1, h2⟩ := cvL_rep (c := c) (P := P) _ _ hl
   exact .agg (by simpa using h1) fun j hj => by rw [<- arr_getD]; exact h2 j
 ·exact cvC_rep t _
theorem zeroV_some {P : Program} {t : TypeId} {v : V} (h : zeroV P t = some v) : ∃ i z, P.info? t = some i ∧ i.zero = some z ∧ v = cvK P t z := by
 unfold zeroV at h
 split at h
 ·split at h
  ·cases h; exact ⟨_, _, ‹_›, ‹_›, rfl⟩
  ·cases h
 ·cases h
theorem zeroL_some {P : Program} {t : TypeId} {vs : List V} (h : zeroL P t = some vs) : ∃ i z, P.info? t = some i ∧ i.zero = some z ∧ vs.length = z.cells.size ∧ ∀ c j, VRep P c (vs.getD j .undef) (z.cells.getD j Go.undef) := by
 unfold zeroL at h
 split at h
 ·rename_i i hi
  split at h
  ·rename_i z hz
   obtain ⟨h1, h2⟩ := condL_some h
   cases h2
   have hl : (flat P deep t).length = z.cells.toList.length := by simpa using h1
   exact ⟨i, z, hi, hz, by simpa using (cvL_rep (c := ⟨default, fun _ => none, fun _ => none, fun _ _ => False, fun _ => False⟩) (P := P) _ _ hl).1,
    fun c j => by rw [<- arr_getD]; exact (cvL_rep (c := c) (P := P) _ _ hl).2 j⟩
  ·cases h
 ·cases h
theorem decR_vrep {t : TypeId} {v : V} {k : V -> Option R} (h : decR pg t v k = some r) : ∃ v', k v' = some r ∧ ∀ c x, VRep pg.P c v x -> VRep pg.P c v' x := by
 unfold decR at h
 rcases cond_some h with ⟨ha, h1⟩ | ⟨ha, h1⟩
 ·obtain ⟨cs, rfl, hl, h2⟩ := asAgg_some h1
  obtain ⟨vs, h3, h4, h5⟩ := decL_vrep h2
  refine ⟨_, h3, fun c x hx => ?_⟩
  obtain ⟨xs, rfl, h6, h7⟩ := hx.agg_inv
  refine .agg (by omega) fun j hj => ?_
  have := (h5 j (by omega)).2 c (xs.getD j Go.undef) (by simpa using h7 j (by omega))
  exact this
 ·obtain ⟨v', h2, _, _, h3⟩ := dec1_vrep h1
  exact ⟨v', h2, h3⟩
theorem tup2 {P : Program} {a b : V} {x y : Value} (ha : VRep P c a x) (hb : VRep P c b y) : VRep P c (.tup [a, b]) (.tuple #[x, y]) := by
 refine .tup rfl fun j hj => ?_
 match j, hj with
 | 0, _ => exact ha
 | 1, _ => exact hb
theorem assertK_sound {asserted xt : TypeId} {ok : Bool} {va : V} {k : V -> Option R} {x : Value} (h : assertK pg asserted ok va k = some r) (hx : VRep pg.P c va x) :
  ∃ v z, k v = some r ∧ (Instr.typeAssert x xt asserted ok).run pg.P c.w = .ok z c.w ∧ VRep pg.P c v z := by
 unfold assertK at h
 split at h
 ·cases h
 ·rename_i d hni hu
  have hni' : ∀ ms, d ≠ .interface ms := fun ms hd => hni ms (by rw [hd])
  split at h
  ·rename_i t v
   obtain ⟨y, rfl, hy⟩ := hx.iface_inv
   split at h
   ·rename_i ht
    subst ht
    obtain ⟨v', h1, h2⟩ := decR_vrep h
    rcases cond_some h1 with ⟨rfl, h3⟩ | ⟨rfl, h3⟩
    ·refine ⟨_, .tuple #[y, .bool true], h3, ?_, tup2 (h2 _ _ hy) (.pure (.bool _))⟩
     cases d <;> first | (simp [Instr.typeAssert, run_underlying hu]; done) | exact absurd rfl (hni' _)
    ·refine ⟨_, y, h3, ?_, h2 _ _ hy⟩
     cases d <;> first | (simp [Instr.typeAssert, run_underlying hu]; done) | exact absurd rfl (hni' _)
   ·rename_i ht
    obtain ⟨hok, h1⟩ := condL_some h
    subst hok
    split at h1
    ·rename_i v' hz
     obtain ⟨i, z, h2, h3, rfl⟩ := zeroV_some hz
     refine ⟨_, .tuple #[z, .bool false], h1, ?_, tup2 (cvK_rep _ _) (.pure (.bool _))⟩
     have e1 : (zeroValue asserted).run pg.P c.w = .ok z c.w := by simp [zeroValue, typeInfo, h2, h3]
     cases d <;> first | (simp [Instr.typeAssert, run_underlying hu, ht, e1]; done) | exact absurd rfl (hni' _)
    ·cases h1
  ·obtain rfl := hx.nili_inv
   obtain ⟨hok, h1⟩ := condL_some h
   subst hok
   split at h1
   ·rename_i v' hz
    obtain ⟨i, z, h2, h3, rfl⟩ := zeroV_some hz
    refine ⟨_, .tuple #[z, .bool false], h1, ?_, tup2 (cvK_rep _ _) (.pure (.bool _))⟩
    have e1 : (zeroValue asserted).run pg.P c.w = .ok z c.w := by simp [zeroValue, typeInfo, h2, h3]
    cases d <;> first | (simp [Instr.typeAssert, run_underlying hu, e1]; done) | exact absurd rfl (hni' _)
   ·cases h1
  ·cases h
 ·cases h
theorem setAt_length : ∀ (vs l : List V) (off : Nat), (setAt l off vs).length = l.length
 | [], _, _ => rfl
 | v :: vs, l, off => by simp [setAt, setAt_length vs]
theorem put_foldl (off : Nat) : ∀ (ys : List Value) (s : Nat) (xs : Array Value), ((ys.zipIdx s).foldl (fun cs (p : Value × Nat) => cs.setIfInBounds (off + p.2) p.1) xs).size = xs.size
 | [], _, _ => rfl
 | y :: ys, s, xs => by simp [put_foldl off ys]
theorem put_rep {P : Program} : ∀ (vs : List V) (ys : List Value) (s : Nat) (l : List V) (xs : Array Value) (off : Nat), vs.length = ys.length -> l.length = xs.size -> off + s + vs.length <= l.length ->
  (∀ j, VRep P c (vs.getD j .undef) (ys.getD j Go.undef)) -> (∀ j, j < l.length -> VRep P c (l.getD j .undef) (xs.getD j Go.undef)) ->
  ∀ j, j < l.length -> VRep P c ((setAt l (off + s) vs).getD j .undef) (((ys.zipIdx s).foldl (fun cs (p : Value × Nat) => cs.setIfInBounds (off + p.2) p.1) xs).getD j Go.undef)
 | [], [], s, l, xs, off, _, _, _, _, hx => hx
 | v :: vs, y :: ys, s, l, xs, off, hl, hl2, hle, hv, hx => by
  intro j hj
  have h0 := hv 0
  have := put_rep vs ys (s + 1) (l.set (off + s) v) (xs.setIfInBounds (off + s) y) off (by simpa using hl) (by simp [hl2]) (by simp at hle ⊢; omega) (fun j => by simpa using hv (j + 1))
   (fun j hj => by
    simp only [List.length_set] at hj
    by_cases he : off + s = j
    ·subst he
     have h1 : off + s < xs.size := by omega
     simpa [List.getD, Array.getD, hj, h1] using h0
    ·have h1 : j < xs.size := by omega
     have := hx j hj
     simp only [List.getD, Array.getD, h1, hj] at this ⊢
     simp [he, hj, h1, Array.getElem_setIfInBounds] at this ⊢
     exact this) j (by simpa using hj)
  simpa [setAt, Nat.add_assoc] using this
theorem one_cells {v : V} (h : (cellsOf v).all one = true) : v ≠ .undef ∧ (∀ l, v ≠ .tup l) ∧ v ≠ .hole := by
 refine ⟨?_, ?_, ?_⟩
 ·rintro rfl; cases h
 ·rintro l rfl; cases h
 ·rintro rfl; cases h
theorem fillV_sound {P : Program} {pv : Nat -> Option (Nat × Nat)} {px : Nat -> Option (Nat × Nat)} (hp : ∀ i o, pv i = some o -> px i = some o) : ∀ {ps : List (Nat × V)} {qs : List (Nat × Value)} {l l' : List V} {xs : Array Value},
  fillV pv l (ps.map fun p => (p.1, cellsOf p.2)) = some l' -> ps.length = qs.length -> (∀ j, j < ps.length -> (ps.getD j (0, .undef)).1 = (qs.getD j (0, Go.undef)).1 ∧ VRep P c (ps.getD j (0, .undef)).2 (qs.getD j (0, Go.undef)).2) ->
  l.length = xs.size -> (∀ j, j < l.length -> VRep P c (l.getD j .undef) (xs.getD j Go.undef)) ->
  ∃ ys, Instr.fill px xs qs = some ys ∧ l'.length = ys.size ∧ ∀ j, j < l'.length -> VRep P c (l'.getD j .undef) (ys.getD j Go.undef)
 | [], [], l, l', xs, h, _, _, hl, hx => by
  cases h; exact ⟨xs, rfl, hl, hx⟩
 | (i, v) :: ps, (i', x) :: qs, l, l', xs, h, hlen, hr, hl, hx => by
  have h0 := hr 0 (by simp)
  simp at h0
  obtain ⟨rfl, hvx⟩ := h0
  simp only [List.map_cons, fillV] at h
  split at h
  ·cases h
  ·rename_i off s hpv
   obtain ⟨hb, h1⟩ := condL_some h
   simp only [Bool.and_eq_true] at hb
   obtain ⟨⟨hs, hle⟩, hone⟩ := hb
   have hs : (cellsOf v).length = s := by simpa using hs
   have hle : off + s <= l.length := by simpa using hle
   obtain ⟨n1, n2, n3⟩ := one_cells hone
   obtain ⟨hc1, hc2⟩ := hvx.cells n1 n2 n3
   have hc2' : ∀ j, VRep P c ((cellsOf v).getD j .undef) (x.cells.toList.getD j Go.undef) := fun j => by
    rcases Nat.lt_or_ge j (cellsOf v).length with h | h
    ·rw [arr_getD]; exact hc2 j h
    ·rw [show (cellsOf v).getD j .undef = .undef by simp [List.getD, List.getElem?_eq_none h]]; exact .undef _
   have key := put_rep (c := c) (P := P) (cellsOf v) x.cells.toList 0 l xs off (by simpa using hc1) hl (by omega) hc2' hx
   obtain ⟨ys, h2, h3, h4⟩ := fillV_sound hp (l := setAt l off (cellsOf v)) (xs := (x.cells.toList.zipIdx 0).foldl (fun cs (p : Value × Nat) => cs.setIfInBounds (off + p.2) p.1) xs) h1 (by simpa using hlen)
    (fun j hj => by have := hr (j + 1) (by simpa using hj); simpa using this) (by rw [setAt_length, put_foldl]; exact hl) (fun j hj => by rw [setAt_length] at hj; simpa using key j hj)
   refine ⟨ys, ?_, h3, h4⟩
   unfold Instr.fill
   have e1 : ¬ ((x.cells.size != s) || decide (off + x.cells.size > xs.size)) = true := by
    simp; omega
   simp only [hp i _ hpv]
   rw [<- h2]
   have e2 : x.cells.size = s := by omega
   have e3 : ¬ (off + s > xs.size) := by omega
   simp [e2, e3]
   congr 1
   rw [show s = x.cells.zipIdx.size by simp [e2], <- Array.foldl_toList]
   simp
end
end Go.Proofs.Ab
namespace Go.Proofs.Ab
open Go
section
variable {R : Type} {r : R} {pg : Pg} {c : Cx} {w : World} {ρ : Operand -> Value} {env : Env}
theorem places_of {P : Program} : ∀ {fs : List Field}, (fs.all fun f => kn P f.type) = true -> fs.mapM (fun f => (P.info? f.type).map fun i => (f.offset, i.size)) = some (fs.map fun f => (f.offset, sz P f.type))
 | [], _ => rfl
 | f :: fs, h => by
  simp only [List.all_cons, Bool.and_eq_true] at h
  obtain ⟨d, hd⟩ := kn_some h.1
  obtain ⟨i, hi⟩ := info_of_underlying hd
  have e : sz P f.type = i.size := by simp [sz, hi]
  simp [List.mapM_cons, hi, places_of h.2, e]
theorem built_struct {P : Program} {t : TypeId} {fs : Array Field} {it : TypeInfo} {z : Value} (hu : P.underlying t = some (.struct fs)) (hi : P.info? t = some it) (hz : it.zero = some z)
  (hk : (fs.toList.all fun f => kn P f.type) = true) {parts : List (Nat × Value)} {cells : Array Value} (h : Instr.fill (fun i => (fs[i]?).map fun f => (f.offset, sz P f.type)) z.cells parts = some cells) :
  P.built t parts = some cells := by
 unfold Program.built
 simp only [hi, hu, hz, places_of hk]
 rw [<- h]
 congr 1
 funext i
 simp
theorem built_array {P : Program} {t e : TypeId} {n : Nat} {it : TypeInfo} {z : Value} (hu : P.underlying t = some (.array n e)) (hi : P.info? t = some it) (hz : it.zero = some z)
  (hk : kn P e = true) {parts : List (Nat × Value)} {cells : Array Value} (h : Instr.fill (fun i => some (i * sz P e, sz P e)) z.cells parts = some cells) : P.built t parts = some cells := by
 obtain ⟨d, hd⟩ := kn_some hk
 obtain ⟨i, hi'⟩ := info_of_underlying hd
 have e : sz P e = i.size := by simp [sz, hi']
 unfold Program.built
 simp only [hi, hu, hz, hi']
 rw [<- h, e]
theorem build_aux {parts : Array (Nat × Operand)} (hρ : ∀ p ∈ parts.toList, ∀ t, VRep pg.P c (evO pg env t p.2) (ρ p.2)) (ty : Nat × Operand -> TypeId) {pv : Nat -> Option (Nat × Nat)} {z : Value} {z' l' : List V}
  (hl : z'.length = z.cells.size) (hz : ∀ j, VRep pg.P c (z'.getD j .undef) (z.cells.getD j Go.undef)) (hf : fillV pv z' (parts.toList.map fun p => (p.1, cellsOf (evO pg env (ty p) p.2))) = some l') :
   ∃ ys, Instr.fill pv z.cells (parts.toList.map fun p => (p.1, ρ p.2)) = some ys ∧ l'.length = ys.size ∧ ∀ j, j < l'.length -> VRep pg.P c (l'.getD j .undef) (ys.getD j Go.undef) := by
 refine fillV_sound (c := c) (P := pg.P) (pv := pv) (px := pv) (fun _ _ h => h) (ps := parts.toList.map fun p => (p.1, evO pg env (ty p) p.2)) (by rw [List.map_map]; exact hf) (by simp) (fun j hj => ?_) hl (fun j _ => hz j)
 simp only [List.length_map] at hj
 have := hρ _ (List.getElem_mem hj) (ty (parts.toList[j]))
 simp only [Array.length_toList] at hj
 simpa [List.getD, hj] using this
theorem buildK_sound {t : TypeId} {parts : Array (Nat × Operand)} {k : V -> Option R} (h : buildK pg env t parts.toList k = some r) (hρ : ∀ p ∈ parts.toList, ∀ t, VRep pg.P c (evO pg env t p.2) (ρ p.2)) :
  ∃ v z, k v = some r ∧ (Instr.build t (parts.map fun (i, x) => (i, ρ x))).run pg.P w = .ok z w ∧ VRep pg.P c v z := by
 unfold buildK at h
 split at h
 ·rename_i fs z' hu hz
  obtain ⟨hk, h1⟩ := condR_some h
  have hk : (fs.toList.all fun f => kn pg.P f.type) = true := by simpa using hk
  obtain ⟨i, z, hi, hz1, hz2, hz3⟩ := zeroL_some hz
  split at h1
  ·rename_i cs hf
   have e := build_aux (l' := cs) (z' := z') (z := z) hρ (fun p => ((fs[p.1]?).map (·.type)).getD 0) hz2 (hz3 c) (pv := fun i => Option.map (fun f => (f.offset, sz pg.P f.type)) fs[i]?)
   obtain ⟨ys, h2, h3, h4⟩ := e hf
   refine ⟨_, .agg ys, h1, run_build w t _ ys ?_, .agg h3 h4⟩
   have := built_struct hu hi hz1 hk h2
   simpa using this
  ·cases h1
 ·rename_i n e z' hu hz
  obtain ⟨hk, h1⟩ := condR_some h
  have hk : kn pg.P e = true := by simpa using hk
  obtain ⟨i, z, hi, hz1, hz2, hz3⟩ := zeroL_some hz
  split at h1
  ·rename_i cs hf
   have e0 := build_aux (l' := cs) (z' := z') (z := z) hρ (fun _ => e) hz2 (hz3 c) (pv := fun i => some (i * sz pg.P e, sz pg.P e))
   obtain ⟨ys, h2, h3, h4⟩ := e0 hf
   refine ⟨_, .agg ys, h1, run_build w t _ ys ?_, .agg h3 h4⟩
   have := built_array hu hi hz1 hk h2
   simpa using this
  ·cases h1
 ·cases h
theorem maxK_sound {P : Program} {kd : IntKind} {k : V -> Option R} : ∀ {l : List V} {ys : List Value} {a : Int}, maxK .max kd a l k = some r -> l.length = ys.length -> (∀ j, j < l.length -> VRep P c (l.getD j .undef) (ys.getD j Go.undef)) ->
  ∃ v z, k v = some r ∧ (ys.foldlM Builtin.max2 (.int kd a)).run P w = .ok z w ∧ VRep P c v z
 | [], [], a, h, _, _ => ⟨_, _, h, rfl, .pure (.int _ _)⟩
 | v :: l, y :: ys, a, h, hl, hr => by
  unfold maxK at h
  split at h
  ·cases ‹_ :: _ = []›
  ·rename_i heq
   cases heq
   obtain ⟨rfl, h1⟩ := iteL_some h
   have h0 := (hr 0 (by simp)).int_inv
   simp at h0
   subst h0
   obtain ⟨v, z, h2, h3, h4⟩ := maxK_sound h1 (by simpa using hl) (fun j hj => by have := hr (j + 1) (by simpa using hj); simpa using this)
   refine ⟨v, z, h2, ?_, h4⟩
   simpa [List.foldlM_cons, Builtin.max2] using h3
  ·cases h
theorem minK_sound {P : Program} {kd : IntKind} {k : V -> Option R} : ∀ {l : List V} {ys : List Value} {a : Int}, maxK .min kd a l k = some r -> l.length = ys.length -> (∀ j, j < l.length -> VRep P c (l.getD j .undef) (ys.getD j Go.undef)) ->
  ∃ v z, k v = some r ∧ (ys.foldlM Builtin.min2 (.int kd a)).run P w = .ok z w ∧ VRep P c v z
 | [], [], a, h, _, _ => ⟨_, _, h, rfl, .pure (.int _ _)⟩
 | v :: l, y :: ys, a, h, hl, hr => by
  unfold maxK at h
  split at h
  ·cases ‹_ :: _ = []›
  ·rename_i heq
   cases heq
   obtain ⟨rfl, h1⟩ := iteL_some h
   have h0 := (hr 0 (by simp)).int_inv
   simp at h0
   subst h0
   obtain ⟨v, z, h2, h3, h4⟩ := minK_sound h1 (by simpa using hl) (fun j hj => by have := hr (j + 1) (by simpa using hj); simpa using this)
   refine ⟨v, z, h2, ?_, h4⟩
   simpa [List.foldlM_cons, Builtin.min2] using h3
  ·cases h
theorem lenK_sound {t ty : TypeId} {va : V} {k : V -> Option R} {x : Value} {ts : Array TypeId} {xs : Array Value} (h : lenK pg t va k = some r) (hx : VRep pg.P c va x) (ht : ts[0]? = some t) (hxs : xs[0]? = some x) :
  ∃ v z, k v = some r ∧ (Builtin.len_ ts ty xs).run pg.P w = .ok z w ∧ VRep pg.P c v z := by
 unfold lenK at h
 split at h
 ·rename_i hu
  obtain rfl := hx.str_inv
  exact ⟨_, _, h, by simp [Builtin.len_, ht, hxs, run_underlying hu, goInt], .pure (.int _ _)⟩
 ·rename_i hu
  cases hx.sl_inv with
  | sl f b o hf hb hl hc hr => exact ⟨_, _, h, by simp [Builtin.len_, ht, hxs, run_underlying hu, goInt], .pure (.int _ _)⟩
 ·rename_i hu
  obtain rfl := hx.nils_inv
  exact ⟨_, _, h, by simp [Builtin.len_, ht, hxs, run_underlying hu, goInt], .pure (.int _ _)⟩
 ·cases h
theorem biQ_sound {b : Builtin} {ts : Array TypeId} {args : Array Operand} {k : V -> Option R} (h : biQ pg b ts.toList ((args.toList.zip ts.toList).map fun p => evO pg env p.2 p.1) k = some r) (hs : args.size = ts.size)
  (hρ : ∀ x ∈ args, ∀ t, VRep pg.P c (evO pg env t x) (ρ x)) (ty : TypeId) (cs : Array Bool) :
  ∃ v z, k v = some r ∧ (builtin b ts ty cs (args.map ρ)).run pg.P w = .ok (.value z) w ∧ VRep pg.P c v z := by
 have hrep : ∀ j, j < args.size -> VRep pg.P c (((args.toList.zip ts.toList).map fun p => evO pg env p.2 p.1).getD j .undef) ((args.toList.map ρ).getD j Go.undef) := fun j hj => by
  have hj2 : j < ts.size := by omega
  have := hρ args[j] (Array.getElem_mem hj) ts[j]
  have hz : (args.toList.zip ts.toList)[j]? = some (args[j], ts[j]) := by
   rw [List.getElem?_eq_getElem (by simp; omega)]; simp
  simpa [List.getD, hj, hz] using this
 have hlen : ((args.toList.zip ts.toList).map fun p => evO pg env p.2 p.1).length = args.size := by simp [hs]
 generalize hL : ((args.toList.zip ts.toList).map fun p => evO pg env p.2 p.1) = L at h hrep hlen
 unfold biQ at h
 split at h
 ·rename_i t v ht
  have h1 : args.size = 1 := by simpa using hlen.symm
  have h2 : 0 < args.size := by omega
  have h0 := hrep 0 h2
  rw [show (args.toList.map ρ).getD 0 Go.undef = ρ args[0] by simp [List.getD, h2]] at h0
  have hx : (args.map ρ)[0]? = some (ρ args[0]) := by simp [h2]
  obtain ⟨v', z, h2, h3, h4⟩ := lenK_sound (w := w) (ty := ty) (ts := ts) (xs := args.map ρ) h (by simpa using h0) (by rw [<- Array.getElem?_toList, ht]; rfl) hx
  exact ⟨v', z, h2, by simp [builtin, h3], h4⟩
 ·rename_i kd a l
  obtain ⟨y, ys, hy⟩ : ∃ y ys, args.toList.map ρ = y :: ys := by
   cases hm : args.toList.map ρ with
   | nil =>
    have h9 : args.size = 0 := by have := congrArg List.length hm; rwa [List.length_map, Array.length_toList] at this
    rw [h9] at hlen; cases hlen
   | cons y ys => exact ⟨y, ys, rfl⟩
  rw [hy] at hrep
  have h0 := (hrep 0 (by rw [<- hlen]; simp)).int_inv
  simp at h0
  subst h0
  have hl2 : l.length = ys.length := by have := congrArg List.length hy; simp at this hlen; omega
  obtain ⟨v', z, h2, h3, h4⟩ := maxK_sound (w := w) h hl2 (fun j hj => by have := hrep (j + 1) (by rw [<- hlen]; simpa using hj); simpa using this)
  exact ⟨v', z, h2, by simp [builtin, Builtin.max_, hy, h3], h4⟩
 ·rename_i kd a l
  obtain ⟨y, ys, hy⟩ : ∃ y ys, args.toList.map ρ = y :: ys := by
   cases hm : args.toList.map ρ with
   | nil =>
    have h9 : args.size = 0 := by have := congrArg List.length hm; rwa [List.length_map, Array.length_toList] at this
    rw [h9] at hlen; cases hlen
   | cons y ys => exact ⟨y, ys, rfl⟩
  rw [hy] at hrep
  have h0 := (hrep 0 (by rw [<- hlen]; simp)).int_inv
  simp at h0
  subst h0
  have hl2 : l.length = ys.length := by have := congrArg List.length hy; simp at this hlen; omega
  obtain ⟨v', z, h2, h3, h4⟩ := minK_sound (w := w) h hl2 (fun j hj => by have := hrep (j + 1) (by rw [<- hlen]; simpa using hj); simpa using this)
  exact ⟨v', z, h2, by simp [builtin, Builtin.min_, hy, h3], h4⟩
 ·cases h
theorem opQ_sound {o : Oper} {k : V -> Option R} (h : opQ pg env o k = some r) (hρ : ∀ x ∈ o.op.operands, ∀ t, VRep pg.P c (evO pg env t x) (ρ x)) :
  ∃ v x, k v = some r ∧ (execOp ρ o).run pg.P c.w = .ok (.value x) c.w ∧ VRep pg.P c v x := by
 unfold opQ at h
 split at h
 ·rename_i x ho
  rw [ho] at hρ
  exact ⟨_, ρ x, h, by simp [execOp, ho], hρ x (by simp [Op.operands]) _⟩
 ·rename_i x ho
  rw [ho] at hρ
  exact ⟨_, ρ x, h, by simp [execOp, ho], hρ x (by simp [Op.operands]) _⟩
 ·rename_i cc a b ho
  rw [ho] at hρ
  split at h
  ·have h0 := hρ cc (by simp [Op.operands]) 0
   rw [show evO pg env 0 cc = .bool true by assumption] at h0
   exact ⟨_, ρ a, h, by simp [execOp, ho, asBool, h0.bool_inv], hρ a (by simp [Op.operands]) _⟩
  ·have h0 := hρ cc (by simp [Op.operands]) 0
   rw [show evO pg env 0 cc = .bool false by assumption] at h0
   exact ⟨_, ρ b, h, by simp [execOp, ho, asBool, h0.bool_inv], hρ b (by simp [Op.operands]) _⟩
  ·cases h
 ·rename_i x ho
  rw [ho] at hρ
  have h0 := hρ x (by simp [Op.operands]) 0
  split at h
  ·rename_i id off hx
   rw [hx] at h0
   obtain ⟨b, o', n, _, e⟩ := h0.ref_inv
   exact ⟨_, ρ x, h, by simp only [execOp, ho]; rw [e]; rfl, h0⟩
  ·rename_i id e i j hx
   rw [hx] at h0
   obtain ⟨b, o', n, _, e⟩ := h0.el_inv
   exact ⟨_, ρ x, h, by simp only [execOp, ho]; rw [e]; rfl, h0⟩
  ·rename_i cs off hx
   rw [hx] at h0
   refine ⟨_, ρ x, h, ?_, h0⟩
   simp only [execOp, ho]
   generalize ρ x = y at h0
   have h1 := h0.ptr_inv
   cases h1 with
   | ptr f b o' hc hr => rfl
  ·rename_i f cap hx
   rw [hx] at h0
   obtain ⟨xs, e, _⟩ := h0.fn_inv
   exact ⟨_, ρ x, h, by simp only [execOp, ho]; rw [e]; rfl, h0⟩
  ·cases h
 ·rename_i op xt x y _ ho
  rw [ho] at hρ
  obtain ⟨v, z, h1, h2, h3⟩ := binK_sound h (hρ x (by simp [Op.operands]) _) (hρ y (by simp [Op.operands]) _) x y (fun hc => by cases y <;> first | exact ⟨_, rfl⟩ | cases hc)
  refine ⟨v, z, h1, ?_, h3⟩
  simp only [execOp, ho]
  rw [Sem.run_bind, h2]
  rfl
 ·rename_i op xt x ho
  rw [ho] at hρ
  obtain ⟨v, z, h1, h2, h3⟩ := unK_sound (P := pg.P) h (hρ x (by simp [Op.operands]) _)
  exact ⟨v, z, h1, by simp only [execOp, ho]; rw [Sem.run_bind, h2]; rfl, h3⟩
 ·rename_i src dst x ho
  rw [ho] at hρ
  obtain ⟨v, z, h1, h2, h3⟩ := convK_sound h (hρ x (by simp [Op.operands]) _)
  exact ⟨v, z, h1, by simp only [execOp, ho]; rw [Sem.run_bind, h2]; rfl, h3⟩
 ·rename_i x xt asserted ok ho
  rw [ho] at hρ
  obtain ⟨v, z, h1, h2, h3⟩ := assertK_sound (xt := xt) h (hρ x (by simp [Op.operands]) _)
  exact ⟨v, z, h1, by simp only [execOp, ho]; rw [Sem.run_bind, h2]; rfl, h3⟩
 ·rename_i t x lo hi mx ho
  rw [ho] at hρ
  obtain ⟨v, z, h1, h2, h3⟩ := sliceK_sound h (hρ x (by simp [Op.operands]) _) (fun y hy => hρ y (by simp [Op.operands, hy]) _) (fun y hy => hρ y (by simp [Op.operands, hy]) _)
  exact ⟨v, z, h1, by simp only [execOp, ho]; rw [Sem.run_bind, h2]; rfl, h3⟩
 ·rename_i s x f ho
  rw [ho] at hρ
  obtain ⟨fs, fd, hu, hf, h1⟩ := fieldK_some h
  obtain ⟨hs, h2⟩ := condR_some h1
  have hs : sz pg.P fd.type ≠ 0 := by intro e; rw [e] at hs; cases hs
  obtain ⟨i, hi⟩ := info_of_sz hs
  obtain ⟨v, b, o', h3, h4, h5⟩ := addrK_sound h2 (hρ x (by simp [Op.operands]) _)
  refine ⟨v, _, h3, ?_, h5⟩
  simp only [execOp, ho, h4]
  simp [Instr.fieldAt, run_underlying hu, hf, Instr.sureAddr, fieldPlace, run_sizeOf' hi, hs, Addr.add_lit]
 ·rename_i s x f ho
  rw [ho] at hρ
  obtain ⟨fs, fd, hu, hf, h1⟩ := fieldK_some h
  have h0 := hρ x (by simp [Op.operands]) s
  split at h1
  ·rename_i cs hx
   rw [hx] at h0
   obtain ⟨xs, e, hl, hr⟩ := h0.agg_inv
   obtain ⟨v, z, h2, h3, h4⟩ := partV_sound (w := c.w) h1 hl hr
   refine ⟨v, z, h2, ?_, h4⟩
   simp only [execOp, ho, e]
   simp [Instr.field, run_underlying hu, hf, asAgg, h3]
  ·cases h1
 ·rename_i t x ix ho
  rw [ho] at hρ
  obtain ⟨v, z, h1, h2, h3⟩ := indexK_sound h (hρ x (by simp [Op.operands]) _) (hρ ix (by simp [Op.operands]) _)
  exact ⟨v, z, h1, by simp only [execOp, ho]; rw [Sem.run_bind, h2]; rfl, h3⟩
 ·rename_i t x ix ho
  rw [ho] at hρ
  obtain ⟨v, z, h1, h2, h3⟩ := indexAddrK_sound h (hρ x (by simp [Op.operands]) _) (hρ ix (by simp [Op.operands]) _)
  exact ⟨v, z, h1, by simp only [execOp, ho]; rw [Sem.run_bind, h2]; rfl, h3⟩
 ·rename_i t i ho
  rw [ho] at hρ
  have h0 := hρ t (by simp [Op.operands]) 0
  split at h
  ·rename_i vs hx
   rw [hx] at h0
   obtain ⟨xs, e, hl, hr⟩ := h0.tup_inv
   split at h
   ·cases h
   ·rename_i hne
    have hlt := getD_of_ne hne
    have h1 := hr i hlt
    have hlt2 : i < xs.size := by omega
    refine ⟨_, xs.getD i Go.undef, h, ?_, h1⟩
    simp only [execOp, ho, e]
    simp [Instr.extract, hlt2, Array.getD]
  ·cases h
 ·rename_i t a ho
  rw [ho] at hρ
  have h0 := hρ a (by simp [Op.operands]) 0
  split at h
  ·rename_i cs off hx
   rw [hx] at h0
   have h1 := h0.ptr_inv
   generalize hy : ρ a = y at h1
   cases h1 with
   | ptr f b o' hc hr =>
    obtain ⟨v, z, h2, h3, h4⟩ := run_loadVar_ptr (w := c.w) (prot := c.prot) (b := b) (o := o' + off) (f := fun j => f (off + j)) (n := cs.length - off) h
     (fun j hj => by have := getD_of_ne hj; omega) (fun j hj => by rw [Nat.add_assoc]; exact (hc (off + j) (by omega)).2.1) (fun j hj => hr (off + j) (by omega))
    refine ⟨v, z, h2, ?_, .pure h4⟩
    simp only [execOp, ho, hy]
    simp [Instr.loadAt, Instr.sureAddr, h3]
  ·cases h
 ·rename_i t parts ho
  rw [ho] at hρ
  obtain ⟨v, z, h1, h2, h3⟩ := buildK_sound (w := c.w) h (fun p hp => hρ p.2 (by simp [Op.operands]; exact ⟨p.1, by simpa using hp⟩))
  exact ⟨v, z, h1, by simp only [execOp, ho]; rw [Sem.run_bind, h2]; rfl, h3⟩
 ·rename_i b args ts ho
  rw [ho] at hρ
  obtain ⟨hs, h1⟩ := condL_some h
  obtain ⟨v, z, h2, h3, h4⟩ := biQ_sound (w := c.w) (ρ := ρ) h1 (by simpa using hs) (fun x hx => hρ x (by simp [Op.operands, Call.operands, hx])) o.type (args.map fun | .const _ => true | _ => false)
  refine ⟨v, z, h2, ?_, h4⟩
  simp only [execOp, ho, resolve, Sem.run_bind]
  simp only [Sem.run_pure, Result.andThen_ok, invoke]
  exact h3
 ·cases h
end
end Go.Proofs.Ab
