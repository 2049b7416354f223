/- Plain words: what simp is to know of the machine's equations. Own work. -/
import Derived.Test.YtipjanijidbelaaPxOpen
import Derived.Test.YtipjanijidbelaaPxDec
namespace Go.Proofs.Px
open Go Go.Proofs.Ab
set_option linter.unusedVariables false

@[simp] theorem int_beq (a b : Int) : (a == b) = decide (a = b) := by by_cases h : a = b <;> simp [h]
@[simp] theorem int_bne (a b : Int) : (a != b) = !decide (a = b) := by by_cases h : a = b <;> simp [bne, h]
@[simp] theorem nat_neg_not (n : Nat) : (((n : Nat) : Int) < 0) = False := by simp
@[simp] theorem mk_B (l : List UInt8) : ByteArray.mk l.toArray = B l := rfl
@[simp] theorem B_eq (a b : List UInt8) : (B a = B b) = (a = b) := propext B_inj
/-- The token of a slice that is nil, or not. -/
def tkz (z : Bool) : Tok := if z then .nil else .nn
@[simp] theorem tkz_true : tkz true = .nil := rfl
@[simp] theorem tkz_false : tkz false = .nn := rfl
@[simp] theorem tokOf_tkz (z : Bool) (es : List (List V)) : tokOf true (tkz z) es = tkz z := by cases z <;> rfl
@[simp] theorem tokOf_nil (es : List (List V)) : tokOf true .nil es = .nil := rfl
@[simp] theorem tokOf_nn (es : List (List V)) : tokOf true .nn es = .nn := rfl
@[simp] theorem asSlN_nil {R : Type} (e : TypeId) (es : List (List V)) (k : Bool → List (List V) → Option R) : V.asSlN (.sl .nil e es) e k = k true es := by simp [V.asSlN]
@[simp] theorem asSlN_nn {R : Type} (e : TypeId) (es : List (List V)) (k : Bool → List (List V) → Option R) : V.asSlN (.sl .nn e es) e k = k false es := by simp [V.asSlN]
@[simp] theorem asSlN_tkz {R : Type} (z : Bool) (e : TypeId) (es : List (List V)) (k : Bool → List (List V) → Option R) : V.asSlN (.sl (tkz z) e es) e k = k z es := by cases z <;> simp
theorem ZTok_tkz {tok : Tok} {es : List (List V)} (h : ZTok true tok es) : ∃ z, tok = tkz z ∧ (z = true → es = []) := by
  unfold ZTok at h
  rw [if_pos rfl] at h
  rcases h with ⟨rfl, h⟩ | rfl
  · exact ⟨true, rfl, fun _ => h⟩
  · exact ⟨false, rfl, fun h => Bool.noConfusion h⟩
/-- Rows of texts, of whole numbers. -/
def sv (l : List (List UInt8)) : List (List V) := l.map fun s => [.str (B s)]
def iv (l : List Int) : List (List V) := l.map fun n => [.int .i64 n]
@[simp] theorem sv_len (l : List (List UInt8)) : (sv l).length = l.length := by simp [sv]
@[simp] theorem iv_len (l : List Int) : (iv l).length = l.length := by simp [iv]
@[simp] theorem sv_nil : sv [] = [] := rfl
@[simp] theorem iv_nil : iv [] = [] := rfl
theorem sv_at (l : List (List UInt8)) (i : Nat) (h : i < l.length) : List.getD (List.getD (sv l) i []) 0 V.undef = .str (B l[i]) := by
  unfold sv
  rw [List.getD_eq_getElem?_getD (l := List.map _ _), List.getElem?_map, List.getElem?_eq_getElem h]; rfl
theorem iv_at (l : List Int) (i : Nat) (h : i < l.length) : List.getD (List.getD (iv l) i []) 0 V.undef = .int .i64 l[i] := by
  unfold iv
  rw [List.getD_eq_getElem?_getD (l := List.map _ _), List.getElem?_map, List.getElem?_eq_getElem h]; rfl
theorem map_at {α : Type} (f : α → List V) (l : List α) (i : Nat) (h : i < l.length) : List.getD (l.map f) i [] = f l[i] := by
  rw [List.getD_eq_getElem?_getD, List.getElem?_map, List.getElem?_eq_getElem h]; rfl
@[simp] theorem iv_app (a b : List Int) : iv a ++ iv b = iv (a ++ b) := by simp [iv]
@[simp] theorem sv_app (a b : List (List UInt8)) : sv a ++ sv b = sv (a ++ b) := by simp [sv]
theorem iv_one (n : Int) : [[V.int .i64 n]] = iv [n] := rfl
theorem sv_one (s : List UInt8) : [[V.str (B s)]] = sv [s] := rfl
/-- A place of a row, as tests of it stand in the machine's equations. -/
theorem in_row {i n : Nat} (h : i < n) : (0 : Int) ≤ (i : Int) ∧ (i : Int) < ((n : Nat) : Int) := by omega
end Go.Proofs.Px
