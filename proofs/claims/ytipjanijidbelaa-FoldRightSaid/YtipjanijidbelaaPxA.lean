/- Plain words for the laws: reading the abstract machine's equations, loops, texts. Own work. -/
import Derived.Test.YtipjanijidbelaaCoreC
import Derived.IntWalk
namespace Go.Proofs.Ab
open Go
set_option linter.unusedVariables false

section
variable {R : Type}
@[simp] theorem onRet_ret (v : V) (bl : List Blk) (pn : Option (Option V)) (k : V → Option R) : Res.onRet ⟨.ret v, bl, pn⟩ k = k v := rfl
@[simp] theorem bl_mk (o : Out) (bl : List Blk) (pn : Option (Option V)) : Res.bl ⟨o, bl, pn⟩ = bl := rfl
@[simp] theorem onOut_ret (v : V) (bl : List Blk) (pn : Option (Option V)) (k kp : V → Option R) : Res.onOut ⟨.ret v, bl, pn⟩ k kp = k v := rfl
@[simp] theorem onOut_pan (v : V) (bl : List Blk) (pn : Option (Option V)) (k kp : V → Option R) : Res.onOut ⟨.pan v, bl, pn⟩ k kp = kp v := rfl
@[simp] theorem onPn_none (o : Out) (bl : List Blk) (k0 : Option R) (k1 : V → Option R) : Res.onPn ⟨o, bl, some none⟩ k0 k1 = k0 := rfl
@[simp] theorem onPn_some (o : Out) (bl : List Blk) (v : V) (k0 : Option R) (k1 : V → Option R) : Res.onPn ⟨o, bl, some (some v)⟩ k0 k1 = k1 v := rfl
@[simp] theorem asBool_bool (b : Bool) (k : Bool → Option R) : V.asBool (.bool b) k = k b := rfl
@[simp] theorem asStr_str (s : ByteArray) (k : ByteArray → Option R) : V.asStr (.str s) k = k s := rfl
@[simp] theorem asInt_int (kd : IntKind) (n : Int) (k : Int → Option R) : V.asInt (.int kd n) kd k = k n := by simp [V.asInt]
@[simp] theorem asSl_sl (t : Tok) (e : TypeId) (es : List (List V)) (k : List (List V) → Option R) : V.asSl (.sl t e es) e k = k es := by simp [V.asSl]
@[simp] theorem asSlR_sl (p : Nat) (e : TypeId) (es : List (List V)) (k : List (List V) → Option R) : V.asSlR (.sl (.row p) e es) p e k = k es := by simp [V.asSlR]
@[simp] theorem asIface_iface (t : TypeId) (v : V) (k : V → Option R) : V.asIface (.iface t v) t k = k v := by simp [V.asIface]
@[simp] theorem asTup_tup (vs : List V) (n : Nat) (h : vs.length = n) (k : (Nat → V) → Option R) : V.asTup (.tup vs) n k = k (fun j => vs.getD j .undef) := by simp [V.asTup, h]
@[simp] theorem asAgg_agg (vs : List V) (n : Nat) (h : vs.length = n) (k : (Nat → V) → Option R) : V.asAgg (.agg vs) n k = k (fun j => vs.getD j .undef) := by simp [V.asAgg, h]
@[simp] theorem asTup_0 (k : (Nat → V) → Option R) : V.asTup (.tup []) 0 k = k (fun j => List.getD [] j .undef) := rfl
@[simp] theorem asAgg_0 (k : (Nat → V) → Option R) : V.asAgg (.agg []) 0 k = k (fun j => List.getD [] j .undef) := rfl
@[simp] theorem asCells_0 (t : TypeId) (k : (Nat → V) → Option R) : Blk.asCells (.cells t [] false) t 0 k = k (fun j => List.getD [] j .undef) := by simp [Blk.asCells]
@[simp] theorem asTup_1 (x0 : V) (k : (Nat → V) → Option R) : V.asTup (.tup [x0]) 1 k = k (fun j => List.getD [x0] j .undef) := rfl
@[simp] theorem asAgg_1 (x0 : V) (k : (Nat → V) → Option R) : V.asAgg (.agg [x0]) 1 k = k (fun j => List.getD [x0] j .undef) := rfl
@[simp] theorem asCells_1 (t : TypeId) (x0 : V) (k : (Nat → V) → Option R) : Blk.asCells (.cells t [x0] false) t 1 k = k (fun j => List.getD [x0] j .undef) := by simp [Blk.asCells]
@[simp] theorem asTup_2 (x0 x1 : V) (k : (Nat → V) → Option R) : V.asTup (.tup [x0, x1]) 2 k = k (fun j => List.getD [x0, x1] j .undef) := rfl
@[simp] theorem asAgg_2 (x0 x1 : V) (k : (Nat → V) → Option R) : V.asAgg (.agg [x0, x1]) 2 k = k (fun j => List.getD [x0, x1] j .undef) := rfl
@[simp] theorem asCells_2 (t : TypeId) (x0 x1 : V) (k : (Nat → V) → Option R) : Blk.asCells (.cells t [x0, x1] false) t 2 k = k (fun j => List.getD [x0, x1] j .undef) := by simp [Blk.asCells]
@[simp] theorem asTup_3 (x0 x1 x2 : V) (k : (Nat → V) → Option R) : V.asTup (.tup [x0, x1, x2]) 3 k = k (fun j => List.getD [x0, x1, x2] j .undef) := rfl
@[simp] theorem asAgg_3 (x0 x1 x2 : V) (k : (Nat → V) → Option R) : V.asAgg (.agg [x0, x1, x2]) 3 k = k (fun j => List.getD [x0, x1, x2] j .undef) := rfl
@[simp] theorem asCells_3 (t : TypeId) (x0 x1 x2 : V) (k : (Nat → V) → Option R) : Blk.asCells (.cells t [x0, x1, x2] false) t 3 k = k (fun j => List.getD [x0, x1, x2] j .undef) := by simp [Blk.asCells]
@[simp] theorem asTup_4 (x0 x1 x2 x3 : V) (k : (Nat → V) → Option R) : V.asTup (.tup [x0, x1, x2, x3]) 4 k = k (fun j => List.getD [x0, x1, x2, x3] j .undef) := rfl
@[simp] theorem asAgg_4 (x0 x1 x2 x3 : V) (k : (Nat → V) → Option R) : V.asAgg (.agg [x0, x1, x2, x3]) 4 k = k (fun j => List.getD [x0, x1, x2, x3] j .undef) := rfl
@[simp] theorem asCells_4 (t : TypeId) (x0 x1 x2 x3 : V) (k : (Nat → V) → Option R) : Blk.asCells (.cells t [x0, x1, x2, x3] false) t 4 k = k (fun j => List.getD [x0, x1, x2, x3] j .undef) := by simp [Blk.asCells]
@[simp] theorem asTup_5 (x0 x1 x2 x3 x4 : V) (k : (Nat → V) → Option R) : V.asTup (.tup [x0, x1, x2, x3, x4]) 5 k = k (fun j => List.getD [x0, x1, x2, x3, x4] j .undef) := rfl
@[simp] theorem asAgg_5 (x0 x1 x2 x3 x4 : V) (k : (Nat → V) → Option R) : V.asAgg (.agg [x0, x1, x2, x3, x4]) 5 k = k (fun j => List.getD [x0, x1, x2, x3, x4] j .undef) := rfl
@[simp] theorem asCells_5 (t : TypeId) (x0 x1 x2 x3 x4 : V) (k : (Nat → V) → Option R) : Blk.asCells (.cells t [x0, x1, x2, x3, x4] false) t 5 k = k (fun j => List.getD [x0, x1, x2, x3, x4] j .undef) := by simp [Blk.asCells]
@[simp] theorem asTup_6 (x0 x1 x2 x3 x4 x5 : V) (k : (Nat → V) → Option R) : V.asTup (.tup [x0, x1, x2, x3, x4, x5]) 6 k = k (fun j => List.getD [x0, x1, x2, x3, x4, x5] j .undef) := rfl
@[simp] theorem asAgg_6 (x0 x1 x2 x3 x4 x5 : V) (k : (Nat → V) → Option R) : V.asAgg (.agg [x0, x1, x2, x3, x4, x5]) 6 k = k (fun j => List.getD [x0, x1, x2, x3, x4, x5] j .undef) := rfl
@[simp] theorem asCells_6 (t : TypeId) (x0 x1 x2 x3 x4 x5 : V) (k : (Nat → V) → Option R) : Blk.asCells (.cells t [x0, x1, x2, x3, x4, x5] false) t 6 k = k (fun j => List.getD [x0, x1, x2, x3, x4, x5] j .undef) := by simp [Blk.asCells]
@[simp] theorem asTup_7 (x0 x1 x2 x3 x4 x5 x6 : V) (k : (Nat → V) → Option R) : V.asTup (.tup [x0, x1, x2, x3, x4, x5, x6]) 7 k = k (fun j => List.getD [x0, x1, x2, x3, x4, x5, x6] j .undef) := rfl
@[simp] theorem asAgg_7 (x0 x1 x2 x3 x4 x5 x6 : V) (k : (Nat → V) → Option R) : V.asAgg (.agg [x0, x1, x2, x3, x4, x5, x6]) 7 k = k (fun j => List.getD [x0, x1, x2, x3, x4, x5, x6] j .undef) := rfl
@[simp] theorem asCells_7 (t : TypeId) (x0 x1 x2 x3 x4 x5 x6 : V) (k : (Nat → V) → Option R) : Blk.asCells (.cells t [x0, x1, x2, x3, x4, x5, x6] false) t 7 k = k (fun j => List.getD [x0, x1, x2, x3, x4, x5, x6] j .undef) := by simp [Blk.asCells]
@[simp] theorem asTup_8 (x0 x1 x2 x3 x4 x5 x6 x7 : V) (k : (Nat → V) → Option R) : V.asTup (.tup [x0, x1, x2, x3, x4, x5, x6, x7]) 8 k = k (fun j => List.getD [x0, x1, x2, x3, x4, x5, x6, x7] j .undef) := rfl
@[simp] theorem asAgg_8 (x0 x1 x2 x3 x4 x5 x6 x7 : V) (k : (Nat → V) → Option R) : V.asAgg (.agg [x0, x1, x2, x3, x4, x5, x6, x7]) 8 k = k (fun j => List.getD [x0, x1, x2, x3, x4, x5, x6, x7] j .undef) := rfl
@[simp] theorem asCells_8 (t : TypeId) (x0 x1 x2 x3 x4 x5 x6 x7 : V) (k : (Nat → V) → Option R) : Blk.asCells (.cells t [x0, x1, x2, x3, x4, x5, x6, x7] false) t 8 k = k (fun j => List.getD [x0, x1, x2, x3, x4, x5, x6, x7] j .undef) := by simp [Blk.asCells]
@[simp] theorem asTup_9 (x0 x1 x2 x3 x4 x5 x6 x7 x8 : V) (k : (Nat → V) → Option R) : V.asTup (.tup [x0, x1, x2, x3, x4, x5, x6, x7, x8]) 9 k = k (fun j => List.getD [x0, x1, x2, x3, x4, x5, x6, x7, x8] j .undef) := rfl
@[simp] theorem asAgg_9 (x0 x1 x2 x3 x4 x5 x6 x7 x8 : V) (k : (Nat → V) → Option R) : V.asAgg (.agg [x0, x1, x2, x3, x4, x5, x6, x7, x8]) 9 k = k (fun j => List.getD [x0, x1, x2, x3, x4, x5, x6, x7, x8] j .undef) := rfl
@[simp] theorem asCells_9 (t : TypeId) (x0 x1 x2 x3 x4 x5 x6 x7 x8 : V) (k : (Nat → V) → Option R) : Blk.asCells (.cells t [x0, x1, x2, x3, x4, x5, x6, x7, x8] false) t 9 k = k (fun j => List.getD [x0, x1, x2, x3, x4, x5, x6, x7, x8] j .undef) := by simp [Blk.asCells]
@[simp] theorem asTup_10 (x0 x1 x2 x3 x4 x5 x6 x7 x8 x9 : V) (k : (Nat → V) → Option R) : V.asTup (.tup [x0, x1, x2, x3, x4, x5, x6, x7, x8, x9]) 10 k = k (fun j => List.getD [x0, x1, x2, x3, x4, x5, x6, x7, x8, x9] j .undef) := rfl
@[simp] theorem asAgg_10 (x0 x1 x2 x3 x4 x5 x6 x7 x8 x9 : V) (k : (Nat → V) → Option R) : V.asAgg (.agg [x0, x1, x2, x3, x4, x5, x6, x7, x8, x9]) 10 k = k (fun j => List.getD [x0, x1, x2, x3, x4, x5, x6, x7, x8, x9] j .undef) := rfl
@[simp] theorem asCells_10 (t : TypeId) (x0 x1 x2 x3 x4 x5 x6 x7 x8 x9 : V) (k : (Nat → V) → Option R) : Blk.asCells (.cells t [x0, x1, x2, x3, x4, x5, x6, x7, x8, x9] false) t 10 k = k (fun j => List.getD [x0, x1, x2, x3, x4, x5, x6, x7, x8, x9] j .undef) := by simp [Blk.asCells]
@[simp] theorem asTup_11 (x0 x1 x2 x3 x4 x5 x6 x7 x8 x9 x10 : V) (k : (Nat → V) → Option R) : V.asTup (.tup [x0, x1, x2, x3, x4, x5, x6, x7, x8, x9, x10]) 11 k = k (fun j => List.getD [x0, x1, x2, x3, x4, x5, x6, x7, x8, x9, x10] j .undef) := rfl
@[simp] theorem asAgg_11 (x0 x1 x2 x3 x4 x5 x6 x7 x8 x9 x10 : V) (k : (Nat → V) → Option R) : V.asAgg (.agg [x0, x1, x2, x3, x4, x5, x6, x7, x8, x9, x10]) 11 k = k (fun j => List.getD [x0, x1, x2, x3, x4, x5, x6, x7, x8, x9, x10] j .undef) := rfl
@[simp] theorem asCells_11 (t : TypeId) (x0 x1 x2 x3 x4 x5 x6 x7 x8 x9 x10 : V) (k : (Nat → V) → Option R) : Blk.asCells (.cells t [x0, x1, x2, x3, x4, x5, x6, x7, x8, x9, x10] false) t 11 k = k (fun j => List.getD [x0, x1, x2, x3, x4, x5, x6, x7, x8, x9, x10] j .undef) := by simp [Blk.asCells]
@[simp] theorem asTup_12 (x0 x1 x2 x3 x4 x5 x6 x7 x8 x9 x10 x11 : V) (k : (Nat → V) → Option R) : V.asTup (.tup [x0, x1, x2, x3, x4, x5, x6, x7, x8, x9, x10, x11]) 12 k = k (fun j => List.getD [x0, x1, x2, x3, x4, x5, x6, x7, x8, x9, x10, x11] j .undef) := rfl
@[simp] theorem asAgg_12 (x0 x1 x2 x3 x4 x5 x6 x7 x8 x9 x10 x11 : V) (k : (Nat → V) → Option R) : V.asAgg (.agg [x0, x1, x2, x3, x4, x5, x6, x7, x8, x9, x10, x11]) 12 k = k (fun j => List.getD [x0, x1, x2, x3, x4, x5, x6, x7, x8, x9, x10, x11] j .undef) := rfl
@[simp] theorem asCells_12 (t : TypeId) (x0 x1 x2 x3 x4 x5 x6 x7 x8 x9 x10 x11 : V) (k : (Nat → V) → Option R) : Blk.asCells (.cells t [x0, x1, x2, x3, x4, x5, x6, x7, x8, x9, x10, x11] false) t 12 k = k (fun j => List.getD [x0, x1, x2, x3, x4, x5, x6, x7, x8, x9, x10, x11] j .undef) := by simp [Blk.asCells]
@[simp] theorem asArr_arr (i : Nat) (e : TypeId) (k : Option R) : V.asArr (.arr i e) i e k = k := by simp [V.asArr]
@[simp] theorem asCells_cells (t : TypeId) (cs : List V) (n : Nat) (h : cs.length = n) (k : (Nat → V) → Option R) : Blk.asCells (.cells t cs false) t n k = k (fun j => cs.getD j .undef) := by simp [Blk.asCells, h]
@[simp] theorem asVec_vec (t : TypeId) (es : List (List V)) (n : Nat) (h : es.length = n) (k : List (List V) → Option R) : Blk.asVec (.vec t es false) t n k = k es := by simp [Blk.asVec, h]
end
/-- The next whole number of 64 bits. -/
theorem wrap_in {n : Int} (h0 : -9223372036854775808 ≤ n) (h1 : n ≤ 9223372036854775807) : IntKind.i64.wrap n = n := IntWalk.i64_in n ⟨h0, h1⟩
theorem wrap_nat {i : Nat} (h : i < 4611686018427387904) : IntKind.i64.wrap ((i : Int) + 1) = ((i + 1 : Nat) : Int) := by
  rw [wrap_in (by omega) (by omega)]; omega
/-- From a loop's end to its beginning. -/
theorem down {p : Nat → Prop} {n : Nat} (h0 : p n) (hs : ∀ i, i < n → p (i + 1) → p i) : ∀ i, i ≤ n → p i := by
  intro i hi
  obtain ⟨k, rfl⟩ : ∃ k, n = i + k := ⟨n - i, by omega⟩
  induction k generalizing i with
  | zero => exact h0
  | succ k ih =>
    refine hs i (by omega) (ih (i + 1) (by rw [show i + 1 + k = i + (k + 1) by omega]; exact h0) (fun j hj => hs j (by omega)) (by omega))
def allF (f : Nat → Bool) (n i : Nat) : Bool := (List.range' i (n - i)).all f
def anyF (f : Nat → Bool) (n i : Nat) : Bool := (List.range' i (n - i)).any f
theorem allF_end (f : Nat → Bool) (n : Nat) : allF f n n = true := by simp [allF]
theorem anyF_end (f : Nat → Bool) (n : Nat) : anyF f n n = false := by simp [anyF]
theorem allF_step {f : Nat → Bool} {n i : Nat} (h : i < n) : allF f n i = (f i && allF f n (i + 1)) := by
  unfold allF
  rw [show n - i = (n - (i + 1)) + 1 by omega, List.range'_succ, List.all_cons]
theorem anyF_step {f : Nat → Bool} {n i : Nat} (h : i < n) : anyF f n i = (f i || anyF f n (i + 1)) := by
  unfold anyF
  rw [show n - i = (n - (i + 1)) + 1 by omega, List.range'_succ, List.any_cons]
theorem allF_iff {f : Nat → Bool} {n i : Nat} : allF f n i = true ↔ ∀ j, i ≤ j → j < n → f j = true := by
  unfold allF
  rw [List.all_eq_true]
  constructor
  · intro h j h1 h2; exact h j (by rw [List.mem_range'_1]; omega)
  · intro h j hj; rw [List.mem_range'_1] at hj; exact h j hj.1 (by omega)
theorem anyF_iff {f : Nat → Bool} {n i : Nat} : anyF f n i = true ↔ ∃ j, i ≤ j ∧ j < n ∧ f j = true := by
  unfold anyF
  rw [List.any_eq_true]
  constructor
  · rintro ⟨j, h1, h2⟩; rw [List.mem_range'_1] at h1; exact ⟨j, h1.1, by omega, h2⟩
  · rintro ⟨j, h1, h2, h3⟩; exact ⟨j, by rw [List.mem_range'_1]; omega, h3⟩
theorem some_ret {v w : V} {bl : List Blk} {pn : Option (Option V)} (h : v = w) : some (Res.mk (.ret v) bl pn) = some ⟨.ret w, bl, pn⟩ := by rw [h]
end Go.Proofs.Ab
namespace Go.Proofs.Px
open Go Go.Proofs.Ab

/-! ### Letters, names -/
def letter (c : Int) : Bool := (decide (65 ≤ c) && decide (c ≤ 90)) || (decide (97 ≤ c) && decide (c ≤ 122))
def digit (c : Int) : Bool := decide (48 ≤ c) && decide (c ≤ 57)
def inner (c : Int) : Bool := letter c || digit c || c == 95
def keys : List ByteArray := [⟨#[112, 114, 111, 99]⟩, ⟨#[118, 97, 114]⟩, ⟨#[105, 102]⟩, ⟨#[101, 108, 115, 101]⟩, ⟨#[119, 104, 105, 108, 101]⟩, ⟨#[114, 101, 116, 117, 114, 110]⟩, ⟨#[112, 114, 105, 110, 116]⟩, ⟨#[114, 101, 97, 100]⟩, ⟨#[97, 115, 115, 101, 114, 116]⟩, ⟨#[105, 110, 116]⟩, ⟨#[98, 111, 111, 108]⟩, ⟨#[116, 114, 117, 101]⟩, ⟨#[102, 97, 108, 115, 101]⟩]
def isIn (s : ByteArray) (l : List ByteArray) : Bool := l.any fun k => decide (k = s)
def isKey (s : ByteArray) : Bool := isIn s keys
def isName (s : ByteArray) : Bool := decide (0 < s.size) && decide (s.size ≤ 40) && letter (byteAt s 0) && !isKey s && allF (fun i => inner (byteAt s i)) s.size 0
theorem isIn_step {s : ByteArray} {l : List ByteArray} {i : Nat} (h : i < l.length) : isIn s (l.drop i) = (decide (l[i] = s) || isIn s (l.drop (i + 1))) := by
  unfold isIn
  rw [List.drop_eq_getElem_cons h, List.any_cons]
theorem empty_iff (s : ByteArray) : s = ⟨#[]⟩ ↔ s.size = 0 := by
  constructor
  · rintro rfl; rfl
  · intro h
    cases s with
    | mk d =>
      have : d = #[] := Array.size_eq_zero_iff.1 h
      rw [this]
end Go.Proofs.Px
