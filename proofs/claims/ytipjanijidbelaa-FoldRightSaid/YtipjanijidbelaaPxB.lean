/- Plain words for the laws: texts as rows of bytes. Own work. -/
import Derived.Test.YtipjanijidbelaaPxA
namespace Go.Proofs.Px
open Go Go.Proofs.Ab
set_option linter.unusedVariables false

/-- The text of these bytes. -/
def B (l : List UInt8) : ByteArray := ⟨l.toArray⟩
theorem B_of (s : ByteArray) : s = B s.data.toList := by cases s; simp [B]
@[simp] theorem B_size (l : List UInt8) : (B l).size = l.length := by simp [B, ByteArray.size]
theorem B_inj {a b : List UInt8} : B a = B b ↔ a = b := by
  constructor
  · intro h
    have : (B a).data.toList = (B b).data.toList := by rw [h]
    simpa [B] using this
  · rintro rfl; rfl
@[simp] theorem B_dec (a b : List UInt8) : decide (B a = B b) = decide (a = b) := by
  by_cases h : a = b
  · simp [h]
  · simp [h, B_inj]
@[simp] theorem B_byte (l : List UInt8) (i : Nat) : byteAt (B l) i = ((l.getD i 0).toNat : Int) := by simp [byteAt, B]
@[simp] theorem B_extract (l : List UInt8) (i j : Nat) : (B l).extract i j = B ((l.drop i).take (j - i)) := by
  have h : ((B l).extract i j).data = (B ((l.drop i).take (j - i))).data := by
    rw [ByteArray.data_extract]
    apply Array.ext'
    simp [B, List.extract]
  cases h1 : (B l).extract i j
  cases h2 : B ((l.drop i).take (j - i))
  rw [h1, h2] at h
  simp at h
  rw [h]
@[simp] theorem B_append (a b : List UInt8) : B a ++ B b = B (a ++ b) := by
  have h : (B a ++ B b).data = (B (a ++ b)).data := by
    rw [ByteArray.data_append]
    simp [B]
  cases h1 : B a ++ B b
  cases h2 : B (a ++ b)
  rw [h1, h2] at h
  simp at h
  rw [h]
@[simp] theorem B_nil : (ByteArray.mk #[]) = B [] := rfl
/-- A row of bytes, as the machine has it. -/
def bv (l : List UInt8) : List (List V) := l.map fun b => [.int .u8 (b.toNat : Int)]
@[simp] theorem ofBytes_B (l : List UInt8) : ofBytes (B l) = bv l := by simp [ofBytes, B, bv]
@[simp] theorem bytesOk_bv (l : List UInt8) : bytesOk (bv l) = true := by
  induction l with
  | nil => rfl
  | cons a l ih => exact ih
@[simp] theorem toBytes_bv (l : List UInt8) : toBytes (bv l) = l := by
  induction l with
  | nil => rfl
  | cons a l ih =>
    show UInt8.ofNat (Int.toNat (a.toNat : Int)) :: toBytes (bv l) = a :: l
    rw [ih]; simp
@[simp] theorem bv_length (l : List UInt8) : (bv l).length = l.length := by simp [bv]
@[simp] theorem bv_append (a b : List UInt8) : bv a ++ bv b = bv (a ++ b) := by simp [bv]
theorem drop_cons {l : List UInt8} {i : Nat} (h : i < l.length) : l.drop i = l.getD i 0 :: l.drop (i + 1) := by
  rw [List.drop_eq_getElem_cons h, List.getD_eq_getElem?_getD, List.getElem?_eq_getElem h]; rfl
theorem byte_eq (a : UInt8) (n : Nat) (hn : n < 256) : ((a.toNat : Int) == (n : Int)) = (a == UInt8.ofNat n) := by
  have h : a = UInt8.ofNat n ↔ a.toNat = n := by
    constructor
    · rintro rfl; simp; omega
    · intro h; apply UInt8.toNat_inj.1; simp; omega
  by_cases h1 : a = UInt8.ofNat n
  · rw [beq_iff_eq.2 h1]
    have := h.1 h1
    simp [this]
  · have h2 : ¬ a.toNat = n := fun h3 => h1 (h.2 h3)
    have h3 : ¬ ((a.toNat : Int) = (n : Int)) := by omega
    rw [beq_eq_false_iff_ne.2 h1, beq_eq_false_iff_ne.2 h3]
end Go.Proofs.Px
