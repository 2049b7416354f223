/- The lexing of a text, as a plain function. Own work. -/
import Derived.Test.YtenpcpfkiniggaaDoorPxB
namespace Go.Proofs.Px
open Go Go.Proofs.Ab
set_option linter.unusedVariables false

def lt (c : UInt8) : Bool := letter (c.toNat : Int)
def dg (c : UInt8) : Bool := digit (c.toNat : Int)
def inn (c : UInt8) : Bool := inner (c.toNat : Int)
/-- Without the blanks and remarks ahead ('rm': within a remark). -/
def sk : Bool → List UInt8 → List UInt8
  | _, [] => []
  | rm, c :: r => if c = 10 then sk false r else if rm then sk true r else if c = 32 then sk false r else if c = 35 then sk true r else c :: r
theorem sk_le : ∀ (rm : Bool) (l : List UInt8), (sk rm l).length ≤ l.length
  | _, [] => Nat.le_refl _
  | rm, c :: r => by
    have h1 := sk_le false r
    have h2 := sk_le true r
    unfold sk
    split
    · simp; omega
    · split
      · simp; omega
      · split
        · simp; omega
        · split
          · simp; omega
          · simp
theorem sk_drop : ∀ (rm : Bool) (l : List UInt8), sk rm l = l.drop (l.length - (sk rm l).length)
  | _, [] => rfl
  | rm, c :: r => by
    have key : ∀ rm', sk rm' r = (c :: r).drop ((c :: r).length - (sk rm' r).length) := fun rm' => by
      have h1 := sk_le rm' r
      have h2 := sk_drop rm' r
      rw [show (c :: r).length - (sk rm' r).length = (r.length - (sk rm' r).length) + 1 by simp; omega, List.drop_succ_cons, ← h2]
    unfold sk
    split
    · exact key false
    · split
      · exact key true
      · split
        · exact key false
        · split
          · exact key true
          · simp
def word (l : List UInt8) : List UInt8 := l.takeWhile inn
def signs : List (List UInt8) := [[61, 61], [33, 61], [60, 61], [38, 38], [124, 124], [40], [41], [123], [125], [91], [93], [44], [59], [61], [60], [33], [43], [45], [42], [47], [37]]
def signIn (l : List UInt8) : List (List UInt8) → List UInt8
  | [] => []
  | x :: r => if l.take x.length = x then x else signIn l r
def sign (l : List UInt8) : List UInt8 := signIn l signs
/-- A number's digits, from a number on. -/
def valF (u : Nat) : List UInt8 → Nat
  | [] => u
  | c :: r => valF (u * 10 + (c.toNat - 48)) r
def parseGo (u : Nat) : List UInt8 → Int × Int
  | [] => if u = 9223372036854775808 then (0, 10) else ((u : Int), 0)
  | c :: r => if dg c ∧ u * 10 + (c.toNat - 48) ≤ 9223372036854775808 then parseGo (u * 10 + (c.toNat - 48)) r else (0, 10)
/-- A text that begins with a digit, as a number. -/
def parse (w : List UInt8) : Int × Int := if w.getD 0 0 ≠ 48 ∨ w.length = 1 then parseGo 0 w else (0, 10)
structure Tk where
  kind : Int
  text : List UInt8
  num : Int
  at_ : Int
def Tk.v (t : Tk) : List V := [.int .i64 t.kind, .str (B t.text), .int .i64 t.num, .int .i64 t.at_]
def keysL : List (List UInt8) := [[112, 114, 111, 99], [118, 97, 114], [105, 102], [101, 108, 115, 101], [119, 104, 105, 108, 101], [114, 101, 116, 117, 114, 110], [112, 114, 105, 110, 116], [114, 101, 97, 100], [97, 115, 115, 101, 114, 116], [105, 110, 116], [98, 111, 111, 108], [116, 114, 117, 101], [102, 97, 108, 115, 101]]
theorem isKey_B (l : List UInt8) : isKey (B l) = keysL.any fun k => decide (k = l) := by
  have : keys = keysL.map B := rfl
  unfold isKey isIn
  rw [this, List.any_map]
  congr 1
  funext k
  exact B_dec k l
def isKeyL (l : List UInt8) : Bool := keysL.any fun k => decide (k = l)
/-- The token that a rest begins with (blanks left out), how many bytes it takes, and whether there is one. -/
def next (r : List UInt8) (at_ : Int) : Tk × Nat × Bool :=
  match r with
  | [] => (⟨0, [], 0, at_⟩, 0, true)
  | c :: _ =>
    if lt c then (⟨if isKeyL (word r) then 3 else 1, word r, 0, at_⟩, (word r).length, decide ((word r).length ≤ 40))
    else if dg c then (⟨2, [], (parse (word r)).1, at_⟩, (word r).length, decide ((parse (word r)).2 = 0))
    else (⟨4, sign r, 0, at_⟩, (sign r).length, !decide (sign r = []))
/-- All tokens from a rest on: 'n': the text's length, 'f': enough rounds. -/
def scanGo : Nat → Nat → List Tk → List UInt8 → List Tk × Int × Int
  | 0, _, _, _ => ([], 0, 0)
  | f + 1, n, out, r =>
    let r1 := sk false r
    let a : Int := ((n - r1.length : Nat) : Int)
    let x := next r1 a
    if x.2.2 = false then ([], a, 20) else if out.length = 4000 then ([], a, 2) else if x.1.kind = 0 then (out ++ [x.1], 0, 0) else scanGo f n (out ++ [x.1]) (r1.drop x.2.1)
theorem scanGo_succ (f n : Nat) (out : List Tk) (r : List UInt8) : scanGo (f + 1) n out r =
    if (next (sk false r) ((n - (sk false r).length : Nat) : Int)).2.2 = false then ([], ((n - (sk false r).length : Nat) : Int), 20) else if out.length = 4000 then ([], ((n - (sk false r).length : Nat) : Int), 2) else
      if (next (sk false r) ((n - (sk false r).length : Nat) : Int)).1.kind = 0 then (out ++ [(next (sk false r) ((n - (sk false r).length : Nat) : Int)).1], 0, 0) else
        scanGo f n (out ++ [(next (sk false r) ((n - (sk false r).length : Nat) : Int)).1]) ((sk false r).drop (next (sk false r) ((n - (sk false r).length : Nat) : Int)).2.1) := rfl
def scan (l : List UInt8) : List Tk × Int × Int := if l.length > 16384 then ([], 0, 2) else scanGo (l.length + 1) l.length [] l
end Go.Proofs.Px
