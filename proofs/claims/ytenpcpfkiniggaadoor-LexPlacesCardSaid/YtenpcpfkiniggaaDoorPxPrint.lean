/- Tokens' texts, as plain words. Own work. -/
import Derived.Test.YtenpcpfkiniggaaDoorPxLex
import Derived.Test.YtenpcpfkiniggaaDoorPxDec
import Derived.Test.YtenpcpfkiniggaaDoorPxOpen
namespace Go.Proofs.Px
open Go Go.Proofs.Ab
set_option linter.unusedVariables false
set_option linter.unusedSimpArgs false

theorem i64_bounds {n : Int} (h : (Lit.int .i64 n).wf = true) : -9223372036854775808 ≤ n ∧ n ≤ 9223372036854775807 := by
  simpa [Lit.wf, IntKind.min, IntKind.max, IntKind.signed, IntKind.bits] using h
/-- What is known of a token that came in. -/
structure TkOk (t : Tk) : Prop where
  text : t.text.length ≤ 140737488351232
  kind : (Lit.int .i64 t.kind).wf = true
  num : (Lit.int .i64 t.num).wf = true
  at_ : (Lit.int .i64 t.at_).wf = true
theorem any_same {α : Type} {A C : List α} (f : α → Bool) (h1 : ∀ k ∈ A, k ∈ C) (h2 : ∀ k ∈ C, k ∈ A) : A.any f = C.any f := by
  rw [Bool.eq_iff_iff, List.any_eq_true, List.any_eq_true]
  exact ⟨fun ⟨x, h, h'⟩ => ⟨x, h1 x h, h'⟩, fun ⟨x, h, h'⟩ => ⟨x, h2 x h, h'⟩⟩
def isSign (l : List UInt8) : Bool := signs.contains l
def refSigns : List (List UInt8) := [[40], [41], [123], [125], [91], [93], [44], [59], [61], [61, 61], [33, 61], [60], [60, 61], [38, 38], [124, 124], [33], [43], [45], [42], [47], [37]]
theorem refSigns_is (l : List UInt8) : isIn (B l) (refSigns.map B) = isSign l := by
  unfold isIn isSign
  rw [List.any_map, List.contains_eq_any_beq]
  have h : ((fun k => decide (k = B l)) ∘ B) = fun x => l == x := by
    funext k
    show decide (B k = B l) = (l == k)
    rw [B_dec]
    by_cases hk : k = l
    · subst hk; simp
    · rw [decide_eq_false hk]; exact (beq_eq_false_iff_ne.2 fun h => hk h.symm).symm
  rw [h]
  exact any_same _ (by decide) (by decide)
theorem keysL_is (l : List UInt8) : isIn (B l) keys = isKeyL l := isKey_B l
theorem signIn_or (r : List UInt8) : ∀ l, signIn r l = [] ∨ signIn r l ∈ l
  | [] => .inl rfl
  | x :: l => by
    unfold signIn
    split
    · exact .inr List.mem_cons_self
    · exact (signIn_or r l).imp id (List.mem_cons_of_mem _)
/-- A text is a sign of its own. -/
theorem sign_self (l : List UInt8) : (!decide (l = []) && decide (sign l = l)) = isSign l := by
  have h1 : signs.all (fun x => !decide (x = []) && decide (sign x = x)) = true := by decide
  by_cases h : l ∈ signs
  · rw [List.all_eq_true.1 h1 l h]
    exact (List.contains_iff_mem.2 h).symm
  · have h2 : isSign l = false := by
      unfold isSign
      rw [← Bool.not_eq_true, List.contains_iff_mem]; exact h
    rw [h2]
    by_cases h3 : l = []
    · rw [decide_eq_true h3]; rfl
    · by_cases h4 : sign l = l
      · rcases signIn_or l signs with h5 | h5
        · exact absurd (h4.symm.trans h5) h3
        · unfold sign at h4
          rw [h4] at h5
          exact absurd h5 h
      · rw [decide_eq_false h4, Bool.and_false]
theorem word_all : ∀ {l : List UInt8} (h : ∀ c ∈ l, inn c = true), word l = l
  | [], _ => rfl
  | c :: l, h => by
    have := word_all (l := l) fun d hd => h d (List.mem_cons_of_mem _ hd)
    unfold word at *
    rw [List.takeWhile_cons, h c List.mem_cons_self, if_pos rfl, this]
theorem all_word {l : List UInt8} (h : (word l).length = l.length) : word l = l := by
  unfold word at *
  exact (List.takeWhile_prefix inn).eq_of_length h
theorem name_facts {l : List UInt8} (h : isName (B l) = true) : l ≠ [] ∧ l.length ≤ 40 ∧ lt (l.getD 0 0) = true ∧ isKeyL l = false ∧ word l = l := by
  unfold isName at h
  simp only [Bool.and_eq_true, decide_eq_true_eq, Bool.not_eq_true', B_size, B_byte] at h
  obtain ⟨⟨⟨⟨h1, h2⟩, h3⟩, h4⟩, h5⟩ := h
  refine ⟨fun h0 => (by subst h0; simp at h1), h2, h3, (isKey_B l).symm.trans h4, word_all fun c hc => ?_⟩
  obtain ⟨i, hi, rfl⟩ := List.getElem_of_mem hc
  have := allF_iff.1 h5 i (Nat.zero_le _) hi
  rw [List.getD_eq_getElem?_getD, List.getElem?_eq_getElem hi] at this
  exact this
theorem lt_dg {c : UInt8} (h : lt c = true) : dg c = false := by
  unfold lt letter at h
  unfold dg digit
  simp only [Bool.or_eq_true, Bool.and_eq_true, decide_eq_true_eq] at h
  rcases h with h | h
  · rw [decide_eq_false (p := (c.toNat : Int) ≤ 57) (by omega), Bool.and_false]
  · rw [decide_eq_false (p := (c.toNat : Int) ≤ 57) (by omega), Bool.and_false]
theorem key_facts {l : List UInt8} (h : isKeyL l = true) : l ≠ [] ∧ l.length ≤ 40 ∧ lt (l.getD 0 0) = true ∧ word l = l := by
  have h1 : keysL.all (fun x => !decide (x = []) && decide (x.length ≤ 40) && lt (x.getD 0 0) && decide (word x = x)) = true := by decide
  unfold isKeyL at h
  obtain ⟨k, hk, h2⟩ := List.any_eq_true.1 h
  obtain rfl := of_decide_eq_true h2
  have := List.all_eq_true.1 h1 k hk
  simp only [Bool.and_eq_true, decide_eq_true_eq, Bool.not_eq_true', decide_eq_false_iff_not] at this
  exact ⟨this.1.1.1, this.1.1.2, this.1.2, this.2⟩
theorem sign_facts {l : List UInt8} (h : isSign l = true) : word l = [] ∧ (l.length = 1 ∨ l.length = 2) ∧ isName (B l) = false ∧ isKeyL l = false := by
  have h1 : signs.all (fun x => decide (word x = []) && (decide (x.length = 1) || decide (x.length = 2)) && !isKeyL x) = true := by decide
  unfold isSign at h
  have := List.all_eq_true.1 h1 l (List.contains_iff_mem.1 h)
  simp only [Bool.and_eq_true, Bool.or_eq_true, decide_eq_true_eq, Bool.not_eq_true'] at this
  refine ⟨this.1.1, this.1.2, ?_, this.2⟩
  rw [← Bool.not_eq_true]
  intro hn
  have h2 := name_facts hn
  rw [this.1.1] at h2
  exact h2.1 h2.2.2.2.2.symm
/-- A token that may be written, and its text. -/
def wrOk (t : Tk) : Bool :=
  if t.kind = 1 then decide (t.num = 0) && isName (B t.text) else if t.kind = 3 then decide (t.num = 0) && isKeyL t.text else
    if t.kind = 4 then decide (t.num = 0) && isSign t.text else if t.kind = 2 then decide (t.text = []) && decide (0 ≤ t.num) else false
def wrT (t : Tk) : List UInt8 := if t.kind = 2 then decs t.num else t.text
/-- A row's last token. -/
def endT (t : Tk) : Bool := decide (t.kind = 0) && decide (t.text = []) && decide (t.num = 0)
def rightL : List Tk → Bool
  | [] => false
  | [t] => endT t
  | t :: u :: l => wrOk t && rightL (u :: l)
/-- Words with a blank between any two. -/
def joinL : List (List UInt8) → List UInt8
  | [] => []
  | [w] => w
  | w :: v :: l => w ++ (32 :: joinL (v :: l))
end Go.Proofs.Px
