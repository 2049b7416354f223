/- A procedure's statements in a row. Own work. -/
import Derived.Test.YtipjanijidbelaaPxSizeP
namespace Go.Proofs.Ytipjanijidbelaa
open Go Go.Proofs.Ab Go.Proofs.Px
set_option linter.unusedVariables false
set_option linter.unusedSimpArgs false
set_option maxRecDepth 100000

theorem most_if {R : Type} {n : Nat} (h : n ≤ 1099511627776) (a b : Option R) : (if n ≤ most then a else b) = a := if_pos h
namespace Stm
mutual
/-- Statements in order of marks. -/
def flat : Stm → List Stm
  | .mk k n p m e b l => .mk k n p m e b l :: (flats b ++ flats l)
def flats : List Stm → List Stm
  | [] => []
  | x :: l => flat x ++ flats l
end
mutual
theorem flat_len : ∀ x : Stm, (flat x).length = x.count
  | .mk k n p m e b l => by rw [flat, count, List.length_cons, List.length_append, flats_len b, flats_len l]; omega
theorem flats_len : ∀ l : List Stm, (flats l).length = counts l
  | [] => rfl
  | x :: l => by rw [flats, counts, List.length_append, flat_len x, flats_len l]
end
theorem flat_is (x : Stm) : flat x = x :: (flats x.body ++ flats x.els) := by cases x; rw [flat]; rfl
theorem flats_drop {l : List Stm} {i : Nat} (h : i < l.length) : flats (l.drop i) = flat l[i] ++ flats (l.drop (i + 1)) := by
  rw [List.drop_eq_getElem_cons h, flats]
mutual
/-- The same, with each one's block's last mark. -/
def item : Stm → Int → Int → List (Stm × Int)
  | .mk k n p m e b l, next, last => (.mk k n p m e b l, last) :: (items b (next + 1) (next + 1 + (counts b : Int) - 1) ++ items l (next + 1 + (counts b : Int)) (next + 1 + (counts b : Int) + (counts l : Int) - 1))
def items : List Stm → Int → Int → List (Stm × Int)
  | [], _, _ => []
  | x :: l, next, last => item x next last ++ items l (next + (count x : Int)) last
end
theorem item_is (x : Stm) (next last : Int) : item x next last = (x, last) :: (items x.body (next + 1) (next + 1 + (counts x.body : Int) - 1) ++ items x.els (next + 1 + (counts x.body : Int)) (next + 1 + (counts x.body : Int) + (counts x.els : Int) - 1)) := by
  cases x; rw [item]; rfl
theorem items_drop {l : List Stm} {i : Nat} (h : i < l.length) (next last : Int) : items (l.drop i) next last = item l[i] next last ++ items (l.drop (i + 1)) (next + (count l[i] : Int)) last := by
  rw [List.drop_eq_getElem_cons h, items]
mutual
theorem item_fst : ∀ (x : Stm) (next last : Int), (item x next last).map (·.1) = flat x
  | .mk k n p m e b l, next, last => by rw [item, flat, List.map_cons, List.map_append, items_fst b, items_fst l]
theorem items_fst : ∀ (l : List Stm) (next last : Int), (items l next last).map (·.1) = flats l
  | [], _, _ => by rw [items, flats]; rfl
  | x :: l, next, last => by rw [items, flats, List.map_append, item_fst x, items_fst l]
end
theorem items_len (l : List Stm) (next last : Int) : (items l next last).length = counts l := by
  rw [← flats_len, ← items_fst l next last, List.length_map]
end Stm
theorem Stm.flats_ok {l : List Stm} : (∀ x ∈ l, StmOk x) → ∀ s ∈ Stm.flats l, StmOk s := by
  refine Stm.ind_list (P := fun l => (∀ x ∈ l, StmOk x) → ∀ s ∈ Stm.flats l, StmOk s) (fun l ih => ?_) l
  intro h s hs
  induction l with
  | nil => rw [Stm.flats] at hs; cases hs
  | cons x l ihl =>
    rw [Stm.flats, Stm.flat_is] at hs
    have hx := h x (List.mem_cons_self ..)
    rcases List.mem_append.1 hs with hs | hs
    · rcases List.mem_cons.1 hs with rfl | hs
      · exact hx
      · rcases List.mem_append.1 hs with hs | hs
        · exact (ih x (List.mem_cons_self ..)).1 hx.inv'.hbs s hs
        · exact (ih x (List.mem_cons_self ..)).2 hx.inv'.hls s hs
    · exact ihl (fun y hy => ih y (List.mem_cons_of_mem _ hy)) (fun y hy => h y (List.mem_cons_of_mem _ hy)) hs
/-- An item's cells. -/
def itemV (p : Stm × Int) : List V := [.int .i64 p.1.kind, .str (B p.1.name), .str (B p.1.proc), .int .i64 p.1.num, .sl .no T_api_Expr (p.1.e.map Ex.v), .sl .no T_api_Stmt (p.1.body.map Stm.v), .sl .no T_api_Stmt (p.1.els.map Stm.v), .int .i64 p.2]
theorem Stm.counts_len : ∀ l : List Stm, l.length ≤ Stm.counts l
  | [] => Nat.le_refl _
  | x :: l => by rw [Stm.counts]; have := Stm.count_pos x; have := Stm.counts_len l; simp only [List.length_cons]; omega
end Go.Proofs.Ytipjanijidbelaa
