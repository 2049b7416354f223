/- LexFirst: a source up to the place of an error has no other one. Own work. -/
import Derived.Test.YtenpcpfkiniggaaDoorPxFirst
import Derived.Test.YtenpcpfkiniggaaDoorKnA
namespace Go.Proofs.YtenpcpfkiniggaaDoor
open Go Go.Proofs.Ab Go.Proofs.Px
set_option linter.unusedVariables false

theorem tup3 (a b c : V) (k : (Nat → V) → Option Res) : V.asTup (.tup [a, b, c]) 3 k = k (fun j => [a, b, c].getD j .undef) := asTup_tup _ _ rfl k
theorem g3_0 (t : TypeId) (es : List (List V)) (b c : V) (k : List (List V) → Option Res) : V.asSl ([V.sl .no t es, b, c].getD 0 .undef) t k = k es := asSl_sl _ _ _ k
theorem g3_1 (a c : V) (n : Int) (k : Int → Option Res) : V.asInt ([a, V.int .i64 n, c].getD (0 + 1) .undef) IntKind.i64 k = k n := asInt_int _ _ k
theorem g3_2 (a b : V) (n : Int) (k : Int → Option Res) : V.asInt ([a, b, V.int .i64 n].getD (0 + 1 + 1) .undef) IntKind.i64 k = k n := asInt_int _ _ k
theorem lexFirst_B (l : List UInt8) (hs : l.length ≤ 140737488351232) : den Sp law02_LexFirst.id [.str (B l)] [] none = some ⟨.ret (.bool true), [], none⟩ := by
  rw [law02_LexFirst.eq, B_size, law02_known_is]
  simp only [Option.bind_some, onRet_ret, asBool_bool]
  by_cases h : ((l.length : Nat) : Int) > 3000
  · rw [decide_eq_true h, cond_true]
  · rw [decide_eq_false h, cond_false, lex_Scan_is l (by omega)]
    have hsc : scan l = scanGo (l.length + 1) l.length [] l := by unfold scan; rw [if_neg (by omega)]
    rw [hsc]
    rcases scan_ends (l.length + 1) l.length [] l (by omega) (Nat.le_refl _) (by simp; omega) with ⟨toks, h1, h2⟩ | ⟨a, h1, h2, h3, h4⟩
    · rw [h1]
      unfold scanV
      simp only [Option.bind_some, onRet_ret]
      rw [tup3, g3_0, g3_1, g3_2]
      rfl
    · rw [h1]
      unfold scanV
      simp only [Option.bind_some, onRet_ret]
      rw [tup3, g3_0, g3_1, g3_2]
      have e1 : ((20 : Int) == 0) = false := rfl
      have e2 : ¬ ((a : Int) < 0) := by omega
      have e3 : ¬ ((a : Int) > ((l.length : Nat) : Int)) := by omega
      rw [e1, cond_false, decide_eq_false e2, cond_false, decide_eq_false e3, cond_false, if_pos (by omega), if_pos (by omega), Int.toNat_natCast, B_extract, List.drop_zero, Nat.sub_zero]
      obtain ⟨toks, h5, h6⟩ := h4 (a + 1) (by omega)
      rw [Nat.sub_self, Nat.sub_zero] at h5 h6
      have hlen : (l.take a).length = a := by rw [List.length_take]; omega
      rw [lex_Scan_is (l.take a) (by omega)]
      have hsc2 : scan (l.take a) = scanGo (a + 1) a [] (l.take a) := by unfold scan; rw [if_neg (by omega), hlen]
      rw [hsc2, h5]
      unfold scanV
      simp only [Option.bind_some, onRet_ret]
      rw [tup3, g3_0, g3_1, g3_2]
      have hl2 : (([] ++ toks ++ [(⟨0, [], 0, a⟩ : Tk)]).map Tk.v).length = toks.length + 1 := by simp
      have hg : (([] ++ toks ++ [(⟨0, [], 0, a⟩ : Tk)]).map Tk.v).getD toks.length [] = (⟨0, [], 0, a⟩ : Tk).v := by
        rw [List.nil_append, List.map_append, List.getD_eq_getElem?_getD, List.getElem?_append_right (by simp)]
        simp
      have htl : toks.length ≤ 4611686018427387904 := by omega
      have hw : IntKind.wrap IntKind.i64 (((toks.length + 1 : Nat) : Int) - 1) = ((toks.length : Nat) : Int) := by
        rw [wrap_in (by omega) (by omega)]; omega
      have e4 : ((toks.length + 1 : Nat) : Int) > 0 := by omega
      have e5 : (0 : Int) ≤ ((toks.length : Nat) : Int) ∧ ((toks.length : Nat) : Int) < ((toks.length + 1 : Nat) : Int) := by omega
      rw [hl2, hw, decide_eq_true e4, if_pos e5, Int.toNat_natCast, hg, tk_3]
      have e6 : ((a : Int) == (a : Int)) = true := beq_self_eq_true _
      dsimp only
      rw [e6]
      rfl
theorem lexFirst_den (s : ByteArray) (hs : s.size ≤ 140737488351232) : den Sp law02_LexFirst.id [.str s] [] none = some ⟨.ret (.bool true), [], none⟩ := by
  have hz : s.data.toList.length = s.size := by rw [Array.length_toList]; rfl
  have h := lexFirst_B s.data.toList (by rw [hz]; exact hs)
  rw [← B_of] at h
  exact h
end Go.Proofs.YtenpcpfkiniggaaDoor
