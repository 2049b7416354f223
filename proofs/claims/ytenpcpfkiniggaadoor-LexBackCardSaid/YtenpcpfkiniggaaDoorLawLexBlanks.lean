/- LexBlanks: blanks and remarks at any token's place change nothing but places. Own work. -/
import Derived.Test.YtenpcpfkiniggaaDoorPxBlanks
import Derived.Test.YtenpcpfkiniggaaDoorLawLexMany
import Derived.Test.YtenpcpfkiniggaaDoorR2
namespace Go.Proofs.YtenpcpfkiniggaaDoor
open Go Go.Proofs.Ab Go.Proofs.Px
set_option linter.unusedVariables false
set_option linter.unusedSimpArgs false

theorem getD_map_v (l : List Tk) (i : Nat) (h : i < l.length) : (l.map Tk.v).getD i [] = (l[i]'h).v := by
  rw [List.getD_eq_getElem?_getD, List.getElem?_map, List.getElem?_eq_getElem h]; rfl
theorem ref02_Same_is (ts us : List Tk) (h : Sim ts us) (hl : ts.length < 4611686018427387904) : den Sp ref02_Same.id [.sl .no T_api_Token (ts.map Tk.v), .sl .no T_api_Token (us.map Tk.v), .bool false] [] none = some ⟨.ret (.bool true), [], none⟩ := by
  rw [ref02_Same.eq, List.length_map, List.length_map, ← h.1]
  have e0 : (((ts.length : Nat) : Int) != ((ts.length : Nat) : Int)) = false := by simp
  rw [e0, cond_false]
  have key : ∀ i : Nat, i ≤ ts.length → ref02_Same.L1_1_0_1_0 (ts.map Tk.v) (us.map Tk.v) false (i : Int) = some ⟨.ret (.bool true), [], none⟩ := by
    refine down ?_ fun i hi ih => ?_
    · have e : ¬ ((ts.length : Nat) : Int) < ((ts.length : Nat) : Int) := by omega
      rw [ref02_Same.L1_1_0_1_0_eq, List.length_map, decide_eq_false e, cond_false]
    · have hi2 : i < us.length := by rw [← h.1]; exact hi
      have e1 : ((i : Int) < ((ts.length : Nat) : Int)) := by omega
      have e2 : (0 : Int) ≤ (i : Int) ∧ ((i : Int) < ((ts.length : Nat) : Int)) := ⟨by omega, e1⟩
      have e3 : (0 : Int) ≤ (i : Int) ∧ ((i : Int) < ((us.length : Nat) : Int)) := ⟨by omega, by omega⟩
      obtain ⟨g1, g2, g3⟩ := h.2 i _ _ (List.getElem?_eq_getElem hi) (List.getElem?_eq_getElem hi2)
      rw [ref02_Same.L1_1_0_1_0_eq, List.length_map, List.length_map, decide_eq_true e1, cond_true, if_pos e2, Int.toNat_natCast, getD_map_v ts i hi, getD_map_v us i hi2, tk_0, tk_1, tk_2, tk_3, if_pos e3, tk_0, tk_1, tk_2, tk_3, wrap_nat (by omega), ih, g1, g2, g3]
      simp
  exact key 0 (by omega)
theorem bl_mem {e : UInt8} (h : (signs.all fun y => !y.contains e) = true) : ∀ y ∈ signs, e ∉ y := fun y hy he => by
  have := List.all_eq_true.1 h y hy
  rw [List.contains_iff_mem.2 he] at this
  cases this
theorem blank1 : Blankish [32] := ⟨fun y => by simp [sk], by simp [sk], 32, [], rfl, by decide, by decide, bl_mem (by decide)⟩
theorem blank2 : Blankish [10] := ⟨fun y => by simp [sk], by simp [sk], 10, [], rfl, by decide, by decide, bl_mem (by decide)⟩
theorem blank3 : Blankish [32, 32, 10, 32] := ⟨fun y => by simp [sk], by simp [sk], 32, _, rfl, by decide, by decide, bl_mem (by decide)⟩
theorem blank4 : Blankish [32, 35, 32, 97, 32, 34, 98, 34, 32, 49, 32, 64, 10] := ⟨fun y => by simp [sk], by simp [sk], 32, _, rfl, by decide, by decide, bl_mem (by decide)⟩
theorem blank5 : Blankish [35, 10] := ⟨fun y => by simp [sk], by simp [sk], 35, _, rfl, by decide, by decide, bl_mem (by decide)⟩
def moreL : List (List V) := [[(V.str (ByteArray.mk #[32]))], [(V.str (ByteArray.mk #[10]))], [(V.str (ByteArray.mk #[32, 32, 10, 32]))], [(V.str (ByteArray.mk #[32, 35, 32, 97, 32, 34, 98, 34, 32, 49, 32, 64, 10]))], [(V.str (ByteArray.mk #[35, 10]))]]
theorem more_is (n : Int) (h0 : 0 ≤ n) (h1 : n < 5) : ∃ x, Blankish x ∧ x.length ≤ 13 ∧ (moreL.getD n.toNat []).getD 0 V.undef = V.str (B x) := by
  have : n = 0 ∨ n = 1 ∨ n = 2 ∨ n = 3 ∨ n = 4 := by omega
  rcases this with rfl | rfl | rfl | rfl | rfl
  · exact ⟨_, blank1, by decide, rfl⟩
  · exact ⟨_, blank2, by decide, rfl⟩
  · exact ⟨_, blank3, by decide, rfl⟩
  · exact ⟨_, blank4, by decide, rfl⟩
  · exact ⟨_, blank5, by decide, rfl⟩
theorem lexBlanks_B (l : List UInt8) (hs : l.length ≤ 140737488351232) (n m : Int) : den Sp law02_LexBlanks.id [.str (B l), .int .i64 n, .int .i64 m] [] none = some ⟨.ret (.bool true), [], none⟩ := by
  rw [law02_LexBlanks.eq, B_size, law02_known_is]
  simp only [Option.bind_some, onRet_ret, asBool_bool]
  by_cases h : ((l.length : Nat) : Int) > 3000
  · rw [decide_eq_true h, cond_true]
  · rw [decide_eq_false h, cond_false, lex_Scan_is l (by omega)]
    have hsc : scan l = scanGo (l.length + 1) l.length [] l := by unfold scan; rw [if_neg (by omega)]
    rw [hsc]
    rcases scan_ends (l.length + 1) l.length [] l (by omega) (Nat.le_refl _) (by simp; omega) with ⟨toks, h1, h2⟩ | ⟨a, h1, h2, h3, h4⟩
    · rw [h1]
      have h1' := h1
      have hne : 0 < ([] ++ toks ++ [(⟨0, [], 0, l.length⟩ : Tk)]).length := by simp
      have hlen : ([] ++ toks ++ [(⟨0, [], 0, l.length⟩ : Tk)]).length ≤ 3001 := by simp; omega
      generalize [] ++ toks ++ [(⟨0, [], 0, l.length⟩ : Tk)] = ts at *
      unfold scanV
      simp only [Option.bind_some, onRet_ret]
      rw [tup3, g3_0, g3_1, g3_2]
      have e1 : ((0 : Int) != 0) = false := rfl
      have e2 : (((ts.map Tk.v).length : Int) == 0) = false := by rw [List.length_map]; exact beq_eq_false_iff_ne.2 (by omega)
      rw [e1, cond_false, e2, cond_false, ref01_Among_is m 5 (by omega) (by omega), List.length_map, ref01_Among_is n ((ts.length : Nat) : Int) (by omega) (by omega)]
      simp only [Option.bind_some, onRet_ret, asInt_int]
      have hm0 := Int.emod_nonneg m (show (5 : Int) ≠ 0 by omega)
      have hm1 := Int.emod_lt_of_pos m (show (0 : Int) < 5 by omega)
      obtain ⟨x, hx, hxl, hxv⟩ := more_is (m % 5) hm0 hm1
      rw [if_pos ⟨hm0, hm1⟩]
      refine (congrArg (fun v => V.asStr v _) hxv).trans ?_
      rw [asStr_str]
      have hn0 := Int.emod_nonneg n (show ((ts.length : Nat) : Int) ≠ 0 by omega)
      have hn1 := Int.emod_lt_of_pos n (show (0 : Int) < ((ts.length : Nat) : Int) by omega)
      obtain ⟨k, hk⟩ : ∃ k : Nat, n % ((ts.length : Nat) : Int) = (k : Int) := ⟨(n % ((ts.length : Nat) : Int)).toNat, by omega⟩
      rw [if_pos ⟨hn0, hn1⟩, hk]
      have hkl : k < ts.length := by omega
      obtain ⟨a, ha, _, han, hgo⟩ := scan_blanks hx (l.length + 1) l.length [] l ts k _ h1 (by omega) (Nat.le_refl _) (Nat.zero_le _) (List.getElem?_eq_getElem hkl)
      rw [Int.toNat_natCast, getD_map_v ts k hkl, tk_3, ha]
      have e3 : ¬ ((a : Int) < 0) := by omega
      have e4 : ¬ ((a : Int) > ((l.length : Nat) : Int)) := by omega
      have e5 : (0 : Int) ≤ (a : Int) := by omega
      have e6 : 0 ≤ a ∧ a ≤ l.length := by omega
      have e7 : a ≤ l.length ∧ l.length ≤ l.length := by omega
      rw [decide_eq_false e3, cond_false, decide_eq_false e4, cond_false, if_pos e5, Int.toNat_natCast, if_pos e6, if_pos e5, if_pos e7]
      simp only [B_extract, B_append, B_size, List.drop_zero, Nat.sub_zero]
      have hdrop : (l.drop a).take (l.length - a) = l.drop a := List.take_of_length_le (by simp)
      rw [hdrop]
      have hla : (l.take a).length = a := by rw [List.length_take]; omega
      have hld : (l.drop a).length = l.length - a := List.length_drop ..
      rw [if_pos (by rw [hla]; show _ ≤ 1099511627776; omega), if_pos (by rw [List.length_append, hla, hld]; show _ ≤ 1099511627776; omega)]
      have htot : (l.take a ++ x ++ l.drop a).length = l.length + x.length := by rw [List.length_append, List.length_append, hla, hld]; omega
      rw [lex_Scan_is _ (by rw [htot]; omega)]
      obtain ⟨toks', h5, h6⟩ := hgo (l.length + x.length + 1) [] Sim.nil (by omega)
      rw [Nat.sub_self, Nat.sub_zero] at h5
      have hsc2 : scan (l.take a ++ x ++ l.drop a) = (toks', 0, 0) := by
        unfold scan
        rw [if_neg (by omega), htot, ← h5, List.append_assoc]
      rw [hsc2]
      unfold scanV
      simp only [Option.bind_some, onRet_ret]
      rw [tup3, g3_0, g3_1, g3_2, ref02_Same_is ts toks' h6 (by omega)]
      rfl
    · rw [h1]
      unfold scanV
      simp only [Option.bind_some, onRet_ret]
      rw [tup3, g3_0, g3_1, g3_2]
      rfl
theorem lexBlanks_den (s : ByteArray) (hs : s.size ≤ 140737488351232) (n : Int) (_ : (Lit.int .i64 n).wf = true) (m : Int) (_ : (Lit.int .i64 m).wf = true) : den Sp law02_LexBlanks.id [.str s, .int .i64 n, .int .i64 m] [] none = some ⟨.ret (.bool true), [], none⟩ := by
  have hz : s.data.toList.length = s.size := by rw [Array.length_toList]; rfl
  have h := lexBlanks_B s.data.toList (by rw [hz]; exact hs) n m
  rw [← B_of] at h
  exact h
end Go.Proofs.YtenpcpfkiniggaaDoor
