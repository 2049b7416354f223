/- LexPlaces: places rise, and a token stands where it says. Own work. -/
import Derived.Test.YtenpcpfkiniggaaDoorPxPlaces
import Derived.Test.YtenpcpfkiniggaaDoorLawLexMany
import Derived.Test.YtenpcpfkiniggaaDoorKnA
import Derived.Test.YtenpcpfkiniggaaDoorR3
namespace Go.Proofs.YtenpcpfkiniggaaDoor
open Go Go.Proofs.Ab Go.Proofs.Px
set_option linter.unusedVariables false
set_option linter.unusedSimpArgs false

theorem law02_long_is (l : List UInt8) : ∃ b, den Sp law02_long.id [.str (B l)] [] none = some ⟨.ret (.bool b), [], none⟩ := by
  rw [law02_long.eq]
  cases decide ((((B l).size : Nat) : Int) > 3000)
  · exact ⟨_, rfl⟩
  · exact ⟨_, rfl⟩
theorem lex_Scan_long (l : List UInt8) (h : l.length > 16384) : den Sp lex_Scan.id [.str (B l)] [] none = scanV ([], 0, 2) := by
  rw [lex_Scan.eq, B_size, decide_eq_true (show ((l.length : Nat) : Int) > 16384 by omega)]; rfl
theorem places_end (l : List UInt8) (L : List Tk) (h1 : L.length < 1099511627776) (hpos : 0 < L.length) (hk : ∀ i, (hi : i + 1 < L.length) → ∃ a b : Nat, (L[i]'(by omega)).at_ = (a : Int) ∧ (L[i + 1]'hi).at_ = (b : Int) ∧ wrOk (L[i]'(by omega)) = true ∧ TkOk (L[i]'(by omega)) ∧
    a + (wrT (L[i]'(by omega))).length ≤ b ∧ b ≤ l.length ∧ (l.drop a).take (wrT (L[i]'(by omega))).length = wrT (L[i]'(by omega))) (hl : l.length ≤ 140737488351232) :
    law02_LexPlaces.L1_1_1_1_1_0_1_0 (B l) (L.map Tk.v) 0 = some ⟨.ret (.bool true), [], none⟩ := by
  have e3 : IntKind.wrap IntKind.i64 (((L.length : Nat) : Int) - 1) = ((L.length - 1 : Nat) : Int) := by rw [wrap_in (by omega) (by omega)]; omega
  have key : ∀ i : Nat, i ≤ L.length - 1 → law02_LexPlaces.L1_1_1_1_1_0_1_0 (B l) (L.map Tk.v) (i : Int) = some ⟨.ret (.bool true), [], none⟩ := by
    refine down ?_ fun i hi ih => ?_
    · rw [law02_LexPlaces.L1_1_1_1_1_0_1_0_eq, List.length_map, e3, decide_eq_false (Int.lt_irrefl _), cond_false, law02_known_is]
      rfl
    · have hi2 : i < L.length := by omega
      have hi3 : i + 1 < L.length := by omega
      have e1 : ((i : Int) < ((L.length - 1 : Nat) : Int)) := by omega
      have e2 : (0 : Int) ≤ (i : Int) ∧ ((i : Int) < ((L.length : Nat) : Int)) := ⟨by omega, by omega⟩
      have e4 : (0 : Int) ≤ ((i + 1 : Nat) : Int) ∧ (((i + 1 : Nat) : Int) < ((L.length : Nat) : Int)) := ⟨by omega, by omega⟩
      obtain ⟨a, b, g1, g2, g3, g4, g5, g6, g7⟩ := hk i hi3
      obtain ⟨x, hx, hxt⟩ := ref02_Text_is (L[i]'hi2) g4
      have hx' : den Sp ref02_Text.id [(V.agg [(V.int IntKind.i64 (L[i]'hi2).kind), (V.str (B (L[i]'hi2).text)), (V.int IntKind.i64 (L[i]'hi2).num), (V.int IntKind.i64 (L[i]'hi2).at_)])] [] none = _ := hx
      have hxx := hxt g3
      rw [← hxx] at g5 g7
      have w1 : IntKind.wrap IntKind.i64 ((a : Int) + ((x.length : Nat) : Int)) = ((a + x.length : Nat) : Int) := by rw [wrap_in (by omega) (by omega)]; omega
      rw [law02_LexPlaces.L1_1_1_1_1_0_1_0_eq, List.length_map, e3, decide_eq_true e1, cond_true, if_pos e2, Int.toNat_natCast, tkAt L i hi2, tk_0, tk_1, tk_2, tk_3, hx']
      simp only [Option.bind_some, onRet_ret, tup2]
      rw [asStr_at0, bool_1, g3, Bool.not_true, cond_false, if_pos e2, tk_3, g1, decide_eq_false (show ¬ ((a : Int) < 0) by omega), cond_false, if_pos e2, tk_3, g1, wrap_nat (by omega), if_pos e4, Int.toNat_natCast, tkAt L (i + 1) hi3, tk_3, g2, B_size, w1,
        decide_eq_false (show ¬ (((a + x.length : Nat) : Int) > (b : Int)) by omega), cond_false, if_pos e4, tk_3, g2, B_size, decide_eq_false (show ¬ ((b : Int) > ((l.length : Nat) : Int)) by omega), cond_false, if_pos e2, tk_3, g1, if_pos e2, tk_3, g1, w1,
        if_pos (show (0 : Int) ≤ (a : Int) by omega), if_pos (show (0 : Int) ≤ ((a + x.length : Nat) : Int) by omega), Int.toNat_natCast, Int.toNat_natCast, if_pos (show a ≤ a + x.length ∧ a + x.length ≤ l.length by omega), B_extract, B_dec, Nat.add_sub_cancel_left, g7, decide_eq_true rfl, Bool.not_true, cond_false]
      exact ih
  exact key 0 (Nat.zero_le _)
theorem lexPlaces_B (l : List UInt8) (hl : l.length ≤ 140737488351232) : den Sp law02_LexPlaces.id [.str (B l)] [] none = some ⟨.ret (.bool true), [], none⟩ := by
  obtain ⟨b, hb⟩ := law02_long_is l
  rw [law02_LexPlaces.eq, hb, law02_known_is]
  simp only [Option.bind_some, onRet_ret, asBool_bool]
  cases b with
  | true => rfl
  | false =>
    rw [cond_false]
    by_cases h16 : l.length > 16384
    · rw [lex_Scan_long l h16]
      unfold scanV
      simp only [Option.bind_some, onRet_ret]
      rw [tup3, g3_0, g3_1, g3_2, B_size]
      have e7 : decide ((0 : Int) ≤ ((l.length : Nat) : Int)) = true := decide_eq_true (by omega)
      have e8 : ((2 : Int) != 0) = true := rfl
      have e9 : ((((List.map Tk.v []).length : Nat) : Int) == 0) = true := rfl
      have e10 : decide ((0 : Int) ≥ 0) = true := rfl
      rw [e8, cond_true, e9, cond_true, e10, cond_true, e7, cond_true]
    · rw [lex_Scan_is l (by omega)]
      unfold scanV scan
      rw [if_neg h16]
      rcases scan_placed l hl (l.length + 1) 0 [] (Nat.zero_le _) (by omega) with ⟨a, e, h1, h2, h3, h4⟩ | ⟨ts, h1, h2⟩
      · rw [List.drop_zero] at h1
        rw [h1]
        simp only [Option.bind_some, onRet_ret]
        rw [tup3, g3_0, g3_1, g3_2, B_size]
        have e1 : (e != 0) = true := bne_iff_ne.2 h2
        rw [e1, cond_true, decide_eq_true (show a ≥ 0 from h3), decide_eq_true h4]
        rfl
      · rw [List.drop_zero, List.nil_append] at h1
        rw [h1]
        have hat := pl_at ts 0 h2
        have hr := pl_right ts 0 h2
        have htl : ts.length ≤ l.length := by
          have : ∀ (us : List Tk) (p : Nat), p ≤ l.length → Pl l p us → us.length + p ≤ l.length := by
            intro us
            induction us with
            | nil => intro p hp _; simp; omega
            | cons u us ih =>
              rintro p hp ⟨a, g1, g2, g3, g4, g5, g6, g7⟩
              have g8 := List.length_pos_iff.2 (next_back g3 g4 (.inl rfl) 0).2
              have := ih _ g5 g7
              rw [List.length_cons]; omega
          have := this ts 0 (Nat.zero_le _) h2
          omega
        have hall : ∀ t ∈ ts ++ [endTk l.length], TkOk t := fun t ht => by
          rcases List.mem_append.1 ht with ht | ht
          · obtain ⟨i, hi, rfl⟩ := List.getElem_of_mem ht
            obtain ⟨_, _, _, _, _, _, h, _⟩ := hat i hi
            exact h
          · obtain rfl := List.mem_singleton.1 ht
            exact ⟨Nat.zero_le _, i64_wf (n := 0) (by decide) (by decide), i64_wf (n := 0) (by decide) (by decide), i64_wf (show (-9223372036854775808 : Int) ≤ (l.length : Int) by omega) (show (l.length : Int) ≤ 9223372036854775807 by omega)⟩
        have hLlen : (ts ++ [endTk l.length]).length = ts.length + 1 := by simp
        have hlast : (ts ++ [endTk l.length])[ts.length]'(by omega) = endTk l.length := by simp
        simp only [Option.bind_some, onRet_ret]
        rw [tup3, g3_0, g3_1, g3_2, lex_Right_is _ (by rw [hLlen]; omega) hall, hr]
        simp only [Option.bind_some, onRet_ret, asBool_bool]
        have e0 : ((0 : Int) != 0) = false := rfl
        have e3 : IntKind.wrap IntKind.i64 ((((ts ++ [endTk l.length]).length : Nat) : Int) - 1) = ((ts.length : Nat) : Int) := by rw [hLlen, wrap_in (by omega) (by omega)]; omega
        have e4 : (0 : Int) ≤ ((ts.length : Nat) : Int) ∧ ((ts.length : Nat) : Int) < (((ts ++ [endTk l.length]).length : Nat) : Int) := by rw [hLlen]; omega
        have e5 : (((l.length : Nat) : Int) != ((l.length : Nat) : Int)) = false := by simp
        rw [e0, cond_false, Bool.not_true, cond_false, List.length_map, e3, if_pos e4, Int.toNat_natCast, tkAt _ _ (by omega), hlast, tk_3, B_size]
        have e6 : (endTk l.length).at_ = ((l.length : Nat) : Int) := rfl
        rw [e6, e5, cond_false]
        refine places_end l _ (by rw [hLlen]; omega) (by rw [hLlen]; omega) (fun i hi => ?_) hl
        have hi' : i < ts.length := by rw [hLlen] at hi; omega
        obtain ⟨a, b, g1, _, g2, g3, g4, g5, g6, g7⟩ := hat i hi'
        have hti : (ts ++ [endTk l.length])[i]'(by omega) = ts[i]'hi' := List.getElem_append_left hi'
        rw [hti]
        exact ⟨a, b, g1, g2, g3, g4, g5, g6, g7⟩
theorem lexPlaces_den (s : ByteArray) (hs : s.size ≤ 140737488351232) : den Sp law02_LexPlaces.id [.str s] [] none = some ⟨.ret (.bool true), [], none⟩ := by
  have hz : s.data.toList.length = s.size := by rw [Array.length_toList]; rfl
  have h := lexPlaces_B s.data.toList (by rw [hz]; exact hs)
  rw [← B_of] at h
  exact h
end Go.Proofs.YtenpcpfkiniggaaDoor
