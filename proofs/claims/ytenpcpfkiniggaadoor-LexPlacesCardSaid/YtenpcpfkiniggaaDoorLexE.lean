/- A text's tokens: what the scan answers. Own work. -/
import Derived.Test.YtenpcpfkiniggaaDoorLexD
namespace Go.Proofs.YtenpcpfkiniggaaDoor
open Go Go.Proofs.Ab Go.Proofs.Px
set_option linter.unusedVariables false
set_option linter.unusedSimpArgs false

theorem rd_cells (l : List UInt8) (i : Int) (k : (Nat → V) → Option Res) (d : Blk) : Blk.asCells (List.getD [rd l i] 0 d) T_lex_reader 2 k = k (fun j => [(V.str (B l)), (V.int IntKind.i64 i)].getD j .undef) :=
  asCells_cells (R := Res) _ _ _ rfl k
theorem rd_str (l : List UInt8) (i : Int) (k : ByteArray → Option Res) : V.asStr ([(V.str (B l)), (V.int IntKind.i64 i)].getD 0 .undef) k = k (B l) := rfl
theorem rd_int (l : List UInt8) (i : Int) (k : Int → Option Res) : V.asInt ([(V.str (B l)), (V.int IntKind.i64 i)].getD (0 + 1) .undef) IntKind.i64 k = k i := asInt_int _ _ k
theorem tup0 (k : (Nat → V) → Option Res) : V.asTup (.tup []) 0 k = k (fun j => ([] : List V).getD j .undef) := asTup_tup _ _ rfl k
theorem tup2 (a b : V) (k : (Nat → V) → Option Res) : V.asTup (.tup [a, b]) 2 k = k (fun j => [a, b].getD j .undef) := asTup_tup _ _ rfl k
theorem tk_agg (t : Tk) (b : V) (k : (Nat → V) → Option Res) : V.asAgg ([V.agg t.v, b].getD 0 .undef) 4 k = k (fun j => t.v.getD j .undef) := asAgg_agg (R := Res) t.v 4 rfl k
theorem tk_0 (t : Tk) (k : Int → Option Res) : V.asInt (t.v.getD 0 .undef) IntKind.i64 k = k t.kind := asInt_int _ _ k
theorem tk_1 (t : Tk) (k : ByteArray → Option Res) : V.asStr (t.v.getD 1 .undef) k = k (B t.text) := rfl
theorem tk_2 (t : Tk) (k : Int → Option Res) : V.asInt (t.v.getD 2 .undef) IntKind.i64 k = k t.num := asInt_int _ _ k
theorem tk_3 (t : Tk) (k : Int → Option Res) : V.asInt (t.v.getD 3 .undef) IntKind.i64 k = k t.at_ := asInt_int _ _ k
theorem bool_1 (a : V) (b : Bool) (k : Bool → Option Res) : V.asBool ([a, V.bool b].getD (0 + 1) .undef) k = k b := rfl
theorem next_pos (r : List UInt8) (a : Int) (h1 : (next r a).2.2 = true) (h2 : (next r a).1.kind ≠ 0) : 0 < (next r a).2.1 := by
  cases r with
  | nil => exact absurd rfl h2
  | cons c r =>
    have hw : inn c = true → 0 < (word (c :: r)).length := fun h => by
      unfold word; rw [List.takeWhile_cons, h]; simp
    have hx : next (c :: r) a = if lt c then (⟨if isKeyL (word (c :: r)) then 3 else 1, word (c :: r), 0, a⟩, (word (c :: r)).length, decide ((word (c :: r)).length ≤ 40))
        else if dg c then (⟨2, [], (parse (word (c :: r))).1, a⟩, (word (c :: r)).length, decide ((parse (word (c :: r))).2 = 0))
        else (⟨4, sign (c :: r), 0, a⟩, (sign (c :: r)).length, !decide (sign (c :: r) = [])) := rfl
    rw [hx] at h1 ⊢
    cases hl : lt c with
    | true =>
      have : inn c = true := by
        unfold inn inner
        have : letter (c.toNat : Int) = true := hl
        rw [this]; rfl
      simpa using hw this
    | false =>
      rw [hl] at h1
      simp only [Bool.false_eq_true, if_false] at h1 ⊢
      cases hd : dg c with
      | true => simpa using hw (dg_inn hd)
      | false =>
        rw [hd] at h1
        simp only [Bool.false_eq_true, if_false] at h1 ⊢
        rcases Nat.eq_zero_or_pos (sign (c :: r)).length with h | h
        · rw [List.length_eq_zero_iff.1 h] at h1; simp at h1
        · exact h
def scanV (x : List Tk × Int × Int) : Option Res := some ⟨.ret (.tup [.sl .no T_api_Token (x.1.map Tk.v), .int .i64 x.2.1, .int .i64 x.2.2]), [], none⟩
theorem scan_loop (l : List UInt8) (hl : l.length < 1099511627776) : ∀ (f i : Nat), i ≤ l.length → l.length - i < f → ∀ out : List Tk, out.length ≤ 4000 →
    lex_Scan.L1_1_1_1_0 (out.map Tk.v) (B l) (i : Int) = scanV (scanGo f l.length out (l.drop i))
  | 0, i, hi, hf, out, ho => by omega
  | f + 1, i, hi, hf, out, ho => by
    have hskl := sk_le false (l.drop i)
    have hskd := sk_drop false (l.drop i)
    rw [List.length_drop] at hskl
    generalize hj : l.length - (sk false (l.drop i)).length = j
    have hij : i ≤ j := by omega
    have hjl : j ≤ l.length := by omega
    have hdj : sk false (l.drop i) = l.drop j := by
      rw [hskd, List.drop_drop]
      congr 1
      rw [List.length_drop]; omega
    have hbl := lex_blank_is l (by omega) i hi
    rw [hj] at hbl
    have hnx := lex_next_is l hl j hjl
    have hnl := next_le (l.drop j) j
    rw [List.length_drop] at hnl
    have hpos := next_pos (l.drop j) j
    have hrd : (Blk.cells T_lex_reader [(V.str (B l)), (V.int IntKind.i64 i)] Bool.false) = rd l i := rfl
    have hrdj : (Blk.cells T_lex_reader [(V.str (B l)), (V.int IntKind.i64 j)] Bool.false) = rd l j := rfl
    have hgo : scanGo (f + 1) l.length out (l.drop i) = if (next (l.drop j) j).2.2 = false then ([], (j : Int), 20) else if out.length = 4000 then ([], (j : Int), 2) else
        if (next (l.drop j) j).1.kind = 0 then (out ++ [(next (l.drop j) j).1], 0, 0) else scanGo f l.length (out ++ [(next (l.drop j) j).1]) ((l.drop j).drop (next (l.drop j) j).2.1) := by
      rw [scanGo_succ, hdj, List.length_drop]
      have : ((l.length - (l.length - j) : Nat) : Int) = (j : Int) := by omega
      rw [this]
    rw [lex_Scan.L1_1_1_1_0_eq, hrd, hbl]
    simp only [Option.bind_some, bl_mk]
    rw [rd_cells, rd_str, rd_int, onRet_ret, tup0, hrdj, hnx]
    simp only [Option.bind_some, bl_mk]
    rw [rd_cells, rd_str, rd_int, onRet_ret, tup2, tk_agg, tk_0, tk_1, tk_2, tk_3, bool_1, hgo]
    generalize next (l.drop j) j = x at *
    obtain ⟨t, n, ok⟩ := x
    dsimp only at *
    cases ok with
    | false => rfl
    | true =>
      rw [Bool.not_true, cond_false, if_neg (fun h : true = false => Bool.noConfusion h)]
      have hlen : (out.map Tk.v).length = out.length := List.length_map ..
      rw [hlen]
      by_cases h4 : out.length = 4000
      · rw [if_pos h4, h4]; rfl
      · have h5 : (((out.length : Nat) : Int) == (4000 : Int)) = false := beq_eq_false_iff_ne.2 (by omega)
        have h6 : out.length + (List.length [[(V.int IntKind.i64 t.kind), (V.str (B t.text)), (V.int IntKind.i64 t.num), (V.int IntKind.i64 t.at_)]]) ≤ most := by
          show out.length + 1 ≤ 1099511627776
          omega
        have h7 : out.map Tk.v ++ [[(V.int IntKind.i64 t.kind), (V.str (B t.text)), (V.int IntKind.i64 t.num), (V.int IntKind.i64 t.at_)]] = (out ++ [t]).map Tk.v := by
          rw [List.map_append]; rfl
        rw [h5, cond_false, if_neg h4, if_pos h6, h7]
        by_cases hk : t.kind = 0
        · rw [if_pos hk, hk]; rfl
        · rw [if_neg hk, beq_eq_false_iff_ne.2 hk, cond_false]
          have hp := hpos rfl hk
          have hdd : (l.drop j).drop n = l.drop (j + n) := List.drop_drop ..
          rw [hdd]
          exact scan_loop l hl f (j + n) (by omega) (by omega) (out ++ [t]) (by rw [List.length_append, List.length_singleton]; omega)
theorem lex_Scan_is (l : List UInt8) (hl : l.length < 1099511627776) : den Sp lex_Scan.id [.str (B l)] [] none = scanV (scan l) := by
  rw [lex_Scan.eq, B_size]
  unfold scan
  by_cases h : l.length > 16384
  · have h1 : ((l.length : Nat) : Int) > 16384 := by omega
    rw [if_pos h, decide_eq_true h1]; rfl
  · have h1 : ¬ ((l.length : Nat) : Int) > 16384 := by omega
    rw [if_neg h, decide_eq_false h1, cond_false]
    have := scan_loop l hl (l.length + 1) 0 (by omega) (by omega) [] (by simp)
    rw [List.drop_zero] at this
    exact this
end Go.Proofs.YtenpcpfkiniggaaDoor
