/- Own texts under the law DeclStable, merged, without what it does not lean on: part 6 of 6 (the abstract machine and its proof; residual forms; contracts; the plain law). -/
import Derived.Test.YtmhnmelaodhemaaDoorDeclStablePackE
set_option linter.unusedVariables false
set_option linter.unusedSimpArgs false
set_option linter.unusedSectionVars false
set_option maxRecDepth 100000
namespace Go.Proofs.YtmhnmelaodhemaaDoor
open Go Go.Proofs.Ab Go.Proofs.Px
theorem rd_cells (l : List UInt8) (i : Int) (k : (Nat -> V) -> Option Res) (d : Blk) : Blk.asCells (List.getD [rd l i] 0 d) T_lex_reader 2 k = k (fun j => [(V.str (B l)), (V.int IntKind.i64 i)].getD j .undef) :=
 asCells_cells (R := Res) _ _ _ rfl k
theorem rd_str (l : List UInt8) (i : Int) (k : ByteArray -> Option Res) : V.asStr ([(V.str (B l)), (V.int IntKind.i64 i)].getD 0 .undef) k = k (B l) := rfl
theorem rd_int (l : List UInt8) (i : Int) (k : Int -> Option Res) : V.asInt ([(V.str (B l)), (V.int IntKind.i64 i)].getD (0 + 1) .undef) IntKind.i64 k = k i := asInt_int _ _ k
theorem tup0 (k : (Nat -> V) -> Option Res) : V.asTup (.tup []) 0 k = k (fun j => ([] : List V).getD j .undef) := asTup_tup _ _ rfl k
theorem tup2 (a b : V) (k : (Nat -> V) -> Option Res) : V.asTup (.tup [a, b]) 2 k = k (fun j => [a, b].getD j .undef) := asTup_tup _ _ rfl k
theorem tk_agg (t : Tk) (b : V) (k : (Nat -> V) -> Option Res) : V.asAgg ([V.agg t.v, b].getD 0 .undef) 4 k = k (fun j => t.v.getD j .undef) := asAgg_agg (R := Res) t.v 4 rfl k
theorem tk_0 (t : Tk) (k : Int -> Option Res) : V.asInt (t.v.getD 0 .undef) IntKind.i64 k = k t.kind := asInt_int _ _ k
theorem tk_1 (t : Tk) (k : ByteArray -> Option Res) : V.asStr (t.v.getD 1 .undef) k = k (B t.text) := rfl
theorem tk_2 (t : Tk) (k : Int -> Option Res) : V.asInt (t.v.getD 2 .undef) IntKind.i64 k = k t.num := asInt_int _ _ k
theorem tk_3 (t : Tk) (k : Int -> Option Res) : V.asInt (t.v.getD 3 .undef) IntKind.i64 k = k t.at_ := asInt_int _ _ k
theorem bool_1 (a : V) (b : Bool) (k : Bool -> Option Res) : V.asBool ([a, V.bool b].getD (0 + 1) .undef) k = k b := rfl
theorem next_pos (r : List UInt8) (a : Int) (h1 : (next r a).2.2 = true) (h2 : (next r a).1.kind ≠ 0) : 0 < (next r a).2.1 := by
 cases r with
 | nil => exact absurd rfl h2
 | cons c r =>
  have hw : inn c = true -> 0 < (word (c :: r)).length := fun h => by
   unfold word; rw [List.takeWhile_cons, h]; simp
  have hx : next (c :: r) a = if lt c then (⟨if isKeyL (word (c :: r)) then 3 else 1, word (c :: r), 0, a⟩, (word (c :: r)).length, decide ((word (c :: r)).length <= 40))
    else if dg c then (⟨2, [], (parse (word (c :: r))).1, a⟩, (word (c :: r)).length, decide ((parse (word (c :: r))).2 = 0))
    else (⟨4, sign (c :: r), 0, a⟩, (sign (c :: r)).length, !decide (sign (c :: r) = [])) := rfl
  rw [hx] at h1 ⊢
  cases hl : lt c with
  | true =>
   have : inn c = true := by
    unfold inn inner
    have : letter (c.toNat : Int) = true := hl
    rw [this]; rfl
   simpa using hw this
  | false =>
   rw [hl] at h1
   simp only [Bool.false_eq_true, if_false] at h1 ⊢
   cases hd : dg c with
   | true => simpa using hw (dg_inn hd)
   | false =>
    rw [hd] at h1
    simp only [Bool.false_eq_true, if_false] at h1 ⊢
    rcases Nat.eq_zero_or_pos (sign (c :: r)).length with h | h
    ·rw [List.length_eq_zero_iff.1 h] at h1; simp at h1
    ·exact h
def scanV (x : List Tk × Int × Int) : Option Res := some ⟨.ret (.tup [.sl .no T_api_Token (x.1.map Tk.v), .int .i64 x.2.1, .int .i64 x.2.2]), [], none⟩
theorem scan_loop (l : List UInt8) (hl : l.length < 1099511627776) : ∀ (f i : Nat), i <= l.length -> l.length - i < f -> ∀ out : List Tk, out.length <= 4000 ->
  lex_Scan.L1_1_1_1_0 (out.map Tk.v) (B l) (i : Int) = scanV (scanGo f l.length out (l.drop i))
 | 0, i, hi, hf, out, ho => by omega
 | f + 1, i, hi, hf, out, ho => by
  have hskl := sk_le false (l.drop i)
  have hskd := sk_drop false (l.drop i)
  rw [List.length_drop] at hskl
  generalize hj : l.length - (sk false (l.drop i)).length = j
  have hij : i <= j := by omega
  have hjl : j <= l.length := by omega
  have hdj : sk false (l.drop i) = l.drop j := by
   rw [hskd, List.drop_drop]
   congr 1
   rw [List.length_drop]; omega
  have hbl := lex_blank_is l (by omega) i hi
  rw [hj] at hbl
  have hnx := lex_next_is l hl j hjl
  have hnl := next_le (l.drop j) j
  rw [List.length_drop] at hnl
  have hpos := next_pos (l.drop j) j
  have hrd : (Blk.cells T_lex_reader [(V.str (B l)), (V.int IntKind.i64 i)] Bool.false) = rd l i := rfl
  have hrdj : (Blk.cells T_lex_reader [(V.str (B l)), (V.int IntKind.i64 j)] Bool.false) = rd l j := rfl
  have hgo : scanGo (f + 1) l.length out (l.drop i) = if (next (l.drop j) j).2.2 = false then ([], (j : Int), 20) else if out.length = 4000 then ([], (j : Int), 2) else
    if (next (l.drop j) j).1.kind = 0 then (out ++ [(next (l.drop j) j).1], 0, 0) else scanGo f l.length (out ++ [(next (l.drop j) j).1]) ((l.drop j).drop (next (l.drop j) j).2.1) := by
   rw [scanGo_succ, hdj, List.length_drop]
   have : ((l.length - (l.length - j) : Nat) : Int) = (j : Int) := by omega
   rw [this]
  rw [lex_Scan.L1_1_1_1_0_eq, hrd, hbl]
  simp only [Option.bind_some, bl_mk]
  rw [rd_cells, rd_str, rd_int, onRet_ret, tup0, hrdj, hnx]
  simp only [Option.bind_some, bl_mk]
  rw [rd_cells, rd_str, rd_int, onRet_ret, tup2, tk_agg, tk_0, tk_1, tk_2, tk_3, bool_1, hgo]
  generalize next (l.drop j) j = x at *
  obtain ⟨t, n, ok⟩ := x
  dsimp only at *
  cases ok with
  | false => rfl
  | true =>
   rw [Bool.not_true, cond_false, if_neg (fun h : true = false => Bool.noConfusion h)]
   have hlen : (out.map Tk.v).length = out.length := List.length_map ..
   rw [hlen]
   by_cases h4 : out.length = 4000
   ·rw [if_pos h4, h4]; rfl
   ·have h5 : (((out.length : Nat) : Int) == (4000 : Int)) = false := beq_eq_false_iff_ne.2 (by omega)
    have h6 : out.length + (List.length [[(V.int IntKind.i64 t.kind), (V.str (B t.text)), (V.int IntKind.i64 t.num), (V.int IntKind.i64 t.at_)]]) <= most := by
     show out.length + 1 <= 1099511627776
     omega
    have h7 : out.map Tk.v ++ [[(V.int IntKind.i64 t.kind), (V.str (B t.text)), (V.int IntKind.i64 t.num), (V.int IntKind.i64 t.at_)]] = (out ++ [t]).map Tk.v := by
     rw [List.map_append]; rfl
    rw [h5, cond_false, if_neg h4, if_pos h6, h7]
    by_cases hk : t.kind = 0
    ·rw [if_pos hk, hk]; rfl
    ·rw [if_neg hk, beq_eq_false_iff_ne.2 hk, cond_false]
     have hp := hpos rfl hk
     have hdd : (l.drop j).drop n = l.drop (j + n) := List.drop_drop ..
     rw [hdd]
     exact scan_loop l hl f (j + n) (by omega) (by omega) (out ++ [t]) (by rw [List.length_append, List.length_singleton]; omega)
theorem lex_Scan_is (l : List UInt8) (hl : l.length < 1099511627776) : den Sp lex_Scan.id [.str (B l)] [] none = scanV (scan l) := by
 rw [lex_Scan.eq, B_size]
 unfold scan
 by_cases h : l.length > 16384
 ·have h1 : ((l.length : Nat) : Int) > 16384 := by omega
  rw [if_pos h, decide_eq_true h1]; rfl
 ·have h1 : ¬ ((l.length : Nat) : Int) > 16384 := by omega
  rw [if_neg h, decide_eq_false h1, cond_false]
  have := scan_loop l hl (l.length + 1) 0 (by omega) (by omega) [] (by simp)
  rw [List.drop_zero] at this
  exact this
end Go.Proofs.YtmhnmelaodhemaaDoor
namespace Go.Proofs.YtmhnmelaodhemaaDoor
open Go Go.Proofs.Ab
end Go.Proofs.YtmhnmelaodhemaaDoor
namespace Go.Proofs.YtmhnmelaodhemaaDoor
open Go Go.Proofs.Ab Go.Proofs.Px
def Wr (f : FuncId) : Prop := ∀ t : Tk, TkOk t -> ∃ x : List UInt8, den Sp f [.agg t.v] [] none = some ⟨.ret (.tup [.str (B x), .bool (wrOk t)]), [], none⟩ ∧ (wrOk t = true -> x = wrT t)
theorem beq_dec (a b : Int) : (a == b) = decide (a = b) := by
 by_cases h : a = b
 ·subst h; simp
 ·rw [beq_eq_false_iff_ne.2 h, decide_eq_false h]
theorem wr_ret {f : FuncId} {t : Tk} {x : List UInt8} {b : Bool} (h : den Sp f [.agg t.v] [] none = some ⟨.ret (.tup [.str (B x), .bool b]), [], none⟩) (hb : b = wrOk t) (hx : wrOk t = true -> x = wrT t) :
  ∃ x : List UInt8, den Sp f [.agg t.v] [] none = some ⟨.ret (.tup [.str (B x), .bool (wrOk t)]), [], none⟩ ∧ (wrOk t = true -> x = wrT t) := ⟨x, hb ▸ h, hx⟩
theorem lex_written_is : Wr lex_written.id := by
 intro t ht
 have hb := i64_bounds ht.num
 have htl := ht.text
 obtain ⟨kind, text, num, at_⟩ := t
 dsimp only at *
 have e : den Sp lex_written.id [.agg (Tk.v ⟨kind, text, num, at_⟩)] [] none = _ := lex_written.eq kind (B text) num at_
 by_cases h1 : kind = 1
 ·subst h1
  by_cases hn : num = 0
  ·subst hn
   rw [show ((1 : Int) == 1) = true from rfl, cond_true, show ((0 : Int) == 0) = true from rfl, cond_true, lex_IsName_is _ (by rw [B_size]; omega)] at e
   exact wr_ret (x := text) e (by simp [wrOk]) fun _ => by simp [wrT]
  ·rw [show ((1 : Int) == 1) = true from rfl, cond_true, beq_eq_false_iff_ne.2 hn, cond_false] at e
   exact wr_ret (x := text) e (by simp [wrOk, hn]) fun _ => by simp [wrT]
 ·rw [beq_eq_false_iff_ne.2 h1, cond_false] at e
  by_cases h3 : kind = 3
  ·subst h3
   by_cases hn : num = 0
   ·subst hn
    rw [show ((3 : Int) == 3) = true from rfl, cond_true, show ((0 : Int) == 0) = true from rfl, cond_true, lex_isKey_is, isKey_B'] at e
    exact wr_ret (x := text) e (by simp [wrOk]) fun _ => by simp [wrT]
   ·rw [show ((3 : Int) == 3) = true from rfl, cond_true, beq_eq_false_iff_ne.2 hn, cond_false] at e
    exact wr_ret (x := text) e (by simp [wrOk, hn]) fun _ => by simp [wrT]
  ·rw [beq_eq_false_iff_ne.2 h3, cond_false] at e
   by_cases h4 : kind = 4
   ·subst h4
    have hs := sign_self text
    by_cases hn : num = 0
    ·subst hn
     rw [show ((4 : Int) == 4) = true from rfl, cond_true, show ((0 : Int) == 0) = true from rfl, cond_true, lex_sign_is _ (by omega), B_nil, B_dec] at e
     cases he : decide (text = []) with
     | true =>
      rw [he, Bool.not_true, cond_false] at e
      rw [he] at hs
      exact wr_ret (x := text) e (by rw [wrOk, if_neg (by simp), if_neg (by simp), if_pos rfl]; simpa using hs) fun _ => by simp [wrT]
     | false =>
      rw [he, Bool.not_false, cond_true] at e
      rw [he, Bool.not_false, Bool.true_and] at hs
      simp only [Option.bind_some, onRet_ret, asStr_str, B_dec] at e
      exact wr_ret (x := text) e (by rw [wrOk, if_neg (by simp), if_neg (by simp), if_pos rfl]; simpa using hs) fun _ => by simp [wrT]
    ·rw [show ((4 : Int) == 4) = true from rfl, cond_true, beq_eq_false_iff_ne.2 hn, cond_false] at e
     exact wr_ret (x := text) e (by simp [wrOk, hn]) fun _ => by simp [wrT]
   ·rw [beq_eq_false_iff_ne.2 h4, cond_false] at e
    by_cases h2 : kind = 2
    ·subst h2
     rw [show ((2 : Int) == 2) = true from rfl, cond_true, num_Text_is num hb.1 hb.2, B_nil, B_dec] at e
     simp only [Option.bind_some, onRet_ret, asStr_str] at e
     cases he : decide (text = []) with
     | true =>
      rw [he, cond_true] at e
      exact wr_ret (x := decs num) e (by simp [wrOk, he]) fun _ => by simp [wrT]
     | false =>
      rw [he, cond_false] at e
      exact wr_ret (x := decs num) e (by simp [wrOk, he]) fun _ => by simp [wrT]
    ·rw [beq_eq_false_iff_ne.2 h2, cond_false] at e
     exact wr_ret (x := []) e (by simp [wrOk, h1, h2, h3, h4]) fun h => by simp [wrOk, h1, h2, h3, h4] at h
theorem tkAt (l : List Tk) (i : Nat) (h : i < l.length) : (l.map Tk.v).getD i [] = (l[i]'h).v := by
 rw [List.getD_eq_getElem?_getD, List.getElem?_map, List.getElem?_eq_getElem h]; rfl
theorem rightL_drop {l : List Tk} {i : Nat} (h : i + 1 < l.length) : rightL (l.drop i) = (wrOk (l[i]'(by omega)) && rightL (l.drop (i + 1))) := by
 rw [List.drop_eq_getElem_cons (show i < l.length by omega)]
 cases hd : l.drop (i + 1) with
 | nil =>
  have := congrArg List.length hd
  rw [List.length_drop, List.length_nil] at this; omega
 | cons u r => rfl
theorem rightL_last {l : List Tk} {i : Nat} (h : i + 1 = l.length) : rightL (l.drop i) = endT (l[i]'(by omega)) := by
 rw [List.drop_eq_getElem_cons (show i < l.length by omega), List.drop_eq_nil_of_le (by omega)]
 rfl
theorem end_ret (t : Tk) : (bif (t.kind == (0 : Int)) then (bif (decide (B t.text = B [])) then (some (Res.mk (Out.ret (V.bool (t.num == (0 : Int)))) [] none)) else (some (Res.mk (Out.ret (V.bool Bool.false)) [] none))) else (some (Res.mk (Out.ret (V.bool Bool.false)) [] none))) = some ⟨.ret (.bool (endT t)), [], none⟩ := by
 unfold endT
 rw [beq_dec, beq_dec, B_dec]
 cases decide (t.kind = 0) <;> cases decide (t.text = []) <;> rfl
theorem lex_Right_is (l : List Tk) (hl : l.length < 4611686018427387904) (hk : ∀ t ∈ l, TkOk t) : den Sp lex_Right.id [.sl .no T_api_Token (l.map Tk.v)] [] none = some ⟨.ret (.bool (rightL l)), [], none⟩ := by
 rw [lex_Right.eq, List.length_map]
 have key : ∀ i : Nat, i <= l.length -> lex_Right.L1_0_1_0 (l.map Tk.v) (l.map Tk.v) (l.length : Int) (i : Int) = some ⟨.ret (.bool (rightL (l.drop i))), [], none⟩ := by
  refine down ?_ fun i hi ih => ?_
  ·rw [lex_Right.L1_0_1_0_eq, decide_eq_false (Int.lt_irrefl _), cond_false, List.drop_length]; rfl
  ·have e1 : ((i : Int) < ((l.length : Nat) : Int)) := by omega
   have e2 : (0 : Int) <= (i : Int) ∧ ((i : Int) < ((l.length : Nat) : Int)) := ⟨by omega, e1⟩
   have e3 : IntKind.wrap IntKind.i64 (((l.length : Nat) : Int) - 1) = ((l.length - 1 : Nat) : Int) := by rw [wrap_in (by omega) (by omega)]; omega
   rw [lex_Right.L1_0_1_0_eq, List.length_map, decide_eq_true e1, cond_true, if_pos e2, Int.toNat_natCast, tkAt l i hi, tk_0, tk_1, tk_2, tk_3, wrap_nat (by omega), ih, e3]
   by_cases h : i + 1 = l.length
   ·rw [beq_iff_eq.2 (show ((i : Nat) : Int) = ((l.length - 1 : Nat) : Int) by omega), cond_true, rightL_last h, B_nil]
    exact end_ret _
   ·rw [beq_eq_false_iff_ne.2 (show ((i : Nat) : Int) ≠ ((l.length - 1 : Nat) : Int) by omega), cond_false, rightL_drop (l := l) (i := i) (by omega)]
    obtain ⟨x, hx, _⟩ := lex_written_is (l[i]'hi) (hk _ (List.getElem_mem hi))
    have hx' : den Sp lex_written.id [(V.agg [(V.int IntKind.i64 (l[i]'hi).kind), (V.str (B (l[i]'hi).text)), (V.int IntKind.i64 (l[i]'hi).num), (V.int IntKind.i64 (l[i]'hi).at_)])] [] none = _ := hx
    rw [hx']
    simp only [Option.bind_some, onRet_ret, tup2]
    show (bif !(wrOk (l[i]'hi)) then _ else _) = _
    cases wrOk (l[i]'hi) <;> rfl
 have := key 0 (Nat.zero_le _)
 rw [List.drop_zero] at this
 exact this
def SimT (a b : Tk) : Prop := a.kind = b.kind ∧ a.text = b.text ∧ a.num = b.num
def Sim (xs ys : List Tk) : Prop := xs.length = ys.length ∧ ∀ (i : Nat) a b, xs[i]? = some a -> ys[i]? = some b -> SimT a b
theorem Sim.nil : Sim [] [] := ⟨rfl, fun i a b h => by simp at h⟩
theorem Sim.snoc {xs ys : List Tk} {a b : Tk} (h : Sim xs ys) (hab : SimT a b) : Sim (xs ++ [a]) (ys ++ [b]) := by
 refine ⟨by simp [h.1], fun i p q hx hy => ?_⟩
 rcases Nat.lt_or_ge i xs.length with hi | hi
 ·rw [List.getElem?_append_left hi] at hx
  rw [List.getElem?_append_left (by rw [<- h.1]; exact hi)] at hy
  exact h.2 i p q hx hy
 ·rw [List.getElem?_append_right hi] at hx
  rw [List.getElem?_append_right (by rw [<- h.1]; exact hi), <- h.1] at hy
  have h0 : i - xs.length = 0 := by
   rcases Nat.eq_zero_or_pos (i - xs.length) with h0 | h0
   ·exact h0
   ·rw [List.getElem?_eq_none (by simp; omega)] at hx; cases hx
  rw [h0] at hx hy
  simp at hx hy
  subst hx; subst hy; exact hab
structure Blankish (x : List UInt8) : Prop where
 f : ∀ y, sk false (x ++ y) = sk false y
 t : sk true x = []
 hd : ∃ e x', x = e :: x' ∧ inn e = false ∧ lt e = false ∧ ∀ y ∈ signs, e ∉ y
def Tail (r : List UInt8) : Prop := r = [] ∨ ∃ q, r = 32 :: q
theorem word_tail {r : List UInt8} (h : Tail r) : word r = [] := by
 rcases h with rfl | ⟨q, rfl⟩
 ·rfl
 ·unfold word
  rw [List.takeWhile_cons]; rfl
theorem word_app : ∀ {w : List UInt8} (r : List UInt8), (∀ c ∈ w, inn c = true) -> word (w ++ r) = w ++ word r
 | [], r, _ => rfl
 | c :: w, r, h => by
  have := word_app (w := w) r fun d hd => h d (List.mem_cons_of_mem _ hd)
  unfold word at *
  rw [List.cons_append, List.takeWhile_cons, h c List.mem_cons_self, if_pos rfl, this]; rfl
theorem word_inn : ∀ {w : List UInt8} (h : word w = w), ∀ c ∈ w, inn c = true
 | [], _, c, hc => by cases hc
 | d :: w, h, c, hc => by
  unfold word at h
  rw [List.takeWhile_cons] at h
  cases hd : inn d with
  | false => rw [hd] at h; simp at h
  | true =>
   rw [hd] at h
   simp only [if_true, List.cons.injEq, true_and] at h
   rcases List.mem_cons.1 hc with rfl | hc
   ·exact hd
   ·exact word_inn (w := w) h c hc
theorem word_rest {w r : List UInt8} (h : word w = w) (hr : Tail r) : word (w ++ r) = w := by
 rw [word_app r (word_inn h), word_tail hr, List.append_nil]
theorem getD_app {w : List UInt8} (r : List UInt8) (h : w ≠ []) : ∃ c q, w ++ r = c :: q ∧ c = w.getD 0 0 := by
 cases w with
 | nil => exact absurd rfl h
 | cons c w => exact ⟨c, w ++ r, rfl, rfl⟩
theorem signIn_two (l : List UInt8) : ∀ s : List (List UInt8), (∀ x ∈ s, x.length <= 2) -> signIn l s = signIn (l.take 2) s
 | [], _ => rfl
 | x :: s, h => by
  have h1 := signIn_two l s fun y hy => h y (List.mem_cons_of_mem _ hy)
  have h2 := h x List.mem_cons_self
  unfold signIn
  rw [List.take_take, Nat.min_eq_left h2, h1]
theorem sign_two (l : List UInt8) : sign l = sign (l.take 2) := signIn_two l signs (by decide)
theorem sign_rest {w r : List UInt8} (h : isSign w = true) (hr : Tail r) : sign (w ++ r) = w ∧ w ≠ [] ∧ lt (w.getD 0 0) = false ∧ dg (w.getD 0 0) = false := by
 have h1 : signs.all (fun x => decide (sign (x.take 2) = x) && decide (sign ((x ++ [32]).take 2) = x) && decide (x ≠ []) && !lt (x.getD 0 0) && !dg (x.getD 0 0)) = true := by decide
 unfold isSign at h
 have := List.all_eq_true.1 h1 w (List.contains_iff_mem.1 h)
 simp only [Bool.and_eq_true, decide_eq_true_eq, Bool.not_eq_true'] at this
 obtain ⟨⟨⟨⟨h2, h3⟩, h4⟩, h5⟩, h6⟩ := this
 refine ⟨?_, h4, h5, h6⟩
 rcases hr with rfl | ⟨q, rfl⟩
 ·rw [List.append_nil, sign_two, h2]
 ·rw [sign_two]
  have : (w ++ 32 :: q).take 2 = (w ++ [32]).take 2 := by
   rw [show w ++ 32 :: q = (w ++ [32]) ++ q by simp, List.take_append_of_le_length]
   rw [List.length_append, List.length_singleton]
   have := List.length_pos_iff.2 h4
   omega
  rw [this, h3]
theorem worth_mono : ∀ (l : List UInt8) (u : Nat), u <= worth u l
 | [], u => by rw [worth_nil]; exact Nat.le_refl _
 | c :: l, u => by
  have := worth_mono l (u * 10 + (c.toNat - 48))
  rw [worth_cons]; omega
theorem parseGo_worth : ∀ (l : List UInt8) (u : Nat), (∀ c ∈ l, 48 <= c.toNat ∧ c.toNat <= 57) -> worth u l < 9223372036854775808 -> parseGo u l = (((worth u l : Nat) : Int), 0)
 | [], u, _, h => by
  rw [worth_nil] at *
  unfold parseGo
  rw [if_neg (by omega)]
 | c :: l, u, hd, h => by
  have h1 := hd c List.mem_cons_self
  rw [worth_cons] at *
  have h2 := worth_mono l (u * 10 + (c.toNat - 48))
  have h3 : dg c = true := by
   unfold dg digit
   rw [decide_eq_true (by omega), decide_eq_true (by omega)]; rfl
  unfold parseGo
  rw [if_pos ⟨h3, by omega⟩]
  exact parseGo_worth l _ (fun d hd' => hd d (List.mem_cons_of_mem _ hd')) h
theorem parse_dec (n : Nat) (h : n < 9223372036854775808) : parse (dec n) = ((n : Int), 0) := by
 have hp : n < 10 ^ 20 := Nat.lt_trans h (by decide)
 have hw := dec_worth n hp
 have hg := parseGo_worth (dec n) 0 (dec_digits n) (by rw [hw]; exact h)
 unfold parse
 rw [if_pos, hg, hw]
 rcases Nat.eq_zero_or_pos n with rfl | hn
 ·exact .inr rfl
 ·exact .inl (decGo_head 20 n [] hp (by omega) hn)
theorem dec_inn (n : Nat) : word (dec n) = dec n := word_all fun c hc => by
 have := dec_digits n c hc
 unfold inn inner digit
 rw [decide_eq_true (by omega), decide_eq_true (by omega)]; simp
theorem dec_head (n : Nat) : dec n ≠ [] ∧ dg ((dec n).getD 0 0) = true ∧ lt ((dec n).getD 0 0) = false := by
 have h0 : dec n ≠ [] := decGo_ne 20 n [] (by omega)
 obtain ⟨c, q, hc⟩ : ∃ c q, dec n = c :: q := by
  cases h : dec n with
  | nil => exact absurd h h0
  | cons c q => exact ⟨c, q, rfl⟩
 have hd := dec_digits n c (by rw [hc]; exact List.mem_cons_self)
 rw [hc]
 refine ⟨by simp, ?_, ?_⟩
 ·show dg c = true
  unfold dg digit
  rw [decide_eq_true (by omega), decide_eq_true (by omega)]; rfl
 ·show lt c = false
  unfold lt letter
  rw [decide_eq_false (p := 65 <= (c.toNat : Int)) (by omega), decide_eq_false (p := 97 <= (c.toNat : Int)) (by omega)]; rfl
theorem next_back {t : Tk} (hw : wrOk t = true) (hok : TkOk t) {r : List UInt8} (hr : Tail r) (a : Int) :
  next (wrT t ++ r) a = (⟨t.kind, t.text, t.num, a⟩, (wrT t).length, true) ∧ wrT t ≠ [] := by
 have hb := i64_bounds hok.num
 obtain ⟨kind, text, num, at_⟩ := t
 have go : ∀ (w : List UInt8) (c : UInt8) (q : List UInt8), w ++ r = c :: q -> next (w ++ r) a = if lt c then (⟨if isKeyL (word (w ++ r)) then 3 else 1, word (w ++ r), 0, a⟩, (word (w ++ r)).length, decide ((word (w ++ r)).length <= 40))
   else if dg c then (⟨2, [], (parse (word (w ++ r))).1, a⟩, (word (w ++ r)).length, decide ((parse (word (w ++ r))).2 = 0)) else (⟨4, sign (w ++ r), 0, a⟩, (sign (w ++ r)).length, !decide (sign (w ++ r) = [])) := fun w c q h => by
  rw [h]; rfl
 dsimp only at *
 unfold wrOk at hw
 unfold wrT
 dsimp only at *
 by_cases h1 : kind = 1
 ·subst h1
  simp only [if_true, Bool.and_eq_true, decide_eq_true_eq] at hw
  obtain ⟨rfl, hn⟩ := hw
  obtain ⟨f1, f2, f3, f4, f5⟩ := name_facts hn
  obtain ⟨c, q, hc, hcc⟩ := getD_app r f1
  rw [if_neg (by decide), go text c q hc, hcc, f3, word_rest f5 hr, f4]
  simp [f2, f1]
 ·by_cases h3 : kind = 3
  ·subst h3
   simp only [if_true, Bool.and_eq_true, decide_eq_true_eq] at hw
   rw [if_neg h1] at hw
   simp only [Bool.and_eq_true, decide_eq_true_eq] at hw
   obtain ⟨rfl, hn⟩ := hw
   obtain ⟨f1, f2, f3, f5⟩ := key_facts hn
   obtain ⟨c, q, hc, hcc⟩ := getD_app r f1
   rw [if_neg (by decide), go text c q hc, hcc, f3, word_rest f5 hr, hn]
   simp [f2, f1]
  ·rw [if_neg h1, if_neg h3] at hw
   by_cases h4 : kind = 4
   ·subst h4
    simp only [if_true, Bool.and_eq_true, decide_eq_true_eq] at hw
    obtain ⟨rfl, hn⟩ := hw
    obtain ⟨f1, f2, f3, f4⟩ := sign_rest hn hr
    obtain ⟨c, q, hc, hcc⟩ := getD_app r f2
    rw [if_neg (by decide), go text c q hc, hcc, f3, f4, f1]
    simp [f2]
   ·rw [if_neg h4] at hw
    by_cases h2 : kind = 2
    ·subst h2
     simp only [if_true, Bool.and_eq_true, decide_eq_true_eq] at hw
     obtain ⟨rfl, hn⟩ := hw
     have hdec : decs num = dec num.natAbs := by unfold decs; rw [if_neg (by omega)]
     obtain ⟨f1, f2, f3⟩ := dec_head num.natAbs
     obtain ⟨c, q, hc, hcc⟩ := getD_app r f1
     have hp := parse_dec num.natAbs (by omega)
     rw [if_pos rfl, hdec, go (dec num.natAbs) c q hc, hcc, f3, f2, word_rest (dec_inn _) hr, hp]
     have h5 : ((num.natAbs : Nat) : Int) = num := by omega
     simp [f1, h5]
    ·rw [if_neg h2] at hw
     cases hw
theorem signIn_head (b : UInt8) (q : List UInt8) : ∀ s : List (List UInt8), (∀ x ∈ s, x ≠ [] ∧ x.getD 0 0 ≠ b) -> signIn (b :: q) s = []
 | [], _ => rfl
 | x :: s, h => by
  unfold signIn
  rw [if_neg, signIn_head b q s fun y hy => h y (List.mem_cons_of_mem _ hy)]
  intro h1
  obtain ⟨h2, h3⟩ := h x List.mem_cons_self
  cases x with
  | nil => exact h2 rfl
  | cons c x =>
   rw [List.length_cons, List.take_succ_cons] at h1
   exact h3 (List.cons.inj h1).1.symm
theorem sk_back {t : Tk} (hw : wrOk t = true) (hok : TkOk t) (r : List UInt8) : sk false (wrT t ++ r) = wrT t ++ r := by
 have hne := (next_back hw hok (.inl rfl) 0).2
 have hn := (next_back hw hok (.inl rfl) 0).1
 rw [List.append_nil] at hn
 cases hc : wrT t with
 | nil => exact absurd hc hne
 | cons c q =>
  rw [hc] at hn
  have h2 : ∀ b : UInt8, b = 10 ∨ b = 32 ∨ b = 35 -> (next (b :: q) 0).2.2 = !decide (sign (b :: q) = []) ∧ sign (b :: q) = [] := by
   rintro b (rfl | rfl | rfl)
   all_goals
    refine ⟨rfl, ?_⟩
    exact signIn_head _ q signs (by decide)
  have key : ∀ b : UInt8, b = 10 ∨ b = 32 ∨ b = 35 -> c ≠ b := fun b hb e => by
   subst e
   have h1 := congrArg (fun x => x.2.2) hn
   dsimp only at h1
   have h3 := h2 c hb
   rw [h3.1, h3.2] at h1
   simp at h1
  have hcc : c ≠ 10 ∧ c ≠ 32 ∧ c ≠ 35 := ⟨key 10 (.inl rfl), key 32 (.inr (.inl rfl)), key 35 (.inr (.inr rfl))⟩
  rw [List.cons_append]
  unfold sk
  rw [if_neg hcc.1, if_neg (fun h => Bool.noConfusion h), if_neg hcc.2.1, if_neg hcc.2.2]
theorem worth_low : ∀ (l : List UInt8) (u : Nat), u * 10 ^ l.length <= worth u l
 | [], u => by rw [worth_nil]; simp
 | c :: l, u => by
  have h := worth_low l (u * 10 + (c.toNat - 48))
  rw [worth_cons]
  refine Nat.le_trans ?_ h
  rw [List.length_cons, Nat.pow_succ, <- Nat.mul_assoc, Nat.mul_right_comm]
  exact Nat.mul_le_mul_right _ (Nat.le_add_right _ _)
theorem worth_snoc (u : Nat) (l : List UInt8) (c : UInt8) : worth u (l ++ [c]) = worth u l * 10 + (c.toNat - 48) := by
 unfold worth
 rw [List.foldl_append, List.foldl_cons, List.foldl_nil]
theorem dgt_of (c : UInt8) (h : 48 <= c.toNat ∧ c.toNat <= 57) (k : Nat) : dgt (k * 10 + (c.toNat - 48)) = c := by
 apply UInt8.toNat_inj.1
 rw [dgt_nat]; omega
theorem decGo_back (f : Nat) : ∀ (w acc : List UInt8), w ≠ [] -> w.length <= f -> (∀ c ∈ w, 48 <= c.toNat ∧ c.toNat <= 57) -> (w.getD 0 0 ≠ 48 ∨ w.length = 1) -> decGo f (worth 0 w) acc = w ++ acc := by
 induction f with
 | zero =>
  intro w acc hw hl
  exact absurd (List.length_eq_zero_iff.1 (Nat.le_zero.1 hl)) hw
 | succ f ih =>
  intro w acc hw hl hd h0
  obtain ⟨v, c, rfl⟩ : ∃ v c, w = v ++ [c] := ⟨w.dropLast, w.getLast hw, (List.dropLast_concat_getLast hw).symm⟩
  have hc := hd c (by simp)
  have hv : ∀ d ∈ v, 48 <= d.toNat ∧ d.toNat <= 57 := fun d hd' => hd d (by simp [hd'])
  rw [worth_snoc]
  unfold decGo
  rw [dgt_of c hc]
  have hdiv : (worth 0 v * 10 + (c.toNat - 48)) / 10 = worth 0 v := by omega
  rw [hdiv]
  by_cases hv0 : v = []
  ·subst hv0
   rw [worth_nil, if_pos rfl]; rfl
  ·obtain ⟨b, q, hq⟩ : ∃ b q, v = b :: q := by
    cases v with
    | nil => exact absurd rfl hv0
    | cons b q => exact ⟨b, q, rfl⟩
   have hb : b.toNat ≠ 48 := by
    rcases h0 with h0 | h0
    ·rw [hq] at h0
     intro h
     exact h0 (UInt8.toNat_inj.1 h)
    ·rw [hq] at h0; simp at h0
   have hbd := hv b (by rw [hq]; simp)
   have hpos : worth 0 v ≠ 0 := by
    rw [hq, worth_cons]
    have h1 := worth_mono q (0 * 10 + (b.toNat - 48))
    omega
   rw [if_neg hpos, ih v (c :: acc) hv0 (by simp at hl; omega) hv (.inl ?_)]
   ·simp
   ·rw [hq]
    intro h
    exact hb (congrArg UInt8.toNat h)
theorem parseGo_ok : ∀ (l : List UInt8) (u : Nat), (parseGo u l).2 = 0 -> (∀ c ∈ l, 48 <= c.toNat ∧ c.toNat <= 57) ∧ worth u l < 9223372036854775808 + (if l = [] then u else 0) ∧ ((parseGo u l).1 = ((worth u l : Nat) : Int))
 | [], u, h => by
  unfold parseGo at h ⊢
  by_cases h1 : u = 9223372036854775808
  ·rw [if_pos h1] at h; cases h
  ·rw [if_neg h1, worth_nil]
   refine ⟨(fun c hc => by cases hc), ?_, rfl⟩
   rw [if_pos rfl]; omega
 | c :: l, u, h => by
  unfold parseGo at h ⊢
  by_cases h1 : dg c = true ∧ u * 10 + (c.toNat - 48) <= 9223372036854775808
  ·rw [if_pos h1] at h ⊢
   have h2 := parseGo_ok l _ h
   have h3 := h1.1
   unfold dg digit at h3
   simp only [Bool.and_eq_true, decide_eq_true_eq] at h3
   rw [worth_cons, if_neg (by simp)]
   refine ⟨fun d hd => ?_, ?_, h2.2.2⟩
   ·rcases List.mem_cons.1 hd with rfl | hd
    ·omega
    ·exact h2.1 d hd
   ·by_cases hl : l = []
    ·subst hl
     rw [worth_nil]
     unfold parseGo at h
     by_cases h4 : u * 10 + (c.toNat - 48) = 9223372036854775808
     ·rw [if_pos h4] at h; cases h
     ·omega
    ·have := h2.2.1
     rw [if_neg hl] at this
     exact this
  ·rw [if_neg h1] at h; cases h
theorem parse_ok {w : List UInt8} (hw : w ≠ []) (h : (parse w).2 = 0) : ∃ n : Nat, (parse w).1 = (n : Int) ∧ n < 9223372036854775808 ∧ dec n = w := by
 unfold parse at h ⊢
 by_cases h0 : w.getD 0 0 ≠ 48 ∨ w.length = 1
 ·rw [if_pos h0] at h ⊢
  obtain ⟨h1, h2, h3⟩ := parseGo_ok w 0 h
  rw [if_neg hw, Nat.add_zero] at h2
  refine ⟨_, h3, h2, ?_⟩
  have hlen : w.length <= 20 := by
   rcases h0 with h0 | h0
   ·cases w with
    | nil => exact absurd rfl hw
    | cons c w =>
     have hc := h1 c List.mem_cons_self
     have hc2 : c.toNat ≠ 48 := fun h => h0 (UInt8.toNat_inj.1 h)
     have h4 := worth_low w (0 * 10 + (c.toNat - 48))
     rw [worth_cons] at h2
     have h5 : 10 ^ w.length <= (0 * 10 + (c.toNat - 48)) * 10 ^ w.length := Nat.le_mul_of_pos_left _ (by omega)
     have h6 : 10 ^ w.length < 10 ^ 19 := Nat.lt_of_le_of_lt (Nat.le_trans h5 h4) (Nat.lt_trans h2 (by decide))
     have h7 : w.length < 19 := (Nat.pow_lt_pow_iff_right (by decide)).1 h6
     rw [List.length_cons]; omega
   ·omega
  have := decGo_back 20 w [] hw hlen h1 h0
  rw [List.append_nil] at this
  exact this
 ·rw [if_neg h0] at h; cases h
theorem name_of {w : List UInt8} (h1 : w ≠ []) (h2 : w.length <= 40) (h3 : lt (w.getD 0 0) = true) (h4 : isKeyL w = false) (h5 : word w = w) : isName (B w) = true := by
 unfold isName
 simp only [Bool.and_eq_true, decide_eq_true_eq, Bool.not_eq_true', B_size, B_byte]
 refine ⟨⟨⟨⟨List.length_pos_iff.2 h1, h2⟩, h3⟩, (isKey_B w).trans h4⟩, allF_iff.2 fun i _ hi => ?_⟩
 have := word_inn h5 (w[i]'hi) (List.getElem_mem hi)
 rw [List.getD_eq_getElem?_getD, List.getElem?_eq_getElem hi]
 exact this
theorem signIn_prefix (r : List UInt8) : ∀ s, r.take (signIn r s).length = signIn r s
 | [] => rfl
 | x :: s => by
  unfold signIn
  split
  ·assumption
  ·exact signIn_prefix r s
theorem word_word : ∀ r : List UInt8, word (word r) = word r
 | [] => rfl
 | c :: r => by
  have ih := word_word r
  unfold word at *
  rw [List.takeWhile_cons]
  cases hc : inn c with
  | false => simp
  | true => simp only [if_true]; rw [List.takeWhile_cons, hc, if_pos rfl, ih]
theorem word_take_self (r : List UInt8) : r.take (word r).length = word r := by
 unfold word
 exact (List.prefix_iff_eq_take.1 (List.takeWhile_prefix inn)).symm
theorem i64_wf {n : Int} (h0 : -9223372036854775808 <= n) (h1 : n <= 9223372036854775807) : (Lit.int .i64 n).wf = true := by
 simp [Lit.wf, IntKind.min, IntKind.max, IntKind.signed, IntKind.bits, h0, h1]
theorem next_placed (c : UInt8) (q : List UInt8) (a : Nat) (ha : a < 4611686018427387904) (hq : (c :: q).length <= 140737488351232) (hok : (next (c :: q) (a : Int)).2.2 = true) :
  wrOk (next (c :: q) (a : Int)).1 = true ∧ TkOk (next (c :: q) (a : Int)).1 ∧ (next (c :: q) (a : Int)).1.at_ = (a : Int) ∧ wrT (next (c :: q) (a : Int)).1 = (c :: q).take (next (c :: q) (a : Int)).2.1 ∧
   (wrT (next (c :: q) (a : Int)).1).length = (next (c :: q) (a : Int)).2.1 := by
 have hx : next (c :: q) (a : Int) = if lt c then (⟨if isKeyL (word (c :: q)) then 3 else 1, word (c :: q), 0, a⟩, (word (c :: q)).length, decide ((word (c :: q)).length <= 40))
   else if dg c then (⟨2, [], (parse (word (c :: q))).1, a⟩, (word (c :: q)).length, decide ((parse (word (c :: q))).2 = 0))
   else (⟨4, sign (c :: q), 0, a⟩, (sign (c :: q)).length, !decide (sign (c :: q) = [])) := rfl
 have hat : (Lit.int .i64 (a : Int)).wf = true := i64_wf (by omega) (by omega)
 have hwl := word_le (c :: q)
 have hww : inn c = true -> word (c :: q) = c :: word q := fun h => by unfold word; rw [List.takeWhile_cons, h]; rfl
 rw [hx] at hok ⊢
 cases hl : lt c with
 | true =>
  rw [hl] at hok
  simp only [if_true, decide_eq_true_eq] at hok ⊢
  have hin : inn c = true := by
   unfold inn inner
   have : letter (c.toNat : Int) = true := hl
   rw [this]; rfl
  have hne : word (c :: q) ≠ [] := by rw [hww hin]; simp
  have hhd : lt ((word (c :: q)).getD 0 0) = true := by rw [hww hin]; exact hl
  cases hk : isKeyL (word (c :: q)) with
  | true =>
   refine ⟨by simp [wrOk, hk], ⟨?_, i64_wf (by simp) (by simp), i64_wf (by simp) (by simp), hat⟩, by simp, ?_, ?_⟩
   ·show (word (c :: q)).length <= _
    omega
   ·unfold wrT
    dsimp only
    rw [if_neg (by decide), word_take_self]
   ·unfold wrT
    dsimp only
    rw [if_neg (by decide)]
  | false =>
   have hn := name_of hne hok hhd hk (word_word _)
   refine ⟨by simp [wrOk, hn], ⟨?_, i64_wf (by simp) (by simp), i64_wf (by simp) (by simp), hat⟩, by simp, ?_, ?_⟩
   ·show (word (c :: q)).length <= _
    omega
   ·unfold wrT
    dsimp only
    rw [if_neg (by decide), word_take_self]
   ·unfold wrT
    dsimp only
    rw [if_neg (by decide)]
 | false =>
  rw [hl] at hok
  simp only [Bool.false_eq_true, if_false] at hok ⊢
  cases hd : dg c with
  | true =>
   rw [hd] at hok
   simp only [if_true, decide_eq_true_eq] at hok ⊢
   have hne : word (c :: q) ≠ [] := by rw [hww (dg_inn hd)]; simp
   obtain ⟨n, h1, h2, h3⟩ := parse_ok hne hok
   have hdec : decs (parse (word (c :: q))).1 = word (c :: q) := by
    rw [h1]
    unfold decs
    rw [if_neg (by omega), Int.natAbs_natCast, h3]
   refine ⟨?_, ⟨Nat.zero_le _, i64_wf (by simp) (by simp), ?_, hat⟩, by simp, ?_, ?_⟩
   ·have : (0 : Int) <= (parse (word (c :: q))).1 := by omega
    simp [wrOk, this]
   ·show (Lit.int .i64 (parse (word (c :: q))).1).wf = true
    rw [h1]
    exact i64_wf (by omega) (by omega)
   ·unfold wrT
    dsimp only
    rw [if_pos rfl, hdec, word_take_self]
   ·unfold wrT
    dsimp only
    rw [if_pos rfl, hdec]
  | false =>
   rw [hd] at hok
   simp only [Bool.false_eq_true, if_false, Bool.not_eq_true', decide_eq_false_iff_not] at hok ⊢
   have hs : isSign (sign (c :: q)) = true := by
    rcases signIn_or (c :: q) signs with h | h
    ·exact absurd h hok
    ·exact List.contains_iff_mem.2 h
   have hsl := sign_le (c :: q)
   refine ⟨by simp [wrOk, hs], ⟨?_, i64_wf (by simp) (by simp), i64_wf (by simp) (by simp), hat⟩, by simp, ?_, ?_⟩
   ·show (sign (c :: q)).length <= _
    omega
   ·unfold wrT
    dsimp only
    rw [if_neg (by decide)]
    exact (signIn_prefix (c :: q) signs).symm
   ·unfold wrT
    dsimp only
    rw [if_neg (by decide)]
def Pl (l : List UInt8) : Nat -> List Tk -> Prop
 | _, [] => True
 | p, t :: ts => ∃ a : Nat, t.at_ = (a : Int) ∧ p <= a ∧ wrOk t = true ∧ TkOk t ∧ a + (wrT t).length <= l.length ∧ (l.drop a).take (wrT t).length = wrT t ∧ Pl l (a + (wrT t).length) ts
def endTk (n : Nat) : Tk := ⟨0, [], 0, n⟩
theorem scan_placed (l : List UInt8) (hl : l.length <= 140737488351232) : ∀ (f i : Nat) (out : List Tk), i <= l.length -> l.length - i < f ->
  (∃ a e : Int, scanGo f l.length out (l.drop i) = ([], a, e) ∧ e ≠ 0 ∧ 0 <= a ∧ a <= l.length) ∨ (∃ ts, scanGo f l.length out (l.drop i) = (out ++ ts ++ [endTk l.length], 0, 0) ∧ Pl l i ts)
 | 0, i, out, hi, hf => by omega
 | f + 1, i, out, hi, hf => by
  have hskl := sk_le false (l.drop i)
  have hskd := sk_drop false (l.drop i)
  rw [List.length_drop] at hskl
  generalize hj : l.length - (sk false (l.drop i)).length = j
  have hij : i <= j := by omega
  have hjl : j <= l.length := by omega
  have hdj : sk false (l.drop i) = l.drop j := by
   rw [hskd, List.drop_drop]
   congr 1
   rw [List.length_drop]; omega
  rw [scanGo_succ, hdj, List.length_drop]
  have hjj : ((l.length - (l.length - j) : Nat) : Int) = (j : Int) := by omega
  rw [hjj]
  by_cases h1 : (next (l.drop j) (j : Int)).2.2 = false
  ·rw [if_pos h1]
   exact .inl ⟨_, _, rfl, by decide, by omega, by omega⟩
  ·rw [if_neg h1]
   by_cases h2 : out.length = 4000
   ·rw [if_pos h2]
    exact .inl ⟨_, _, rfl, by decide, by omega, by omega⟩
   ·rw [if_neg h2]
    have hok : (next (l.drop j) (j : Int)).2.2 = true := by simpa using h1
    rcases Nat.lt_or_ge j l.length with hjlt | hjge
    ·have hc := drop_cons hjlt
     have hpl := next_placed (l.getD j 0) (l.drop (j + 1)) j (by omega) (by rw [<- hc, List.length_drop]; omega) (by rw [<- hc]; exact hok)
     rw [<- hc] at hpl
     obtain ⟨p1, p2, p3, p4, p5⟩ := hpl
     have hk : (next (l.drop j) (j : Int)).1.kind ≠ 0 := fun h => by
      unfold wrOk at p1
      rw [h] at p1
      simp at p1
     have hpos := next_pos (l.drop j) j hok hk
     have hnl := next_le (l.drop j) (j : Int)
     rw [List.length_drop] at hnl
     rw [if_neg hk, List.drop_drop]
     rcases scan_placed l hl f (j + (next (l.drop j) (j : Int)).2.1) (out ++ [(next (l.drop j) (j : Int)).1]) (by omega) (by omega) with h | ⟨ts, h3, h4⟩
     ·exact .inl h
     ·refine .inr ⟨(next (l.drop j) (j : Int)).1 :: ts, ?_, j, p3, hij, p1, p2, by omega, ?_, ?_⟩
      ·rw [h3]; simp
      ·rw [p5]; exact p4.symm
      ·rw [p5]; exact h4
    ·have hj0 : l.drop j = [] := List.drop_eq_nil_of_le hjge
     have hjn : j = l.length := by omega
     rw [hj0]
     refine .inr ⟨[], ?_, trivial⟩
     rw [List.append_nil]
     have : (next [] (j : Int)).1 = endTk l.length := by
      subst hjn; rfl
     rw [this, if_pos (show (endTk l.length).kind = 0 from rfl)]
theorem pl_at {l : List UInt8} : ∀ (ts : List Tk) (p : Nat), Pl l p ts -> ∀ i, (hi : i < ts.length) -> ∃ a b : Nat, (ts[i]'hi).at_ = (a : Int) ∧ p <= a ∧ ((ts ++ [endTk l.length])[i + 1]'(by simp; omega)).at_ = (b : Int) ∧ wrOk (ts[i]'hi) = true ∧ TkOk (ts[i]'hi) ∧
  a + (wrT (ts[i]'hi)).length <= b ∧ b <= l.length ∧ (l.drop a).take (wrT (ts[i]'hi)).length = wrT (ts[i]'hi)
 | [], _, _, i, hi => absurd hi (Nat.not_lt_zero _)
 | t :: ts, p, ⟨a, h1, h2, h3, h4, h5, h6, h7⟩, 0, _ => by
  cases ts with
  | nil => exact ⟨a, l.length, h1, h2, rfl, h3, h4, h5, Nat.le_refl _, h6⟩
  | cons u ts =>
   obtain ⟨b, g1, g2, _, _, g5, _⟩ := h7
   exact ⟨a, b, h1, h2, g1, h3, h4, g2, by omega, h6⟩
 | t :: ts, p, ⟨a, h1, h2, h3, h4, h5, h6, h7⟩, i + 1, hi => by
  have hi' : i < ts.length := by simpa using hi
  obtain ⟨x, y, g1, g2, g3, g4, g5, g6, g7, g8⟩ := pl_at ts _ h7 i hi'
  refine ⟨x, y, by simpa using g1, by omega, by simpa using g3, by simpa using g4, by simpa using g5, by simpa using g6, g7, by simpa using g8⟩
theorem pl_right {l : List UInt8} : ∀ (ts : List Tk) (p : Nat), Pl l p ts -> rightL (ts ++ [endTk l.length]) = true
 | [], _, _ => rfl
 | t :: ts, p, ⟨a, h1, h2, h3, h4, h5, h6, h7⟩ => by
  have ih := pl_right ts _ h7
  cases hts : ts ++ [endTk l.length] with
  | nil => simp at hts
  | cons u q =>
   rw [hts] at ih
   rw [List.cons_append, hts]
   show (wrOk t && rightL (u :: q)) = true
   rw [h3, ih]; rfl
attribute [local congr] bind_h asInt_h asBool_h asStr_h asSl_h asSlR_h asAgg_h asTup_h asIface_h asCells_h onRet_h onOut_h cond_h
def Fl.dv (f : Fl) : List V := [.sl .no T_api_Pair (f.pairs.map Pai.v), .sl .no T_api_Pair (f.sames.map Pai.v), .sl .no T_decl_Keep (f.keeps.map Kp.v), .sl .no T_decl_Break (f.breaks.map Bk.v), .sl .no T_decl_Watch (f.watches.map Wt.v)]
def parseV (r : Fl × Int × Int) : Option Res := some ⟨.ret (.tup [.agg r.1.dv, .int .i64 r.2.1, .int .i64 r.2.2]), [], none⟩
section
variable {l : List Tk} (hl : Ended l) (hn : l.length <= 100000)
include hl hn
theorem lineR_step {k : Nat} (hk : k < l.length) {f g : Fl} {j : Nat} (h : lineR l f k = .ok (g, j)) : Step l k j := by
 unfold lineR at h
 obtain ⟨f1, k1, h1, h⟩ := andR_ok h
 obtain ⟨_, k2, h2, h⟩ := andR_ok h
 have full : ∀ {α : Type} {n most : Nat} {r : Rf α} {x : α × Nat}, fullR l n most k r = .ok x -> r = .ok x := fun h => by
  unfold fullR at h
  split at h
  ·cases h
  ·exact h
 have keep : ∀ {x : Int × List UInt8 × List UInt8} {j : Nat}, k + 1 < l.length -> keepR l (k + 1) = .ok (x, j) -> k < j ∧ j < l.length := fun s0 h => by
  unfold keepR at h
  obtain ⟨_, _, g1, h⟩ := andR_ok h
  have s1 := (sideR_step hl s0 g1).1
  obtain ⟨_, _, g1, h⟩ := andR_ok h
  have s2 := (nameR_step hl s1.end_ g1).1
  obtain ⟨_, _, g1, h⟩ := andR_ok h
  have s3 := (nameR_step hl s2.end_ g1).1
  have := s1.lt
  have := s2.lt
  have := s3.lt
  have := s3.end_
  cases h; omega
 have s1 : k < k1 ∧ k1 < l.length := by
  unfold itemR at h1
  split at h1
  ·rename_i c
   have s0 : k + 1 < l.length := hl.next hk (by rw [(isW_kind c).1]; decide)
   obtain ⟨_, _, g1, h1⟩ := andR_ok (full h1)
   have s1 := (nameR_step hl s0 g1).1
   obtain ⟨_, _, g1, h1⟩ := andR_ok h1
   have s2 := (nameR_step hl s1.end_ g1).1
   have := s1.lt
   have := s2.lt
   have := s2.end_
   cases h1; omega
  split at h1
  ·rename_i c
   have s0 : k + 1 < l.length := hl.next hk (by rw [(isW_kind c).1]; decide)
   obtain ⟨_, _, g1, h1⟩ := andR_ok (full h1)
   have s1 := sameR_step hl hn s0 g1
   have := s1.lt
   have := s1.end_
   cases h1; omega
  split at h1
  ·rename_i c
   have s0 : k + 1 < l.length := hl.next hk (by rw [(isW_kind c).1]; decide)
   obtain ⟨_, _, g1, h1⟩ := andR_ok (full h1)
   have := keep s0 g1
   cases h1; omega
  split at h1
  ·rename_i c
   have s0 : k + 1 < l.length := hl.next hk (by rw [(isW_kind c).1]; decide)
   obtain ⟨_, _, g1, h1⟩ := andR_ok (full h1)
   have s1 := stopR_step hl hn s0 g1
   have := s1.lt
   have := s1.end_
   cases h1; omega
  split at h1
  ·rename_i c
   have s0 : k + 1 < l.length := hl.next hk (by rw [(isW_kind c).1]; decide)
   obtain ⟨_, _, g1, h1⟩ := andR_ok (full h1)
   have := keep s0 g1
   cases h1; omega
  ·cases h1
 have s2 := (signR_step hl s1.2 h2).1
 have := s2.lt
 have := s2.end_
 cases h
 exact ⟨by omega, by omega⟩
theorem file_d (hE : ReadsE syntax_ReadExpr.id l) (i0 i1 : Int) : ∀ (n k : Nat) (f : Fl), k < l.length -> l.length - k < n ->
  decl_Parse.L1_1_1_1_1_0_0 i0 i1 (l.map Tk.v) (k : Int) (f.pairs.map Pai.v) (f.sames.map Pai.v) (f.keeps.map Kp.v) (f.breaks.map Bk.v) (f.watches.map Wt.v) =
   parseV (toldF (fileR l n f k))
 | 0, k, f, _, h => by omega
 | n + 1, k, f, hk, h => by
  have r := row_in hk
  rw [fileR]
  unfold parseV toldF
  by_cases c : (tk l k).kind = 0
  ·have c' : ((tk l k).kind != 0) = false := by simpa using c
   rw [if_pos c]
   unfold Fl.dv
   rw [decl_Parse.L1_1_1_1_1_0_0_eq]
   simp only [if_pos r, Int.toNat_natCast, tok_g hk, tkv_0, tkv_1, tkv_2, tkv_3, c', decl_Parse_1.eq0, onPn_none, onPn_some, lz, lx, if_true, if_false, lb]
  ·have c' : ((tk l k).kind != 0) = true := by simpa using c
   rw [if_neg c]
   have hd := line_d hl hn hE hk f
   unfold RdL at hd
   cases hq : lineR l f k with
   | error e =>
    rw [hq] at hd
    obtain ⟨j, g, hd⟩ := hd
    unfold Fl.dv
    unfold rd7 givenD at hd
    rw [decl_Parse.L1_1_1_1_1_0_0_eq]
    simp only [if_pos r, Int.toNat_natCast, tok_g hk, tkv_0, tkv_1, tkv_2, tkv_3, c', hd, decl_Parse_1.eq1, onPn_none, onPn_some, emptyF, List.map_nil, lz, lx, if_true, if_false, lb]
   | ok q =>
    obtain ⟨g, j⟩ := q
    rw [hq] at hd
    have s := lineR_step hl hn hk hq
    have ih := file_d hE i0 i1 n j g s.end_ (by have := s.lt; omega)
    simp only at hd ⊢
    refine Eq.trans ?_ ih
    unfold rd7 at hd
    rw [decl_Parse.L1_1_1_1_1_0_0_eq]
    simp only [if_pos r, Int.toNat_natCast, tok_g hk, tkv_0, tkv_1, tkv_2, tkv_3, c', hd, lz, lx, if_true, if_false, lb]
end
theorem scan_len : ∀ (f n : Nat) (out : List Tk) (r : List UInt8), out.length <= 4000 -> (scanGo f n out r).1.length <= 4001
 | 0, _, _, _, _ => by simp [scanGo]
 | f + 1, n, out, r, h => by
  rw [scanGo_succ]
  split
  ·simp
  split
  ·simp
  split
  ·simp only [List.length_append, List.length_singleton]; omega
  ·exact scan_len f n _ _ (by rw [List.length_append, List.length_singleton]; omega)
theorem pl_mem {l : List UInt8} : ∀ (ts : List Tk) (p : Nat), Pl l p ts -> ∀ t ∈ ts, wrOk t = true ∧ TkOk t
 | t :: ts, p, ⟨a, h1, h2, h3, h4, h5, h6, h7⟩, u, hu => by
  rcases List.mem_cons.1 hu with rfl | hu
  ·exact ⟨h3, h4⟩
  ·exact pl_mem ts _ h7 u hu
theorem wrOk_kind {t : Tk} (h : wrOk t = true) : t.kind ≠ 0 := fun h0 => by
 unfold wrOk at h
 rw [h0] at h
 simp at h
theorem scan_ended {s : List UInt8} (hs : s.length <= 140737488351232) (h : (scan s).2.2 = 0) : Ended (scan s).1 ∧ (scan s).1.length <= 4001 ∧ 0 < (scan s).1.length ∧ (∀ t ∈ (scan s).1, TkOk t) ∧ rightL (scan s).1 = true := by
 unfold scan at *
 by_cases c : s.length > 16384
 ·rw [if_pos c] at h; cases h
 rw [if_neg c] at h ⊢
 have hlen := scan_len (s.length + 1) s.length [] s (by simp)
 have hp := scan_placed s (by omega) (s.length + 1) 0 [] (by omega) (by omega)
 rw [List.drop_zero] at hp
 rcases hp with ⟨a, e, h1, h2, _⟩ | ⟨ts, h1, h2⟩
 ·rw [h1] at h; exact absurd h h2
 ·rw [h1] at hlen ⊢
  rw [List.nil_append] at hlen ⊢
  have hm := pl_mem ts 0 h2
  have hL : (ts ++ [endTk s.length]).length = ts.length + 1 := by simp
  have ha : ∀ (k : Nat) (hk : k < (ts ++ [endTk s.length]).length), tk (ts ++ [endTk s.length]) k = (ts ++ [endTk s.length])[k]'hk := fun k hk => by
   unfold tk
   rw [List.getD_eq_getElem?_getD, List.getElem?_eq_getElem hk]; rfl
  refine ⟨⟨fun k hk => ?_⟩, hlen, by simp, fun t ht => ?_, pl_right ts 0 h2⟩
  ·have hk' : k < ts.length + 1 := by rw [<- hL]; exact hk
   rw [ha k hk, hL]
   by_cases k1 : k < ts.length
   ·rw [List.getElem_append_left k1]
    have := wrOk_kind (hm _ (List.getElem_mem k1)).1
    constructor
    ·intro h0; exact absurd h0 this
    ·intro h0; omega
   ·rw [List.getElem_append_right (by omega)]
    simp only [List.getElem_singleton]
    constructor
    ·intro _; omega
    ·intro _; rfl
  ·rcases List.mem_append.1 ht with ht | ht
   ·exact (hm t ht).2
   ·rw [List.mem_singleton.1 ht]
    exact ⟨by simp [endTk], (by decide : (Lit.int .i64 0).wf = true), (by decide : (Lit.int .i64 0).wf = true), i64_wf (by simp [endTk]) (by simp [endTk]; omega)⟩
theorem lex_Scan_all (l : List UInt8) (hl : l.length <= 140737488351232) : den Sp lex_Scan.id [.str (B l)] [] none = scanV (scan l) := by
 by_cases h : l.length > 16384
 ·rw [lex_Scan.eq, B_size]
  unfold scan
  rw [if_pos h, decide_eq_true (show ((l.length : Nat) : Int) > 16384 by omega)]; rfl
 ·exact lex_Scan_is l (by omega)
theorem decl_Parse_is (s : List UInt8) (hs : s.length <= 140737488351232) : den Sp decl_Parse.id [.str (B s)] [] none = parseV (parseF s) := by
 have h1 := lex_Scan_all s hs
 unfold scanV at h1
 unfold parseF
 by_cases c : (scan s).2.2 = 0
 ·obtain ⟨g1, g2, g3, g4, g5⟩ := scan_ended hs c
  have hr := lex_Right_is (scan s).1 (by omega) g4
  rw [g5] at hr
  have hE := syntax_ReadExpr_is g1 (by omega) hr
  have hf := file_d g1 (by omega) hE (scan s).2.1 (scan s).2.2 ((scan s).1.length + 1) 0 emptyF g3 (by omega)
  have c' : ((scan s).2.2 != 0) = false := by simpa using c
  rw [if_neg (fun h => h c), <- hf]
  unfold emptyF
  rw [decl_Parse.eq]
  simp only [h1, c', asTup_3, List.map_nil, Int.natCast_zero, lz, lx, if_true, if_false, lb]
 ·have c' : ((scan s).2.2 != 0) = true := by simpa using c
  rw [if_pos c]
  unfold parseV Fl.dv emptyF
  rw [decl_Parse.eq]
  simp only [h1, c', asTup_3, List.map_nil, lz, lx, if_true, if_false, lb]
end Go.Proofs.YtmhnmelaodhemaaDoor
namespace Go.Proofs.YtmhnmelaodhemaaDoor
open Go Go.Proofs.Ab
namespace ref03_SameExpr
theorem eq (a0_0 : Int) (a0_1 : ByteArray) (a0_2 : Int) (a0_3 : List (List V)) (a1_0 : Int) (a1_1 : ByteArray) (a1_2 : Int) (a1_3 : List (List V)) : den Sp id [V.agg [V.int .i64 a0_0, V.str a0_1, V.int .i64 a0_2, V.sl .no T_api_Expr a0_3], V.agg [V.int .i64 a1_0, V.str a1_1, V.int .i64 a1_2, V.sl .no T_api_Expr a1_3]] [] none =
  (bif (a0_0 != a1_0) then (some ⟨Out.ret (V.bool false), [], none⟩) else (bif (!(decide (a0_1 = a1_1))) then (some ⟨Out.ret (V.bool false), [], none⟩) else (bif (a0_2 != a1_2) then (some ⟨Out.ret (V.bool false), [], none⟩) else (den Sp ref03_SameExprs.id [V.sl .no T_api_Expr a0_3, V.sl .no T_api_Expr a1_3] [] none).bind (fun r11 => Res.onRet r11 (fun v12 => V.asBool v12 (fun b13 => some ⟨Out.ret (V.bool b13), [], none⟩)))))) := (den_eq ..).trans (by kernel_rfl)
end ref03_SameExpr
namespace ref03_SameExprs
noncomputable abbrev e (p : List Nat) := ev Sp (den Sp) id Tryd.f22.ntmps (cAt (bodyOf Tryd.f22) p)
noncomputable abbrev cn (n0 : List Nat) := canon Sp id n0
noncomputable abbrev K : K := kFin Sp (den Sp) Tryd.f22 0
noncomputable def L1_1_0_1_0 (l0 l1 : List (List V)) (i2 : Int) : Option Res := LP (e [1, 1, 0, 1, 0, 0]) (cn []) (kBlk 0 (kSeq (e [1, 1, 1]) (K))) ([(0, (V.sl .no T_api_Expr l0)), (1, (V.sl .no T_api_Expr l1)), (5, (V.int .i64 i2))], ⟨[], [], [], [], none⟩)
theorem L1_1_0_1_0_eq (l0 l1 : List (List V)) (i2 : Int) : L1_1_0_1_0 l0 l1 i2 =
  (bif (decide (i2 < (l0.length : Int))) then (if (((0 : Int) <= i2) ∧ (i2 < (l0.length : Int))) then (V.asInt (List.getD (List.getD l0 (Int.toNat i2) []) 0 V.undef) .i64 (fun n10 => V.asStr (List.getD (List.getD l0 (Int.toNat i2) []) 1 V.undef) (fun s11 => V.asInt (List.getD (List.getD l0 (Int.toNat i2) []) 2 V.undef) .i64 (fun n12 => V.asSl (List.getD (List.getD l0 (Int.toNat i2) []) 3 V.undef) T_api_Expr (fun es13 => if (((0 : Int) <= i2) ∧ (i2 < (l1.length : Int))) then (V.asInt (List.getD (List.getD l1 (Int.toNat i2) []) 0 V.undef) .i64 (fun n14 => V.asStr (List.getD (List.getD l1 (Int.toNat i2) []) 1 V.undef) (fun s15 => V.asInt (List.getD (List.getD l1 (Int.toNat i2) []) 2 V.undef) .i64 (fun n16 => V.asSl (List.getD (List.getD l1 (Int.toNat i2) []) 3 V.undef) T_api_Expr (fun es17 => (den Sp ref03_SameExpr.id [V.agg [V.int .i64 n10, V.str s11, V.int .i64 n12, V.sl .no T_api_Expr es13], V.agg [V.int .i64 n14, V.str s15, V.int .i64 n16, V.sl .no T_api_Expr es17]] [] none).bind (fun r18 => Res.onRet r18 (fun v19 => V.asBool v19 (fun b20 => bif (!b20) then (some ⟨Out.ret (V.bool false), [], none⟩) else (L1_1_0_1_0 l0 l1 (IntKind.wrap .i64 (i2 + (1 : Int)))))))))))) else none))))) else none) else (some ⟨Out.ret (V.bool true), [], none⟩)) := (LP_eq ..).trans (by kernel_rfl)
theorem eq (a0 a1 : List (List V)) : den Sp id [V.sl .no T_api_Expr a0, V.sl .no T_api_Expr a1] [] none =
  (bif ((a0.length : Int) != (a1.length : Int)) then (some ⟨Out.ret (V.bool false), [], none⟩) else (L1_1_0_1_0 a0 a1 (0 : Int))) := (den_eq ..).trans (by kernel_rfl)
end ref03_SameExprs
namespace ref12_Same
noncomputable abbrev e (p : List Nat) := ev Sp (den Sp) id Tryd.f9.ntmps (cAt (bodyOf Tryd.f9) p)
noncomputable abbrev cn (n0 : List Nat) := canon Sp id n0
noncomputable abbrev K : K := kFin Sp (den Sp) Tryd.f9 0
noncomputable def L1_1_1_0_1_0 (b0 : Bool) (i1 : Int) (l2 l3 l4 l5 l6 l7 l8 l9 l10 l11 : List (List V)) : Option Res := LP (e [1, 1, 1, 0, 1, 0, 0]) (cn [1002, 1003]) (kBlk 0 (kSeq (e [1, 1, 1, 1]) (K))) ([(2, (V.ref 1002 0)), (3, (V.ref 1003 0)), (5, (V.bool b0)), (6, (V.int .i64 i1)), (7, V.undef), (8, V.undef), (9, V.undef), (10, V.undef)], ⟨[(1002, (Blk.cells T_parallaxref12_File [V.sl .no T_api_Pair l2, V.sl .no T_api_Pair l3, V.sl .no T_parallaxref12_Keep l4, V.sl .no T_parallaxref12_Break l5, V.sl .no T_parallaxref12_Watch l6] false)), (1003, (Blk.cells T_parallaxref12_File [V.sl .no T_api_Pair l7, V.sl .no T_api_Pair l8, V.sl .no T_parallaxref12_Keep l9, V.sl .no T_parallaxref12_Break l10, V.sl .no T_parallaxref12_Watch l11] false))], [], [], [], none⟩)
noncomputable def L1_1_1_1_0_1_0 (b0 : Bool) (i1 i2 : Int) (l3 l4 l5 l6 l7 l8 l9 l10 l11 l12 : List (List V)) : Option Res := LP (e [1, 1, 1, 1, 0, 1, 0, 0]) (cn [1002, 1003]) (kBlk 2 (kSeq (e [1, 1, 1, 1, 1]) (K))) ([(2, (V.ref 1002 0)), (3, (V.ref 1003 0)), (5, (V.bool b0)), (6, (V.int .i64 i1)), (7, (V.int .i64 i2)), (8, V.undef), (9, V.undef), (10, V.undef)], ⟨[(1002, (Blk.cells T_parallaxref12_File [V.sl .no T_api_Pair l3, V.sl .no T_api_Pair l4, V.sl .no T_parallaxref12_Keep l5, V.sl .no T_parallaxref12_Break l6, V.sl .no T_parallaxref12_Watch l7] false)), (1003, (Blk.cells T_parallaxref12_File [V.sl .no T_api_Pair l8, V.sl .no T_api_Pair l9, V.sl .no T_parallaxref12_Keep l10, V.sl .no T_parallaxref12_Break l11, V.sl .no T_parallaxref12_Watch l12] false))], [], [], [], none⟩)
noncomputable def L1_1_1_1_1_0_1_0 (b0 : Bool) (i1 i2 i3 : Int) (l4 l5 l6 l7 l8 l9 l10 l11 l12 l13 : List (List V)) : Option Res := LP (e [1, 1, 1, 1, 1, 0, 1, 0, 0]) (cn [1002, 1003]) (kBlk 4 (kSeq (e [1, 1, 1, 1, 1, 1]) (K))) ([(2, (V.ref 1002 0)), (3, (V.ref 1003 0)), (5, (V.bool b0)), (6, (V.int .i64 i1)), (7, (V.int .i64 i2)), (8, (V.int .i64 i3)), (9, V.undef), (10, V.undef)], ⟨[(1002, (Blk.cells T_parallaxref12_File [V.sl .no T_api_Pair l4, V.sl .no T_api_Pair l5, V.sl .no T_parallaxref12_Keep l6, V.sl .no T_parallaxref12_Break l7, V.sl .no T_parallaxref12_Watch l8] false)), (1003, (Blk.cells T_parallaxref12_File [V.sl .no T_api_Pair l9, V.sl .no T_api_Pair l10, V.sl .no T_parallaxref12_Keep l11, V.sl .no T_parallaxref12_Break l12, V.sl .no T_parallaxref12_Watch l13] false))], [], [], [], none⟩)
noncomputable def L1_1_1_1_1_1_0_1_0 (b0 : Bool) (i1 i2 i3 i4 : Int) (l5 l6 l7 l8 l9 l10 l11 l12 l13 l14 : List (List V)) : Option Res := LP (e [1, 1, 1, 1, 1, 1, 0, 1, 0, 0]) (cn [1002, 1003]) (kBlk 6 (kSeq (e [1, 1, 1, 1, 1, 1, 1]) (K))) ([(2, (V.ref 1002 0)), (3, (V.ref 1003 0)), (5, (V.bool b0)), (6, (V.int .i64 i1)), (7, (V.int .i64 i2)), (8, (V.int .i64 i3)), (9, (V.int .i64 i4)), (10, V.undef)], ⟨[(1002, (Blk.cells T_parallaxref12_File [V.sl .no T_api_Pair l5, V.sl .no T_api_Pair l6, V.sl .no T_parallaxref12_Keep l7, V.sl .no T_parallaxref12_Break l8, V.sl .no T_parallaxref12_Watch l9] false)), (1003, (Blk.cells T_parallaxref12_File [V.sl .no T_api_Pair l10, V.sl .no T_api_Pair l11, V.sl .no T_parallaxref12_Keep l12, V.sl .no T_parallaxref12_Break l13, V.sl .no T_parallaxref12_Watch l14] false))], [], [], [], none⟩)
noncomputable def L1_1_1_1_1_1_1_0_1_0 (b0 : Bool) (i1 i2 i3 i4 i5 : Int) (l6 l7 l8 l9 l10 l11 l12 l13 l14 l15 : List (List V)) : Option Res := LP (e [1, 1, 1, 1, 1, 1, 1, 0, 1, 0, 0]) (cn [1002, 1003]) (kBlk 8 (kSeq (e [1, 1, 1, 1, 1, 1, 1, 1]) (K))) ([(2, (V.ref 1002 0)), (3, (V.ref 1003 0)), (5, (V.bool b0)), (6, (V.int .i64 i1)), (7, (V.int .i64 i2)), (8, (V.int .i64 i3)), (9, (V.int .i64 i4)), (10, (V.int .i64 i5))], ⟨[(1002, (Blk.cells T_parallaxref12_File [V.sl .no T_api_Pair l6, V.sl .no T_api_Pair l7, V.sl .no T_parallaxref12_Keep l8, V.sl .no T_parallaxref12_Break l9, V.sl .no T_parallaxref12_Watch l10] false)), (1003, (Blk.cells T_parallaxref12_File [V.sl .no T_api_Pair l11, V.sl .no T_api_Pair l12, V.sl .no T_parallaxref12_Keep l13, V.sl .no T_parallaxref12_Break l14, V.sl .no T_parallaxref12_Watch l15] false))], [], [], [], none⟩)
theorem L1_1_1_0_1_0_eq (b0 : Bool) (i1 : Int) (l2 l3 l4 l5 l6 l7 l8 l9 l10 l11 : List (List V)) : L1_1_1_0_1_0 b0 i1 l2 l3 l4 l5 l6 l7 l8 l9 l10 l11 =
  (bif (decide (i1 < (l2.length : Int))) then (bif b0 then (if (((0 : Int) <= i1) ∧ (i1 < (l2.length : Int))) then (V.asStr (List.getD (List.getD l2 (Int.toNat i1) []) 0 V.undef) (fun s28 => V.asStr (List.getD (List.getD l2 (Int.toNat i1) []) 1 V.undef) (fun s29 => V.asStr (List.getD (List.getD l2 (Int.toNat i1) []) 2 V.undef) (fun s30 => V.asStr (List.getD (List.getD l2 (Int.toNat i1) []) 3 V.undef) (fun s31 => if (((0 : Int) <= i1) ∧ (i1 < (l7.length : Int))) then (V.asStr (List.getD (List.getD l7 (Int.toNat i1) []) 0 V.undef) (fun s32 => V.asStr (List.getD (List.getD l7 (Int.toNat i1) []) 1 V.undef) (fun s33 => V.asStr (List.getD (List.getD l7 (Int.toNat i1) []) 2 V.undef) (fun s34 => V.asStr (List.getD (List.getD l7 (Int.toNat i1) []) 3 V.undef) (fun s35 => L1_1_1_0_1_0 ((decide (s28 = s32)) && ((decide (s29 = s33)) && ((decide (s30 = s34)) && ((decide (s31 = s35)) && true)))) (IntKind.wrap .i64 (i1 + (1 : Int))) l2 l3 l4 l5 l6 l7 l8 l9 l10 l11))))) else none))))) else none) else (L1_1_1_0_1_0 false (IntKind.wrap .i64 (i1 + (1 : Int))) l2 l3 l4 l5 l6 l7 l8 l9 l10 l11)) else (L1_1_1_1_0_1_0 b0 i1 (0 : Int) l2 l3 l4 l5 l6 l7 l8 l9 l10 l11)) := (LP_eq ..).trans (by kernel_rfl)
theorem L1_1_1_1_0_1_0_eq (b0 : Bool) (i1 i2 : Int) (l3 l4 l5 l6 l7 l8 l9 l10 l11 l12 : List (List V)) : L1_1_1_1_0_1_0 b0 i1 i2 l3 l4 l5 l6 l7 l8 l9 l10 l11 l12 =
  (bif (decide (i2 < (l4.length : Int))) then (bif b0 then (if (((0 : Int) <= i2) ∧ (i2 < (l4.length : Int))) then (V.asStr (List.getD (List.getD l4 (Int.toNat i2) []) 0 V.undef) (fun s43 => V.asStr (List.getD (List.getD l4 (Int.toNat i2) []) 1 V.undef) (fun s44 => V.asStr (List.getD (List.getD l4 (Int.toNat i2) []) 2 V.undef) (fun s45 => V.asStr (List.getD (List.getD l4 (Int.toNat i2) []) 3 V.undef) (fun s46 => if (((0 : Int) <= i2) ∧ (i2 < (l9.length : Int))) then (V.asStr (List.getD (List.getD l9 (Int.toNat i2) []) 0 V.undef) (fun s47 => V.asStr (List.getD (List.getD l9 (Int.toNat i2) []) 1 V.undef) (fun s48 => V.asStr (List.getD (List.getD l9 (Int.toNat i2) []) 2 V.undef) (fun s49 => V.asStr (List.getD (List.getD l9 (Int.toNat i2) []) 3 V.undef) (fun s50 => L1_1_1_1_0_1_0 ((decide (s43 = s47)) && ((decide (s44 = s48)) && ((decide (s45 = s49)) && ((decide (s46 = s50)) && true)))) i1 (IntKind.wrap .i64 (i2 + (1 : Int))) l3 l4 l5 l6 l7 l8 l9 l10 l11 l12))))) else none))))) else none) else (L1_1_1_1_0_1_0 false i1 (IntKind.wrap .i64 (i2 + (1 : Int))) l3 l4 l5 l6 l7 l8 l9 l10 l11 l12)) else (L1_1_1_1_1_0_1_0 b0 i1 i2 (0 : Int) l3 l4 l5 l6 l7 l8 l9 l10 l11 l12)) := (LP_eq ..).trans (by kernel_rfl)
theorem L1_1_1_1_1_0_1_0_eq (b0 : Bool) (i1 i2 i3 : Int) (l4 l5 l6 l7 l8 l9 l10 l11 l12 l13 : List (List V)) : L1_1_1_1_1_0_1_0 b0 i1 i2 i3 l4 l5 l6 l7 l8 l9 l10 l11 l12 l13 =
  (bif (decide (i3 < (l6.length : Int))) then (bif b0 then (if (((0 : Int) <= i3) ∧ (i3 < (l6.length : Int))) then (V.asInt (List.getD (List.getD l6 (Int.toNat i3) []) 0 V.undef) .i64 (fun n59 => V.asStr (List.getD (List.getD l6 (Int.toNat i3) []) 1 V.undef) (fun s60 => V.asStr (List.getD (List.getD l6 (Int.toNat i3) []) 2 V.undef) (fun s61 => if (((0 : Int) <= i3) ∧ (i3 < (l11.length : Int))) then (V.asInt (List.getD (List.getD l11 (Int.toNat i3) []) 0 V.undef) .i64 (fun n62 => V.asStr (List.getD (List.getD l11 (Int.toNat i3) []) 1 V.undef) (fun s63 => V.asStr (List.getD (List.getD l11 (Int.toNat i3) []) 2 V.undef) (fun s64 => L1_1_1_1_1_0_1_0 ((n59 == n62) && ((decide (s60 = s63)) && ((decide (s61 = s64)) && true))) i1 i2 (IntKind.wrap .i64 (i3 + (1 : Int))) l4 l5 l6 l7 l8 l9 l10 l11 l12 l13)))) else none)))) else none) else (L1_1_1_1_1_0_1_0 false i1 i2 (IntKind.wrap .i64 (i3 + (1 : Int))) l4 l5 l6 l7 l8 l9 l10 l11 l12 l13)) else (L1_1_1_1_1_1_0_1_0 b0 i1 i2 i3 (0 : Int) l4 l5 l6 l7 l8 l9 l10 l11 l12 l13)) := (LP_eq ..).trans (by kernel_rfl)
theorem L1_1_1_1_1_1_0_1_0_eq (b0 : Bool) (i1 i2 i3 i4 : Int) (l5 l6 l7 l8 l9 l10 l11 l12 l13 l14 : List (List V)) : L1_1_1_1_1_1_0_1_0 b0 i1 i2 i3 i4 l5 l6 l7 l8 l9 l10 l11 l12 l13 l14 =
  (bif (decide (i4 < (l9.length : Int))) then (bif b0 then (if (((0 : Int) <= i4) ∧ (i4 < (l9.length : Int))) then (V.asInt (List.getD (List.getD l9 (Int.toNat i4) []) 0 V.undef) .i64 (fun n76 => V.asStr (List.getD (List.getD l9 (Int.toNat i4) []) 1 V.undef) (fun s77 => V.asStr (List.getD (List.getD l9 (Int.toNat i4) []) 2 V.undef) (fun s78 => if (((0 : Int) <= i4) ∧ (i4 < (l14.length : Int))) then (V.asInt (List.getD (List.getD l14 (Int.toNat i4) []) 0 V.undef) .i64 (fun n79 => V.asStr (List.getD (List.getD l14 (Int.toNat i4) []) 1 V.undef) (fun s80 => V.asStr (List.getD (List.getD l14 (Int.toNat i4) []) 2 V.undef) (fun s81 => L1_1_1_1_1_1_0_1_0 ((n76 == n79) && ((decide (s77 = s80)) && ((decide (s78 = s81)) && true))) i1 i2 i3 (IntKind.wrap .i64 (i4 + (1 : Int))) l5 l6 l7 l8 l9 l10 l11 l12 l13 l14)))) else none)))) else none) else (L1_1_1_1_1_1_0_1_0 false i1 i2 i3 (IntKind.wrap .i64 (i4 + (1 : Int))) l5 l6 l7 l8 l9 l10 l11 l12 l13 l14)) else (L1_1_1_1_1_1_1_0_1_0 b0 i1 i2 i3 i4 (0 : Int) l5 l6 l7 l8 l9 l10 l11 l12 l13 l14)) := (LP_eq ..).trans (by kernel_rfl)
theorem L1_1_1_1_1_1_1_0_1_0_eq (b0 : Bool) (i1 i2 i3 i4 i5 : Int) (l6 l7 l8 l9 l10 l11 l12 l13 l14 l15 : List (List V)) : L1_1_1_1_1_1_1_0_1_0 b0 i1 i2 i3 i4 i5 l6 l7 l8 l9 l10 l11 l12 l13 l14 l15 =
  (bif (decide (i5 < (l9.length : Int))) then (if (((0 : Int) <= i5) ∧ (i5 < (l9.length : Int))) then (V.asInt (List.getD (List.getD l9 (Int.toNat i5) []) 0 V.undef) .i64 (fun n94 => V.asStr (List.getD (List.getD l9 (Int.toNat i5) []) 1 V.undef) (fun s95 => V.asInt (List.getD (List.getD l9 (Int.toNat i5) []) 2 V.undef) .i64 (fun n96 => V.asSl (List.getD (List.getD l9 (Int.toNat i5) []) 3 V.undef) T_api_Expr (fun es97 => if (((0 : Int) <= i5) ∧ (i5 < (l14.length : Int))) then (V.asInt (List.getD (List.getD l14 (Int.toNat i5) []) 0 V.undef) .i64 (fun n98 => V.asStr (List.getD (List.getD l14 (Int.toNat i5) []) 1 V.undef) (fun s99 => V.asInt (List.getD (List.getD l14 (Int.toNat i5) []) 2 V.undef) .i64 (fun n100 => V.asSl (List.getD (List.getD l14 (Int.toNat i5) []) 3 V.undef) T_api_Expr (fun es101 => bif b0 then (bif (n94 == n98) then (bif (decide (s95 = s99)) then (bif (n96 == n100) then (den Sp ref03_SameExprs.id [V.sl .no T_api_Expr es97, V.sl .no T_api_Expr es101] [] none).bind (fun r103 => Res.onRet r103 (fun v104 => V.asBool v104 (fun b105 => L1_1_1_1_1_1_1_0_1_0 b105 i1 i2 i3 i4 (IntKind.wrap .i64 (i5 + (1 : Int))) l6 l7 l8 l9 l10 l11 l12 l13 l14 l15))) else (L1_1_1_1_1_1_1_0_1_0 false i1 i2 i3 i4 (IntKind.wrap .i64 (i5 + (1 : Int))) l6 l7 l8 l9 l10 l11 l12 l13 l14 l15)) else (L1_1_1_1_1_1_1_0_1_0 false i1 i2 i3 i4 (IntKind.wrap .i64 (i5 + (1 : Int))) l6 l7 l8 l9 l10 l11 l12 l13 l14 l15)) else (L1_1_1_1_1_1_1_0_1_0 false i1 i2 i3 i4 (IntKind.wrap .i64 (i5 + (1 : Int))) l6 l7 l8 l9 l10 l11 l12 l13 l14 l15)) else (L1_1_1_1_1_1_1_0_1_0 false i1 i2 i3 i4 (IntKind.wrap .i64 (i5 + (1 : Int))) l6 l7 l8 l9 l10 l11 l12 l13 l14 l15)))))) else none))))) else none) else (some ⟨Out.ret (V.bool b0), [], none⟩)) := (LP_eq ..).trans (by kernel_rfl)
theorem eq (a0_0 a0_1 a0_2 a0_3 a0_4 a1_0 a1_1 a1_2 a1_3 a1_4 : List (List V)) : den Sp id [V.agg [V.sl .no T_api_Pair a0_0, V.sl .no T_api_Pair a0_1, V.sl .no T_parallaxref12_Keep a0_2, V.sl .no T_parallaxref12_Break a0_3, V.sl .no T_parallaxref12_Watch a0_4], V.agg [V.sl .no T_api_Pair a1_0, V.sl .no T_api_Pair a1_1, V.sl .no T_parallaxref12_Keep a1_2, V.sl .no T_parallaxref12_Break a1_3, V.sl .no T_parallaxref12_Watch a1_4]] [] none =
  (bif ((a0_0.length : Int) != (a1_0.length : Int)) then (some ⟨Out.ret (V.bool false), [], none⟩) else (bif ((a0_1.length : Int) != (a1_1.length : Int)) then (some ⟨Out.ret (V.bool false), [], none⟩) else (bif ((a0_2.length : Int) != (a1_2.length : Int)) then (some ⟨Out.ret (V.bool false), [], none⟩) else (bif ((a0_3.length : Int) != (a1_3.length : Int)) then (some ⟨Out.ret (V.bool false), [], none⟩) else (bif ((a0_4.length : Int) != (a1_4.length : Int)) then (some ⟨Out.ret (V.bool false), [], none⟩) else (L1_1_1_0_1_0 true (0 : Int) a0_0 a0_1 a0_2 a0_3 a0_4 a1_0 a1_1 a1_2 a1_3 a1_4)))))) := (den_eq ..).trans (by kernel_rfl)
end ref12_Same
namespace law12_back
noncomputable abbrev e (p : List Nat) := ev Sp (den Sp) id Tryd.f10.ntmps (cAt (bodyOf Tryd.f10) p)
noncomputable abbrev cn (n0 : List Nat) := canon Sp id n0
noncomputable abbrev K : K := kFin Sp (den Sp) Tryd.f10 0
noncomputable def L1_1_0_1_0 (i0 : Int) (l1 l2 l3 l4 l5 l6 l7 l8 : List (List V)) : Option Res := LP (e [1, 1, 0, 1, 0, 0]) (cn [1001, 1002, 1003]) (kBlk 0 (kSeq (e [1, 1, 1]) (K))) ([(1, (V.ref 1001 0)), (2, (V.ref 1002 0)), (3, (V.ref 1003 0)), (4, (V.int .i64 i0)), (5, V.undef), (7, V.undef)], ⟨[(1001, (Blk.cells T_decl_File [V.sl .no T_api_Pair l1, V.sl .no T_api_Pair l2, V.sl .no T_decl_Keep l3, V.sl .no T_decl_Break l4, V.sl .no T_decl_Watch l5] false)), (1002, (Blk.cells T_parallaxref12_File [V.sl (Tok.row 0) T_api_Pair [], V.sl (Tok.row 1) T_api_Pair [], V.sl (Tok.row 2) T_parallaxref12_Keep [], V.sl (Tok.row 3) T_parallaxref12_Break [], V.sl (Tok.row 4) T_parallaxref12_Watch []] false)), (1003, (Blk.cells T_parallaxref12_File [V.sl .no T_api_Pair l6, V.sl .no T_api_Pair l7, V.sl (Tok.row 5) T_parallaxref12_Keep l8, V.sl (Tok.row 6) T_parallaxref12_Break [], V.sl (Tok.row 7) T_parallaxref12_Watch []] false))], [0, 1, 2, 3, 4, 5, 6, 7], [], [], none⟩)
noncomputable def L1_1_1_0_1_0 (i0 i1 : Int) (l2 l3 l4 l5 l6 l7 l8 l9 l10 : List (List V)) : Option Res := LP (e [1, 1, 1, 0, 1, 0, 0]) (cn [1001, 1002, 1003]) (kBlk 2 (kSeq (e [1, 1, 1, 1]) (K))) ([(1, (V.ref 1001 0)), (2, (V.ref 1002 0)), (3, (V.ref 1003 0)), (4, (V.int .i64 i0)), (5, (V.int .i64 i1)), (7, V.undef)], ⟨[(1001, (Blk.cells T_decl_File [V.sl .no T_api_Pair l2, V.sl .no T_api_Pair l3, V.sl .no T_decl_Keep l4, V.sl .no T_decl_Break l5, V.sl .no T_decl_Watch l6] false)), (1002, (Blk.cells T_parallaxref12_File [V.sl (Tok.row 0) T_api_Pair [], V.sl (Tok.row 1) T_api_Pair [], V.sl (Tok.row 2) T_parallaxref12_Keep [], V.sl (Tok.row 3) T_parallaxref12_Break [], V.sl (Tok.row 4) T_parallaxref12_Watch []] false)), (1003, (Blk.cells T_parallaxref12_File [V.sl .no T_api_Pair l7, V.sl .no T_api_Pair l8, V.sl (Tok.row 5) T_parallaxref12_Keep l9, V.sl (Tok.row 6) T_parallaxref12_Break l10, V.sl (Tok.row 7) T_parallaxref12_Watch []] false))], [0, 1, 2, 3, 4, 5, 6, 7], [], [], none⟩)
noncomputable def L1_1_1_1_0_1_0 (i0 i1 i2 : Int) (l3 l4 l5 l6 l7 l8 l9 l10 l11 l12 : List (List V)) : Option Res := LP (e [1, 1, 1, 1, 0, 1, 0, 0]) (cn [1001, 1002, 1003]) (kBlk 4 (kSeq (e [1, 1, 1, 1, 1]) (K))) ([(1, (V.ref 1001 0)), (2, (V.ref 1002 0)), (3, (V.ref 1003 0)), (4, (V.int .i64 i0)), (5, (V.int .i64 i1)), (7, (V.int .i64 i2))], ⟨[(1001, (Blk.cells T_decl_File [V.sl .no T_api_Pair l3, V.sl .no T_api_Pair l4, V.sl .no T_decl_Keep l5, V.sl .no T_decl_Break l6, V.sl .no T_decl_Watch l7] false)), (1002, (Blk.cells T_parallaxref12_File [V.sl (Tok.row 0) T_api_Pair [], V.sl (Tok.row 1) T_api_Pair [], V.sl (Tok.row 2) T_parallaxref12_Keep [], V.sl (Tok.row 3) T_parallaxref12_Break [], V.sl (Tok.row 4) T_parallaxref12_Watch []] false)), (1003, (Blk.cells T_parallaxref12_File [V.sl .no T_api_Pair l8, V.sl .no T_api_Pair l9, V.sl (Tok.row 5) T_parallaxref12_Keep l10, V.sl (Tok.row 6) T_parallaxref12_Break l11, V.sl (Tok.row 7) T_parallaxref12_Watch l12] false))], [0, 1, 2, 3, 4, 5, 6, 7], [], [], none⟩)
theorem L1_1_0_1_0_eq (i0 : Int) (l1 l2 l3 l4 l5 l6 l7 l8 : List (List V)) : L1_1_0_1_0 i0 l1 l2 l3 l4 l5 l6 l7 l8 =
  (bif (decide (i0 < (l3.length : Int))) then (if (((0 : Int) <= i0) ∧ (i0 < (l3.length : Int))) then (V.asInt (List.getD (List.getD l3 (Int.toNat i0) []) 0 V.undef) .i64 (fun n19 => if (((0 : Int) <= i0) ∧ (i0 < (l3.length : Int))) then (V.asStr (List.getD (List.getD l3 (Int.toNat i0) []) 1 V.undef) (fun s20 => if (((0 : Int) <= i0) ∧ (i0 < (l3.length : Int))) then (V.asStr (List.getD (List.getD l3 (Int.toNat i0) []) 2 V.undef) (fun s21 => if (((List.length l8) + (List.length [[V.int .i64 n19, V.str s20, V.str s21]])) <= most) then (L1_1_0_1_0 (IntKind.wrap .i64 (i0 + (1 : Int))) l1 l2 l3 l4 l5 l6 l7 (l8 ++ [[V.int .i64 n19, V.str s20, V.str s21]])) else none)) else none)) else none)) else none) else (L1_1_1_0_1_0 i0 (0 : Int) l1 l2 l3 l4 l5 l6 l7 l8 [])) := (LP_eq ..).trans (by kernel_rfl)
theorem L1_1_1_0_1_0_eq (i0 i1 : Int) (l2 l3 l4 l5 l6 l7 l8 l9 l10 : List (List V)) : L1_1_1_0_1_0 i0 i1 l2 l3 l4 l5 l6 l7 l8 l9 l10 =
  (bif (decide (i1 < (l5.length : Int))) then (if (((0 : Int) <= i1) ∧ (i1 < (l5.length : Int))) then (V.asInt (List.getD (List.getD l5 (Int.toNat i1) []) 0 V.undef) .i64 (fun n32 => V.asStr (List.getD (List.getD l5 (Int.toNat i1) []) 1 V.undef) (fun s33 => V.asInt (List.getD (List.getD l5 (Int.toNat i1) []) 2 V.undef) .i64 (fun n34 => V.asSl (List.getD (List.getD l5 (Int.toNat i1) []) 3 V.undef) T_api_Expr (fun es35 => if (((List.length l10) + (List.length [[V.int .i64 n32, V.str s33, V.int .i64 n34, V.sl .no T_api_Expr es35]])) <= most) then (L1_1_1_0_1_0 i0 (IntKind.wrap .i64 (i1 + (1 : Int))) l2 l3 l4 l5 l6 l7 l8 l9 (l10 ++ [[V.int .i64 n32, V.str s33, V.int .i64 n34, V.sl .no T_api_Expr es35]])) else none))))) else none) else (L1_1_1_1_0_1_0 i0 i1 (0 : Int) l2 l3 l4 l5 l6 l7 l8 l9 l10 [])) := (LP_eq ..).trans (by kernel_rfl)
theorem L1_1_1_1_0_1_0_eq (i0 i1 i2 : Int) (l3 l4 l5 l6 l7 l8 l9 l10 l11 l12 : List (List V)) : L1_1_1_1_0_1_0 i0 i1 i2 l3 l4 l5 l6 l7 l8 l9 l10 l11 l12 =
  (bif (decide (i2 < (l7.length : Int))) then (if (((0 : Int) <= i2) ∧ (i2 < (l7.length : Int))) then (V.asInt (List.getD (List.getD l7 (Int.toNat i2) []) 0 V.undef) .i64 (fun n47 => if (((0 : Int) <= i2) ∧ (i2 < (l7.length : Int))) then (V.asStr (List.getD (List.getD l7 (Int.toNat i2) []) 1 V.undef) (fun s48 => if (((0 : Int) <= i2) ∧ (i2 < (l7.length : Int))) then (V.asStr (List.getD (List.getD l7 (Int.toNat i2) []) 2 V.undef) (fun s49 => if (((List.length l12) + (List.length [[V.int .i64 n47, V.str s48, V.str s49]])) <= most) then (L1_1_1_1_0_1_0 i0 i1 (IntKind.wrap .i64 (i2 + (1 : Int))) l3 l4 l5 l6 l7 l8 l9 l10 l11 (l12 ++ [[V.int .i64 n47, V.str s48, V.str s49]])) else none)) else none)) else none)) else none) else (some ⟨Out.ret (V.agg [V.sl .no T_api_Pair l8, V.sl .no T_api_Pair l9, V.sl .no T_parallaxref12_Keep l10, V.sl .no T_parallaxref12_Break l11, V.sl .no T_parallaxref12_Watch l12]), [], none⟩)) := (LP_eq ..).trans (by kernel_rfl)
theorem eq (a0_0 a0_1 a0_2 a0_3 a0_4 : List (List V)) : den Sp id [V.agg [V.sl .no T_api_Pair a0_0, V.sl .no T_api_Pair a0_1, V.sl .no T_decl_Keep a0_2, V.sl .no T_decl_Break a0_3, V.sl .no T_decl_Watch a0_4]] [] none =
  (L1_1_0_1_0 (0 : Int) a0_0 a0_1 a0_2 a0_3 a0_4 a0_0 a0_1 []) := (den_eq ..).trans (by kernel_rfl)
end law12_back
end Go.Proofs.YtmhnmelaodhemaaDoor
namespace Go.Proofs.YtmhnmelaodhemaaDoor
open Go Go.Proofs.Ab Go.Proofs.Px
attribute [local congr] bind_h asInt_h asBool_h asStr_h asSl_h asSlR_h asAgg_h asTup_h asIface_h asCells_h onRet_h onOut_h cond_h
theorem sames_of (l : List Ex) (hl : l.length <= 140737488351232) (h : ∀ x ∈ l, den Sp ref03_SameExpr.id [.agg x.v, .agg x.v] [] none = some ⟨.ret (.bool true), [], none⟩) :
  den Sp ref03_SameExprs.id [.sl .no T_api_Expr (l.map Ex.v), .sl .no T_api_Expr (l.map Ex.v)] [] none = some ⟨.ret (.bool true), [], none⟩ := by
 have key : ∀ i : Nat, i <= l.length -> ref03_SameExprs.L1_1_0_1_0 (l.map Ex.v) (l.map Ex.v) (i : Int) = some ⟨.ret (.bool true), [], none⟩ := by
  refine down ?_ fun i hi ih => ?_
  ·rw [ref03_SameExprs.L1_1_0_1_0_eq, List.length_map, decide_eq_false (Int.lt_irrefl _), cond_false]
  ·have hx := h _ (List.getElem_mem hi)
   have w := wrap_nat (i := i) (by omega)
   rw [ref03_SameExprs.L1_1_0_1_0_eq]
   simp only [List.length_map, decide_eq_true (show (i : Int) < (l.length : Int) by omega), if_pos (Px.in_row hi), Int.toNat_natCast, map_at _ _ _ hi, hx, w, ih, lz, lx, if_true, if_false, lb]
 have h0 := key 0 (Nat.zero_le _)
 rw [ref03_SameExprs.eq]
 simp only [bne_self_eq_false, cond_false]
 exact h0
theorem same_self : ∀ x : Ex, ExOk x -> den Sp ref03_SameExpr.id [.agg x.v, .agg x.v] [] none = some ⟨.ret (.bool true), [], none⟩ := by
 refine Ex.ind fun k n m l ih ho => ?_
 obtain ⟨ok, on, om, ol, oh⟩ := ho.inv
 have h := sames_of l ol fun x hx => ih x hx (oh x hx)
 rw [Ex.v_mk, ref03_SameExpr.eq]
 simp only [bne_self_eq_false, decide_true, h, lz, lx, if_true, if_false, lb]
theorem same_breaks (f : Fl) (hf : FlOk f) : ∀ i1 i2 i3 i4 : Int, ∀ i : Nat, i <= f.breaks.length -> ref12_Same.L1_1_1_1_1_1_1_0_1_0 true i1 i2 i3 i4 (i : Int) (f.pairs.map Pai.v) (f.sames.map Pai.v) (f.keeps.map Kp.v) (f.breaks.map Bk.v) (f.watches.map Wt.v) (f.pairs.map Pai.v) (f.sames.map Pai.v) (f.keeps.map Kp.v) (f.breaks.map Bk.v) (f.watches.map Wt.v) = some ⟨.ret (.bool true), [], none⟩ := by
 intro i1 i2 i3 i4
 have hl := hf.breaks
 refine down ?_ fun i hi ih => ?_
 ·rw [ref12_Same.L1_1_1_1_1_1_1_0_1_0_eq, List.length_map, decide_eq_false (Int.lt_irrefl _), cond_false]
 ·have hx := hl.2 _ (List.getElem_mem hi)
  have hs := sames_of f.breaks[i].whn hx.whn.1 fun x h => same_self x (hx.whn.2 x h)
  have w := wrap_nat (i := i) (by omega)
  rw [ref12_Same.L1_1_1_1_1_1_1_0_1_0_eq]
  simp only [List.length_map, decide_eq_true (show (i : Int) < (f.breaks.length : Int) by omega), if_pos (Px.in_row hi), Int.toNat_natCast, map_at _ _ _ hi, BEq.rfl, decide_true, hs, w, ih, lz, lx, if_true, if_false, lb]
theorem same_watches (f : Fl) (hf : FlOk f) : ∀ i1 i2 i3 : Int, ∀ i : Nat, i <= f.watches.length -> ref12_Same.L1_1_1_1_1_1_0_1_0 true i1 i2 i3 (i : Int) (f.pairs.map Pai.v) (f.sames.map Pai.v) (f.keeps.map Kp.v) (f.breaks.map Bk.v) (f.watches.map Wt.v) (f.pairs.map Pai.v) (f.sames.map Pai.v) (f.keeps.map Kp.v) (f.breaks.map Bk.v) (f.watches.map Wt.v) = some ⟨.ret (.bool true), [], none⟩ := by
 intro i1 i2 i3
 have hl := hf.watches
 refine down ?_ fun i hi ih => ?_
 ·rw [ref12_Same.L1_1_1_1_1_1_0_1_0_eq, List.length_map, decide_eq_false (Int.lt_irrefl _), cond_false]
  exact same_breaks f hf _ _ _ _ 0 (Nat.zero_le _)
 ·have w := wrap_nat (i := i) (by omega)
  rw [ref12_Same.L1_1_1_1_1_1_0_1_0_eq]
  simp only [List.length_map, decide_eq_true (show (i : Int) < (f.watches.length : Int) by omega), if_pos (Px.in_row hi), Int.toNat_natCast, map_at _ _ _ hi, BEq.rfl, decide_true, Wt.v_0, Wt.v_1, Wt.v_2, w, ih, lz, lx, if_true, if_false, lb]
theorem same_keeps (f : Fl) (hf : FlOk f) : ∀ i1 i2 : Int, ∀ i : Nat, i <= f.keeps.length -> ref12_Same.L1_1_1_1_1_0_1_0 true i1 i2 (i : Int) (f.pairs.map Pai.v) (f.sames.map Pai.v) (f.keeps.map Kp.v) (f.breaks.map Bk.v) (f.watches.map Wt.v) (f.pairs.map Pai.v) (f.sames.map Pai.v) (f.keeps.map Kp.v) (f.breaks.map Bk.v) (f.watches.map Wt.v) = some ⟨.ret (.bool true), [], none⟩ := by
 intro i1 i2
 have hl := hf.keeps
 refine down ?_ fun i hi ih => ?_
 ·rw [ref12_Same.L1_1_1_1_1_0_1_0_eq, List.length_map, decide_eq_false (Int.lt_irrefl _), cond_false]
  exact same_watches f hf _ _ _ 0 (Nat.zero_le _)
 ·have w := wrap_nat (i := i) (by omega)
  rw [ref12_Same.L1_1_1_1_1_0_1_0_eq]
  simp only [List.length_map, decide_eq_true (show (i : Int) < (f.keeps.length : Int) by omega), if_pos (Px.in_row hi), Int.toNat_natCast, map_at _ _ _ hi, BEq.rfl, decide_true, Kp.v_0, Kp.v_1, Kp.v_2, w, ih, lz, lx, if_true, if_false, lb]
theorem same_sames (f : Fl) (hf : FlOk f) : ∀ i1 : Int, ∀ i : Nat, i <= f.sames.length -> ref12_Same.L1_1_1_1_0_1_0 true i1 (i : Int) (f.pairs.map Pai.v) (f.sames.map Pai.v) (f.keeps.map Kp.v) (f.breaks.map Bk.v) (f.watches.map Wt.v) (f.pairs.map Pai.v) (f.sames.map Pai.v) (f.keeps.map Kp.v) (f.breaks.map Bk.v) (f.watches.map Wt.v) = some ⟨.ret (.bool true), [], none⟩ := by
 intro i1
 have hl := hf.sames
 refine down ?_ fun i hi ih => ?_
 ·rw [ref12_Same.L1_1_1_1_0_1_0_eq, List.length_map, decide_eq_false (Int.lt_irrefl _), cond_false]
  exact same_keeps f hf _ _ 0 (Nat.zero_le _)
 ·have w := wrap_nat (i := i) (by omega)
  rw [ref12_Same.L1_1_1_1_0_1_0_eq]
  simp only [List.length_map, decide_eq_true (show (i : Int) < (f.sames.length : Int) by omega), if_pos (Px.in_row hi), Int.toNat_natCast, map_at _ _ _ hi, BEq.rfl, decide_true, w, ih, lz, lx, if_true, if_false, lb]
theorem same_pairs (f : Fl) (hf : FlOk f) : ∀ i : Nat, i <= f.pairs.length -> ref12_Same.L1_1_1_0_1_0 true (i : Int) (f.pairs.map Pai.v) (f.sames.map Pai.v) (f.keeps.map Kp.v) (f.breaks.map Bk.v) (f.watches.map Wt.v) (f.pairs.map Pai.v) (f.sames.map Pai.v) (f.keeps.map Kp.v) (f.breaks.map Bk.v) (f.watches.map Wt.v) = some ⟨.ret (.bool true), [], none⟩ := by
 have hl := hf.pairs
 refine down ?_ fun i hi ih => ?_
 ·rw [ref12_Same.L1_1_1_0_1_0_eq, List.length_map, decide_eq_false (Int.lt_irrefl _), cond_false]
  exact same_sames f hf _ 0 (Nat.zero_le _)
 ·have w := wrap_nat (i := i) (by omega)
  rw [ref12_Same.L1_1_1_0_1_0_eq]
  simp only [List.length_map, decide_eq_true (show (i : Int) < (f.pairs.length : Int) by omega), if_pos (Px.in_row hi), Int.toNat_natCast, map_at _ _ _ hi, BEq.rfl, decide_true, w, ih, lz, lx, if_true, if_false, lb]
theorem ref12_Same_self (f : Fl) (hf : FlOk f) : den Sp ref12_Same.id [.agg f.v, .agg f.v] [] none = some ⟨.ret (.bool true), [], none⟩ := by
 rw [Fl.v, ref12_Same.eq]
 simp only [bne_self_eq_false, cond_false]
 exact same_pairs f hf 0 (Nat.zero_le _)
theorem law12_back_is (f : Fl) (h3 : f.keeps.length <= 1000000) (h4 : f.breaks.length <= 1000000) (h5 : f.watches.length <= 1000000) : den Sp law12_back.id [.agg f.dv] [] none = some ⟨.ret (.agg f.v), [], none⟩ := by
 have one : ∀ {α : Type} (v : α -> List V) (xs : List α) (i : Nat) (hi : i < xs.length), (xs.take i).map v ++ [v xs[i]] = (xs.take (i + 1)).map v := fun v xs i hi => by
  rw [List.take_succ_eq_append_getElem hi, List.map_append]; rfl
 have mo : ∀ {α : Type} (v : α -> List V) (xs : List α) (i : Nat) (x : List V) (a b : Option Res), xs.length <= 1000000 -> (if ((xs.take i).map v).length + List.length [x] <= most then a else b) = a := fun v xs i x a b h => if_pos (by
  show _ + 1 <= 1099511627776
  rw [List.length_map, List.length_take]; omega)
 have mo' : ∀ {α : Type} (v : α -> List V) (xs : List α) (i : Nat) (a b : Option Res), xs.length <= 1000000 -> (if ((xs.take i).map v).length + 1 <= most then a else b) = a := fun v xs i a b h => if_pos (by
  show _ + 1 <= 1099511627776
  rw [List.length_map, List.length_take]; omega)
 have watches : ∀ (i0 i1 : Int), ∀ i : Nat, i <= f.watches.length -> law12_back.L1_1_1_1_0_1_0 i0 i1 (i : Int) (f.pairs.map Pai.v) (f.sames.map Pai.v) (f.keeps.map Kp.v) (f.breaks.map Bk.v) (f.watches.map Wt.v) (f.pairs.map Pai.v) (f.sames.map Pai.v) (f.keeps.map Kp.v) (f.breaks.map Bk.v) ((f.watches.take i).map Wt.v) = some ⟨.ret (.agg f.v), [], none⟩ := by
  intro i0 i1
  refine down ?_ fun i hi ih => ?_
  ·rw [law12_back.L1_1_1_1_0_1_0_eq, List.length_map, decide_eq_false (Int.lt_irrefl _), cond_false, List.take_length]; rfl
  ·have w := wrap_nat (i := i) (by omega)
   have o := one Wt.v f.watches i hi
   rw [Wt.v_mk] at o
   rw [law12_back.L1_1_1_1_0_1_0_eq]
   have e : ([[V.int .i64 f.watches[i].side, V.str (B f.watches[i].prc), V.str (B f.watches[i].vr)]] : List (List V)) = [f.watches[i].v] := rfl
   simp only [List.length_map, decide_eq_true (show (i : Int) < (f.watches.length : Int) by omega), if_pos (Px.in_row hi), Int.toNat_natCast, map_at _ _ _ hi, Wt.v_0, Wt.v_1, Wt.v_2, w, lz, lx, if_true, if_false, lb]
   rw [if_pos (by show (f.watches.take i).length + 1 <= 1099511627776; rw [List.length_take]; omega), e, one Wt.v f.watches i hi]
   exact ih
 have breaks : ∀ (i0 : Int), ∀ i : Nat, i <= f.breaks.length -> law12_back.L1_1_1_0_1_0 i0 (i : Int) (f.pairs.map Pai.v) (f.sames.map Pai.v) (f.keeps.map Kp.v) (f.breaks.map Bk.v) (f.watches.map Wt.v) (f.pairs.map Pai.v) (f.sames.map Pai.v) (f.keeps.map Kp.v) ((f.breaks.take i).map Bk.v) = some ⟨.ret (.agg f.v), [], none⟩ := by
  intro i0
  refine down ?_ fun i hi ih => ?_
  ·rw [law12_back.L1_1_1_0_1_0_eq, List.length_map, decide_eq_false (Int.lt_irrefl _), cond_false, List.take_length]
   exact watches _ _ 0 (Nat.zero_le _)
  ·have w := wrap_nat (i := i) (by omega)
   rw [law12_back.L1_1_1_0_1_0_eq]
   have e : ([[V.int .i64 f.breaks[i].side, V.str (B f.breaks[i].prc), V.int .i64 f.breaks[i].mark, V.sl .no T_api_Expr (f.breaks[i].whn.map Ex.v)]] : List (List V)) = [f.breaks[i].v] := rfl
   simp only [List.length_map, decide_eq_true (show (i : Int) < (f.breaks.length : Int) by omega), if_pos (Px.in_row hi), Int.toNat_natCast, map_at _ _ _ hi, w, lz, lx, if_true, if_false, lb]
   rw [if_pos (by show (f.breaks.take i).length + 1 <= 1099511627776; rw [List.length_take]; omega), e, one Bk.v f.breaks i hi]
   exact ih
 have keeps : ∀ i : Nat, i <= f.keeps.length -> law12_back.L1_1_0_1_0 (i : Int) (f.pairs.map Pai.v) (f.sames.map Pai.v) (f.keeps.map Kp.v) (f.breaks.map Bk.v) (f.watches.map Wt.v) (f.pairs.map Pai.v) (f.sames.map Pai.v) ((f.keeps.take i).map Kp.v) = some ⟨.ret (.agg f.v), [], none⟩ := by
  refine down ?_ fun i hi ih => ?_
  ·rw [law12_back.L1_1_0_1_0_eq, List.length_map, decide_eq_false (Int.lt_irrefl _), cond_false, List.take_length]
   exact breaks _ 0 (Nat.zero_le _)
  ·have w := wrap_nat (i := i) (by omega)
   rw [law12_back.L1_1_0_1_0_eq]
   have e : ([[V.int .i64 f.keeps[i].side, V.str (B f.keeps[i].prc), V.str (B f.keeps[i].vr)]] : List (List V)) = [f.keeps[i].v] := rfl
   simp only [List.length_map, decide_eq_true (show (i : Int) < (f.keeps.length : Int) by omega), if_pos (Px.in_row hi), Int.toNat_natCast, map_at _ _ _ hi, Kp.v_0, Kp.v_1, Kp.v_2, w, lz, lx, if_true, if_false, lb]
   rw [if_pos (by show (f.keeps.take i).length + 1 <= 1099511627776; rw [List.length_take]; omega), e, one Kp.v f.keeps i hi]
   exact ih
 unfold Fl.dv
 rw [law12_back.eq]
 exact keeps 0 (Nat.zero_le _)
end Go.Proofs.YtmhnmelaodhemaaDoor
namespace Go.Proofs.YtmhnmelaodhemaaDoor
open Go Go.Proofs.Ab Go.Proofs.Px
def tS (s : List UInt8) : Tk := ⟨4, s, 0, 0⟩
def tN (s : List UInt8) : Tk := ⟨1, s, 0, 0⟩
def sideTk (k : Int) (w : List Tk) : List Tk := if k = 6 then tS [40] :: (w ++ [tS [41]]) else w
def tkK (k : Int) (n : List UInt8) (m : Int) (ws : List (Int × List Tk)) : List Tk :=
 if k = 1 then [⟨2, [], m, 0⟩]
 else if k = 2 then [⟨3, if m = 1 then [116, 114, 117, 101] else [102, 97, 108, 115, 101], 0, 0⟩]
 else if k = 4 then tN n :: tS [91] :: ((ws.headD (0, [])).2 ++ [tS [93]])
 else if k = 5 then tS n :: sideTk (ws.headD (0, [])).1 (ws.headD (0, [])).2
 else if k = 6 then sideTk (ws.headD (0, [])).1 (ws.headD (0, [])).2 ++ tS n :: sideTk (ws.getLastD (0, [])).1 (ws.getLastD (0, [])).2
 else [tN n]
mutual
def exT : Ex -> List Tk
 | .mk k n m l => tkK k n m (exTs l)
def exTs : List Ex -> List (Int × List Tk)
 | [] => []
 | x :: l => (x.kind, exT x) :: exTs l
end
def Seg (l : List Tk) (k : Nat) (ts : List Tk) : Prop := ∀ (i : Nat) (h : i < ts.length), k + i < l.length ∧ SimT ts[i] (tk l (k + i))
theorem Seg.app {l : List Tk} {k : Nat} {a b : List Tk} (h : Seg l k (a ++ b)) : Seg l k a ∧ Seg l (k + a.length) b := by
 refine ⟨fun i hi => ?_, fun i hi => ?_⟩
 ·have := h i (by rw [List.length_append]; omega)
  rwa [List.getElem_append_left hi] at this
 ·have := h (a.length + i) (by rw [List.length_append]; omega)
  rw [List.getElem_append_right (by omega)] at this
  simpa [Nat.add_assoc, Nat.add_comm, Nat.add_left_comm] using this
theorem Seg.cons {l : List Tk} {k : Nat} {a : Tk} {b : List Tk} (h : Seg l k (a :: b)) : (k < l.length ∧ SimT a (tk l k)) ∧ Seg l (k + 1) b := by
 have h' : Seg l k ([a] ++ b) := h
 exact ⟨h 0 (by simp), h'.app.2⟩
theorem isT_sim {a b : Tk} (h : SimT a b) (s : List UInt8) : isT b s = isT a s := by
 unfold isT; rw [h.1, h.2.1]
theorem signT_sim {a b : Tk} (h : SimT a b) : signT b = signT a := by
 unfold signT; rw [h.1, h.2.1]
theorem opensT_sim {a b : Tk} (h : SimT a b) : opensT b = opensT a := by
 unfold opensT isT; rw [h.1, h.2.1]
theorem levelT_P (s : List UInt8) : levelT s = levelP s := rfl
theorem isT_S (n s : List UInt8) : isT (tS n) s = decide (n = s) := rfl
theorem isT_N (n s : List UInt8) : isT (tN n) s = false := by simp [isT, tN]
theorem level_signs {n : List UInt8} (h : 0 < levelP n) : n = [124, 124] ∨ n = [38, 38] ∨ n = [61, 61] ∨ n = [33, 61] ∨ n = [60] ∨ n = [60, 61] ∨ n = [43] ∨ n = [45] ∨ n = [42] ∨ n = [47] ∨ n = [37] := by
 unfold levelP at h
 repeat' (split at h; · rename_i e; subst e; decide)
 omega
theorem part_ok {l : List Tk} {d : Int} {k : Nat} {r : Rd} (ho : opensT (tk l k) = true) (hd : d <= 60) : partR l d k r = r := by
 unfold partR
 rw [ho, if_neg (by simp), if_neg (by omega)]
theorem exT_ne (x : Ex) : exT x ≠ [] := by
 cases x with
 | mk k n m l =>
  rw [exT]; unfold tkK
  split
  ·simp
  split
  ·simp
  split
  ·simp
  split
  ·simp
  split
  ·simp
  ·simp
theorem sideTk_opens {k : Int} {w : List Tk} (h : ∃ t u, w = t :: u ∧ opensT t = true) : ∃ t u, sideTk k w = t :: u ∧ opensT t = true := by
 unfold sideTk
 split
 ·exact ⟨_, _, rfl, by decide⟩
 ·exact h
theorem exT_opens : ∀ x : Ex, okX x = true -> ∃ t u, exT x = t :: u ∧ opensT t = true := by
 refine Ex.ind fun k n m l ih h => ?_
 rw [okX, Bool.and_eq_true, Bool.and_eq_true] at h
 obtain ⟨⟨h1, h2⟩, h3⟩ := h
 rw [exT]
 unfold tkK
 rcases plain_forms h1 with ⟨rfl, rfl, hm, rfl⟩ | ⟨rfl, rfl, hm, rfl⟩ | ⟨rfl, hn, rfl, rfl⟩ | ⟨rfl, hn, rfl, x, rfl⟩ | ⟨rfl, hn, rfl, x, rfl⟩ | ⟨rfl, hn, rfl, x, y, rfl⟩
 ·exact ⟨_, _, rfl, rfl⟩
 ·by_cases c : m = 1 <;> exact ⟨_, _, rfl, by simp [c, opensT, isT]⟩
 ·exact ⟨_, _, rfl, rfl⟩
 ·exact ⟨_, _, rfl, rfl⟩
 ·exact ⟨_, _, rfl, by rcases hn with rfl | rfl <;> rfl⟩
 ·rw [okXs, okXs, okXs, Bool.and_true, Bool.and_eq_true] at h3
  obtain ⟨t, u, h4, h5⟩ := sideTk_opens (k := x.kind) (ih x (by simp) h3.1)
  refine ⟨t, u ++ tS n :: sideTk y.kind (exT y), ?_, h5⟩
  simp [exTs, h4]
def BackX (x : Ex) : Prop := ∀ (l : List Tk) (d : Int) (k : Nat), d + hX x <= 60 -> Seg l k (exT x) -> k + (exT x).length < l.length -> isT (tk l (k + (exT x).length)) [91] = false ->
 (x.kind ≠ 6 -> oneW l d k = .ok (x, k + (exT x).length)) ∧ (signT (tk l (k + (exT x).length)) = 0 -> tightW l 1 d k = .ok (x, k + (exT x).length))
theorem seg_opens {l : List Tk} {k : Nat} {w : List Tk} (hs : Seg l k w) (h : ∃ t u, w = t :: u ∧ opensT t = true) : opensT (tk l k) = true := by
 obtain ⟨t, u, rfl, h2⟩ := h
 rw [opensT_sim hs.cons.1.2, h2]
theorem side_back {x : Ex} (ho : okX x = true) (hb : BackX x) (l : List Tk) (d : Int) (k : Nat) (hd : d + sideH x.kind (hX x) <= 60) (hs : Seg l k (sideTk x.kind (exT x))) (hk : k + (sideTk x.kind (exT x)).length < l.length) (hn : isT (tk l (k + (sideTk x.kind (exT x)).length)) [91] = false) :
  oneW l d k = .ok (x, k + (sideTk x.kind (exT x)).length) := by
 have hh := (okX_weigh x ho).2.1
 by_cases c : x.kind = 6
 ·unfold sideTk sideH at *
  rw [if_pos c] at *
  obtain ⟨⟨k1, s1⟩, h2⟩ := hs.cons
  obtain ⟨h3, h4⟩ := h2.app
  obtain ⟨⟨k2, s2⟩, _⟩ := h4.cons
  have e1 : ∀ s, isT (tk l k) s = decide (([40] : List UInt8) = s) := fun s => by rw [isT_sim s1, isT_S]
  have e2 : ∀ s, isT (tk l (k + 1 + (exT x).length)) s = decide (([41] : List UInt8) = s) := fun s => by rw [isT_sim s2, isT_S]
  have h5 := (hb l (d + 1) (k + 1) (by omega) h3 k2 (by rw [e2]; decide)).2 (by rw [signT_sim s2]; rfl)
  rw [oneW, dif_pos k1, if_neg (by rw [e1, e1]; simp), if_pos (by rw [e1]; rfl), part_ok (seg_opens h3 (exT_opens x ho)) (by omega), h5]
  unfold wantR
  simp only
  rw [if_pos (by rw [e2]; rfl)]
  simp [Nat.add_assoc, Nat.add_comm, Nat.add_left_comm]
 ·unfold sideTk sideH at *
  rw [if_neg c] at *
  exact (hb l d k hd hs hk hn).1 c
theorem tight_of_one {l : List Tk} {n d : Int} {k j : Nat} {x : Ex} (h : oneW l d k = .ok (x, j)) (h1 : k < j) (h2 : j < l.length) (h3 : signT (tk l j) = 0) : tightW l n d k = .ok (x, j) := by
 rw [tightW, h]
 simp only
 rw [dif_pos ⟨h1, by omega⟩, loopW, dif_pos h2, if_pos (.inl h3)]
theorem back_x : ∀ x : Ex, okX x = true -> BackX x := by
 refine Ex.ind fun k n m l ih h => ?_
 have hopen := exT_opens _ h
 have hne := exT_ne (.mk k n m l)
 rw [okX, Bool.and_eq_true, Bool.and_eq_true] at h
 obtain ⟨⟨h1, h2⟩, h3⟩ := h
 intro L d i hd hs hk hn
 have hpos : 0 < (exT (.mk k n m l)).length := List.length_pos_iff.2 hne
 suffices key : (k ≠ 6 -> oneW L d i = .ok (.mk k n m l, i + (exT (.mk k n m l)).length)) ∧ (k = 6 -> signT (tk L (i + (exT (.mk k n m l)).length)) = 0 -> tightW L 1 d i = .ok (.mk k n m l, i + (exT (.mk k n m l)).length)) by
  refine ⟨key.1, fun hsg => ?_⟩
  by_cases c : k = 6
  ·exact key.2 c hsg
  ·exact tight_of_one (key.1 c) (by omega) hk hsg
 clear hopen hne hpos
 rw [exT, hX] at *
 unfold tkK hK at *
 rcases plain_forms h1 with ⟨rfl, rfl, hm, rfl⟩ | ⟨rfl, rfl, hm, rfl⟩ | ⟨rfl, hn', rfl, rfl⟩ | ⟨rfl, hn', rfl, x, rfl⟩ | ⟨rfl, hn', rfl, x, rfl⟩ | ⟨rfl, hn', rfl, x, y, rfl⟩
 ·refine ⟨fun _ => ?_, fun h => absurd h (by decide)⟩
  obtain ⟨⟨k1, s1⟩, _⟩ := Seg.cons (b := []) hs
  have e1 : ∀ s, isT (tk L i) s = false := fun s => by rw [isT_sim s1]; simp [isT]
  have e2 : (tk L i).kind = 2 := s1.1.symm
  have e3 : (tk L i).num = m := s1.2.2.symm
  rw [oneW, dif_pos k1, if_neg (by simp [e1]), if_neg (by simp [e1]), if_neg (by simp [e1]), if_neg (by simp [e1]), if_pos e2, e3]
  simp
 ·refine ⟨fun _ => ?_, fun h => absurd h (by decide)⟩
  obtain ⟨⟨k1, s1⟩, _⟩ := Seg.cons (b := []) hs
  rcases hm with rfl | rfl
  ·have e1 : ∀ s, isT (tk L i) s = decide (([102, 97, 108, 115, 101] : List UInt8) = s) := fun s => by rw [isT_sim s1]; simp [isT]
   rw [oneW, dif_pos k1, if_neg (by simp [e1]), if_neg (by simp [e1]), if_neg (by simp [e1]), if_pos (by simp [e1])]
   simp
  ·have e1 : ∀ s, isT (tk L i) s = decide (([116, 114, 117, 101] : List UInt8) = s) := fun s => by rw [isT_sim s1]; simp [isT]
   rw [oneW, dif_pos k1, if_neg (by simp [e1]), if_neg (by simp [e1]), if_pos (by simp [e1])]
   simp
 ·refine ⟨fun _ => ?_, fun h => absurd h (by decide)⟩
  obtain ⟨⟨k1, s1⟩, _⟩ := Seg.cons (b := []) hs
  have e1 : ∀ s, isT (tk L i) s = false := fun s => by rw [isT_sim s1]; exact isT_N n s
  have e2 : (tk L i).kind = 1 := s1.1.symm
  have e3 : (tk L i).text = n := s1.2.1.symm
  have hn1 : isT (tk L (i + 1)) [91] = false := hn
  rw [oneW, dif_pos k1, if_neg (by simp [e1]), if_neg (by simp [e1]), if_neg (by simp [e1]), if_neg (by simp [e1]), if_neg (by rw [e2]; decide), if_neg (by rw [e2]; decide), if_neg (by rw [hn1]; simp), e3]
  simp
 ·refine ⟨fun _ => ?_, fun h => absurd h (by decide)⟩
  have hox : okX x = true := by simpa [okXs] using h3
  have hb := ih x (by simp) hox
  have hh := (okX_weigh x hox).2.1
  simp only [exTs, hXs, List.headD_cons] at *
  obtain ⟨⟨k1, s1⟩, g1⟩ := Seg.cons (a := tN n) (b := tS [91] :: (exT x ++ [tS [93]])) hs
  obtain ⟨⟨k2, s2⟩, g2⟩ := g1.cons
  obtain ⟨g3, g4⟩ := g2.app
  obtain ⟨⟨k3, s3⟩, _⟩ := g4.cons
  have e1 : ∀ s, isT (tk L i) s = false := fun s => by rw [isT_sim s1]; exact isT_N n s
  have e2 : (tk L i).kind = 1 := s1.1.symm
  have e3 : (tk L i).text = n := s1.2.1.symm
  have e4 : isT (tk L (i + 1)) [91] = true := by rw [isT_sim s2, isT_S]; rfl
  have e5 : ∀ s, isT (tk L (i + 1 + 1 + (exT x).length)) s = decide (([93] : List UInt8) = s) := fun s => by rw [isT_sim s3, isT_S]
  have hd' : d + 1 + hX x <= 60 := by
   have : d + (hX x + 1) <= 60 := hd
   omega
  have r1 := (hb L (d + 1) (i + 1 + 1) hd' g3 k3 (by rw [e5]; decide)).2 (by rw [signT_sim s3]; rfl)
  rw [oneW, dif_pos k1, if_neg (by simp [e1]), if_neg (by simp [e1]), if_neg (by simp [e1]), if_neg (by simp [e1]), if_neg (by rw [e2]; decide), if_neg (by rw [e2]; decide), if_pos e4, part_ok (seg_opens g3 (exT_opens x hox)) (by omega), r1]
  unfold wantR
  simp only
  rw [if_pos (by rw [e5]; rfl), e3]
  show Except.ok (Ex.mk 4 n 0 [x], i + 1 + 1 + (exT x).length + 1) = Except.ok (Ex.mk 4 n 0 [x], i + (tN n :: tS [91] :: (exT x ++ [tS [93]])).length)
  simp only [List.length_cons, List.length_append, List.length_nil]
  rw [show i + 1 + 1 + (exT x).length + 1 = i + ((exT x).length + (0 + 1) + 1 + 1) by omega]
 ·refine ⟨fun _ => ?_, fun h => absurd h (by decide)⟩
  have hox : okX x = true := by simpa [okXs] using h3
  have hb := ih x (by simp) hox
  have hh := (okX_weigh x hox).2.1
  simp only [exTs, hXs, List.headD_cons] at *
  obtain ⟨⟨k1, s1⟩, g1⟩ := Seg.cons (a := tS n) (b := sideTk x.kind (exT x)) hs
  have e1 : ∀ s, isT (tk L i) s = decide (n = s) := fun s => by rw [isT_sim s1, isT_S]
  have e3 : (tk L i).text = n := s1.2.1.symm
  have hd' : d + (sideH x.kind (hX x) + 1) <= 60 := hd
  have hsd : 0 <= sideH x.kind (hX x) := by unfold sideH; split <;> omega
  have hk' : i + ((sideTk x.kind (exT x)).length + 1) < L.length := hk
  have hn'' : isT (tk L (i + ((sideTk x.kind (exT x)).length + 1))) [91] = false := hn
  have r1 := side_back hox hb L (d + 1) (i + 1) (by omega) g1 (by omega) (by rw [show i + 1 + (sideTk x.kind (exT x)).length = i + ((sideTk x.kind (exT x)).length + 1) by omega]; exact hn'')
  rw [oneW, dif_pos k1, if_pos (by rw [e1, e1]; rcases hn' with rfl | rfl <;> simp), part_ok (seg_opens g1 (sideTk_opens (exT_opens x hox))) (by omega), r1, e3]
  simp [Nat.add_assoc, Nat.add_comm, Nat.add_left_comm]
 ·refine ⟨fun h => absurd rfl h, fun _ hsg => ?_⟩
  rw [okXs, okXs, okXs, Bool.and_true, Bool.and_eq_true] at h3
  have hbx := ih x (by simp) h3.1
  have hby := ih y (by simp) h3.2
  simp only [exTs, hXs, List.headD_cons, List.getLastD_cons, List.getLastD_nil] at *
  have hs' : Seg L i (sideTk x.kind (exT x) ++ tS n :: sideTk y.kind (exT y)) := hs
  have hk' : i + (sideTk x.kind (exT x) ++ tS n :: sideTk y.kind (exT y)).length < L.length := hk
  have hn'' : isT (tk L (i + (sideTk x.kind (exT x) ++ tS n :: sideTk y.kind (exT y)).length)) [91] = false := hn
  have hsg' : signT (tk L (i + (sideTk x.kind (exT x) ++ tS n :: sideTk y.kind (exT y)).length)) = 0 := hsg
  have hd' : d + max (sideH x.kind (hX x)) (sideH y.kind (hX y)) <= 60 := hd
  show tightW L 1 d i = .ok (.mk 6 n 0 [x, y], i + (sideTk x.kind (exT x) ++ tS n :: sideTk y.kind (exT y)).length)
  obtain ⟨g1, g2⟩ := hs'.app
  obtain ⟨⟨k2, s2⟩, g3⟩ := g2.cons
  rw [List.length_append, List.length_cons] at *
  have hnx : (sideTk x.kind (exT x)) ≠ [] := by
   obtain ⟨t, u, h4, _⟩ := sideTk_opens (k := x.kind) (exT_opens x h3.1)
   rw [h4]; simp
  have hny : (sideTk y.kind (exT y)) ≠ [] := by
   obtain ⟨t, u, h4, _⟩ := sideTk_opens (k := y.kind) (exT_opens y h3.2)
   rw [h4]; simp
  have px := List.length_pos_iff.2 hnx
  have py := List.length_pos_iff.2 hny
  generalize ea : (sideTk x.kind (exT x)).length = a at *
  generalize eb : (sideTk y.kind (exT y)).length = b at *
  have hl := level_signs hn'
  have e3 : (tk L (i + a)).text = n := s2.2.1.symm
  have e4 : signT (tk L (i + a)) = levelP n := by rw [signT_sim s2]; rfl
  have e5 : isT (tk L (i + a)) [91] = false := by
   rw [isT_sim s2, isT_S]
   rcases hl with rfl | rfl | rfl | rfl | rfl | rfl | rfl | rfl | rfl | rfl | rfl <;> rfl
  have hlp := (level_le n).2
  rw [levelT_P] at hlp
  have r1 := side_back h3.1 hbx L d i (by omega) g1 (by rw [ea]; exact k2) (by rw [ea]; exact e5)
  have r2 := side_back h3.2 hby L d (i + a + 1) (by omega) g3 (by rw [eb]; omega) (by rw [eb, show i + a + 1 + b = i + (a + (b + 1)) by omega]; exact hn'')
  rw [ea] at r1
  rw [eb, show i + a + 1 + b = i + (a + (b + 1)) by omega] at r2
  have r3 := tight_of_one (n := levelP n + 1) r2 (by omega) hk' hsg'
  rw [tightW, r1]
  simp only
  rw [dif_pos ⟨by omega, by omega⟩, loopW, dif_pos k2, if_neg (by rw [e4]; omega), e4, r3]
  simp only
  rw [dif_pos (by omega), loopW, dif_pos hk', if_pos (.inl hsg'), e3]
theorem wrT_N (n : List UInt8) : wrT (tN n) = n := rfl
theorem wrT_S (n : List UInt8) : wrT (tS n) = n := rfl
theorem sideTk_wr (k : Int) (w : List Tk) : (sideTk k w).map wrT = sideW k (w.map wrT) := by
 unfold sideTk sideW
 split <;> simp [wrT_S]
def GoodT (t : Tk) : Prop := wrOk t = true ∧ TkOk t
theorem good_S {s : List UInt8} (h : isSign s = true) (hl : s.length <= 2) : GoodT (tS s) := ⟨by simp [wrOk, tS, h], ⟨by show s.length <= _; omega, (by decide : (Lit.int .i64 4).wf = true), (by decide : (Lit.int .i64 0).wf = true), (by decide : (Lit.int .i64 0).wf = true)⟩⟩
theorem good_N {s : List UInt8} (h : isName (B s) = true) : GoodT (tN s) := ⟨by simp [wrOk, tN, h], ⟨by have := name_len h; show s.length <= _; omega, (by decide : (Lit.int .i64 1).wf = true), (by decide : (Lit.int .i64 0).wf = true), (by decide : (Lit.int .i64 0).wf = true)⟩⟩
theorem sideTk_good {k : Int} {w : List Tk} (h : ∀ t ∈ w, GoodT t) : ∀ t ∈ sideTk k w, GoodT t := by
 unfold sideTk
 split
 ·intro t ht
  rcases List.mem_cons.1 ht with rfl | ht
  ·exact good_S (by decide) (by decide)
  ·rcases List.mem_append.1 ht with ht | ht
   ·exact h t ht
   ·rw [List.mem_singleton.1 ht]; exact good_S (by decide) (by decide)
 ·exact h
theorem exT_words : ∀ x : Ex, okX x = true -> ExOk x -> (exT x).map wrT = exW x ∧ ∀ t ∈ exT x, GoodT t := by
 refine Ex.ind fun k n m l ih h ho => ?_
 obtain ⟨ok, on, om, ol, oh⟩ := ho.inv
 rw [okX, Bool.and_eq_true, Bool.and_eq_true] at h
 obtain ⟨⟨h1, h2⟩, h3⟩ := h
 rw [exT, exW]
 unfold tkK wK
 rcases plain_forms h1 with ⟨rfl, rfl, hm, rfl⟩ | ⟨rfl, rfl, hm, rfl⟩ | ⟨rfl, hn, rfl, rfl⟩ | ⟨rfl, hn, rfl, x, rfl⟩ | ⟨rfl, hn, rfl, x, rfl⟩ | ⟨rfl, hn, rfl, x, y, rfl⟩
 ·exact ⟨rfl, fun t ht => by rw [List.mem_singleton.1 ht]; exact ⟨by simp [wrOk, hm], ⟨by simp, (by decide : (Lit.int .i64 2).wf = true), om, (by decide : (Lit.int .i64 0).wf = true)⟩⟩⟩
 ·refine ⟨rfl, fun t ht => ?_⟩
  rw [List.mem_singleton.1 ht]
  rcases hm with rfl | rfl <;> exact ⟨by decide, ⟨by decide, by decide, by decide, by decide⟩⟩
 ·exact ⟨rfl, fun t ht => by rw [List.mem_singleton.1 ht]; exact good_N (by simpa [namedK] using h2)⟩
 ·obtain ⟨i1, i2⟩ := ih x (by simp) (by simpa [okXs] using h3) (oh x (by simp))
  refine ⟨by simp [exTs, exWs, wrT_N, wrT_S, i1], fun t ht => ?_⟩
  simp only [exTs, List.headD_cons] at ht
  rcases List.mem_cons.1 ht with rfl | ht
  ·exact good_N (by simpa [namedK] using h2)
  rcases List.mem_cons.1 ht with rfl | ht
  ·exact good_S (by decide) (by decide)
  rcases List.mem_append.1 ht with ht | ht
  ·exact i2 t ht
  ·rw [List.mem_singleton.1 ht]; exact good_S (by decide) (by decide)
 ·obtain ⟨i1, i2⟩ := ih x (by simp) (by simpa [okXs] using h3) (oh x (by simp))
  refine ⟨by simp [exTs, exWs, wrT_S, sideTk_wr, i1], fun t ht => ?_⟩
  simp only [exTs, List.headD_cons] at ht
  rcases List.mem_cons.1 ht with rfl | ht
  ·rcases hn with rfl | rfl <;> exact good_S (by decide) (by decide)
  ·exact sideTk_good i2 t ht
 ·rw [okXs, okXs, okXs, Bool.and_true, Bool.and_eq_true] at h3
  obtain ⟨i1, i2⟩ := ih x (by simp) h3.1 (oh x (by simp))
  obtain ⟨j1, j2⟩ := ih y (by simp) h3.2 (oh y (by simp))
  have hl := level_signs hn
  refine ⟨by simp [exTs, exWs, wrT_S, sideTk_wr, i1, j1], fun t ht => ?_⟩
  simp only [exTs, List.headD_cons, List.getLastD_cons, List.getLastD_nil] at ht
  rcases List.mem_append.1 ht with ht | ht
  ·exact sideTk_good i2 t ht
  rcases List.mem_cons.1 ht with rfl | ht
  ·rcases hl with rfl | rfl | rfl | rfl | rfl | rfl | rfl | rfl | rfl | rfl | rfl <;> exact good_S (by decide) (by decide)
  ·exact sideTk_good j2 t ht
def tI (n : Int) : Tk := ⟨2, [], n, 0⟩
def pairT (p : Pai) : List Tk := [tN [112, 97, 105, 114], tN p.procA, tN p.procB, tS [59]]
def sameT (p : Pai) : List Tk := [tN [115, 97, 109, 101], tN p.procA, tS [40], tN p.varA, tS [41], tN p.procB, tS [40], tN p.varB, tS [41], tS [59]]
def keepT (k : Kp) : List Tk := [tN [107, 101, 101, 112], tN (sideT k.side), tN k.prc, tN k.vr, tS [59]]
def whenT : List Ex -> List Tk
 | [] => []
 | x :: l => tN [119, 104, 101, 110] :: (exT x ++ whenT l)
def breakT (b : Bk) : List Tk := tN [98, 114, 101, 97, 107] :: tN (sideT b.side) :: tN b.prc :: tI b.mark :: (whenT b.whn ++ [tS [59]])
def watchT (k : Wt) : List Tk := [tN [119, 97, 116, 99, 104], tN (sideT k.side), tN k.prc, tN k.vr, tS [59]]
def linesT {α : Type} (w : α -> List Tk) : List α -> List Tk
 | [] => []
 | x :: l => w x ++ linesT w l
def fileT (f : Fl) : List Tk := linesT pairT f.pairs ++ (linesT sameT f.sames ++ (linesT keepT f.keeps ++ (linesT breakT f.breaks ++ linesT watchT f.watches)))
section
variable {l : List Tk}
theorem isW_sim {a b : Tk} (h : SimT a b) (s : List UInt8) : isW b s = isW a s := by unfold isW; rw [h.1, h.2.1]
theorem isS_sim {a b : Tk} (h : SimT a b) (s : List UInt8) : isS b s = isS a s := by unfold isS; rw [h.1, h.2.1]
theorem isW_N (n s : List UInt8) : isW (tN n) s = decide (n = s) := rfl
theorem isW_S (n s : List UInt8) : isW (tS n) s = false := by simp [isW, tS]
theorem nameR_sim {s : List UInt8} {k : Nat} (h : SimT (tN s) (tk l k)) : nameR l k = .ok (s, k + 1) := by
 unfold nameR; rw [if_pos (show (tk l k).kind = 1 from h.1.symm), <- h.2.1]; rfl
theorem signR_sim {s : List UInt8} {k : Nat} (h : SimT (tS s) (tk l k)) : signR l s k = .ok ((), k + 1) := by
 unfold signR; rw [isS_sim h, if_pos (by simp [isS, tS])]
theorem intR_sim {n : Int} {k : Nat} (h : SimT (tI n) (tk l k)) : intR l k = .ok (n, k + 1) := by
 unfold intR; rw [if_pos (show (tk l k).kind = 2 from h.1.symm), <- h.2.2]; rfl
theorem sideR_sim {n : Int} (hn : sideK n = true) {k : Nat} (h : SimT (tN (sideT n)) (tk l k)) : sideR l k = .ok (n, k + 1) := by
 have hn : n = 0 ∨ n = 1 := by
  unfold sideK at hn
  simpa only [Bool.or_eq_true, decide_eq_true_eq] using hn
 unfold sideR
 rw [isW_sim h, isW_sim h, isW_N, isW_N]
 rcases hn with rfl | rfl <;> rfl
theorem line_pair {p : Pai} (ho : okPair p = true) {f : Fl} {k : Nat} (hc : f.pairs.length < 40) (h : Seg l k (pairT p)) : lineR l f k = .ok ({ f with pairs := f.pairs ++ [p] }, k + (pairT p).length) := by
 unfold pairT at *
 obtain ⟨⟨_, s0⟩, h⟩ := h.cons
 obtain ⟨⟨_, s1⟩, h⟩ := h.cons
 obtain ⟨⟨_, s2⟩, h⟩ := h.cons
 obtain ⟨⟨_, s3⟩, h⟩ := h.cons
 have e0 : ∀ s, isW (tk l k) s = decide (([112, 97, 105, 114] : List UInt8) = s) := fun s => by rw [isW_sim s0, isW_N]
 unfold okPair at ho
 simp only [Bool.and_eq_true, decide_eq_true_eq] at ho
 have hc' : ¬ (40 <= f.pairs.length) := by omega
 have hp : (⟨p.procA, p.procB, [], []⟩ : Pai) = p := by cases p; simp only at ho; obtain ⟨⟨_, rfl⟩, rfl⟩ := ho; rfl
 simp [lineR, itemR, fullR, andR, e0, hc', nameR_sim s1, nameR_sim s2, signR_sim s3, hp]
theorem line_same {p : Pai} {f : Fl} {k : Nat} (hc : f.sames.length < 40) (h : Seg l k (sameT p)) : lineR l f k = .ok ({ f with sames := f.sames ++ [p] }, k + (sameT p).length) := by
 unfold sameT at *
 obtain ⟨⟨_, s0⟩, h⟩ := h.cons
 obtain ⟨⟨_, s1⟩, h⟩ := h.cons
 obtain ⟨⟨_, s2⟩, h⟩ := h.cons
 obtain ⟨⟨_, s3⟩, h⟩ := h.cons
 obtain ⟨⟨_, s4⟩, h⟩ := h.cons
 obtain ⟨⟨_, s5⟩, h⟩ := h.cons
 obtain ⟨⟨_, s6⟩, h⟩ := h.cons
 obtain ⟨⟨_, s7⟩, h⟩ := h.cons
 obtain ⟨⟨_, s8⟩, h⟩ := h.cons
 obtain ⟨⟨_, s9⟩, h⟩ := h.cons
 have e0 : ∀ s, isW (tk l k) s = decide (([115, 97, 109, 101] : List UInt8) = s) := fun s => by rw [isW_sim s0, isW_N]
 have hc' : ¬ (40 <= f.sames.length) := by omega
 simp [lineR, itemR, sameR, halfR, fullR, andR, e0, hc', nameR_sim s1, signR_sim s2, nameR_sim s3, signR_sim s4, nameR_sim s5, signR_sim s6, nameR_sim s7, signR_sim s8, signR_sim s9]
theorem line_keep {p : Kp} (ho : okKeep p = true) {f : Fl} {k : Nat} (hc : f.keeps.length < 40) (h : Seg l k (keepT p)) : lineR l f k = .ok ({ f with keeps := f.keeps ++ [p] }, k + (keepT p).length) := by
 unfold keepT at *
 obtain ⟨⟨_, s0⟩, h⟩ := h.cons
 obtain ⟨⟨_, s1⟩, h⟩ := h.cons
 obtain ⟨⟨_, s2⟩, h⟩ := h.cons
 obtain ⟨⟨_, s3⟩, h⟩ := h.cons
 obtain ⟨⟨_, s4⟩, h⟩ := h.cons
 have e0 : ∀ s, isW (tk l k) s = decide (([107, 101, 101, 112] : List UInt8) = s) := fun s => by rw [isW_sim s0, isW_N]
 unfold okKeep at ho
 simp only [Bool.and_eq_true, decide_eq_true_eq] at ho
 have hc' : ¬ (40 <= f.keeps.length) := by omega
 simp [lineR, itemR, keepR, fullR, andR, e0, hc', sideR_sim ho.2 s1, nameR_sim s2, nameR_sim s3, signR_sim s4]
theorem line_watch {p : Wt} (ho : okWatch p = true) {f : Fl} {k : Nat} (hc : f.watches.length < 40) (h : Seg l k (watchT p)) : lineR l f k = .ok ({ f with watches := f.watches ++ [p] }, k + (watchT p).length) := by
 unfold watchT at *
 obtain ⟨⟨_, s0⟩, h⟩ := h.cons
 obtain ⟨⟨_, s1⟩, h⟩ := h.cons
 obtain ⟨⟨_, s2⟩, h⟩ := h.cons
 obtain ⟨⟨_, s3⟩, h⟩ := h.cons
 obtain ⟨⟨_, s4⟩, h⟩ := h.cons
 have e0 : ∀ s, isW (tk l k) s = decide (([119, 97, 116, 99, 104] : List UInt8) = s) := fun s => by rw [isW_sim s0, isW_N]
 unfold okWatch at ho
 simp only [Bool.and_eq_true, decide_eq_true_eq] at ho
 have hc' : ¬ (40 <= f.watches.length) := by omega
 simp [lineR, itemR, keepR, fullR, andR, e0, hc', sideR_sim ho.2 s1, nameR_sim s2, nameR_sim s3, signR_sim s4]
theorem prX_ok {x : Ex} (h : (prX x).2 = 0) : okX x = true ∧ 1 + hX x <= 60 ∧ (prX x).1 = joinL (exW x) := by
 unfold prX at *
 split at h
 ·rename_i c
  split at h
  ·cases h
  ·rename_i c2
   rw [if_pos c, if_neg c2]
   exact ⟨c, by omega, rfl⟩
 ·cases h
theorem line_break {b : Bk} (ho : okBreak b = true) {f : Fl} {k : Nat} (hc : f.breaks.length < 40) (h : Seg l k (breakT b)) : lineR l f k = .ok ({ f with breaks := f.breaks ++ [b] }, k + (breakT b).length) := by
 unfold breakT at *
 obtain ⟨⟨_, s0⟩, h⟩ := h.cons
 obtain ⟨⟨_, s1⟩, h⟩ := h.cons
 obtain ⟨⟨_, s2⟩, h⟩ := h.cons
 obtain ⟨⟨_, s3⟩, h⟩ := h.cons
 have e0 : ∀ s, isW (tk l k) s = decide (([98, 114, 101, 97, 107] : List UInt8) = s) := fun s => by rw [isW_sim s0, isW_N]
 unfold okBreak at ho
 simp only [Bool.and_eq_true, decide_eq_true_eq] at ho
 have hc' : ¬ (40 <= f.breaks.length) := by omega
 obtain ⟨side, prc, mark, whn⟩ := b
 simp only at *
 match whn, ho with
 | [], ho =>
  have h' : Seg l (k + 1 + 1 + 1 + 1) [tS [59]] := h
  obtain ⟨⟨_, s4⟩, _⟩ := h'.cons
  have e4 : ∀ s, isW (tk l (k + 1 + 1 + 1 + 1)) s = false := fun s => by rw [isW_sim s4, isW_S]
  simp [lineR, itemR, stopR, whenR, whenT, fullR, andR, e0, hc', sideR_sim ho.1.1.1.2 s1, nameR_sim s2, intR_sim s3, e4, signR_sim s4]
 | [x], ho =>
  have hx : (prX x).2 = 0 := by simpa [okWhen] using ho.2
  obtain ⟨x1, x2, _⟩ := prX_ok hx
  have h' : Seg l (k + 1 + 1 + 1 + 1) (tN [119, 104, 101, 110] :: (exT x ++ [tS [59]])) := by simpa [whenT] using h
  obtain ⟨⟨_, s4⟩, h⟩ := h'.cons
  obtain ⟨g1, h⟩ := h.app
  obtain ⟨⟨k5, s5⟩, _⟩ := h.cons
  have e4 : ∀ s, isW (tk l (k + 1 + 1 + 1 + 1)) s = decide (([119, 104, 101, 110] : List UInt8) = s) := fun s => by rw [isW_sim s4, isW_N]
  have e5 := (back_x x x1 l 1 (k + 1 + 1 + 1 + 1 + 1) x2 g1 k5 (by rw [isT_sim s5]; rfl)).2 (by rw [signT_sim s5]; rfl)
  have e6 := part_ok (l := l) (d := 1) (k := k + 1 + 1 + 1 + 1 + 1) (r := tightW l 1 1 (k + 1 + 1 + 1 + 1 + 1)) (seg_opens g1 (exT_opens x x1)) (by decide)
  have e56 := e6.trans e5
  simp [lineR, itemR, stopR, whenR, whenT, fullR, andR, e0, hc', sideR_sim ho.1.1.1.2 s1, nameR_sim s2, intR_sim s3, e4, e56, signR_sim s5]
  omega
 | x :: y :: r, ho =>
  have := ho.1.2
  simp only [List.length_cons] at this
  omega
theorem reads_lines {α : Type} (w : α -> List Tk) (add : Fl -> α -> Fl) (cnt : Fl -> Nat) (ok : α -> Prop) (hw : ∀ p, ∃ t u, w p = t :: u ∧ t.kind ≠ 0) (hc : ∀ f p, cnt (add f p) = cnt f + 1)
  (step : ∀ f p k, ok p -> cnt f < 40 -> Seg l k (w p) -> lineR l f k = .ok (add f p, k + (w p).length)) :
  ∀ (ps : List α) (f : Fl) (k n : Nat), (∀ p ∈ ps, ok p) -> cnt f + ps.length <= 40 -> Seg l k (linesT w ps) -> fileR l (n + ps.length) f k = fileR l n (ps.foldl add f) (k + (linesT w ps).length)
 | [], f, k, n, _, _, _ => rfl
 | p :: ps, f, k, n, ho, hn, h => by
  rw [List.length_cons] at hn
  obtain ⟨h1, h2⟩ := Seg.app (a := w p) (b := linesT w ps) h
  obtain ⟨t, u, h3, h4⟩ := hw p
  have h5 : (tk l k).kind ≠ 0 := by
   rw [h3] at h1
   rw [<- h1.cons.1.2.1]; exact h4
  have h6 := step f p k (ho p List.mem_cons_self) (by omega) h1
  show fileR l ((n + ps.length) + 1) f k = _
  rw [fileR, if_neg h5, h6]
  simp only
  rw [reads_lines w add cnt ok hw hc step ps (add f p) _ n (fun q hq => ho q (List.mem_cons_of_mem _ hq)) (by rw [hc]; omega) h2]
  simp [linesT, Nat.add_assoc]
theorem allK_mem {α : Type} {o : α -> Bool} : ∀ {l : List α}, allK o l = true -> ∀ p ∈ l, o p = true
 | x :: l, h, p, hp => by
  rw [allK, Bool.and_eq_true] at h
  rcases List.mem_cons.1 hp with rfl | hp
  ·exact h.1
  ·exact allK_mem h.2 p hp
theorem fold_pairs : ∀ (ps : List Pai) (f : Fl), ps.foldl (fun f p => { f with pairs := f.pairs ++ [p] }) f = { f with pairs := f.pairs ++ ps }
 | [], f => by simp
 | p :: ps, f => by rw [List.foldl_cons, fold_pairs ps]; simp
theorem fold_sames : ∀ (ps : List Pai) (f : Fl), ps.foldl (fun f p => { f with sames := f.sames ++ [p] }) f = { f with sames := f.sames ++ ps }
 | [], f => by simp
 | p :: ps, f => by rw [List.foldl_cons, fold_sames ps]; simp
theorem fold_keeps : ∀ (ps : List Kp) (f : Fl), ps.foldl (fun f p => { f with keeps := f.keeps ++ [p] }) f = { f with keeps := f.keeps ++ ps }
 | [], f => by simp
 | p :: ps, f => by rw [List.foldl_cons, fold_keeps ps]; simp
theorem fold_breaks : ∀ (ps : List Bk) (f : Fl), ps.foldl (fun f p => { f with breaks := f.breaks ++ [p] }) f = { f with breaks := f.breaks ++ ps }
 | [], f => by simp
 | p :: ps, f => by rw [List.foldl_cons, fold_breaks ps]; simp
theorem fold_watches : ∀ (ps : List Wt) (f : Fl), ps.foldl (fun f p => { f with watches := f.watches ++ [p] }) f = { f with watches := f.watches ++ ps }
 | [], f => by simp
 | p :: ps, f => by rw [List.foldl_cons, fold_watches ps]; simp
theorem fileR_back {f : Fl} (ho : okFile f = true) (hf : longF f = false) (h : Seg l 0 (fileT f)) (he : (tk l (fileT f).length).kind = 0) (n : Nat) :
  fileR l (n + 1 + f.watches.length + f.breaks.length + f.keeps.length + f.sames.length + f.pairs.length) emptyF 0 = .ok f := by
 unfold okFile at ho
 simp only [Bool.and_eq_true] at ho
 obtain ⟨o1, o2, o3, o4, o5⟩ := ho
 unfold longF at hf
 simp only [Bool.or_eq_false_iff, decide_eq_false_iff_not, Nat.not_lt] at hf
 obtain ⟨⟨⟨⟨c1, c2⟩, c3⟩, c4⟩, c5⟩ := hf
 unfold fileT at h he
 obtain ⟨h1, h⟩ := h.app
 obtain ⟨h2, h⟩ := h.app
 obtain ⟨h3, h⟩ := h.app
 obtain ⟨h4, h5⟩ := h.app
 rw [reads_lines pairT (fun f p => { f with pairs := f.pairs ++ [p] }) (fun f => f.pairs.length) (fun p => okPair p = true) (fun p => ⟨_, _, rfl, by decide⟩) (fun f p => by simp) (fun f p k a b c => line_pair a b c) f.pairs emptyF 0 _ (allK_mem o1) (by show 0 + _ <= 40; omega) h1, fold_pairs]
 rw [reads_lines sameT (fun f p => { f with sames := f.sames ++ [p] }) (fun f => f.sames.length) (fun p => okSame p = true) (fun p => ⟨_, _, rfl, by decide⟩) (fun f p => by simp) (fun f p k a b c => line_same b c) f.sames _ _ _ (allK_mem o2) (by show 0 + _ <= 40; omega) h2, fold_sames]
 rw [reads_lines keepT (fun f p => { f with keeps := f.keeps ++ [p] }) (fun f => f.keeps.length) (fun p => okKeep p = true) (fun p => ⟨_, _, rfl, by decide⟩) (fun f p => by simp) (fun f p k a b c => line_keep a b c) f.keeps _ _ _ (allK_mem o3) (by show 0 + _ <= 40; omega) h3, fold_keeps]
 rw [reads_lines breakT (fun f p => { f with breaks := f.breaks ++ [p] }) (fun f => f.breaks.length) (fun p => okBreak p = true) (fun p => ⟨_, _, rfl, by decide⟩) (fun f p => by simp) (fun f p k a b c => line_break a b c) f.breaks _ _ _ (allK_mem o4) (by show 0 + _ <= 40; omega) h4, fold_breaks]
 rw [reads_lines watchT (fun f p => { f with watches := f.watches ++ [p] }) (fun f => f.watches.length) (fun p => okWatch p = true) (fun p => ⟨_, _, rfl, by decide⟩) (fun f p => by simp) (fun f p k a b c => line_watch a b c) f.watches _ _ _ (allK_mem o5) (by show 0 + _ <= 40; omega) h5, fold_watches]
 rw [fileR, if_pos]
 ·simp [emptyF]
 ·rw [<- he]
  congr 2
  simp only [List.length_append]; omega
end
def Alike (a b : List (List UInt8)) : Prop := joinL a = joinL b ∧ (a = [] ↔ b = [])
theorem Alike.refl (a : List (List UInt8)) : Alike a a := ⟨rfl, Iff.rfl⟩
theorem Alike.app {a b c d : List (List UInt8)} (h : Alike a c) (g : Alike b d) : Alike (a ++ b) (c ++ d) := by
 refine ⟨?_, by rw [List.append_eq_nil_iff, List.append_eq_nil_iff, h.2, g.2]⟩
 by_cases ha : a = []
 ·have hc := h.2.1 ha
  rw [ha, hc]; exact g.1
 ·have hc : c ≠ [] := fun e => ha (h.2.2 e)
  by_cases hb : b = []
  ·have hd := g.2.1 hb
   rw [hb, hd, List.append_nil, List.append_nil]; exact h.1
  ·have hd : d ≠ [] := fun e => hb (g.2.2 e)
   rw [joinL_app a ha hb, joinL_app c hc hd, h.1, g.1]
theorem Alike.one {a : List (List UInt8)} (h : a ≠ []) : Alike a [joinL a] := ⟨rfl, by simp [h]⟩
theorem whenT_alike : ∀ {l : List Ex}, okWhen l = true -> (∀ x ∈ l, ExOk x) -> Alike ((whenT l).map wrT) (whenW l) ∧ ∀ t ∈ whenT l, GoodT t
 | [], _, _ => ⟨Alike.refl _, nofun⟩
 | x :: l, h, ho => by
  rw [okWhen, Bool.and_eq_true, decide_eq_true_eq] at h
  obtain ⟨x1, _, x3⟩ := prX_ok h.1
  obtain ⟨w1, w2⟩ := exT_words x x1 (ho x List.mem_cons_self)
  obtain ⟨i1, i2⟩ := whenT_alike h.2 fun y hy => ho y (List.mem_cons_of_mem _ hy)
  refine ⟨?_, fun t ht => ?_⟩
  ·rw [whenT, whenW, x3, List.map_cons, List.map_append, w1, wrT_N]
   exact Alike.app (Alike.refl [[119, 104, 101, 110]]) (Alike.app (c := [joinL (exW x)]) (Alike.one (exW_ne x)) i1)
  ·rw [whenT] at ht
   rcases List.mem_cons.1 ht with rfl | ht
   ·exact good_N (by decide)
   rcases List.mem_append.1 ht with ht | ht
   ·exact w2 t ht
   ·exact i2 t ht
theorem breakT_alike {b : Bk} (h : okBreak b = true) (ho : BkOk b) : Alike ((breakT b).map wrT) (breakW b) ∧ ∀ t ∈ breakT b, GoodT t := by
 unfold okBreak at h
 simp only [Bool.and_eq_true, decide_eq_true_eq] at h
 obtain ⟨i1, i2⟩ := whenT_alike h.2 ho.whn.2
 refine ⟨?_, fun t ht => ?_⟩
 ·unfold breakT breakW
  rw [List.map_cons, List.map_cons, List.map_cons, List.map_cons, List.map_append]
  exact Alike.app (a := [_, _, _, _]) (c := [_, _, _, _]) (Alike.refl _) (i1.app (Alike.refl _))
 ·unfold breakT at ht
  rcases List.mem_cons.1 ht with rfl | ht
  ·exact good_N (by decide)
  rcases List.mem_cons.1 ht with rfl | ht
  ·exact good_N (sideT_isN _)
  rcases List.mem_cons.1 ht with rfl | ht
  ·exact good_N h.1.1.1.1
  rcases List.mem_cons.1 ht with rfl | ht
  ·exact ⟨by simp [wrOk, tI, h.1.1.2], ⟨by simp [tI], (by decide : (Lit.int .i64 2).wf = true), ho.mark, (by decide : (Lit.int .i64 0).wf = true)⟩⟩
  rcases List.mem_append.1 ht with ht | ht
  ·exact i2 t ht
  ·rw [List.mem_singleton.1 ht]; exact good_S (by decide) (by decide)
theorem pairT_alike {p : Pai} (h : okPair p = true) : Alike ((pairT p).map wrT) (pairW p) ∧ ∀ t ∈ pairT p, GoodT t := by
 unfold okPair at h
 simp only [Bool.and_eq_true, decide_eq_true_eq] at h
 refine ⟨Alike.refl _, fun t ht => ?_⟩
 simp only [pairT, List.mem_cons, List.not_mem_nil, or_false] at ht
 rcases ht with rfl | rfl | rfl | rfl
 ·exact good_N (by decide)
 ·exact good_N h.1.1.1
 ·exact good_N h.1.1.2
 ·exact good_S (by decide) (by decide)
theorem sameT_alike {p : Pai} (h : okSame p = true) : Alike ((sameT p).map wrT) (sameW p) ∧ ∀ t ∈ sameT p, GoodT t := by
 unfold okSame at h
 simp only [Bool.and_eq_true, decide_eq_true_eq] at h
 refine ⟨Alike.refl _, fun t ht => ?_⟩
 simp only [sameT, List.mem_cons, List.not_mem_nil, or_false] at ht
 rcases ht with rfl | rfl | rfl | rfl | rfl | rfl | rfl | rfl | rfl | rfl
 ·exact good_N (by decide)
 ·exact good_N h.1.1.1
 ·exact good_S (by decide) (by decide)
 ·exact good_N h.1.2
 ·exact good_S (by decide) (by decide)
 ·exact good_N h.1.1.2
 ·exact good_S (by decide) (by decide)
 ·exact good_N h.2
 ·exact good_S (by decide) (by decide)
 ·exact good_S (by decide) (by decide)
theorem keepT_alike {p : Kp} (h : okKeep p = true) : Alike ((keepT p).map wrT) (keepW p) ∧ ∀ t ∈ keepT p, GoodT t := by
 unfold okKeep at h
 simp only [Bool.and_eq_true, decide_eq_true_eq] at h
 refine ⟨Alike.refl _, fun t ht => ?_⟩
 simp only [keepT, List.mem_cons, List.not_mem_nil, or_false] at ht
 rcases ht with rfl | rfl | rfl | rfl | rfl
 ·exact good_N (by decide)
 ·exact good_N (sideT_isN _)
 ·exact good_N h.1.1
 ·exact good_N h.1.2
 ·exact good_S (by decide) (by decide)
theorem watchT_alike {p : Wt} (h : okWatch p = true) : Alike ((watchT p).map wrT) (watchW p) ∧ ∀ t ∈ watchT p, GoodT t := by
 unfold okWatch at h
 simp only [Bool.and_eq_true, decide_eq_true_eq] at h
 refine ⟨Alike.refl _, fun t ht => ?_⟩
 simp only [watchT, List.mem_cons, List.not_mem_nil, or_false] at ht
 rcases ht with rfl | rfl | rfl | rfl | rfl
 ·exact good_N (by decide)
 ·exact good_N (sideT_isN _)
 ·exact good_N h.1.1
 ·exact good_N h.1.2
 ·exact good_S (by decide) (by decide)
theorem linesT_alike {α : Type} {w : α -> List Tk} {v : α -> List (List UInt8)} : ∀ {ps : List α}, (∀ p ∈ ps, Alike ((w p).map wrT) (v p) ∧ ∀ t ∈ w p, GoodT t) -> Alike ((linesT w ps).map wrT) (linesW v ps) ∧ ∀ t ∈ linesT w ps, GoodT t
 | [], _ => ⟨Alike.refl _, nofun⟩
 | p :: ps, h => by
  obtain ⟨h1, h2⟩ := h p List.mem_cons_self
  obtain ⟨i1, i2⟩ := linesT_alike (ps := ps) fun q hq => h q (List.mem_cons_of_mem _ hq)
  refine ⟨?_, fun t ht => ?_⟩
  ·rw [linesT, linesW, List.map_append]; exact h1.app i1
  ·rw [linesT] at ht
   exact (List.mem_append.1 ht).elim (h2 t) (i2 t)
theorem fileT_alike {f : Fl} (ho : okFile f = true) (hf : FlOk f) : joinL ((fileT f).map wrT) = joinL (fileW f) ∧ ∀ t ∈ fileT f, GoodT t := by
 unfold okFile at ho
 simp only [Bool.and_eq_true] at ho
 obtain ⟨o1, o2, o3, o4, o5⟩ := ho
 have h1 := linesT_alike (w := pairT) (v := pairW) fun p hp => pairT_alike (allK_mem o1 p hp)
 have h2 := linesT_alike (w := sameT) (v := sameW) fun p hp => sameT_alike (allK_mem o2 p hp)
 have h3 := linesT_alike (w := keepT) (v := keepW) fun p hp => keepT_alike (allK_mem o3 p hp)
 have h4 := linesT_alike (w := breakT) (v := breakW) fun p hp => breakT_alike (allK_mem o4 p hp) (hf.breaks.2 p hp)
 have h5 := linesT_alike (w := watchT) (v := watchW) fun p hp => watchT_alike (allK_mem o5 p hp)
 unfold fileT fileW
 refine ⟨?_, fun t ht => ?_⟩
 ·simp only [List.map_append]
  exact (h1.1.app (h2.1.app (h3.1.app (h4.1.app h5.1)))).1
 ·simp only [List.mem_append] at ht
  rcases ht with ht | ht | ht | ht | ht
  ·exact h1.2 t ht
  ·exact h2.2 t ht
  ·exact h3.2 t ht
  ·exact h4.2 t ht
  ·exact h5.2 t ht
end Go.Proofs.YtmhnmelaodhemaaDoor
namespace Go.Proofs.YtmhnmelaodhemaaDoor
open Go Go.Proofs.Ab Go.Proofs.Px
def tailW : List (List UInt8) -> List UInt8
 | [] => []
 | w :: ws => 32 :: joinL (w :: ws)
theorem joinL_tail (w : List UInt8) (ws : List (List UInt8)) : joinL (w :: ws) = w ++ tailW ws := by
 cases ws with
 | nil => simp [joinL, tailW]
 | cons v ws => rfl
theorem tailW_tail (ws : List (List UInt8)) : Tail (tailW ws) := by
 cases ws with
 | nil => exact .inl rfl
 | cons v ws => exact .inr ⟨_, rfl⟩
theorem sk_tail {ts : List Tk} (hw : ∀ t ∈ ts, wrOk t = true ∧ TkOk t) : sk false (joinL (ts.map wrT)) = joinL (ts.map wrT) ∧ sk false (tailW (ts.map wrT)) = joinL (ts.map wrT) := by
 cases ts with
 | nil => exact ⟨rfl, rfl⟩
 | cons t ts =>
  have h1 := hw t List.mem_cons_self
  have h2 : sk false (joinL ((t :: ts).map wrT)) = joinL ((t :: ts).map wrT) := by
   rw [List.map_cons, joinL_tail]
   exact sk_back h1.1 h1.2 _
  refine ⟨h2, ?_⟩
  have h3 : tailW ((t :: ts).map wrT) = 32 :: joinL ((t :: ts).map wrT) := rfl
  rw [h3, sk, if_neg (by decide), if_neg (fun h => Bool.noConfusion h), if_pos rfl, h2]
theorem scan_back : ∀ (ts : List Tk) (f n : Nat) (xs out : List Tk) (last : Tk) (r : List UInt8), (∀ t ∈ ts, wrOk t = true ∧ TkOk t) -> sk false r = joinL (ts.map wrT) -> ts.length < f -> Sim xs out -> out.length <= 4000 -> endT last = true ->
  if 4000 <= out.length + ts.length then ∃ a, scanGo f n out r = ([], a, 2) else ∃ us, scanGo f n out r = (us, 0, 0) ∧ Sim (xs ++ ts ++ [last]) us
 | [], f, n, xs, out, last, r, hw, hr, hf, hs, ho, hl => by
  obtain ⟨f, rfl⟩ : ∃ k, f = k + 1 := ⟨f - 1, by simp at hf; omega⟩
  have hr : sk false r = [] := hr
  rw [scanGo_succ, hr]
  have hn : next [] (((n - ([] : List UInt8).length : Nat) : Int)) = (⟨0, [], 0, ((n - ([] : List UInt8).length : Nat) : Int)⟩, 0, true) := rfl
  rw [hn]
  dsimp only
  rw [if_neg (fun h => Bool.noConfusion h)]
  by_cases h4 : 4000 <= out.length + ([] : List Tk).length
  ·rw [if_pos h4, if_pos (by simp at h4; omega)]
   exact ⟨_, rfl⟩
  ·rw [if_neg h4, if_neg (by simp at h4; omega), if_pos rfl]
   refine ⟨_, rfl, ?_⟩
   rw [List.append_nil]
   refine hs.snoc ?_
   unfold endT at hl
   simp only [Bool.and_eq_true, decide_eq_true_eq] at hl
   exact ⟨hl.1.1, hl.1.2, hl.2⟩
 | t :: ts, f, n, xs, out, last, r, hw, hr, hf, hs, ho, hl => by
  obtain ⟨f, rfl⟩ : ∃ k, f = k + 1 := ⟨f - 1, by simp at hf; omega⟩
  have ht := hw t List.mem_cons_self
  have hts : ∀ u ∈ ts, wrOk u = true ∧ TkOk u := fun u hu => hw u (List.mem_cons_of_mem _ hu)
  rw [List.map_cons, joinL_tail] at hr
  rw [scanGo_succ, hr]
  generalize (((n - (wrT t ++ tailW (ts.map wrT)).length : Nat) : Int)) = a
  have hnx := (next_back ht.1 ht.2 (tailW_tail (ts.map wrT)) a).1
  rw [hnx]
  dsimp only
  have hk0 : t.kind ≠ 0 := fun h => by
   have := ht.1
   unfold wrOk at this
   rw [h] at this
   simp at this
  rw [if_neg (fun h => Bool.noConfusion h), if_neg hk0]
  rw [List.drop_append_of_le_length (Nat.le_refl _), List.drop_length, List.nil_append]
  have hsk := (sk_tail hts).2
  by_cases h4 : out.length = 4000
  ·rw [if_pos h4, if_pos (by omega)]
   exact ⟨_, rfl⟩
  ·rw [if_neg h4]
   have ih := scan_back ts f n (xs ++ [t]) (out ++ [⟨t.kind, t.text, t.num, a⟩]) last (tailW (ts.map wrT)) hts hsk (by simp at hf; omega) (hs.snoc ⟨rfl, rfl, rfl⟩) (by rw [List.length_append, List.length_singleton]; omega) hl
   rw [List.length_append, List.length_singleton] at ih
   rw [List.length_cons]
   have e : out.length + 1 + ts.length = out.length + (ts.length + 1) := by omega
   rw [e] at ih
   by_cases h5 : 4000 <= out.length + (ts.length + 1)
   ·rw [if_pos h5] at ih ⊢
    exact ih
   ·rw [if_neg h5] at ih ⊢
    obtain ⟨us, h6, h7⟩ := ih
    refine ⟨us, h6, ?_⟩
    simpa using h7
theorem joinL_count : ∀ ws : List (List UInt8), (∀ w ∈ ws, w ≠ []) -> ws.length <= (joinL ws).length
 | [], _ => Nat.zero_le _
 | w :: ws, h => by
  have h1 := List.length_pos_iff.2 (h w List.mem_cons_self)
  have h2 := joinL_count ws fun v hv => h v (List.mem_cons_of_mem _ hv)
  rw [joinL_tail, List.length_append]
  cases ws with
  | nil => simp; omega
  | cons v ws =>
   show (v :: ws).length + 1 <= w.length + (32 :: joinL (v :: ws)).length
   rw [List.length_cons (a := (32 : UInt8))]; omega
theorem scan_words {ts : List Tk} (hw : ∀ t ∈ ts, wrOk t = true ∧ TkOk t) : (∃ a, scan (joinL (ts.map wrT)) = ([], a, 2) ∧ 4000 < (joinL (ts.map wrT)).length + 1 ∧ ((joinL (ts.map wrT)).length <= 16384 -> 4000 <= ts.length)) ∨
  ((joinL (ts.map wrT)).length <= 16384 ∧ ts.length < 4000 ∧ ∃ us, scan (joinL (ts.map wrT)) = (us, 0, 0) ∧ Sim (ts ++ [⟨0, [], 0, 0⟩]) us) := by
 have hne : ∀ w ∈ ts.map wrT, w ≠ [] := fun w h => by
  obtain ⟨t, ht, rfl⟩ := List.mem_map.1 h
  exact (next_back (hw t ht).1 (hw t ht).2 (.inl rfl) 0).2
 have hc := joinL_count _ hne
 rw [List.length_map] at hc
 unfold scan
 by_cases h1 : (joinL (ts.map wrT)).length > 16384
 ·rw [if_pos h1]
  exact .inl ⟨0, rfl, by omega, fun h => by omega⟩
 ·rw [if_neg h1]
  have hsc := scan_back ts ((joinL (ts.map wrT)).length + 1) (joinL (ts.map wrT)).length [] [] ⟨0, [], 0, 0⟩ (joinL (ts.map wrT)) hw (sk_tail hw).1 (by omega) Sim.nil (by simp) rfl
  rw [List.length_nil, Nat.zero_add] at hsc
  by_cases h4 : 4000 <= ts.length
  ·rw [if_pos h4] at hsc
   obtain ⟨a, ha⟩ := hsc
   exact .inl ⟨a, ha, by omega, fun _ => h4⟩
  ·rw [if_neg h4] at hsc
   obtain ⟨us, hu, hs⟩ := hsc
   exact .inr ⟨by omega, by omega, us, hu, by simpa using hs⟩
theorem tk_at {l : List Tk} {k : Nat} (h : k < l.length) : tk l k = l[k] := by
 unfold tk
 rw [List.getD_eq_getElem?_getD, List.getElem?_eq_getElem h]; rfl
theorem joinL_dbl : ∀ ws : List (List UInt8), (∀ w ∈ ws, w ≠ []) -> 2 * ws.length <= (joinL ws).length + 1
 | [], _ => by simp [joinL]
 | [w], h => by
  have h1 := List.length_pos_iff.2 (h w List.mem_cons_self)
  show 2 * 1 <= w.length + 1
  omega
 | w :: v :: ws, h => by
  have h1 := List.length_pos_iff.2 (h w List.mem_cons_self)
  have h2 := joinL_dbl (v :: ws) fun u hu => h u (List.mem_cons_of_mem _ hu)
  have h3 : (joinL (w :: v :: ws)).length = w.length + ((joinL (v :: ws)).length + 1) := by
   show (w ++ (32 :: joinL (v :: ws))).length = _
   rw [List.length_append, List.length_cons]
  have h4 : (w :: v :: ws).length = (v :: ws).length + 1 := rfl
  omega
theorem linesT_len {α : Type} {w : α -> List Tk} (h : ∀ p, 1 <= (w p).length) : ∀ ps : List α, ps.length <= (linesT w ps).length
 | [] => Nat.zero_le _
 | p :: ps => by
  have := linesT_len h ps
  have := h p
  rw [linesT, List.length_append, List.length_cons]; omega
theorem file_lines (f : Fl) : f.pairs.length + f.sames.length + f.keeps.length + f.breaks.length + f.watches.length <= (fileT f).length := by
 have h1 := linesT_len (w := pairT) (fun p => by simp [pairT]) f.pairs
 have h2 := linesT_len (w := sameT) (fun p => by simp [sameT]) f.sames
 have h3 := linesT_len (w := keepT) (fun p => by simp [keepT]) f.keeps
 have h4 := linesT_len (w := breakT) (fun p => by simp [breakT]) f.breaks
 have h5 := linesT_len (w := watchT) (fun p => by simp [watchT]) f.watches
 unfold fileT
 simp only [List.length_append]; omega
theorem lines_weigh {α : Type} {w : α -> List (List UInt8)} {o : α -> Bool} (h : ∀ p, o p = true -> weighW (w p) <= 1000) : ∀ {ps : List α}, allK o ps = true -> weighW (linesW w ps) <= 1000 * ps.length
 | [], _ => by simp [linesW, weighW_nil]
 | p :: ps, ho => by
  rw [allK, Bool.and_eq_true] at ho
  have := lines_weigh h ho.2
  have := h p ho.1
  rw [linesW, weighW_app, List.length_cons]; omega
theorem breaks_weigh : ∀ {ps : List Bk}, allK okBreak ps = true -> weighW (linesW breakW ps) <= 1000 * Bk.sizes ps
 | [], _ => by simp [linesW, weighW_nil]
 | p :: ps, ho => by
  rw [allK, Bool.and_eq_true] at ho
  have := breaks_weigh ho.2
  have := breakW_weigh ho.1
  rw [linesW, weighW_app, Bk.sizes]; omega
theorem fileW_weigh {f : Fl} (ho : okFile f = true) : (joinL (fileW f)).length <= 1000 * (f.pairs.length + f.sames.length + f.keeps.length + Bk.sizes f.breaks + f.watches.length) := by
 unfold okFile at ho
 simp only [Bool.and_eq_true] at ho
 obtain ⟨o1, o2, o3, o4, o5⟩ := ho
 have h0 := joinL_len (fileW f)
 have h1 := lines_weigh (w := pairW) (fun p => pairW_weigh) o1
 have h2 := lines_weigh (w := sameW) (fun p => sameW_weigh) o2
 have h3 := lines_weigh (w := keepW) (fun p => keepW_weigh) o3
 have h4 := breaks_weigh o4
 have h5 := lines_weigh (w := watchW) (fun p => watchW_weigh) o5
 unfold fileW at *
 simp only [weighW_app] at h0
 omega
theorem parse_back (f : Fl) (hf : FlOk f) (ho : okFile f = true) (hl : longF f = false) :
  (∃ a, parseF (joinL (fileW f)) = (emptyF, a, 2) ∧ 4000 < (joinL (fileW f)).length) ∨ ((joinL (fileW f)).length <= 16384 ∧ parseF (joinL (fileW f)) = (f, 0, 0)) := by
 obtain ⟨h1, h2⟩ := fileT_alike ho hf
 have hs := scan_words h2
 rw [h1] at hs
 unfold parseF
 rcases hs with ⟨a, e1, e2, e3⟩ | ⟨e1, e2, us, e3, e4⟩
 ·left
  refine ⟨a, ?_, ?_⟩
  ·rw [e1, if_pos (by simp)]
  ·by_cases c : (joinL (fileW f)).length <= 16384
   ·have hne : ∀ w ∈ (fileT f).map wrT, w ≠ [] := fun w hw => by
     obtain ⟨t, ht, rfl⟩ := List.mem_map.1 hw
     exact (next_back (h2 t ht).1 (h2 t ht).2 (.inl rfl) 0).2
    have h3 := joinL_dbl _ hne
    have h4 := e3 c
    rw [h1, List.length_map] at h3
    omega
   ·omega
 ·right
  refine ⟨e1, ?_⟩
  have hus : us.length = (fileT f).length + 1 := by rw [<- e4.1]; simp
  have sim : ∀ (i : Nat) (hi : i < us.length), SimT ((fileT f ++ [⟨0, [], 0, 0⟩])[i]'(by simp; omega)) (tk us i) := fun i hi => by
   rw [tk_at hi]
   exact e4.2 i _ _ (List.getElem?_eq_getElem _) (List.getElem?_eq_getElem hi)
  have seg : Seg us 0 (fileT f) := fun i hi => by
   have := sim i (by omega)
   rw [List.getElem_append_left hi] at this
   rw [Nat.zero_add]
   exact ⟨by omega, this⟩
  have hend : (tk us (fileT f).length).kind = 0 := by
   have := sim (fileT f).length (by omega)
   rw [List.getElem_append_right (Nat.le_refl _)] at this
   simp only [Nat.sub_self, List.getElem_singleton] at this
   exact this.1.symm
  have hlen := (fileR_back ho hl seg hend)
  have n0 : f.pairs.length + f.sames.length + f.keeps.length + f.breaks.length + f.watches.length <= (fileT f).length := file_lines f
  have hb := hlen (us.length - (f.pairs.length + f.sames.length + f.keeps.length + f.breaks.length + f.watches.length))
  rw [show us.length - (f.pairs.length + f.sames.length + f.keeps.length + f.breaks.length + f.watches.length) + 1 + f.watches.length + f.breaks.length + f.keeps.length + f.sames.length + f.pairs.length = us.length + 1 by omega] at hb
  rw [e3, if_neg (by simp)]
  simp only
  rw [hb]; rfl
theorem rds_all {l : List Tk} (hl : Ended l) (P : Int × Int -> Prop) (h30 : ∀ k, P ((tk l k).at_, 30)) (h31 : ∀ k, P ((tk l k).at_, 31)) : ∀ m k : Nat, l.length - k <= m -> k < l.length -> (∀ d e, oneW l d k = .error e -> P e) ∧ (∀ n d e, tightW l n d k = .error e -> P e) ∧ (∀ n d p y e, loopW l n d p y k = .error e -> P e) := by
 intro m
 induction m with
 | zero => intro k h1 h2; omega
 | succ m ih =>
  intro k hm hk
  have part : ∀ {d : Int} {k : Nat} {r : Rd} {e : Int × Int}, (∀ e, r = .error e -> P e) -> partR l d k r = .error e -> P e := fun hr h => by
   unfold partR at h
   split at h
   ·cases h; first | exact h30 _ | exact h31 _
   ·split at h
    ·cases h; first | exact h30 _ | exact h31 _
    ·exact hr _ h
  have want : ∀ {s : List UInt8} {r : Rd} {f : Ex -> Ex} {e : Int × Int}, (∀ e, r = .error e -> P e) -> wantR l s r f = .error e -> P e := fun hr h => by
   unfold wantR at h
   split at h
   ·rename_i e0; cases h; exact hr _ rfl
   ·split at h
    ·cases h
    ·cases h; first | exact h30 _ | exact h31 _
  have one : ∀ d e, oneW l d k = .error e -> P e := by
   intro d e h
   rw [oneW, dif_pos hk] at h
   split at h
   ·rename_i c
    have hk1 : k + 1 < l.length := by rcases c with c | c <;> exact hl.isT hk c
    refine part (fun e h => ?_) h
    split at h
    ·rename_i e1 h1; cases h; exact (ih (k + 1) (by omega) hk1).1 _ _ h1
    ·cases h
   split at h
   ·rename_i c
    have hk1 := hl.isT hk c
    exact want (fun e h => part (fun e h => (ih (k + 1) (by omega) hk1).2.1 _ _ _ h) h) h
   split at h
   ·cases h
   split at h
   ·cases h
   split at h
   ·cases h
   split at h
   ·cases h; first | exact h30 _ | exact h31 _
   have hk1 : k + 1 < l.length := hl.next hk (by omega)
   split at h
   ·rename_i c
    have hk2 := hl.isT hk1 c
    exact want (fun e h => part (fun e h => (ih (k + 2) (by omega) hk2).2.1 _ _ _ h) h) h
   ·cases h
  have loop : ∀ n d p y e, loopW l n d p y k = .error e -> P e := by
   intro n d p y e h
   rw [loopW, dif_pos hk] at h
   split at h
   ·cases h
   ·rename_i c
    have hk1 : k + 1 < l.length := hl.next hk (by
     intro h0; apply c; left; unfold signT; rw [if_neg (by omega)])
    split at h
    ·rename_i e1 h1; cases h; exact (ih (k + 1) (by omega) hk1).2.1 _ _ _ h1
    ·rename_i z i hz
     have h1 := tight_goes hl hk1 hz
     rw [dif_pos (by omega)] at h
     exact (ih i (by omega) h1.2).2.2 _ _ _ _ _ h
  refine ⟨one, fun n d e h => ?_, loop⟩
  rw [tightW] at h
  split at h
  ·rename_i e1 h1; cases h; exact one _ _ h1
  ·rename_i y i hy
   have h1 := one_goes hl hk hy
   rw [dif_pos ⟨h1.1, hk⟩] at h
   exact (ih i (by omega) h1.2).2.2 _ _ _ _ _ h
section
variable {l : List Tk} (hl : Ended l) (hg : ∀ k, k < l.length -> (tk l k).kind ≠ 0 -> wrOk (tk l k) = true ∧ TkOk (tk l k))
include hl hg
theorem nm_of {k : Nat} (hk : k < l.length) (h : (tk l k).kind = 1) : isN (tk l k).text = true := by
 have := (hg k hk (by omega)).1
 unfold wrOk at this
 rw [if_pos h, Bool.and_eq_true] at this
 exact this.2
theorem it_of {k : Nat} (hk : k < l.length) (h : (tk l k).kind = 2) : 0 <= (tk l k).num ∧ (Lit.int .i64 (tk l k).num).wf = true := by
 have := hg k hk (by omega)
 have h1 := this.1
 unfold wrOk at h1
 rw [if_neg (by omega), if_neg (by omega), if_neg (by omega), if_pos h, Bool.and_eq_true, decide_eq_true_eq, decide_eq_true_eq] at h1
 exact ⟨h1.2, this.2.num⟩
def Nice (x : Ex) (k j : Nat) : Prop := ExOk x ∧ x.size + 6 * k <= 6 * j
theorem leaf_nice {m : Int} (hm : (Lit.int .i64 m).wf = true) {s : List UInt8} {n : Int} (hs : s.length <= 40) (hn : (Lit.int .i64 n).wf = true) {k j : Nat} (h : k < j) : Nice (.mk m s n []) k j := by
 refine ⟨.mk hm (by omega) hn (by simp) nofun, ?_⟩
 rw [Ex.size, Ex.sizes]; omega
theorem un_nice {m : Int} (hm : (Lit.int .i64 m).wf = true) {s : List UInt8} (hs : s.length <= 40) {x : Ex} {k i j : Nat} (hx : Nice x i j) (h : k < i) : Nice (.mk m s 0 [x]) k j := by
 refine ⟨.mk hm (by omega) (by decide) (by simp) fun y hy => by rw [List.mem_singleton.1 hy]; exact hx.1, ?_⟩
 have := hx.2
 rw [Ex.size, Ex.sizes, Ex.sizes]; omega
theorem rds_ok : ∀ m k : Nat, l.length - k <= m -> k < l.length -> (∀ d x j, oneW l d k = .ok (x, j) -> Nice x k j) ∧ (∀ n d x j, tightW l n d k = .ok (x, j) -> Nice x k j) ∧ (∀ n d p y i x j, i <= k -> Nice y i k -> loopW l n d p y k = .ok (x, j) -> Nice x i j) := by
 intro m
 induction m with
 | zero => intro k h1 h2; omega
 | succ m ih =>
  intro k hm hk
  have one : ∀ d x j, oneW l d k = .ok (x, j) -> Nice x k j := by
   intro d x j h
   rw [oneW, dif_pos hk] at h
   split at h
   ·rename_i c
    have hk1 : k + 1 < l.length := by rcases c with c | c <;> exact hl.isT hk c
    have h := partR_ok h
    split at h
    ·cases h
    ·rename_i y i hy
     have := (ih (k + 1) (by omega) hk1).1 _ _ _ hy
     have hs : (tk l k).text.length <= 40 := by rcases c with c | c <;> (rw [(isT_of c).2]; decide)
     cases h
     exact un_nice hl hg (by decide) hs this (by omega)
   split at h
   ·rename_i c
    have hk1 := hl.isT hk c
    obtain ⟨y, i, h1, h2, h3⟩ := wantR_ok h
    have := (ih (k + 1) (by omega) hk1).2.1 _ _ _ _ (partR_ok h1)
    cases h3
    exact ⟨this.1, by have := this.2; simp only [id]; omega⟩
   split at h
   ·cases h; exact leaf_nice hl hg (by decide) (by simp) (by decide) (by omega)
   split at h
   ·cases h; exact leaf_nice hl hg (by decide) (by simp) (by decide) (by omega)
   split at h
   ·rename_i c
    cases h; exact leaf_nice hl hg (by decide) (by simp) (it_of hl hg hk c).2 (by omega)
   split at h
   ·cases h
   rename_i c1
   have c1 : (tk l k).kind = 1 := Decidable.not_not.1 c1
   have hk1 : k + 1 < l.length := hl.next hk (by omega)
   have hs := isN_len (nm_of hl hg hk c1)
   split at h
   ·rename_i c
    have hk2 := hl.isT hk1 c
    obtain ⟨y, i, h1, h2, h3⟩ := wantR_ok h
    have := (ih (k + 2) (by omega) hk2).2.1 _ _ _ _ (partR_ok h1)
    cases h3
    exact un_nice hl hg (by decide) hs ⟨this.1, by have := this.2; omega⟩ (by omega : k < k + 2)
   ·cases h; exact leaf_nice hl hg (by decide) hs (by decide) (by omega)
  have loop : ∀ n d p y i x j, i <= k -> Nice y i k -> loopW l n d p y k = .ok (x, j) -> Nice x i j := by
   intro n d p y i x j hi hy h
   rw [loopW, dif_pos hk] at h
   split at h
   ·cases h; exact hy
   ·rename_i c
    have hk1 : k + 1 < l.length := hl.next hk (by
     intro h0; apply c; left; unfold signT; rw [if_neg (by omega)])
    split at h
    ·cases h
    ·rename_i z q hz
     have h1 := tight_goes hl hk1 hz
     rw [dif_pos (by omega)] at h
     have hz' := (ih (k + 1) (by omega) hk1).2.1 _ _ _ _ hz
     have hs : (tk l k).text.length <= 40 := by
      have : 0 < levelP (tk l k).text := by
       have h2 := (level_le (tk l k).text).1
       unfold signT at c
       by_cases c4 : (tk l k).kind = 4
       ·rw [if_pos c4] at c
        show 0 < levelT (tk l k).text
        omega
       ·rw [if_neg c4] at c; omega
      have := level_len this
      omega
     refine (ih q (by omega) h1.2).2.2 _ _ _ _ i _ _ (by omega) ⟨.mk (by decide) (by omega) (by decide) (by simp) fun w hw => ?_, ?_⟩ h
     ·rcases List.mem_cons.1 hw with rfl | hw
      ·exact hy.1
      ·rw [List.mem_singleton.1 hw]; exact hz'.1
     ·have := hy.2
      have := hz'.2
      rw [Ex.size, Ex.sizes, Ex.sizes, Ex.sizes]; omega
  refine ⟨one, fun n d x j h => ?_, loop⟩
  rw [tightW] at h
  split at h
  ·cases h
  ·rename_i y i hy
   have h1 := one_goes hl hk hy
   rw [dif_pos ⟨h1.1, hk⟩] at h
   exact (ih i (by omega) h1.2).2.2 _ _ _ _ k _ _ (by omega) (one _ _ _ hy) h
structure Got (f : Fl) (k : Nat) : Prop where
 pairs : f.pairs.length <= 40 ∧ allK okPair f.pairs = true
 sames : f.sames.length <= 40 ∧ allK okSame f.sames = true
 keeps : f.keeps.length <= 40 ∧ allK okKeep f.keeps = true
 breaks : f.breaks.length <= 40 ∧ (∀ b ∈ f.breaks, BkOk b) ∧ Bk.sizes f.breaks <= 6 * k
 watches : f.watches.length <= 40 ∧ allK okWatch f.watches = true
theorem allK_app {α : Type} {o : α -> Bool} : ∀ {xs : List α} {x : α}, allK o xs = true -> o x = true -> allK o (xs ++ [x]) = true
 | [], x, _, h => by simp [allK, h]
 | y :: ys, x, h, hx => by
  rw [allK, Bool.and_eq_true] at h
  rw [List.cons_append, allK, h.1, allK_app h.2 hx]; rfl
theorem sizes_app : ∀ (xs : List Bk) (x : Bk), Bk.sizes (xs ++ [x]) = Bk.sizes xs + (1 + x.whn.length + Ex.sizes x.whn)
 | [], x => by simp [Bk.sizes]
 | y :: ys, x => by rw [List.cons_append, Bk.sizes, Bk.sizes, sizes_app ys x]; omega
theorem Got.mono {f : Fl} {k j : Nat} (h : Got f k) (hj : k <= j) : Got f j := ⟨h.pairs, h.sames, h.keeps, ⟨h.breaks.1, h.breaks.2.1, by have := h.breaks.2.2; omega⟩, h.watches⟩
variable (hn : l.length <= 100000)
include hn
theorem half_ok {k : Nat} (hk : k < l.length) {x : List UInt8 × List UInt8} {j : Nat} (h : halfR l k = .ok (x, j)) : isN x.1 = true ∧ isN x.2 = true ∧ j < l.length := by
 unfold halfR at h
 obtain ⟨_, _, h1, h⟩ := andR_ok h
 have s1 := nameR_step hl hk h1
 obtain ⟨_, _, h2, h⟩ := andR_ok h
 have s2 := (signR_step hl s1.1.end_ h2).1
 obtain ⟨_, _, h3, h⟩ := andR_ok h
 have s3 := nameR_step hl s2.end_ h3
 obtain ⟨_, _, h4, h⟩ := andR_ok h
 have s4 := (signR_step hl s3.1.end_ h4).1
 have e1 := nm_of hl hg hk s1.2.1
 have e2 := nm_of hl hg s2.end_ s3.2.1
 rw [<- s1.2.2.1] at e1
 rw [<- s3.2.2.1] at e2
 cases h
 exact ⟨e1, e2, s4.end_⟩
theorem keep_ok {k : Nat} (hk : k < l.length) {x : Int × List UInt8 × List UInt8} {j : Nat} (h : keepR l k = .ok (x, j)) : sideK x.1 = true ∧ isN x.2.1 = true ∧ isN x.2.2 = true := by
 unfold keepR at h
 obtain ⟨_, _, h1, h⟩ := andR_ok h
 have s1 := sideR_step hl hk h1
 obtain ⟨_, _, h2, h⟩ := andR_ok h
 have s2 := nameR_step hl s1.1.end_ h2
 obtain ⟨_, _, h3, h⟩ := andR_ok h
 have s3 := nameR_step hl s2.1.end_ h3
 have e2 := nm_of hl hg s1.1.end_ s2.2.1
 have e3 := nm_of hl hg s2.1.end_ s3.2.1
 rw [<- s2.2.2.1] at e2
 rw [<- s3.2.2.1] at e3
 have e1 := s1.2.2.1
 cases h
 refine ⟨?_, e2, e3⟩
 unfold sideK
 rcases e1 with e | e <;> rw [e] <;> rfl
theorem stop_ok {k : Nat} (hk : k < l.length) {b : Bk} {j : Nat} (h : stopR l k = .ok (b, j)) : BkOk b ∧ 1 + b.whn.length + Ex.sizes b.whn + 6 * k <= 6 * j := by
 rw [stopR_mk] at h
 obtain ⟨s, k1, h1, h⟩ := andR_ok h
 have s1 := sideR_step hl hk h1
 obtain ⟨p, k2, h2, h⟩ := andR_ok h
 have s2 := nameR_step hl s1.1.end_ h2
 obtain ⟨n, k3, h3, h⟩ := andR_ok h
 have s3 := intR_step hl s2.1.end_ h3
 obtain ⟨w, k4, h4, h⟩ := andR_ok h
 have e2 := isN_len (nm_of hl hg s1.1.end_ s2.2.1)
 rw [<- s2.2.2.1] at e2
 have e3 := (it_of hl hg s2.1.end_ s3.2.1).2
 rw [<- s3.2.2.1] at e3
 have es : (Lit.int .i64 s).wf = true := by rcases s1.2.2.1 with e | e <;> (rw [e]; decide)
 have q1 := s1.1.lt
 have q2 := s2.1.lt
 have q3 := s3.1.lt
 have hw : (∀ x ∈ w, ExOk x) ∧ w.length <= 1 ∧ w.length + Ex.sizes w + 6 * k3 <= 6 * k4 := by
  unfold whenR at h4
  split at h4
  ·rename_i c
   have hk1 := hl.next s3.1.end_ (by rw [(isW_kind c).1]; decide)
   obtain ⟨y, i, h5, h6⟩ := andR_ok h4
   have := (rds_ok hl hg _ (k3 + 1) (Nat.le_refl _) hk1).2.1 _ _ _ _ (partR_ok h5)
   have h7 := this.2
   cases h6
   refine ⟨fun x hx => by rw [List.mem_singleton.1 hx]; exact this.1, by simp, ?_⟩
   rw [Ex.sizes, Ex.sizes, List.length_singleton]; omega
  ·cases h4
   refine ⟨nofun, by simp, by rw [Ex.sizes]; simp⟩
 cases h
 refine ⟨⟨es, by show p.length <= _; omega, e3, by show w.length <= _; omega, hw.1⟩, ?_⟩
 have := hw.2.2
 show 1 + w.length + Ex.sizes w + 6 * k <= 6 * j
 omega
theorem full_ok {α : Type} {n most k : Nat} {r : Rf α} {x : α × Nat} (h : fullR l n most k r = .ok x) : n < most ∧ r = .ok x := by
 unfold fullR at h
 split at h
 ·cases h
 ·exact ⟨by omega, h⟩
theorem line_ok {k : Nat} (hk : k < l.length) {f g : Fl} {j : Nat} (hf : Got f k) (h : lineR l f k = .ok (g, j)) : Got g j := by
 have hs := lineR_step hl hn hk h
 unfold lineR at h
 obtain ⟨f1, k1, h1, h⟩ := andR_ok h
 obtain ⟨_, k2, h2, h⟩ := andR_ok h
 cases h
 have hkj := hs.lt
 unfold itemR at h1
 split at h1
 ·rename_i c
  have s0 : k + 1 < l.length := hl.next hk (by rw [(isW_kind c).1]; decide)
  obtain ⟨fl, h1⟩ := full_ok hl hg hn h1
  obtain ⟨a, _, g1, h1⟩ := andR_ok h1
  have s1 := nameR_step hl s0 g1
  obtain ⟨b, _, g2, h1⟩ := andR_ok h1
  have s2 := nameR_step hl s1.1.end_ g2
  have e1 := nm_of hl hg s0 s1.2.1
  have e2 := nm_of hl hg s1.1.end_ s2.2.1
  rw [<- s1.2.2.1] at e1
  rw [<- s2.2.2.1] at e2
  cases h1
  have hm := hf.mono hl hg (j := j) (by omega)
  exact ⟨⟨by simp; omega, allK_app hl hg hf.pairs.2 (by simp [okPair, e1, e2])⟩, hm.sames, hm.keeps, hm.breaks, hm.watches⟩
 split at h1
 ·rename_i c
  have s0 : k + 1 < l.length := hl.next hk (by rw [(isW_kind c).1]; decide)
  obtain ⟨fl, h1⟩ := full_ok hl hg hn h1
  obtain ⟨p, _, g1, h1⟩ := andR_ok h1
  unfold sameR at g1
  obtain ⟨x, _, g2, g1⟩ := andR_ok g1
  have a1 := half_ok hl hg hn s0 g2
  obtain ⟨y, _, g3, g1⟩ := andR_ok g1
  have a2 := half_ok hl hg hn a1.2.2 g3
  cases g1
  cases h1
  have hm := hf.mono hl hg (j := j) (by omega)
  exact ⟨hm.pairs, ⟨by simp; omega, allK_app hl hg hf.sames.2 (by simp [okSame, a1.1, a1.2.1, a2.1, a2.2.1])⟩, hm.keeps, hm.breaks, hm.watches⟩
 split at h1
 ·rename_i c
  have s0 : k + 1 < l.length := hl.next hk (by rw [(isW_kind c).1]; decide)
  obtain ⟨fl, h1⟩ := full_ok hl hg hn h1
  obtain ⟨x, _, g1, h1⟩ := andR_ok h1
  have a1 := keep_ok hl hg hn s0 g1
  cases h1
  have hm := hf.mono hl hg (j := j) (by omega)
  exact ⟨hm.pairs, hm.sames, ⟨by simp; omega, allK_app hl hg hf.keeps.2 (by simp [okKeep, a1])⟩, hm.breaks, hm.watches⟩
 split at h1
 ·rename_i c
  have s0 : k + 1 < l.length := hl.next hk (by rw [(isW_kind c).1]; decide)
  obtain ⟨fl, h1⟩ := full_ok hl hg hn h1
  obtain ⟨x, k3, g1, h1⟩ := andR_ok h1
  have a1 := stop_ok hl hg hn s0 g1
  cases h1
  have hk1 := (stopR_step hl hn s0 g1).end_
  have s2 := (signR_step hl hk1 h2).1.lt
  have hm := hf.mono hl hg (j := j) (by omega)
  refine ⟨hm.pairs, hm.sames, hm.keeps, ⟨by simp; omega, fun b hb => ?_, ?_⟩, hm.watches⟩
  ·rcases List.mem_append.1 hb with hb | hb
   ·exact hf.breaks.2.1 b hb
   ·rw [List.mem_singleton.1 hb]; exact a1.1
  ·have := hf.breaks.2.2
   have := a1.2
   show Bk.sizes (f.breaks ++ [x]) <= 6 * j
   rw [sizes_app hl hg]; omega
 split at h1
 ·rename_i c
  have s0 : k + 1 < l.length := hl.next hk (by rw [(isW_kind c).1]; decide)
  obtain ⟨fl, h1⟩ := full_ok hl hg hn h1
  obtain ⟨x, _, g1, h1⟩ := andR_ok h1
  have a1 := keep_ok hl hg hn s0 g1
  cases h1
  have hm := hf.mono hl hg (j := j) (by omega)
  exact ⟨hm.pairs, hm.sames, hm.keeps, hm.breaks, ⟨by simp; omega, allK_app hl hg hf.watches.2 (by simp [okWatch, a1])⟩⟩
 ·cases h1
theorem file_ok : ∀ (n k : Nat) (f g : Fl), k < l.length -> Got f k -> fileR l n f k = .ok g -> Got g l.length
 | 0, k, f, g, _, _, h => by cases h
 | n + 1, k, f, g, hk, hf, h => by
  rw [fileR] at h
  split at h
  ·cases h; exact hf.mono hl hg (by omega)
  ·split at h
   ·cases h
   ·rename_i f1 j h1
    have s := lineR_step hl hn hk h1
    exact file_ok n j f1 g s.end_ (line_ok hl hg hn hk hf h1) h
end
end Go.Proofs.YtmhnmelaodhemaaDoor
namespace Go.Proofs.YtmhnmelaodhemaaDoor
open Go Go.Proofs.Ab
namespace law12_DeclStable
theorem eq (a0 : ByteArray) : den Sp id [V.str a0] [] none =
  (den Sp law12_long.id [V.str a0] [] none).bind (fun r3 => Res.onRet r3 (fun v4 => V.asBool v4 (fun b5 => bif b5 then (den Sp law12_known.id [] [] none).bind (fun r7 => Res.onRet r7 (fun v8 => V.asBool v8 (fun b9 => some ⟨Out.ret (V.bool b9), [], none⟩))) else (den Sp decl_Parse.id [V.str a0] [] none).bind (fun r7 => Res.onRet r7 (fun v8 => V.asTup v8 3 (fun rd9 => V.asAgg (rd9 0) 5 (fun rd10 => V.asSl (rd10 0) T_api_Pair (fun es11 => V.asSl (rd10 1) T_api_Pair (fun es12 => V.asSl (rd10 2) T_decl_Keep (fun es13 => V.asSl (rd10 3) T_decl_Break (fun es14 => V.asSl (rd10 4) T_decl_Watch (fun es15 => V.asInt (rd9 1) .i64 (fun n16 => V.asInt (rd9 2) .i64 (fun n17 => bif (n17 != (0 : Int)) then (bif (decide (n16 >= (0 : Int))) then (bif (decide (n16 <= (((ByteArray.size a0) : Nat) : Int))) then (bif ((es11.length : Int) == (0 : Int)) then (den Sp law12_known.id [] [] none).bind (fun r20 => Res.onRet r20 (fun v21 => V.asBool v21 (fun b22 => some ⟨Out.ret (V.bool b22), [], none⟩))) else (some ⟨Out.ret (V.bool false), [], none⟩)) else (some ⟨Out.ret (V.bool false), [], none⟩)) else (some ⟨Out.ret (V.bool false), [], none⟩)) else (den Sp decl_Print.id [V.agg [V.sl .no T_api_Pair es11, V.sl .no T_api_Pair es12, V.sl .no T_decl_Keep es13, V.sl .no T_decl_Break es14, V.sl .no T_decl_Watch es15]] [] none).bind (fun r20 => Res.onRet r20 (fun v21 => V.asTup v21 2 (fun rd22 => V.asStr (rd22 0) (fun s23 => V.asInt (rd22 1) .i64 (fun n24 => bif (n24 != (0 : Int)) then (bif (n24 == (32 : Int)) then (bif (decide ((es14.length : Int) > (0 : Int))) then (den Sp law12_known.id [] [] none).bind (fun r27 => Res.onRet r27 (fun v28 => V.asBool v28 (fun b29 => some ⟨Out.ret (V.bool b29), [], none⟩))) else (some ⟨Out.ret (V.bool false), [], none⟩)) else (some ⟨Out.ret (V.bool false), [], none⟩)) else (den Sp decl_Parse.id [V.str s23] [] none).bind (fun r27 => Res.onRet r27 (fun v28 => V.asTup v28 3 (fun rd29 => V.asAgg (rd29 0) 5 (fun rd30 => V.asSl (rd30 0) T_api_Pair (fun es31 => V.asSl (rd30 1) T_api_Pair (fun es32 => V.asSl (rd30 2) T_decl_Keep (fun es33 => V.asSl (rd30 3) T_decl_Break (fun es34 => V.asSl (rd30 4) T_decl_Watch (fun es35 => V.asInt (rd29 1) .i64 (fun n36 => V.asInt (rd29 2) .i64 (fun n37 => bif (n37 != (0 : Int)) then (bif (n37 == (2 : Int)) then (bif (decide ((((ByteArray.size s23) : Nat) : Int) > (4000 : Int))) then (den Sp law12_known.id [] [] none).bind (fun r40 => Res.onRet r40 (fun v41 => V.asBool v41 (fun b42 => some ⟨Out.ret (V.bool b42), [], none⟩))) else (some ⟨Out.ret (V.bool false), [], none⟩)) else (some ⟨Out.ret (V.bool false), [], none⟩)) else (den Sp law12_back.id [V.agg [V.sl .no T_api_Pair es11, V.sl .no T_api_Pair es12, V.sl .no T_decl_Keep es13, V.sl .no T_decl_Break es14, V.sl .no T_decl_Watch es15]] [] none).bind (fun r40 => Res.onRet r40 (fun v41 => V.asAgg v41 5 (fun rd42 => V.asSl (rd42 0) T_api_Pair (fun es43 => V.asSl (rd42 1) T_api_Pair (fun es44 => V.asSl (rd42 2) T_parallaxref12_Keep (fun es45 => V.asSl (rd42 3) T_parallaxref12_Break (fun es46 => V.asSl (rd42 4) T_parallaxref12_Watch (fun es47 => (den Sp law12_back.id [V.agg [V.sl .no T_api_Pair es31, V.sl .no T_api_Pair es32, V.sl .no T_decl_Keep es33, V.sl .no T_decl_Break es34, V.sl .no T_decl_Watch es35]] [] none).bind (fun r48 => Res.onRet r48 (fun v49 => V.asAgg v49 5 (fun rd50 => V.asSl (rd50 0) T_api_Pair (fun es51 => V.asSl (rd50 1) T_api_Pair (fun es52 => V.asSl (rd50 2) T_parallaxref12_Keep (fun es53 => V.asSl (rd50 3) T_parallaxref12_Break (fun es54 => V.asSl (rd50 4) T_parallaxref12_Watch (fun es55 => (den Sp ref12_Same.id [V.agg [V.sl .no T_api_Pair es43, V.sl .no T_api_Pair es44, V.sl .no T_parallaxref12_Keep es45, V.sl .no T_parallaxref12_Break es46, V.sl .no T_parallaxref12_Watch es47], V.agg [V.sl .no T_api_Pair es51, V.sl .no T_api_Pair es52, V.sl .no T_parallaxref12_Keep es53, V.sl .no T_parallaxref12_Break es54, V.sl .no T_parallaxref12_Watch es55]] [] none).bind (fun r56 => Res.onRet r56 (fun v57 => V.asBool v57 (fun b58 => bif b58 then (den Sp law12_known.id [] [] none).bind (fun r59 => Res.onRet r59 (fun v60 => V.asBool v60 (fun b61 => some ⟨Out.ret (V.bool b61), [], none⟩))) else (some ⟨Out.ret (V.bool false), [], none⟩)))))))))))))))))))))))))))))))))))))))))))))))))) := (den_eq ..).trans (by kernel_rfl)
end law12_DeclStable
namespace law12_long
theorem eq (a0 : ByteArray) : den Sp id [V.str a0] [] none =
  (bif (decide ((((ByteArray.size a0) : Nat) : Int) > (3000 : Int))) then (some ⟨Out.ret (V.bool (decide ((((ByteArray.size a0) : Nat) : Int) <= (16384 : Int)))), [], none⟩) else (some ⟨Out.ret (V.bool false), [], none⟩)) := (den_eq ..).trans (by kernel_rfl)
end law12_long
end Go.Proofs.YtmhnmelaodhemaaDoor
namespace Go.Proofs.YtmhnmelaodhemaaDoor
open Go Go.Proofs.Ab Go.Proofs.Px
theorem right_at {l : List Tk} (h : rightL l = true) : ∀ i, (hi : i + 1 < l.length) -> wrOk (l[i]'(by omega)) = true ∧ rightL (l.drop (i + 1)) = true
 | 0, hi => by
  match l, h with
  | t :: u :: l, h =>
   have h' : (wrOk t && rightL (u :: l)) = true := h
   rw [Bool.and_eq_true] at h'
   exact h'
 | i + 1, hi => by
  match l, h with
  | t :: u :: l, h =>
   have h' : (wrOk t && rightL (u :: l)) = true := h
   rw [Bool.and_eq_true] at h'
   exact right_at h'.2 i (by simpa using hi)
theorem scan_where {s : List UInt8} (hs : s.length <= 140737488351232) : 0 <= (scan s).2.1 ∧ (scan s).2.1 <= s.length ∧ ∀ k, 0 <= (tk (scan s).1 k).at_ ∧ (tk (scan s).1 k).at_ <= s.length := by
 have hd : ∀ k, 0 <= (tk [] k).at_ ∧ (tk [] k).at_ <= (s.length : Int) := fun k => by
  have : tk [] k = ⟨0, [], 0, 0⟩ := by unfold tk; simp
  rw [this]; simp
 unfold scan
 by_cases c : s.length > 16384
 ·rw [if_pos c]; exact ⟨by simp, by simp, hd⟩
 rw [if_neg c]
 have hp := scan_placed s (by omega) (s.length + 1) 0 [] (by omega) (by omega)
 rw [List.drop_zero] at hp
 rcases hp with ⟨a, e, h1, h2, h3, h4⟩ | ⟨ts, h1, h2⟩
 ·rw [h1]; exact ⟨h3, h4, hd⟩
 ·rw [h1, List.nil_append]
  refine ⟨by simp, by simp, fun k => ?_⟩
  by_cases hk : k < (ts ++ [endTk s.length]).length
  ·have e : tk (ts ++ [endTk s.length]) k = (ts ++ [endTk s.length])[k] := by
    unfold tk
    rw [List.getD_eq_getElem?_getD, List.getElem?_eq_getElem hk]; rfl
   show 0 <= (tk (ts ++ [endTk s.length]) k).at_ ∧ (tk (ts ++ [endTk s.length]) k).at_ <= (s.length : Int)
   rw [e]
   have hL : (ts ++ [endTk s.length]).length = ts.length + 1 := by simp
   by_cases k1 : k < ts.length
   ·rw [List.getElem_append_left k1]
    obtain ⟨a, b, g1, g2, g3, g4, g5, g6, g7, g8⟩ := pl_at ts 0 h2 k k1
    rw [g1]; omega
   ·rw [List.getElem_append_right (by omega)]
    simp [endTk]
  ·have e : tk (ts ++ [endTk s.length]) k = ⟨0, [], 0, 0⟩ := by
    unfold tk
    rw [List.getD_eq_getElem?_getD, List.getElem?_eq_none (by omega)]; rfl
   show 0 <= (tk (ts ++ [endTk s.length]) k).at_ ∧ (tk (ts ++ [endTk s.length]) k).at_ <= (s.length : Int)
   rw [e]; simp
section
variable {l : List Tk} (hl : Ended l) (hn : l.length <= 100000) (P : Int × Int -> Prop) (h30 : ∀ k, P ((tk l k).at_, 30)) (h31 : ∀ k, P ((tk l k).at_, 31)) (h2 : ∀ k, P ((tk l k).at_, 2))
include hl hn h30 h31 h2
theorem andR_err {α β : Type} {r : Rf α} {f : α -> Nat -> Rf β} {e : Int × Int} (hr : ∀ e, r = .error e -> P e) (hf : ∀ x k, r = .ok (x, k) -> ∀ e, f x k = .error e -> P e) (h : andR r f = .error e) : P e := by
 unfold andR at h
 split at h
 ·rename_i e1; cases h; exact hr _ rfl
 ·rename_i x k; exact hf x k rfl _ h
theorem wrong_err {α : Type} {k : Nat} {e : Int × Int} (h : wrongR (α := α) l k = .error e) : P e := by
 unfold wrongR at h; cases h; exact h30 _
theorem name_err {k : Nat} {e : Int × Int} (h : nameR l k = .error e) : P e := by
 unfold nameR at h
 split at h
 ·cases h
 ·exact wrong_err hl hn P h30 h31 h2 h
theorem sign_err {s : List UInt8} {k : Nat} {e : Int × Int} (h : signR l s k = .error e) : P e := by
 unfold signR at h
 split at h
 ·cases h
 ·exact wrong_err hl hn P h30 h31 h2 h
theorem int_err {k : Nat} {e : Int × Int} (h : intR l k = .error e) : P e := by
 unfold intR at h
 split at h
 ·cases h
 ·exact wrong_err hl hn P h30 h31 h2 h
theorem side_err {k : Nat} {e : Int × Int} (h : sideR l k = .error e) : P e := by
 unfold sideR at h
 split at h
 ·cases h
 split at h
 ·cases h
 ·exact wrong_err hl hn P h30 h31 h2 h
theorem half_err {k : Nat} {e : Int × Int} (h : halfR l k = .error e) : P e := by
 have A := @andR_err l hl hn P h30 h31 h2
 have N := @name_err l hl hn P h30 h31 h2
 have S := @sign_err l hl hn P h30 h31 h2
 unfold halfR at h
 exact A (fun e h => N h) (fun _ _ _ e h => A (fun e h => S h) (fun _ _ _ e h => A (fun e h => N h) (fun _ _ _ e h => A (fun e h => S h) (fun _ _ _ e h => by cases h) h) h) h) h
theorem same_err {k : Nat} {e : Int × Int} (h : sameR l k = .error e) : P e := by
 have A := @andR_err l hl hn P h30 h31 h2
 have H := @half_err l hl hn P h30 h31 h2
 unfold sameR at h
 exact A (fun e h => H h) (fun _ _ _ e h => A (fun e h => H h) (fun _ _ _ e h => by cases h) h) h
theorem keep_err {k : Nat} {e : Int × Int} (h : keepR l k = .error e) : P e := by
 have A := @andR_err l hl hn P h30 h31 h2
 have N := @name_err l hl hn P h30 h31 h2
 have S := @side_err l hl hn P h30 h31 h2
 unfold keepR at h
 exact A (fun e h => S h) (fun _ _ _ e h => A (fun e h => N h) (fun _ _ _ e h => A (fun e h => N h) (fun _ _ _ e h => by cases h) h) h) h
theorem stop_err {k : Nat} (hk : k < l.length) {e : Int × Int} (h : stopR l k = .error e) : P e := by
 have A := @andR_err l hl hn P h30 h31 h2
 have N := @name_err l hl hn P h30 h31 h2
 have S := @side_err l hl hn P h30 h31 h2
 have I := @int_err l hl hn P h30 h31 h2
 rw [stopR_mk] at h
 refine A (fun e h => S h) (fun _ k1 e1 e h => A (fun e h => N h) (fun _ k2 e2 e h => A (fun e h => I h) (fun _ k3 e3 e h => A (fun e h => ?_) (fun _ _ _ e h => by cases h) h) h) h) h
 have s1 := (sideR_step hl hk e1).1.end_
 have s2 := (nameR_step hl s1 e2).1.end_
 have s3 := (intR_step hl s2 e3).1.end_
 unfold whenR at h
 split at h
 ·rename_i c
  have hk1 := hl.next s3 (by rw [(isW_kind c).1]; decide)
  refine A (fun e h => ?_) (fun _ _ _ e h => by cases h) h
  unfold partR at h
  split at h
  ·cases h; exact h30 _
  ·split at h
   ·cases h; exact h31 _
   ·exact (rds_all hl P h30 h31 _ _ (Nat.le_refl _) hk1).2.1 _ _ _ h
 ·cases h
theorem full_err {α : Type} {n most k : Nat} {r : Rf α} {e : Int × Int} (hr : ∀ e, r = .error e -> P e) (h : fullR l n most k r = .error e) : P e := by
 unfold fullR at h
 split at h
 ·cases h; exact h2 _
 ·exact hr _ h
theorem line_err {k : Nat} (hk : k < l.length) {f : Fl} {e : Int × Int} (h : lineR l f k = .error e) : P e := by
 have A := @andR_err l hl hn P h30 h31 h2
 have N := @name_err l hl hn P h30 h31 h2
 have S := @sign_err l hl hn P h30 h31 h2
 have F := @full_err l hl hn P h30 h31 h2
 unfold lineR at h
 refine A (fun e h => ?_) (fun _ _ _ e h => A (fun e h => S h) (fun _ _ _ e h => by cases h) h) h
 unfold itemR at h
 split at h
 ·exact F (fun e h => A (fun e h => N h) (fun _ _ _ e h => A (fun e h => N h) (fun _ _ _ e h => by cases h) h) h) h
 split at h
 ·exact F (fun e h => A (fun e h => same_err hl hn P h30 h31 h2 h) (fun _ _ _ e h => by cases h) h) h
 split at h
 ·exact F (fun e h => A (fun e h => keep_err hl hn P h30 h31 h2 h) (fun _ _ _ e h => by cases h) h) h
 split at h
 ·rename_i c
  have s0 : k + 1 < l.length := hl.next hk (by rw [(isW_kind c).1]; decide)
  exact F (fun e h => A (fun e h => stop_err hl hn P h30 h31 h2 s0 h) (fun _ _ _ e h => by cases h) h) h
 split at h
 ·exact F (fun e h => A (fun e h => keep_err hl hn P h30 h31 h2 h) (fun _ _ _ e h => by cases h) h) h
 ·exact wrong_err hl hn P h30 h31 h2 h
theorem file_err : ∀ (n k : Nat) (f : Fl) (e : Int × Int), k < l.length -> l.length - k < n -> fileR l n f k = .error e -> P e
 | 0, k, f, e, _, hm, h => by omega
 | n + 1, k, f, e, hk, hm, h => by
  rw [fileR] at h
  split at h
  ·cases h
  ·split at h
   ·rename_i e1 h1; cases h; exact line_err hl hn P h30 h31 h2 hk h1
   ·rename_i g j h1
    have s := lineR_step hl hn hk h1
    exact file_err n j g e s.end_ (by have := s.lt; omega) h
end
theorem parse_cases {s : List UInt8} (hs : s.length <= 3000 ∨ 16384 < s.length) (hb : s.length <= 140737488351232) :
  (∃ a e : Int, parseF s = (emptyF, a, e) ∧ e ≠ 0 ∧ 0 <= a ∧ a <= s.length) ∨ (∃ f, parseF s = (f, 0, 0) ∧ Got f 4001) := by
 have hw := scan_where hb
 unfold parseF
 by_cases c : (scan s).2.2 = 0
 ·rw [if_neg (fun h => h c)]
  obtain ⟨g1, g2, g3, g4, g5⟩ := scan_ended hb c
  cases hq : fileR (scan s).1 ((scan s).1.length + 1) emptyF 0 with
  | error e =>
   left
   have := file_err g1 (by omega) (fun e => e.2 ≠ 0 ∧ 0 <= e.1 ∧ e.1 <= s.length) (fun k => ⟨by simp, hw.2.2 k⟩) (fun k => ⟨by simp, hw.2.2 k⟩) (fun k => ⟨by simp, hw.2.2 k⟩) _ 0 emptyF e g3 (by omega) hq
   exact ⟨e.1, e.2, rfl, this.1, this.2.1, this.2.2⟩
  | ok f =>
   right
   refine ⟨f, rfl, ?_⟩
   have hg : ∀ k, k < (scan s).1.length -> (tk (scan s).1 k).kind ≠ 0 -> wrOk (tk (scan s).1 k) = true ∧ TkOk (tk (scan s).1 k) := fun k hk h0 => by
    have e := tk_at hk
    rw [e]
    refine ⟨?_, g4 _ (List.getElem_mem hk)⟩
    have hk1 : k + 1 < (scan s).1.length := by
     have := mt (g1.last k hk).2 h0
     omega
    exact (right_at g5 k hk1).1
   have := file_ok g1 hg (by omega) _ 0 emptyF f g3 ⟨⟨by simp [emptyF], rfl⟩, ⟨by simp [emptyF], rfl⟩, ⟨by simp [emptyF], rfl⟩, ⟨by simp [emptyF], nofun, by simp [emptyF, Bk.sizes]⟩, ⟨by simp [emptyF], rfl⟩⟩ hq
   exact this.mono g1 hg (by omega)
 ·rw [if_pos c]
  exact .inl ⟨_, _, rfl, c, hw.1, hw.2.1⟩
theorem law12_long_is (s : List UInt8) : den Sp law12_long.id [.str (B s)] [] none = some ⟨.ret (.bool (decide (3000 < s.length ∧ s.length <= 16384))), [], none⟩ := by
 rw [law12_long.eq, B_size]
 by_cases c : 3000 < s.length
 ·have c1 : decide ((s.length : Int) > 3000) = true := decide_eq_true (by omega)
  rw [c1, cond_true]
  congr 3
  by_cases c2 : s.length <= 16384
  ·rw [decide_eq_true (show (s.length : Int) <= 16384 by omega), decide_eq_true ⟨c, c2⟩]
  ·rw [decide_eq_false (show ¬ (s.length : Int) <= 16384 by omega), decide_eq_false (fun h => c2 h.2)]
 ·have c1 : decide ((s.length : Int) > 3000) = false := decide_eq_false (by omega)
  rw [c1, cond_false, decide_eq_false (fun h => c h.1)]
theorem Got.ok {f : Fl} (h : Got f 4001) : FlOk f := by
 have small : ∀ {x : List UInt8}, isN x = true -> x.length <= 140737488351232 := fun h => by have := isN_len h; omega
 have h1 := h.pairs.1
 have h2 := h.sames.1
 have h3 := h.keeps.1
 have h4 := h.breaks.1
 have h5 := h.watches.1
 refine ⟨⟨by omega, fun p hp => ?_⟩, ⟨by omega, fun p hp => ?_⟩, ⟨by omega, fun p hp => ?_⟩, ⟨by omega, h.breaks.2.1⟩, ⟨by omega, fun p hp => ?_⟩⟩
 ·have := allK_mem h.pairs.2 p hp
  unfold okPair at this
  simp only [Bool.and_eq_true, decide_eq_true_eq] at this
  exact ⟨small this.1.1.1, small this.1.1.2, by rw [this.1.2]; simp, by rw [this.2]; simp⟩
 ·have := allK_mem h.sames.2 p hp
  unfold okSame at this
  simp only [Bool.and_eq_true, decide_eq_true_eq] at this
  exact ⟨small this.1.1.1, small this.1.1.2, small this.1.2, small this.2⟩
 ·have := allK_mem h.keeps.2 p hp
  unfold okKeep sideK at this
  simp only [Bool.and_eq_true, Bool.or_eq_true, decide_eq_true_eq] at this
  exact ⟨by rcases this.2 with e | e <;> (rw [e]; decide), small this.1.1, small this.1.2⟩
 ·have := allK_mem h.watches.2 p hp
  unfold okWatch sideK at this
  simp only [Bool.and_eq_true, Bool.or_eq_true, decide_eq_true_eq] at this
  exact ⟨by rcases this.2 with e | e <;> (rw [e]; decide), small this.1.1, small this.1.2⟩
theorem declStable_den (s : ByteArray) (hs : s.size <= 140737488351232) : den Sp law12_DeclStable.id [.str s] [] none = some ⟨.ret (.bool true), [], none⟩ := by
 rw [B_of s] at *
 generalize s.data.toList = l at *
 rw [B_size] at hs
 rw [law12_DeclStable.eq, law12_long_is, law12_known_is]
 by_cases c : 3000 < l.length ∧ l.length <= 16384
 ·simp [c]
 ·rw [decide_eq_false c]
  have hp := decl_Parse_is l hs
  rcases parse_cases (s := l) (by omega) hs with ⟨a, e, h1, h2, h3, h4⟩ | ⟨f, h1, h2⟩
  ·rw [h1] at hp
   unfold parseV emptyF Fl.dv at hp
   have h4' : a <= ((B l).size : Int) := by rw [B_size]; exact h4
   simp [hp, h2, h3, h4]
  ·rw [h1] at hp
   have ho := h2.ok
   have q1 := h2.pairs.1
   have q2 := h2.sames.1
   have q3 := h2.keeps.1
   have q4 := h2.breaks.1
   have q5 := h2.watches.1
   have q6 := h2.breaks.2.2
   have hpr := decl_Print_any f ho (by omega)
   have hlong : longF f = false := by
    unfold longF
    simp only [Bool.or_eq_false_iff, decide_eq_false_iff_not]
    omega
   unfold prF at hpr
   rw [hlong] at hpr
   have hb := law12_back_is f (by omega) (by omega) (by omega)
   have hsm := ref12_Same_self f ho
   rw [Fl.v] at hsm
   cases ok : okFile f with
   | false =>
    rw [ok] at hpr
    have hbr : 0 < f.breaks.length := by
     rcases Nat.eq_zero_or_pos f.breaks.length with h | h
     ·exfalso
      have : okFile f = true := by
       unfold okFile
       rw [h2.pairs.2, h2.sames.2, h2.keeps.2, h2.watches.2, List.length_eq_zero_iff.1 h]; rfl
      rw [ok] at this; cases this
     ·exact h
    have hbr' : (f.breaks.length : Int) > 0 := by omega
    simp only [Bool.false_eq_true, if_false] at hpr
    unfold parseV at hp
    unfold Fl.ov Fl.dv at *
    simp [hp, hpr, hbr, hbr']
   | true =>
    rw [ok] at hpr
    simp only [if_true, Bool.false_eq_true, if_false] at hpr
    have hw := fileW_weigh ok
    have hp2 := decl_Parse_is (joinL (fileW f)) (by omega)
    rcases parse_back f ho ok hlong with ⟨a, e1, e2⟩ | ⟨e1, e2⟩
    ·rw [e1] at hp2
     unfold parseV emptyF at *
     unfold Fl.ov Fl.dv at *
     have c1 : ((joinL (fileW f)).length : Int) > 4000 := by omega
     simp [hp, hpr, hp2, c1]
    ·rw [e2] at hp2
     unfold parseV at *
     unfold Fl.ov Fl.dv Fl.v at *
     simp [hp, hpr, hp2, hb, hsm]
end Go.Proofs.YtmhnmelaodhemaaDoor
