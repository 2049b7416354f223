/- Tokens stand where they say. Own work. -/
import Derived.Test.YtenpcpfkiniggaaDoorPxBack
namespace Go.Proofs.YtenpcpfkiniggaaDoor
open Go Go.Proofs.Ab Go.Proofs.Px
set_option linter.unusedVariables false
set_option linter.unusedSimpArgs false

theorem worth_low : ∀ (l : List UInt8) (u : Nat), u * 10 ^ l.length ≤ worth u l
  | [], u => by rw [worth_nil]; simp
  | c :: l, u => by
    have h := worth_low l (u * 10 + (c.toNat - 48))
    rw [worth_cons]
    refine Nat.le_trans ?_ h
    rw [List.length_cons, Nat.pow_succ, ← Nat.mul_assoc, Nat.mul_right_comm]
    exact Nat.mul_le_mul_right _ (Nat.le_add_right _ _)
theorem worth_snoc (u : Nat) (l : List UInt8) (c : UInt8) : worth u (l ++ [c]) = worth u l * 10 + (c.toNat - 48) := by
  unfold worth
  rw [List.foldl_append, List.foldl_cons, List.foldl_nil]
theorem dgt_of (c : UInt8) (h : 48 ≤ c.toNat ∧ c.toNat ≤ 57) (k : Nat) : dgt (k * 10 + (c.toNat - 48)) = c := by
  apply UInt8.toNat_inj.1
  rw [dgt_nat]; omega
/-- Digits, from the last one on. -/
theorem decGo_back (f : Nat) : ∀ (w acc : List UInt8), w ≠ [] → w.length ≤ f → (∀ c ∈ w, 48 ≤ c.toNat ∧ c.toNat ≤ 57) → (w.getD 0 0 ≠ 48 ∨ w.length = 1) → decGo f (worth 0 w) acc = w ++ acc := by
  induction f with
  | zero =>
    intro w acc hw hl
    exact absurd (List.length_eq_zero_iff.1 (Nat.le_zero.1 hl)) hw
  | succ f ih =>
    intro w acc hw hl hd h0
    obtain ⟨v, c, rfl⟩ : ∃ v c, w = v ++ [c] := ⟨w.dropLast, w.getLast hw, (List.dropLast_concat_getLast hw).symm⟩
    have hc := hd c (by simp)
    have hv : ∀ d ∈ v, 48 ≤ d.toNat ∧ d.toNat ≤ 57 := fun d hd' => hd d (by simp [hd'])
    rw [worth_snoc]
    unfold decGo
    rw [dgt_of c hc]
    have hdiv : (worth 0 v * 10 + (c.toNat - 48)) / 10 = worth 0 v := by omega
    rw [hdiv]
    by_cases hv0 : v = []
    · subst hv0
      rw [worth_nil, if_pos rfl]; rfl
    · obtain ⟨b, q, hq⟩ : ∃ b q, v = b :: q := by
        cases v with
        | nil => exact absurd rfl hv0
        | cons b q => exact ⟨b, q, rfl⟩
      have hb : b.toNat ≠ 48 := by
        rcases h0 with h0 | h0
        · rw [hq] at h0
          intro h
          exact h0 (UInt8.toNat_inj.1 h)
        · rw [hq] at h0; simp at h0
      have hbd := hv b (by rw [hq]; simp)
      have hpos : worth 0 v ≠ 0 := by
        rw [hq, worth_cons]
        have h1 := worth_mono q (0 * 10 + (b.toNat - 48))
        omega
      rw [if_neg hpos, ih v (c :: acc) hv0 (by simp at hl; omega) hv (.inl ?_)]
      · simp
      · rw [hq]
        intro h
        exact hb (congrArg UInt8.toNat h)
theorem parseGo_ok : ∀ (l : List UInt8) (u : Nat), (parseGo u l).2 = 0 → (∀ c ∈ l, 48 ≤ c.toNat ∧ c.toNat ≤ 57) ∧ worth u l < 9223372036854775808 + (if l = [] then u else 0) ∧ ((parseGo u l).1 = ((worth u l : Nat) : Int))
  | [], u, h => by
    unfold parseGo at h ⊢
    by_cases h1 : u = 9223372036854775808
    · rw [if_pos h1] at h; cases h
    · rw [if_neg h1, worth_nil]
      refine ⟨(fun c hc => by cases hc), ?_, rfl⟩
      rw [if_pos rfl]; omega
  | c :: l, u, h => by
    unfold parseGo at h ⊢
    by_cases h1 : dg c = true ∧ u * 10 + (c.toNat - 48) ≤ 9223372036854775808
    · rw [if_pos h1] at h ⊢
      have h2 := parseGo_ok l _ h
      have h3 := h1.1
      unfold dg digit at h3
      simp only [Bool.and_eq_true, decide_eq_true_eq] at h3
      rw [worth_cons, if_neg (by simp)]
      refine ⟨fun d hd => ?_, ?_, h2.2.2⟩
      · rcases List.mem_cons.1 hd with rfl | hd
        · omega
        · exact h2.1 d hd
      · by_cases hl : l = []
        · subst hl
          rw [worth_nil]
          unfold parseGo at h
          by_cases h4 : u * 10 + (c.toNat - 48) = 9223372036854775808
          · rw [if_pos h4] at h; cases h
          · omega
        · have := h2.2.1
          rw [if_neg hl] at this
          exact this
    · rw [if_neg h1] at h; cases h
theorem parse_ok {w : List UInt8} (hw : w ≠ []) (h : (parse w).2 = 0) : ∃ n : Nat, (parse w).1 = (n : Int) ∧ n < 9223372036854775808 ∧ dec n = w := by
  unfold parse at h ⊢
  by_cases h0 : w.getD 0 0 ≠ 48 ∨ w.length = 1
  · rw [if_pos h0] at h ⊢
    obtain ⟨h1, h2, h3⟩ := parseGo_ok w 0 h
    rw [if_neg hw, Nat.add_zero] at h2
    refine ⟨_, h3, h2, ?_⟩
    have hlen : w.length ≤ 20 := by
      rcases h0 with h0 | h0
      · cases w with
        | nil => exact absurd rfl hw
        | cons c w =>
          have hc := h1 c List.mem_cons_self
          have hc2 : c.toNat ≠ 48 := fun h => h0 (UInt8.toNat_inj.1 h)
          have h4 := worth_low w (0 * 10 + (c.toNat - 48))
          rw [worth_cons] at h2
          have h5 : 10 ^ w.length ≤ (0 * 10 + (c.toNat - 48)) * 10 ^ w.length := Nat.le_mul_of_pos_left _ (by omega)
          have h6 : 10 ^ w.length < 10 ^ 19 := Nat.lt_of_le_of_lt (Nat.le_trans h5 h4) (Nat.lt_trans h2 (by decide))
          have h7 : w.length < 19 := (Nat.pow_lt_pow_iff_right (by decide)).1 h6
          rw [List.length_cons]; omega
      · omega
    have := decGo_back 20 w [] hw hlen h1 h0
    rw [List.append_nil] at this
    exact this
  · rw [if_neg h0] at h; cases h
theorem name_of {w : List UInt8} (h1 : w ≠ []) (h2 : w.length ≤ 40) (h3 : lt (w.getD 0 0) = true) (h4 : isKeyL w = false) (h5 : word w = w) : isName (B w) = true := by
  unfold isName
  simp only [Bool.and_eq_true, decide_eq_true_eq, Bool.not_eq_true', B_size, B_byte]
  refine ⟨⟨⟨⟨List.length_pos_iff.2 h1, h2⟩, h3⟩, (isKey_B w).trans h4⟩, allF_iff.2 fun i _ hi => ?_⟩
  have := word_inn h5 (w[i]'hi) (List.getElem_mem hi)
  rw [List.getD_eq_getElem?_getD, List.getElem?_eq_getElem hi]
  exact this
theorem signIn_prefix (r : List UInt8) : ∀ s, r.take (signIn r s).length = signIn r s
  | [] => rfl
  | x :: s => by
    unfold signIn
    split
    · assumption
    · exact signIn_prefix r s
theorem word_word : ∀ r : List UInt8, word (word r) = word r
  | [] => rfl
  | c :: r => by
    have ih := word_word r
    unfold word at *
    rw [List.takeWhile_cons]
    cases hc : inn c with
    | false => simp
    | true => simp only [if_true]; rw [List.takeWhile_cons, hc, if_pos rfl, ih]
theorem word_take_self (r : List UInt8) : r.take (word r).length = word r := by
  unfold word
  exact (List.prefix_iff_eq_take.1 (List.takeWhile_prefix inn)).symm
theorem i64_wf {n : Int} (h0 : -9223372036854775808 ≤ n) (h1 : n ≤ 9223372036854775807) : (Lit.int .i64 n).wf = true := by
  simp [Lit.wf, IntKind.min, IntKind.max, IntKind.signed, IntKind.bits, h0, h1]
/-- A token that is read: it may be written, and is written as it stood. -/
theorem next_placed (c : UInt8) (q : List UInt8) (a : Nat) (ha : a < 4611686018427387904) (hq : (c :: q).length ≤ 140737488351232) (hok : (next (c :: q) (a : Int)).2.2 = true) :
    wrOk (next (c :: q) (a : Int)).1 = true ∧ TkOk (next (c :: q) (a : Int)).1 ∧ (next (c :: q) (a : Int)).1.at_ = (a : Int) ∧ wrT (next (c :: q) (a : Int)).1 = (c :: q).take (next (c :: q) (a : Int)).2.1 ∧
      (wrT (next (c :: q) (a : Int)).1).length = (next (c :: q) (a : Int)).2.1 := by
  have hx : next (c :: q) (a : Int) = if lt c then (⟨if isKeyL (word (c :: q)) then 3 else 1, word (c :: q), 0, a⟩, (word (c :: q)).length, decide ((word (c :: q)).length ≤ 40))
      else if dg c then (⟨2, [], (parse (word (c :: q))).1, a⟩, (word (c :: q)).length, decide ((parse (word (c :: q))).2 = 0))
      else (⟨4, sign (c :: q), 0, a⟩, (sign (c :: q)).length, !decide (sign (c :: q) = [])) := rfl
  have hat : (Lit.int .i64 (a : Int)).wf = true := i64_wf (by omega) (by omega)
  have hwl := word_le (c :: q)
  have hww : inn c = true → word (c :: q) = c :: word q := fun h => by unfold word; rw [List.takeWhile_cons, h]; rfl
  rw [hx] at hok ⊢
  cases hl : lt c with
  | true =>
    rw [hl] at hok
    simp only [if_true, decide_eq_true_eq] at hok ⊢
    have hin : inn c = true := by
      unfold inn inner
      have : letter (c.toNat : Int) = true := hl
      rw [this]; rfl
    have hne : word (c :: q) ≠ [] := by rw [hww hin]; simp
    have hhd : lt ((word (c :: q)).getD 0 0) = true := by rw [hww hin]; exact hl
    cases hk : isKeyL (word (c :: q)) with
    | true =>
      refine ⟨by simp [wrOk, hk], ⟨?_, i64_wf (by simp) (by simp), i64_wf (by simp) (by simp), hat⟩, by simp, ?_, ?_⟩
      · show (word (c :: q)).length ≤ _
        omega
      · unfold wrT
        dsimp only
        rw [if_neg (by decide), word_take_self]
      · unfold wrT
        dsimp only
        rw [if_neg (by decide)]
    | false =>
      have hn := name_of hne hok hhd hk (word_word _)
      refine ⟨by simp [wrOk, hn], ⟨?_, i64_wf (by simp) (by simp), i64_wf (by simp) (by simp), hat⟩, by simp, ?_, ?_⟩
      · show (word (c :: q)).length ≤ _
        omega
      · unfold wrT
        dsimp only
        rw [if_neg (by decide), word_take_self]
      · unfold wrT
        dsimp only
        rw [if_neg (by decide)]
  | false =>
    rw [hl] at hok
    simp only [Bool.false_eq_true, if_false] at hok ⊢
    cases hd : dg c with
    | true =>
      rw [hd] at hok
      simp only [if_true, decide_eq_true_eq] at hok ⊢
      have hne : word (c :: q) ≠ [] := by rw [hww (dg_inn hd)]; simp
      obtain ⟨n, h1, h2, h3⟩ := parse_ok hne hok
      have hdec : decs (parse (word (c :: q))).1 = word (c :: q) := by
        rw [h1]
        unfold decs
        rw [if_neg (by omega), Int.natAbs_natCast, h3]
      refine ⟨?_, ⟨Nat.zero_le _, i64_wf (by simp) (by simp), ?_, hat⟩, by simp, ?_, ?_⟩
      · have : (0 : Int) ≤ (parse (word (c :: q))).1 := by omega
        simp [wrOk, this]
      · show (Lit.int .i64 (parse (word (c :: q))).1).wf = true
        rw [h1]
        exact i64_wf (by omega) (by omega)
      · unfold wrT
        dsimp only
        rw [if_pos rfl, hdec, word_take_self]
      · unfold wrT
        dsimp only
        rw [if_pos rfl, hdec]
    | false =>
      rw [hd] at hok
      simp only [Bool.false_eq_true, if_false, Bool.not_eq_true', decide_eq_false_iff_not] at hok ⊢
      have hs : isSign (sign (c :: q)) = true := by
        rcases signIn_or (c :: q) signs with h | h
        · exact absurd h hok
        · exact List.contains_iff_mem.2 h
      have hsl := sign_le (c :: q)
      refine ⟨by simp [wrOk, hs], ⟨?_, i64_wf (by simp) (by simp), i64_wf (by simp) (by simp), hat⟩, by simp, ?_, ?_⟩
      · show (sign (c :: q)).length ≤ _
        omega
      · unfold wrT
        dsimp only
        rw [if_neg (by decide)]
        exact (signIn_prefix (c :: q) signs).symm
      · unfold wrT
        dsimp only
        rw [if_neg (by decide)]
/-- Tokens one after the other, from a place on. -/
def Pl (l : List UInt8) : Nat → List Tk → Prop
  | _, [] => True
  | p, t :: ts => ∃ a : Nat, t.at_ = (a : Int) ∧ p ≤ a ∧ wrOk t = true ∧ TkOk t ∧ a + (wrT t).length ≤ l.length ∧ (l.drop a).take (wrT t).length = wrT t ∧ Pl l (a + (wrT t).length) ts
def endTk (n : Nat) : Tk := ⟨0, [], 0, n⟩
theorem scan_placed (l : List UInt8) (hl : l.length ≤ 140737488351232) : ∀ (f i : Nat) (out : List Tk), i ≤ l.length → l.length - i < f →
    (∃ a e : Int, scanGo f l.length out (l.drop i) = ([], a, e) ∧ e ≠ 0 ∧ 0 ≤ a ∧ a ≤ l.length) ∨ (∃ ts, scanGo f l.length out (l.drop i) = (out ++ ts ++ [endTk l.length], 0, 0) ∧ Pl l i ts)
  | 0, i, out, hi, hf => by omega
  | f + 1, i, out, hi, hf => by
    have hskl := sk_le false (l.drop i)
    have hskd := sk_drop false (l.drop i)
    rw [List.length_drop] at hskl
    generalize hj : l.length - (sk false (l.drop i)).length = j
    have hij : i ≤ j := by omega
    have hjl : j ≤ l.length := by omega
    have hdj : sk false (l.drop i) = l.drop j := by
      rw [hskd, List.drop_drop]
      congr 1
      rw [List.length_drop]; omega
    rw [scanGo_succ, hdj, List.length_drop]
    have hjj : ((l.length - (l.length - j) : Nat) : Int) = (j : Int) := by omega
    rw [hjj]
    by_cases h1 : (next (l.drop j) (j : Int)).2.2 = false
    · rw [if_pos h1]
      exact .inl ⟨_, _, rfl, by decide, by omega, by omega⟩
    · rw [if_neg h1]
      by_cases h2 : out.length = 4000
      · rw [if_pos h2]
        exact .inl ⟨_, _, rfl, by decide, by omega, by omega⟩
      · rw [if_neg h2]
        have hok : (next (l.drop j) (j : Int)).2.2 = true := by simpa using h1
        rcases Nat.lt_or_ge j l.length with hjlt | hjge
        · have hc := drop_cons hjlt
          have hpl := next_placed (l.getD j 0) (l.drop (j + 1)) j (by omega) (by rw [← hc, List.length_drop]; omega) (by rw [← hc]; exact hok)
          rw [← hc] at hpl
          obtain ⟨p1, p2, p3, p4, p5⟩ := hpl
          have hk : (next (l.drop j) (j : Int)).1.kind ≠ 0 := fun h => by
            unfold wrOk at p1
            rw [h] at p1
            simp at p1
          have hpos := next_pos (l.drop j) j hok hk
          have hnl := next_le (l.drop j) (j : Int)
          rw [List.length_drop] at hnl
          rw [if_neg hk, List.drop_drop]
          rcases scan_placed l hl f (j + (next (l.drop j) (j : Int)).2.1) (out ++ [(next (l.drop j) (j : Int)).1]) (by omega) (by omega) with h | ⟨ts, h3, h4⟩
          · exact .inl h
          · refine .inr ⟨(next (l.drop j) (j : Int)).1 :: ts, ?_, j, p3, hij, p1, p2, by omega, ?_, ?_⟩
            · rw [h3]; simp
            · rw [p5]; exact p4.symm
            · rw [p5]; exact h4
        · have hj0 : l.drop j = [] := List.drop_eq_nil_of_le hjge
          have hjn : j = l.length := by omega
          rw [hj0]
          refine .inr ⟨[], ?_, trivial⟩
          rw [List.append_nil]
          have : (next [] (j : Int)).1 = endTk l.length := by
            subst hjn; rfl
          rw [this, if_pos (show (endTk l.length).kind = 0 from rfl)]
theorem pl_at {l : List UInt8} : ∀ (ts : List Tk) (p : Nat), Pl l p ts → ∀ i, (hi : i < ts.length) → ∃ a b : Nat, (ts[i]'hi).at_ = (a : Int) ∧ p ≤ a ∧ ((ts ++ [endTk l.length])[i + 1]'(by simp; omega)).at_ = (b : Int) ∧ wrOk (ts[i]'hi) = true ∧ TkOk (ts[i]'hi) ∧
    a + (wrT (ts[i]'hi)).length ≤ b ∧ b ≤ l.length ∧ (l.drop a).take (wrT (ts[i]'hi)).length = wrT (ts[i]'hi)
  | [], _, _, i, hi => absurd hi (Nat.not_lt_zero _)
  | t :: ts, p, ⟨a, h1, h2, h3, h4, h5, h6, h7⟩, 0, _ => by
    cases ts with
    | nil => exact ⟨a, l.length, h1, h2, rfl, h3, h4, h5, Nat.le_refl _, h6⟩
    | cons u ts =>
      obtain ⟨b, g1, g2, _, _, g5, _⟩ := h7
      exact ⟨a, b, h1, h2, g1, h3, h4, g2, by omega, h6⟩
  | t :: ts, p, ⟨a, h1, h2, h3, h4, h5, h6, h7⟩, i + 1, hi => by
    have hi' : i < ts.length := by simpa using hi
    obtain ⟨x, y, g1, g2, g3, g4, g5, g6, g7, g8⟩ := pl_at ts _ h7 i hi'
    refine ⟨x, y, by simpa using g1, by omega, by simpa using g3, by simpa using g4, by simpa using g5, by simpa using g6, g7, by simpa using g8⟩
theorem pl_right {l : List UInt8} : ∀ (ts : List Tk) (p : Nat), Pl l p ts → rightL (ts ++ [endTk l.length]) = true
  | [], _, _ => rfl
  | t :: ts, p, ⟨a, h1, h2, h3, h4, h5, h6, h7⟩ => by
    have ih := pl_right ts _ h7
    cases hts : ts ++ [endTk l.length] with
    | nil => simp at hts
    | cons u q =>
      rw [hts] at ih
      rw [List.cons_append, hts]
      show (wrOk t && rightL (u :: q)) = true
      rw [h3, ih]; rfl
end Go.Proofs.YtenpcpfkiniggaaDoor
