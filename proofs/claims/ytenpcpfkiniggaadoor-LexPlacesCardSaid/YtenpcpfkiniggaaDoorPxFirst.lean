/- A text up to a place: its tokens are the same. Own work. -/
import Derived.Test.YtenpcpfkiniggaaDoorLexE
namespace Go.Proofs.YtenpcpfkiniggaaDoor
open Go Go.Proofs.Ab Go.Proofs.Px
set_option linter.unusedVariables false
set_option linter.unusedSimpArgs false

theorem sk_take : ∀ (rm : Bool) (r : List UInt8) (m : Nat), r.length - (sk rm r).length ≤ m → sk rm (r.take m) = (sk rm r).take (m - (r.length - (sk rm r).length))
  | rm, [], m, _ => by simp [sk]
  | rm, c :: r, m, h => by
    have go : ∀ rm', sk rm (c :: r) = sk rm' r → (∀ r2, sk rm (c :: r2) = sk rm' r2) → sk rm ((c :: r).take m) = (sk rm (c :: r)).take (m - ((c :: r).length - (sk rm (c :: r)).length)) := by
      intro rm' h1 h2
      rw [h1] at h ⊢
      have hle := sk_le rm' r
      rw [List.length_cons] at h ⊢
      obtain ⟨m', rfl⟩ : ∃ m', m = m' + 1 := ⟨m - 1, by omega⟩
      rw [List.take_succ_cons, h2, sk_take rm' r m' (by omega)]
      congr 1; omega
    have stop : sk rm (c :: r) = c :: r → (∀ r2, sk rm (c :: r2) = c :: r2) → sk rm ((c :: r).take m) = (sk rm (c :: r)).take (m - ((c :: r).length - (sk rm (c :: r)).length)) := by
      intro h1 h2
      rw [h1, Nat.sub_self, Nat.sub_zero]
      cases m with
      | zero => rw [List.take_zero]; rfl
      | succ m => rw [List.take_succ_cons, h2]
    by_cases h10 : c = 10
    · exact go false (by rw [sk, if_pos h10]) fun r2 => by rw [sk, if_pos h10]
    · cases rm with
      | true => exact go true (by rw [sk, if_neg h10, if_pos rfl]) fun r2 => by rw [sk, if_neg h10, if_pos rfl]
      | false =>
        have hf : ¬ (false = true) := fun h => Bool.noConfusion h
        by_cases h32 : c = 32
        · exact go false (by rw [sk, if_neg h10, if_neg hf, if_pos h32]) fun r2 => by rw [sk, if_neg h10, if_neg hf, if_pos h32]
        · by_cases h35 : c = 35
          · exact go true (by rw [sk, if_neg h10, if_neg hf, if_neg h32, if_pos h35]) fun r2 => by rw [sk, if_neg h10, if_neg hf, if_neg h32, if_pos h35]
          · exact stop (by rw [sk, if_neg h10, if_neg hf, if_neg h32, if_neg h35]) fun r2 => by rw [sk, if_neg h10, if_neg hf, if_neg h32, if_neg h35]
theorem word_take (r : List UInt8) (m : Nat) (h : (word r).length ≤ m) : word (r.take m) = word r := by
  unfold word at *
  induction r generalizing m with
  | nil => simp
  | cons c r ih =>
    rw [List.takeWhile_cons] at h ⊢
    cases hc : inn c with
    | false =>
      cases m with
      | zero => simp
      | succ m => rw [List.take_succ_cons, List.takeWhile_cons, hc]; simp
    | true =>
      rw [hc] at h
      simp only [if_true, List.length_cons] at h
      obtain ⟨m', rfl⟩ : ∃ m', m = m' + 1 := ⟨m - 1, by omega⟩
      rw [List.take_succ_cons, List.takeWhile_cons, hc]
      simp only [if_true]
      rw [ih m' (by omega)]
theorem signIn_take (r : List UInt8) (m : Nat) : ∀ l, (signIn r l).length ≤ m → signIn r l ≠ [] → signIn (r.take m) l = signIn r l
  | [], _, h => absurd rfl h
  | x :: l, h, hne => by
    unfold signIn at h hne ⊢
    by_cases h1 : r.take x.length = x
    · rw [if_pos h1] at h ⊢
      rw [if_pos]
      rw [List.take_take, Nat.min_eq_left h]; exact h1
    · rw [if_neg h1] at h hne ⊢
      rw [if_neg, signIn_take r m l h hne]
      intro h2
      rw [List.take_take] at h2
      rcases Nat.le_total x.length m with h3 | h3
      · rw [Nat.min_eq_left h3] at h2; exact h1 h2
      · rw [Nat.min_eq_right h3] at h2
        have h4 := congrArg List.length h2
        rw [List.length_take] at h4
        have h5 : min x.length r.length = x.length := by omega
        rcases Nat.lt_or_ge m x.length with h6 | h6
        · omega
        · have : m = x.length := by omega
          subst this; exact h1 h2
theorem next_take (r : List UInt8) (a : Int) (m : Nat) (hok : (next r a).2.2 = true) (hm : (next r a).2.1 ≤ m) : next (r.take m) a = next r a := by
  cases r with
  | nil => simp
  | cons c r =>
    have hx : ∀ r2, next (c :: r2) a = if lt c then (⟨if isKeyL (word (c :: r2)) then 3 else 1, word (c :: r2), 0, a⟩, (word (c :: r2)).length, decide ((word (c :: r2)).length ≤ 40))
        else if dg c then (⟨2, [], (parse (word (c :: r2))).1, a⟩, (word (c :: r2)).length, decide ((parse (word (c :: r2))).2 = 0))
        else (⟨4, sign (c :: r2), 0, a⟩, (sign (c :: r2)).length, !decide (sign (c :: r2) = [])) := fun _ => rfl
    have hw : inn c = true → 0 < (word (c :: r)).length := fun h => by
      unfold word; rw [List.takeWhile_cons, h]; simp
    rw [hx] at hok hm
    cases hl : lt c with
    | true =>
      rw [hl] at hok hm
      simp only [if_true] at hok hm
      have hin : inn c = true := by
        unfold inn inner
        have : letter (c.toNat : Int) = true := hl
        rw [this]; rfl
      have := hw hin
      obtain ⟨m', rfl⟩ : ∃ m', m = m' + 1 := ⟨m - 1, by omega⟩
      have hwt := word_take (c :: r) (m' + 1) hm
      rw [List.take_succ_cons] at hwt ⊢
      rw [hx, hx, hl, hwt]; simp
    | false =>
      rw [hl] at hok hm
      simp only [Bool.false_eq_true, if_false] at hok hm
      cases hd : dg c with
      | true =>
        rw [hd] at hok hm
        simp only [if_true] at hok hm
        have := hw (dg_inn hd)
        obtain ⟨m', rfl⟩ : ∃ m', m = m' + 1 := ⟨m - 1, by omega⟩
        have hwt := word_take (c :: r) (m' + 1) hm
        rw [List.take_succ_cons] at hwt ⊢
        rw [hx, hx, hl, hd, hwt]; simp
      | false =>
        rw [hd] at hok hm
        simp only [Bool.false_eq_true, if_false] at hok hm
        have hne : sign (c :: r) ≠ [] := by
          intro h; rw [h] at hok; simp at hok
        have hlen : 0 < (sign (c :: r)).length := List.length_pos_iff.2 hne
        obtain ⟨m', rfl⟩ : ∃ m', m = m' + 1 := ⟨m - 1, by omega⟩
        have hst := signIn_take (c :: r) (m' + 1) signs hm hne
        rw [List.take_succ_cons] at hst ⊢
        have hst' : sign (c :: r.take m') = sign (c :: r) := hst
        rw [hx, hx, hl, hd, hst']; simp
/-- How a scan ends. -/
theorem scan_ends : ∀ (f n : Nat) (out : List Tk) (r : List UInt8), r.length < f → r.length ≤ n → out.length + r.length < 4000 →
    (∃ toks : List Tk, scanGo f n out r = (out ++ toks ++ [⟨0, [], 0, n⟩], 0, 0) ∧ toks.length ≤ r.length) ∨
    ∃ (a : Nat), scanGo f n out r = ([], (a : Int), 20) ∧ n - r.length ≤ a ∧ a ≤ n ∧
      ∀ f', a - (n - r.length) < f' → ∃ toks : List Tk, scanGo f' a out (r.take (a - (n - r.length))) = (out ++ toks ++ [⟨0, [], 0, a⟩], 0, 0) ∧ toks.length ≤ a - (n - r.length)
  | 0, n, out, r, hf, _, _ => by omega
  | f + 1, n, out, r, hf, hn, ho => by
    have hsl := sk_le false r
    rw [scanGo_succ]
    generalize hj : n - (sk false r).length = j
    have h4 : out.length ≠ 4000 := by omega
    have hpos := next_pos (sk false r) j
    have hnl := next_le (sk false r) j
    cases hok : (next (sk false r) (j : Int)).2.2 with
    | false =>
      right
      refine ⟨j, by rw [if_pos rfl], by omega, by omega, fun f' hf' => ?_⟩
      obtain ⟨f'', rfl⟩ : ∃ f'', f' = f'' + 1 := ⟨f' - 1, by omega⟩
      refine ⟨[], ?_, Nat.zero_le _⟩
      have hst := sk_take false r (j - (n - r.length)) (by omega)
      have h0 : j - (n - r.length) - (r.length - (sk false r).length) = 0 := by omega
      rw [h0, List.take_zero] at hst
      rw [scanGo_succ, hst]
      have hnx : next [] ((j - ([] : List UInt8).length : Nat) : Int) = (⟨0, [], 0, j⟩, 0, true) := rfl
      rw [hnx]
      rw [if_neg (fun h : true = false => Bool.noConfusion h), if_neg h4, if_pos rfl]
      simp
    | true =>
      rw [if_neg (fun h : true = false => Bool.noConfusion h), if_neg h4]
      by_cases hk : (next (sk false r) (j : Int)).1.kind = 0
      · left
        rw [if_pos hk]
        refine ⟨[], ?_, Nat.zero_le _⟩
        have hr0 : sk false r = [] := by
          cases hs : sk false r with
          | nil => rfl
          | cons c r' =>
            exfalso
            rw [hs] at hk
            have hx : next (c :: r') (j : Int) = if lt c then (⟨if isKeyL (word (c :: r')) then 3 else 1, word (c :: r'), 0, j⟩, (word (c :: r')).length, decide ((word (c :: r')).length ≤ 40))
              else if dg c then (⟨2, [], (parse (word (c :: r'))).1, j⟩, (word (c :: r')).length, decide ((parse (word (c :: r'))).2 = 0))
              else (⟨4, sign (c :: r'), 0, j⟩, (sign (c :: r')).length, !decide (sign (c :: r') = [])) := rfl
            rw [hx] at hk
            cases hl : lt c <;> cases hd : dg c <;> cases hkk : isKeyL (word (c :: r')) <;> simp [hl, hd, hkk] at hk
        rw [hr0] at hj ⊢
        have hjn : j = n := by simpa using hj.symm
        subst hjn
        simp [next]
      · have hp := hpos hok hk
        rw [if_neg hk]
        generalize hx : next (sk false r) (j : Int) = x at *
        obtain ⟨t, k, b⟩ := x
        dsimp only at *
        subst hok
        have hlen : ((sk false r).drop k).length = (sk false r).length - k := List.length_drop ..
        rcases scan_ends f n (out ++ [t]) ((sk false r).drop k) (by omega) (by omega) (by rw [List.length_append, List.length_singleton]; omega) with ⟨toks, h1, h2⟩ | ⟨a, h1, h2, h3, h5⟩
        · left
          refine ⟨t :: toks, by rw [h1]; simp, ?_⟩
          rw [List.length_cons]; omega
        · right
          refine ⟨a, h1, by omega, h3, fun f' hf' => ?_⟩
          obtain ⟨f'', rfl⟩ : ∃ f'', f' = f'' + 1 := ⟨f' - 1, by omega⟩
          obtain ⟨toks, h6, h7⟩ := h5 f'' (by omega)
          refine ⟨t :: toks, ?_, by rw [List.length_cons]; omega⟩
          have hst := sk_take false r (a - (n - r.length)) (by omega)
          have hm : a - (n - r.length) - (r.length - (sk false r).length) = a - j := by omega
          rw [hm] at hst
          rw [scanGo_succ, hst]
          have hlt : ((sk false r).take (a - j)).length = a - j := by rw [List.length_take]; omega
          rw [hlt]
          have haj : ((a - (a - j) : Nat) : Int) = (j : Int) := by omega
          rw [haj]
          have hnt := next_take (sk false r) (j : Int) (a - j) (by rw [hx]) (by rw [hx]; show k ≤ a - j; omega)
          rw [hx] at hnt
          rw [hnt]
          dsimp only
          rw [if_neg (fun h : true = false => Bool.noConfusion h), if_neg h4, if_neg hk]
          have hdt : ((sk false r).take (a - j)).drop k = ((sk false r).drop k).take (a - (n - ((sk false r).drop k).length)) := by
            rw [List.drop_take]
            congr 1
            omega
          rw [hdt, h6]
          simp
end Go.Proofs.YtenpcpfkiniggaaDoor
