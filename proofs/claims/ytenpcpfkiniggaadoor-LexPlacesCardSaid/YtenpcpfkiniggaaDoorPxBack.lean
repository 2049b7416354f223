/- Printed tokens are read again. Own work. -/
import Derived.Test.YtenpcpfkiniggaaDoorPxPrint
import Derived.Test.YtenpcpfkiniggaaDoorPxBlanks
import Derived.Test.YtenpcpfkiniggaaDoorLexR
namespace Go.Proofs.YtenpcpfkiniggaaDoor
open Go Go.Proofs.Ab Go.Proofs.Px
set_option linter.unusedVariables false
set_option linter.unusedSimpArgs false

/-- What may follow a word. -/
def Tail (r : List UInt8) : Prop := r = [] ∨ ∃ q, r = 32 :: q
theorem word_tail {r : List UInt8} (h : Tail r) : word r = [] := by
  rcases h with rfl | ⟨q, rfl⟩
  · rfl
  · unfold word
    rw [List.takeWhile_cons]; rfl
theorem word_app : ∀ {w : List UInt8} (r : List UInt8), (∀ c ∈ w, inn c = true) → word (w ++ r) = w ++ word r
  | [], r, _ => rfl
  | c :: w, r, h => by
    have := word_app (w := w) r fun d hd => h d (List.mem_cons_of_mem _ hd)
    unfold word at *
    rw [List.cons_append, List.takeWhile_cons, h c List.mem_cons_self, if_pos rfl, this]; rfl
theorem word_inn : ∀ {w : List UInt8} (h : word w = w), ∀ c ∈ w, inn c = true
  | [], _, c, hc => by cases hc
  | d :: w, h, c, hc => by
    unfold word at h
    rw [List.takeWhile_cons] at h
    cases hd : inn d with
    | false => rw [hd] at h; simp at h
    | true =>
      rw [hd] at h
      simp only [if_true, List.cons.injEq, true_and] at h
      rcases List.mem_cons.1 hc with rfl | hc
      · exact hd
      · exact word_inn (w := w) h c hc
theorem word_rest {w r : List UInt8} (h : word w = w) (hr : Tail r) : word (w ++ r) = w := by
  rw [word_app r (word_inn h), word_tail hr, List.append_nil]
theorem getD_app {w : List UInt8} (r : List UInt8) (h : w ≠ []) : ∃ c q, w ++ r = c :: q ∧ c = w.getD 0 0 := by
  cases w with
  | nil => exact absurd rfl h
  | cons c w => exact ⟨c, w ++ r, rfl, rfl⟩
theorem signIn_two (l : List UInt8) : ∀ s : List (List UInt8), (∀ x ∈ s, x.length ≤ 2) → signIn l s = signIn (l.take 2) s
  | [], _ => rfl
  | x :: s, h => by
    have h1 := signIn_two l s fun y hy => h y (List.mem_cons_of_mem _ hy)
    have h2 := h x List.mem_cons_self
    unfold signIn
    rw [List.take_take, Nat.min_eq_left h2, h1]
theorem sign_two (l : List UInt8) : sign l = sign (l.take 2) := signIn_two l signs (by decide)
theorem sign_rest {w r : List UInt8} (h : isSign w = true) (hr : Tail r) : sign (w ++ r) = w ∧ w ≠ [] ∧ lt (w.getD 0 0) = false ∧ dg (w.getD 0 0) = false := by
  have h1 : signs.all (fun x => decide (sign (x.take 2) = x) && decide (sign ((x ++ [32]).take 2) = x) && decide (x ≠ []) && !lt (x.getD 0 0) && !dg (x.getD 0 0)) = true := by decide
  unfold isSign at h
  have := List.all_eq_true.1 h1 w (List.contains_iff_mem.1 h)
  simp only [Bool.and_eq_true, decide_eq_true_eq, Bool.not_eq_true'] at this
  obtain ⟨⟨⟨⟨h2, h3⟩, h4⟩, h5⟩, h6⟩ := this
  refine ⟨?_, h4, h5, h6⟩
  rcases hr with rfl | ⟨q, rfl⟩
  · rw [List.append_nil, sign_two, h2]
  · rw [sign_two]
    have : (w ++ 32 :: q).take 2 = (w ++ [32]).take 2 := by
      rw [show w ++ 32 :: q = (w ++ [32]) ++ q by simp, List.take_append_of_le_length]
      rw [List.length_append, List.length_singleton]
      have := List.length_pos_iff.2 h4
      omega
    rw [this, h3]
theorem worth_mono : ∀ (l : List UInt8) (u : Nat), u ≤ worth u l
  | [], u => by rw [worth_nil]; exact Nat.le_refl _
  | c :: l, u => by
    have := worth_mono l (u * 10 + (c.toNat - 48))
    rw [worth_cons]; omega
theorem parseGo_worth : ∀ (l : List UInt8) (u : Nat), (∀ c ∈ l, 48 ≤ c.toNat ∧ c.toNat ≤ 57) → worth u l < 9223372036854775808 → parseGo u l = (((worth u l : Nat) : Int), 0)
  | [], u, _, h => by
    rw [worth_nil] at *
    unfold parseGo
    rw [if_neg (by omega)]
  | c :: l, u, hd, h => by
    have h1 := hd c List.mem_cons_self
    rw [worth_cons] at *
    have h2 := worth_mono l (u * 10 + (c.toNat - 48))
    have h3 : dg c = true := by
      unfold dg digit
      rw [decide_eq_true (by omega), decide_eq_true (by omega)]; rfl
    unfold parseGo
    rw [if_pos ⟨h3, by omega⟩]
    exact parseGo_worth l _ (fun d hd' => hd d (List.mem_cons_of_mem _ hd')) h
theorem parse_dec (n : Nat) (h : n < 9223372036854775808) : parse (dec n) = ((n : Int), 0) := by
  have hp : n < 10 ^ 20 := Nat.lt_trans h (by decide)
  have hw := dec_worth n hp
  have hg := parseGo_worth (dec n) 0 (dec_digits n) (by rw [hw]; exact h)
  unfold parse
  rw [if_pos, hg, hw]
  rcases Nat.eq_zero_or_pos n with rfl | hn
  · exact .inr rfl
  · exact .inl (decGo_head 20 n [] hp (by omega) hn)
theorem dec_inn (n : Nat) : word (dec n) = dec n := word_all fun c hc => by
  have := dec_digits n c hc
  unfold inn inner digit
  rw [decide_eq_true (by omega), decide_eq_true (by omega)]; simp
theorem dec_head (n : Nat) : dec n ≠ [] ∧ dg ((dec n).getD 0 0) = true ∧ lt ((dec n).getD 0 0) = false := by
  have h0 : dec n ≠ [] := decGo_ne 20 n [] (by omega)
  obtain ⟨c, q, hc⟩ : ∃ c q, dec n = c :: q := by
    cases h : dec n with
    | nil => exact absurd h h0
    | cons c q => exact ⟨c, q, rfl⟩
  have hd := dec_digits n c (by rw [hc]; exact List.mem_cons_self)
  rw [hc]
  refine ⟨by simp, ?_, ?_⟩
  · show dg c = true
    unfold dg digit
    rw [decide_eq_true (by omega), decide_eq_true (by omega)]; rfl
  · show lt c = false
    unfold lt letter
    rw [decide_eq_false (p := 65 ≤ (c.toNat : Int)) (by omega), decide_eq_false (p := 97 ≤ (c.toNat : Int)) (by omega)]; rfl
/-- A written token ahead of a blank or the end is read again. -/
theorem next_back {t : Tk} (hw : wrOk t = true) (hok : TkOk t) {r : List UInt8} (hr : Tail r) (a : Int) :
    next (wrT t ++ r) a = (⟨t.kind, t.text, t.num, a⟩, (wrT t).length, true) ∧ wrT t ≠ [] := by
  have hb := i64_bounds hok.num
  obtain ⟨kind, text, num, at_⟩ := t
  have go : ∀ (w : List UInt8) (c : UInt8) (q : List UInt8), w ++ r = c :: q → next (w ++ r) a = if lt c then (⟨if isKeyL (word (w ++ r)) then 3 else 1, word (w ++ r), 0, a⟩, (word (w ++ r)).length, decide ((word (w ++ r)).length ≤ 40))
      else if dg c then (⟨2, [], (parse (word (w ++ r))).1, a⟩, (word (w ++ r)).length, decide ((parse (word (w ++ r))).2 = 0)) else (⟨4, sign (w ++ r), 0, a⟩, (sign (w ++ r)).length, !decide (sign (w ++ r) = [])) := fun w c q h => by
    rw [h]; rfl
  dsimp only at *
  unfold wrOk at hw
  unfold wrT
  dsimp only at *
  by_cases h1 : kind = 1
  · subst h1
    simp only [if_true, Bool.and_eq_true, decide_eq_true_eq] at hw
    obtain ⟨rfl, hn⟩ := hw
    obtain ⟨f1, f2, f3, f4, f5⟩ := name_facts hn
    obtain ⟨c, q, hc, hcc⟩ := getD_app r f1
    rw [if_neg (by decide), go text c q hc, hcc, f3, word_rest f5 hr, f4]
    simp [f2, f1]
  · by_cases h3 : kind = 3
    · subst h3
      simp only [if_true, Bool.and_eq_true, decide_eq_true_eq] at hw
      rw [if_neg h1] at hw
      simp only [Bool.and_eq_true, decide_eq_true_eq] at hw
      obtain ⟨rfl, hn⟩ := hw
      obtain ⟨f1, f2, f3, f5⟩ := key_facts hn
      obtain ⟨c, q, hc, hcc⟩ := getD_app r f1
      rw [if_neg (by decide), go text c q hc, hcc, f3, word_rest f5 hr, hn]
      simp [f2, f1]
    · rw [if_neg h1, if_neg h3] at hw
      by_cases h4 : kind = 4
      · subst h4
        simp only [if_true, Bool.and_eq_true, decide_eq_true_eq] at hw
        obtain ⟨rfl, hn⟩ := hw
        obtain ⟨f1, f2, f3, f4⟩ := sign_rest hn hr
        obtain ⟨c, q, hc, hcc⟩ := getD_app r f2
        rw [if_neg (by decide), go text c q hc, hcc, f3, f4, f1]
        simp [f2]
      · rw [if_neg h4] at hw
        by_cases h2 : kind = 2
        · subst h2
          simp only [if_true, Bool.and_eq_true, decide_eq_true_eq] at hw
          obtain ⟨rfl, hn⟩ := hw
          have hdec : decs num = dec num.natAbs := by unfold decs; rw [if_neg (by omega)]
          obtain ⟨f1, f2, f3⟩ := dec_head num.natAbs
          obtain ⟨c, q, hc, hcc⟩ := getD_app r f1
          have hp := parse_dec num.natAbs (by omega)
          rw [if_pos rfl, hdec, go (dec num.natAbs) c q hc, hcc, f3, f2, word_rest (dec_inn _) hr, hp]
          have h5 : ((num.natAbs : Nat) : Int) = num := by omega
          simp [f1, h5]
        · rw [if_neg h2] at hw
          cases hw
theorem signIn_head (b : UInt8) (q : List UInt8) : ∀ s : List (List UInt8), (∀ x ∈ s, x ≠ [] ∧ x.getD 0 0 ≠ b) → signIn (b :: q) s = []
  | [], _ => rfl
  | x :: s, h => by
    unfold signIn
    rw [if_neg, signIn_head b q s fun y hy => h y (List.mem_cons_of_mem _ hy)]
    intro h1
    obtain ⟨h2, h3⟩ := h x List.mem_cons_self
    cases x with
    | nil => exact h2 rfl
    | cons c x =>
      rw [List.length_cons, List.take_succ_cons] at h1
      exact h3 (List.cons.inj h1).1.symm
theorem sk_back {t : Tk} (hw : wrOk t = true) (hok : TkOk t) (r : List UInt8) : sk false (wrT t ++ r) = wrT t ++ r := by
  have hne := (next_back hw hok (.inl rfl) 0).2
  have hn := (next_back hw hok (.inl rfl) 0).1
  rw [List.append_nil] at hn
  cases hc : wrT t with
  | nil => exact absurd hc hne
  | cons c q =>
    rw [hc] at hn
    -- the first byte is no blank
    have h2 : ∀ b : UInt8, b = 10 ∨ b = 32 ∨ b = 35 → (next (b :: q) 0).2.2 = !decide (sign (b :: q) = []) ∧ sign (b :: q) = [] := by
      rintro b (rfl | rfl | rfl)
      all_goals
        refine ⟨rfl, ?_⟩
        exact signIn_head _ q signs (by decide)
    have key : ∀ b : UInt8, b = 10 ∨ b = 32 ∨ b = 35 → c ≠ b := fun b hb e => by
      subst e
      have h1 := congrArg (fun x => x.2.2) hn
      dsimp only at h1
      have h3 := h2 c hb
      rw [h3.1, h3.2] at h1
      simp at h1
    have hcc : c ≠ 10 ∧ c ≠ 32 ∧ c ≠ 35 := ⟨key 10 (.inl rfl), key 32 (.inr (.inl rfl)), key 35 (.inr (.inr rfl))⟩
    rw [List.cons_append]
    unfold sk
    rw [if_neg hcc.1, if_neg (fun h => Bool.noConfusion h), if_neg hcc.2.1, if_neg hcc.2.2]
end Go.Proofs.YtenpcpfkiniggaaDoor
