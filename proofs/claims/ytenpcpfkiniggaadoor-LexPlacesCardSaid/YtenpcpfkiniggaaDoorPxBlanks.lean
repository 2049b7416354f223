/- Blanks and remarks between tokens change nothing but places. Own work. -/
import Derived.Test.YtenpcpfkiniggaaDoorPxFirst
namespace Go.Proofs.YtenpcpfkiniggaaDoor
open Go Go.Proofs.Ab Go.Proofs.Px
set_option linter.unusedVariables false
set_option linter.unusedSimpArgs false

def SimT (a b : Tk) : Prop := a.kind = b.kind ∧ a.text = b.text ∧ a.num = b.num
def Sim (xs ys : List Tk) : Prop := xs.length = ys.length ∧ ∀ (i : Nat) a b, xs[i]? = some a → ys[i]? = some b → SimT a b
theorem Sim.nil : Sim [] [] := ⟨rfl, fun i a b h => by simp at h⟩
theorem Sim.snoc {xs ys : List Tk} {a b : Tk} (h : Sim xs ys) (hab : SimT a b) : Sim (xs ++ [a]) (ys ++ [b]) := by
  refine ⟨by simp [h.1], fun i p q hx hy => ?_⟩
  rcases Nat.lt_or_ge i xs.length with hi | hi
  · rw [List.getElem?_append_left hi] at hx
    rw [List.getElem?_append_left (by rw [← h.1]; exact hi)] at hy
    exact h.2 i p q hx hy
  · rw [List.getElem?_append_right hi] at hx
    rw [List.getElem?_append_right (by rw [← h.1]; exact hi), ← h.1] at hy
    have h0 : i - xs.length = 0 := by
      rcases Nat.eq_zero_or_pos (i - xs.length) with h0 | h0
      · exact h0
      · rw [List.getElem?_eq_none (by simp; omega)] at hx; cases hx
    rw [h0] at hx hy
    simp at hx hy
    subst hx; subst hy; exact hab
theorem next_cons (c : UInt8) (r : List UInt8) (a : Int) : next (c :: r) a = if lt c then (⟨if isKeyL (word (c :: r)) then 3 else 1, word (c :: r), 0, a⟩, (word (c :: r)).length, decide ((word (c :: r)).length ≤ 40))
    else if dg c then (⟨2, [], (parse (word (c :: r))).1, a⟩, (word (c :: r)).length, decide ((parse (word (c :: r))).2 = 0))
    else (⟨4, sign (c :: r), 0, a⟩, (sign (c :: r)).length, !decide (sign (c :: r) = [])) := rfl
theorem next_shift (r : List UInt8) (a a' : Int) : SimT (next r a).1 (next r a').1 ∧ (next r a).2 = (next r a').2 ∧ (next r a).1.at_ = a := by
  cases r with
  | nil => exact ⟨⟨rfl, rfl, rfl⟩, rfl, rfl⟩
  | cons c r =>
    rw [next_cons, next_cons]
    cases lt c <;> cases dg c <;> exact ⟨⟨rfl, rfl, rfl⟩, rfl, rfl⟩
theorem scan_shift : ∀ (f f' n n' : Nat) (out out' : List Tk) (r : List UInt8) (toks : List Tk), scanGo f n out r = (toks, 0, 0) → Sim out out' → r.length < f → r.length < f' → ∃ toks', scanGo f' n' out' r = (toks', 0, 0) ∧ Sim toks toks'
  | 0, f', n, n', out, out', r, toks, h, hs, hf, hf' => by omega
  | f + 1, 0, n, n', out, out', r, toks, h, hs, hf, hf' => by omega
  | f + 1, f' + 1, n, n', out, out', r, toks, h, hs, hf, hf' => by
    rw [scanGo_succ] at h ⊢
    have hsl := sk_le false r
    have hpos := next_pos (sk false r) ((n - (sk false r).length : Nat) : Int)
    have hnl := next_le (sk false r) ((n - (sk false r).length : Nat) : Int)
    obtain ⟨g1, g2, _⟩ := next_shift (sk false r) ((n - (sk false r).length : Nat) : Int) ((n' - (sk false r).length : Nat) : Int)
    generalize next (sk false r) ((n - (sk false r).length : Nat) : Int) = x at *
    generalize next (sk false r) ((n' - (sk false r).length : Nat) : Int) = y at *
    obtain ⟨t, k, b⟩ := x
    obtain ⟨t', k', b'⟩ := y
    dsimp only at *
    cases g2
    cases b with
    | false =>
      rw [if_pos rfl] at h
      have := congrArg (fun x => x.2.2) h
      simp at this
    | true =>
      rw [if_neg (fun h : true = false => Bool.noConfusion h)] at h ⊢
      rw [← hs.1]
      by_cases h4 : out.length = 4000
      · rw [if_pos h4] at h
        have := congrArg (fun x => x.2.2) h
        simp at this
      · rw [if_neg h4] at h ⊢
        rw [← g1.1]
        by_cases hk : t.kind = 0
        · rw [if_pos hk] at h ⊢
          cases h
          exact ⟨_, rfl, hs.snoc g1⟩
        · rw [if_neg hk] at h ⊢
          have hp := hpos rfl hk
          exact scan_shift f f' n n' _ _ _ toks h (hs.snoc g1) (by rw [List.length_drop]; omega) (by rw [List.length_drop]; omega)
theorem sk_cases (rm : Bool) (c : UInt8) (r : List UInt8) : (∃ rm', ∀ r2, sk rm (c :: r2) = sk rm' r2) ∨ (rm = false ∧ ∀ r2, sk rm (c :: r2) = c :: r2) := by
  by_cases h10 : c = 10
  · exact .inl ⟨false, fun r2 => by rw [sk, if_pos h10]⟩
  · cases rm with
    | true => exact .inl ⟨true, fun r2 => by rw [sk, if_neg h10, if_pos rfl]⟩
    | false =>
      have hf : ¬ (false = true) := fun h => Bool.noConfusion h
      by_cases h32 : c = 32
      · exact .inl ⟨false, fun r2 => by rw [sk, if_neg h10, if_neg hf, if_pos h32]⟩
      · by_cases h35 : c = 35
        · exact .inl ⟨true, fun r2 => by rw [sk, if_neg h10, if_neg hf, if_neg h32, if_pos h35]⟩
        · exact .inr ⟨rfl, fun r2 => by rw [sk, if_neg h10, if_neg hf, if_neg h32, if_neg h35]⟩
theorem sk_state : ∀ (rm : Bool) (r : List UInt8), ∃ rm', (∀ y, sk rm (r.take (r.length - (sk rm r).length) ++ y) = sk rm' y) ∧ (sk rm r ≠ [] → rm' = false)
  | rm, [] => ⟨rm, fun y => by simp [sk], fun h => absurd rfl h⟩
  | rm, c :: r => by
    rcases sk_cases rm c r with ⟨rm', h⟩ | ⟨rfl, h⟩
    · obtain ⟨rm2, h1, h2⟩ := sk_state rm' r
      have hle := sk_le rm' r
      rw [h r]
      refine ⟨rm2, fun y => ?_, h2⟩
      rw [show (c :: r).length - (sk rm' r).length = (r.length - (sk rm' r).length) + 1 by rw [List.length_cons]; omega, List.take_succ_cons, List.cons_append, h]
      exact h1 y
    · rw [h r]
      exact ⟨false, fun y => by simp, fun _ => rfl⟩
theorem sk_idem : ∀ (rm : Bool) (r : List UInt8), sk false (sk rm r) = sk rm r
  | rm, [] => rfl
  | rm, c :: r => by
    rcases sk_cases rm c r with ⟨rm', h⟩ | ⟨rfl, h⟩
    · rw [h r]; exact sk_idem rm' r
    · rw [h r]; exact h r
/-- What begins at a place goes on from there, whatever follows. -/
theorem sk_pre (r : List UInt8) (d : Nat) (z : List UInt8) (h : sk false r ≠ []) (hd : r.length - (sk false r).length < d) :
    sk false (r.take d ++ z) = (sk false r).take (d - (r.length - (sk false r).length)) ++ z := by
  obtain ⟨rm', h1, h2⟩ := sk_state false r
  obtain rfl := h2 h
  have hdr := sk_drop false r
  have hle := sk_le false r
  generalize he : r.length - (sk false r).length = e at *
  have hsplit : r.take d = r.take e ++ (sk false r).take (d - e) := by
    rw [hdr]
    have : r.take d = (r.take e ++ r.drop e).take d := by rw [List.take_append_drop]
    rw [this, List.take_append, List.take_take, List.length_take, Nat.min_eq_right (by omega)]
    congr 2
    omega
  rw [hsplit, List.append_assoc, h1]
  cases hs : sk false r with
  | nil => exact absurd hs h
  | cons c r1 =>
    have hid := sk_idem false r
    rw [hs] at hid
    obtain ⟨m, hm⟩ : ∃ m, d - e = m + 1 := ⟨d - e - 1, by omega⟩
    rw [hm, List.take_succ_cons, List.cons_append]
    rcases sk_cases false c r1 with ⟨rm2, h3⟩ | ⟨_, h3⟩
    · exfalso
      rw [h3] at hid
      have := sk_le rm2 r1
      rw [hid, List.length_cons] at this
      omega
    · exact h3 _
/-- Blank text: what stands between tokens. -/
structure Blankish (x : List UInt8) : Prop where
  f : ∀ y, sk false (x ++ y) = sk false y
  t : sk true x = []
  hd : ∃ e x', x = e :: x' ∧ inn e = false ∧ lt e = false ∧ ∀ y ∈ signs, e ∉ y
theorem word_stop (q : List UInt8) (e : UInt8) (z : List UInt8) (he : inn e = false) : word (q ++ e :: z) = word q := by
  unfold word
  induction q with
  | nil => rw [List.nil_append, List.takeWhile_cons, he]; simp
  | cons c q ih =>
    rw [List.cons_append, List.takeWhile_cons, List.takeWhile_cons, ih]
theorem signIn_stop (q : List UInt8) (e : UInt8) (z : List UInt8) : ∀ l : List (List UInt8), (∀ y ∈ l, e ∉ y) → signIn (q ++ e :: z) l = signIn q l
  | [], _ => rfl
  | y :: l, h => by
    unfold signIn
    rw [signIn_stop q e z l fun y hy => h y (List.mem_cons_of_mem _ hy)]
    have : (q ++ e :: z).take y.length = y ↔ q.take y.length = y := by
      rcases Nat.lt_or_ge q.length y.length with hlt | hge
      · constructor
        · intro h1
          exfalso
          apply h y (List.mem_cons_self ..)
          rw [← h1, List.take_append]
          refine List.mem_append_right _ ?_
          obtain ⟨m, hm⟩ : ∃ m, y.length - q.length = m + 1 := ⟨y.length - q.length - 1, by omega⟩
          rw [hm, List.take_succ_cons]
          exact List.mem_cons_self ..
        · intro h1
          have := congrArg List.length h1
          rw [List.length_take] at this
          omega
      · rw [List.take_append, show y.length - q.length = 0 by omega]
        simp
    by_cases h1 : q.take y.length = y
    · rw [if_pos h1, if_pos (this.2 h1)]
    · rw [if_neg h1, if_neg fun h2 => h1 (this.1 h2)]
theorem next_stop (q : List UInt8) (hq : q ≠ []) (e : UInt8) (z : List UInt8) (a : Int) (he : inn e = false) (hs : ∀ y ∈ signs, e ∉ y) : next (q ++ e :: z) a = next q a := by
  cases q with
  | nil => exact absurd rfl hq
  | cons c q =>
    have h1 := word_stop (c :: q) e z he
    have h2 : sign (c :: q ++ e :: z) = sign (c :: q) := signIn_stop (c :: q) e z signs hs
    rw [List.cons_append] at h1 h2 ⊢
    rw [next_cons, next_cons, h1, h2]
theorem next_zero_cons {c : UInt8} {r : List UInt8} {a : Int} : (next (c :: r) a).1.kind ≠ 0 := by
  rw [next_cons]
  cases lt c <;> cases dg c <;> cases isKeyL (word (c :: r)) <;> simp
/-- **Blanks ahead of a token.** -/
theorem scan_blanks {x : List UInt8} (hx : Blankish x) : ∀ (f n : Nat) (out : List Tk) (r : List UInt8) (toks : List Tk) (k : Nat) (t : Tk), scanGo f n out r = (toks, 0, 0) → r.length < f → r.length ≤ n → out.length ≤ k → toks[k]? = some t →
    ∃ a : Nat, t.at_ = (a : Int) ∧ n - r.length ≤ a ∧ a ≤ n ∧ ∀ f' out', Sim out out' → r.length + x.length < f' →
      ∃ toks', scanGo f' (n + x.length) out' (r.take (a - (n - r.length)) ++ (x ++ r.drop (a - (n - r.length)))) = (toks', 0, 0) ∧ Sim toks toks'
  | 0, n, out, r, toks, k, t, h, hf, hn, hk, ht => by omega
  | f + 1, n, out, r, toks, k, t, h, hf, hn, hk, ht => by
    have hsl := sk_le false r
    have hdr := sk_drop false r
    rw [scanGo_succ] at h
    generalize hj : n - (sk false r).length = j at h
    have hpos := next_pos (sk false r) j
    have hnl := next_le (sk false r) j
    obtain ⟨-, -, hat⟩ := next_shift (sk false r) j j
    cases hok : (next (sk false r) (j : Int)).2.2 with
    | false =>
      rw [hok, if_pos rfl] at h
      have := congrArg (fun x => x.2.2) h
      simp at this
    | true =>
      rw [hok, if_neg (fun h : true = false => Bool.noConfusion h)] at h
      by_cases h4 : out.length = 4000
      · rw [if_pos h4] at h
        have := congrArg (fun x => x.2.2) h
        simp at this
      rw [if_neg h4] at h
      by_cases hkk : k = out.length
      · -- ahead of this token
        have htk : t = (next (sk false r) (j : Int)).1 := by
          by_cases hz : (next (sk false r) (j : Int)).1.kind = 0
          · rw [if_pos hz] at h
            cases h
            rw [hkk, List.getElem?_append_right (Nat.le_refl _), Nat.sub_self] at ht
            simpa using ht.symm
          · rw [if_neg hz] at h
            -- the token stays where it is
            have pre : ∀ (f n : Nat) (out : List Tk) (r : List UInt8) (toks : List Tk), scanGo f n out r = (toks, 0, 0) → r.length < f → ∀ i, i < out.length → toks[i]? = out[i]? := by
              intro f
              induction f with
              | zero => intro n out r toks h hf; omega
              | succ f ih =>
                intro n out r toks h hf i hi
                rw [scanGo_succ] at h
                have hsl := sk_le false r
                have hpos := next_pos (sk false r) ((n - (sk false r).length : Nat) : Int)
                have hnl := next_le (sk false r) ((n - (sk false r).length : Nat) : Int)
                generalize next (sk false r) ((n - (sk false r).length : Nat) : Int) = y at *
                obtain ⟨t, k, b⟩ := y
                dsimp only at *
                cases b with
                | false =>
                  rw [if_pos rfl] at h
                  have := congrArg (fun x => x.2.2) h
                  simp at this
                | true =>
                  rw [if_neg (fun h : true = false => Bool.noConfusion h)] at h
                  by_cases h4 : out.length = 4000
                  · rw [if_pos h4] at h
                    have := congrArg (fun x => x.2.2) h
                    simp at this
                  · rw [if_neg h4] at h
                    by_cases hk : t.kind = 0
                    · rw [if_pos hk] at h
                      cases h
                      rw [List.getElem?_append_left hi]
                    · rw [if_neg hk] at h
                      have hp := hpos rfl hk
                      rw [ih n _ _ toks h (by rw [List.length_drop]; omega) i (by rw [List.length_append]; omega), List.getElem?_append_left hi]
            have hp := hpos hok hz
            have := pre f n _ _ toks h (by rw [List.length_drop]; omega) k (by rw [List.length_append, List.length_singleton]; omega)
            rw [ht, hkk, List.getElem?_append_right (Nat.le_refl _), Nat.sub_self] at this
            simpa using this
        refine ⟨j, by rw [htk, hat], by omega, by omega, fun f' out' hs hf' => ?_⟩
        have hd : j - (n - r.length) = r.length - (sk false r).length := by omega
        rw [hd, ← hdr]
        obtain ⟨rm', h1, h2⟩ := sk_state false r
        have hsk : sk false (r.take (r.length - (sk false r).length) ++ (x ++ sk false r)) = sk false r := by
          rw [h1]
          cases hs1 : sk false r with
          | nil =>
            rw [List.append_nil]
            cases rm' with
            | true => exact hx.t
            | false =>
              have := hx.f []
              rw [List.append_nil] at this
              rw [this]; rfl
          | cons c r1 =>
            rw [h2 (by rw [hs1]; nofun), hx.f]
            have := sk_idem false r
            rw [hs1] at this
            exact this
        obtain ⟨f'', rfl⟩ : ∃ f'', f' = f'' + 1 := ⟨f' - 1, by omega⟩
        obtain ⟨g1, g2, _⟩ := next_shift (sk false r) (j : Int) ((n + x.length - (sk false r).length : Nat) : Int)
        rw [scanGo_succ, hsk, ← g2, hok, if_neg (fun h : true = false => Bool.noConfusion h), ← hs.1, if_neg h4, ← g1.1]
        by_cases hz : (next (sk false r) (j : Int)).1.kind = 0
        · rw [if_pos hz] at h ⊢
          cases h
          exact ⟨_, rfl, hs.snoc g1⟩
        · rw [if_neg hz] at h ⊢
          have hp := hpos hok hz
          exact scan_shift f f'' n (n + x.length) _ _ _ toks h (hs.snoc g1) (by rw [List.length_drop]; omega) (by rw [List.length_drop]; omega)
      · -- ahead of a later one
        have hz : (next (sk false r) (j : Int)).1.kind ≠ 0 := by
          intro hz
          rw [if_pos hz] at h
          cases h
          have := (List.getElem?_eq_some_iff.1 ht).1
          rw [List.length_append, List.length_singleton] at this
          omega
        rw [if_neg hz] at h
        have hp := hpos hok hz
        have hne : sk false r ≠ [] := by
          intro h0; rw [h0] at hz; exact hz rfl
        have hlen2 : ((sk false r).drop (next (sk false r) (j : Int)).2.1).length = (sk false r).length - (next (sk false r) (j : Int)).2.1 := List.length_drop ..
        obtain ⟨a, ha1, ha2, ha3, ha4⟩ := scan_blanks hx f n _ _ toks k t h (by omega) (by omega) (by rw [List.length_append, List.length_singleton]; omega) ht
        refine ⟨a, ha1, by omega, ha3, fun f' out' hs hf' => ?_⟩
        obtain ⟨f'', rfl⟩ : ∃ f'', f' = f'' + 1 := ⟨f' - 1, by omega⟩
        have hpre := sk_pre r (a - (n - r.length)) (x ++ r.drop (a - (n - r.length))) hne (by omega)
        have hd1 : a - (n - r.length) - (r.length - (sk false r).length) = a - j := by omega
        rw [hd1] at hpre
        have hdd : r.drop (a - (n - r.length)) = (sk false r).drop (a - j) := by
          have : (sk false r).drop (a - j) = (r.drop (r.length - (sk false r).length)).drop (a - j) := by rw [← hdr]
          rw [this, List.drop_drop]
          congr 1; omega
        obtain ⟨e, x', rfl, he1, _, he2⟩ := hx.hd
        have hq : (sk false r).take (a - j) ≠ [] := by
          intro h0
          have := congrArg List.length h0
          rw [List.length_take, List.length_nil] at this
          omega
        have hlenT : ((sk false r).take (a - j) ++ ((e :: x') ++ r.drop (a - (n - r.length)))).length = (sk false r).length + (e :: x').length := by
          rw [hdd, List.length_append, List.length_append, List.length_take, List.length_drop]; omega
        have hnx : next ((sk false r).take (a - j) ++ ((e :: x') ++ r.drop (a - (n - r.length)))) ((n + (e :: x').length - ((sk false r).take (a - j) ++ ((e :: x') ++ r.drop (a - (n - r.length)))).length : Nat) : Int) = next (sk false r) (j : Int) := by
          rw [hlenT]
          have : ((n + (e :: x').length - ((sk false r).length + (e :: x').length) : Nat) : Int) = (j : Int) := by omega
          rw [this, List.cons_append, next_stop _ hq e _ _ he1 he2]
          exact next_take (sk false r) (j : Int) (a - j) hok (by omega)
        obtain ⟨g1, _, _⟩ := next_shift (sk false r) (j : Int) (j : Int)
        obtain ⟨toks', h5, h6⟩ := ha4 f'' (out' ++ [(next (sk false r) (j : Int)).1]) (hs.snoc g1) (by omega)
        refine ⟨toks', ?_, h6⟩
        rw [scanGo_succ, hpre, hnx, hok, if_neg (fun h : true = false => Bool.noConfusion h), ← hs.1, if_neg h4, if_neg hz, ← h5]
        congr 1
        generalize (next (sk false r) (j : Int)).2.1 = kn at *
        rw [hdd, List.drop_append, List.length_take, show kn - min (a - j) (sk false r).length = 0 by omega, List.drop_zero, List.drop_take, hlen2]
        rw [show a - (n - ((sk false r).length - kn)) = a - j - kn by omega, List.drop_drop, show kn + (a - j - kn) = a - j by omega]
end Go.Proofs.YtenpcpfkiniggaaDoor
