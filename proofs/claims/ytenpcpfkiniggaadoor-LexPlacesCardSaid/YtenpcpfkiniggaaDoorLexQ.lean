/- Tokens written, rows of them told right, printed, weighed: what both answer. Own work. -/
import Derived.Test.YtenpcpfkiniggaaDoorLexP
namespace Go.Proofs.YtenpcpfkiniggaaDoor
open Go Go.Proofs.Ab Go.Proofs.Px
set_option linter.unusedVariables false
set_option linter.unusedSimpArgs false

/-- A function that writes a token. -/
def Wr (f : FuncId) : Prop := ∀ t : Tk, TkOk t → ∃ x : List UInt8, den Sp f [.agg t.v] [] none = some ⟨.ret (.tup [.str (B x), .bool (wrOk t)]), [], none⟩ ∧ (wrOk t = true → x = wrT t)
theorem dec_bool (p : Prop) [Decidable p] (b : Bool) : (bif decide p then b else false) = (decide p && b) := by cases decide p <;> rfl
theorem beq_dec (a b : Int) : (a == b) = decide (a = b) := by
  by_cases h : a = b
  · subst h; simp
  · rw [beq_eq_false_iff_ne.2 h, decide_eq_false h]
theorem wr_ret {f : FuncId} {t : Tk} {x : List UInt8} {b : Bool} (h : den Sp f [.agg t.v] [] none = some ⟨.ret (.tup [.str (B x), .bool b]), [], none⟩) (hb : b = wrOk t) (hx : wrOk t = true → x = wrT t) :
    ∃ x : List UInt8, den Sp f [.agg t.v] [] none = some ⟨.ret (.tup [.str (B x), .bool (wrOk t)]), [], none⟩ ∧ (wrOk t = true → x = wrT t) := ⟨x, hb ▸ h, hx⟩
theorem lex_written_is : Wr lex_written.id := by
  intro t ht
  have hb := i64_bounds ht.num
  have htl := ht.text
  obtain ⟨kind, text, num, at_⟩ := t
  dsimp only at *
  have e : den Sp lex_written.id [.agg (Tk.v ⟨kind, text, num, at_⟩)] [] none = _ := lex_written.eq kind (B text) num at_
  by_cases h1 : kind = 1
  · subst h1
    by_cases hn : num = 0
    · subst hn
      rw [show ((1 : Int) == 1) = true from rfl, cond_true, show ((0 : Int) == 0) = true from rfl, cond_true, lex_IsName_is _ (by rw [B_size]; omega)] at e
      exact wr_ret (x := text) e (by simp [wrOk]) fun _ => by simp [wrT]
    · rw [show ((1 : Int) == 1) = true from rfl, cond_true, beq_eq_false_iff_ne.2 hn, cond_false] at e
      exact wr_ret (x := text) e (by simp [wrOk, hn]) fun _ => by simp [wrT]
  · rw [beq_eq_false_iff_ne.2 h1, cond_false] at e
    by_cases h3 : kind = 3
    · subst h3
      by_cases hn : num = 0
      · subst hn
        rw [show ((3 : Int) == 3) = true from rfl, cond_true, show ((0 : Int) == 0) = true from rfl, cond_true, lex_isKey_is, isKey_B'] at e
        exact wr_ret (x := text) e (by simp [wrOk]) fun _ => by simp [wrT]
      · rw [show ((3 : Int) == 3) = true from rfl, cond_true, beq_eq_false_iff_ne.2 hn, cond_false] at e
        exact wr_ret (x := text) e (by simp [wrOk, hn]) fun _ => by simp [wrT]
    · rw [beq_eq_false_iff_ne.2 h3, cond_false] at e
      by_cases h4 : kind = 4
      · subst h4
        have hs := sign_self text
        by_cases hn : num = 0
        · subst hn
          rw [show ((4 : Int) == 4) = true from rfl, cond_true, show ((0 : Int) == 0) = true from rfl, cond_true, lex_sign_is _ (by omega), B_nil, B_dec] at e
          cases he : decide (text = []) with
          | true =>
            rw [he, Bool.not_true, cond_false] at e
            rw [he] at hs
            exact wr_ret (x := text) e (by rw [wrOk, if_neg (by simp), if_neg (by simp), if_pos rfl]; simpa using hs) fun _ => by simp [wrT]
          | false =>
            rw [he, Bool.not_false, cond_true] at e
            rw [he, Bool.not_false, Bool.true_and] at hs
            simp only [Option.bind_some, onRet_ret, asStr_str, B_dec] at e
            exact wr_ret (x := text) e (by rw [wrOk, if_neg (by simp), if_neg (by simp), if_pos rfl]; simpa using hs) fun _ => by simp [wrT]
        · rw [show ((4 : Int) == 4) = true from rfl, cond_true, beq_eq_false_iff_ne.2 hn, cond_false] at e
          exact wr_ret (x := text) e (by simp [wrOk, hn]) fun _ => by simp [wrT]
      · rw [beq_eq_false_iff_ne.2 h4, cond_false] at e
        by_cases h2 : kind = 2
        · subst h2
          rw [show ((2 : Int) == 2) = true from rfl, cond_true, num_Text_is num hb.1 hb.2, B_nil, B_dec] at e
          simp only [Option.bind_some, onRet_ret, asStr_str] at e
          cases he : decide (text = []) with
          | true =>
            rw [he, cond_true] at e
            exact wr_ret (x := decs num) e (by simp [wrOk, he]) fun _ => by simp [wrT]
          | false =>
            rw [he, cond_false] at e
            exact wr_ret (x := decs num) e (by simp [wrOk, he]) fun _ => by simp [wrT]
        · rw [beq_eq_false_iff_ne.2 h2, cond_false] at e
          exact wr_ret (x := []) e (by simp [wrOk, h1, h2, h3, h4]) fun h => by simp [wrOk, h1, h2, h3, h4] at h
/-- The first token of a text: whether it is the whole text, and what it is. -/
theorem first_whole (l : List UInt8) (hl : l.length < 4611686018427387904) : ∃ (t : Tk) (n : Nat), den Sp ref02_First.id [.str (B l)] [] none = firstV t n ∧
    ∀ kind : Int, kind ≠ 2 → ((0 < n ∧ n = l.length ∧ t.kind = kind) ↔ (kind = 1 ∧ isName (B l) = true) ∨ (kind = 3 ∧ isKeyL l = true) ∨ (kind = 4 ∧ isSign l = true)) := by
  by_cases hw : word l = []
  · have hname : isName (B l) = false := by
      rw [← Bool.not_eq_true]; intro h
      have := name_facts h
      rw [hw] at this
      exact this.1 this.2.2.2.2.symm
    have hkey : isKeyL l = false := by
      rw [← Bool.not_eq_true]; intro h
      have := key_facts h
      rw [hw] at this
      exact this.1 this.2.2.2.symm
    have hs := first_sign l hl hw
    by_cases h2 : 2 ≤ l.length ∧ isSign (l.take 2) = true
    · rw [if_pos h2] at hs
      refine ⟨_, _, hs, fun kind hk => ⟨fun ⟨_, h5, h6⟩ => .inr (.inr ⟨h6.symm, ?_⟩), fun h => ?_⟩⟩
      · have := h2.2
        rwa [List.take_of_length_le (by omega)] at this
      · rcases h with ⟨_, h⟩ | ⟨_, h⟩ | ⟨rfl, h⟩
        · rw [hname] at h; cases h
        · rw [hkey] at h; cases h
        · rcases (sign_facts h).2.1 with h7 | h7
          · omega
          · exact ⟨by omega, h7.symm, rfl⟩
    · rw [if_neg h2] at hs
      by_cases h1 : 1 ≤ l.length ∧ isSign (l.take 1) = true
      · rw [if_pos h1] at hs
        refine ⟨_, _, hs, fun kind hk => ⟨fun ⟨_, h5, h6⟩ => .inr (.inr ⟨h6.symm, ?_⟩), fun h => ?_⟩⟩
        · have := h1.2
          rwa [List.take_of_length_le (by omega)] at this
        · rcases h with ⟨_, h⟩ | ⟨_, h⟩ | ⟨rfl, h⟩
          · rw [hname] at h; cases h
          · rw [hkey] at h; cases h
          · rcases (sign_facts h).2.1 with h7 | h7
            · exact ⟨by omega, h7.symm, rfl⟩
            · exact absurd ⟨by omega, by rw [List.take_of_length_le (by omega)]; exact h⟩ h2
      · rw [if_neg h1] at hs
        refine ⟨_, _, hs, fun kind hk => ⟨fun ⟨h5, _⟩ => by omega, fun h => ?_⟩⟩
        rcases h with ⟨_, h⟩ | ⟨_, h⟩ | ⟨rfl, h⟩
        · rw [hname] at h; cases h
        · rw [hkey] at h; cases h
        · rcases (sign_facts h).2.1 with h7 | h7
          · exact absurd ⟨by omega, by rw [List.take_of_length_le (by omega)]; exact h⟩ h1
          · exact absurd ⟨by omega, by rw [List.take_of_length_le (by omega)]; exact h⟩ h2
  · have hsign : isSign l = false := by
      rw [← Bool.not_eq_true]; intro h
      exact hw (sign_facts h).1
    obtain ⟨t, n, hd, hc⟩ := first_wd l hl hw
    refine ⟨t, n, hd, fun kind hk => ?_⟩
    rcases hc with ⟨hd, hc⟩ | ⟨hd, hkey, hc, hn⟩ | ⟨hd, hkey, hname, hc, hn⟩ | ⟨hd, hkey, hname, hc, hn⟩
    · constructor
      · rintro ⟨h1, _, h3⟩
        rcases hc with hc | hc
        · omega
        · exact absurd (h3.symm.trans hc) hk
      · rintro (⟨_, h⟩ | ⟨_, h⟩ | ⟨_, h⟩)
        · have := lt_dg (name_facts h).2.2.1
          rw [hd] at this; cases this
        · have := lt_dg (key_facts h).2.2.1
          rw [hd] at this; cases this
        · rw [hsign] at h; cases h
    · constructor
      · rintro ⟨h1, h2, h3⟩
        have := all_word (hn ▸ h2)
        rw [this] at hkey
        exact .inr (.inl ⟨h3.symm.trans hc, hkey⟩)
      · rintro (⟨_, h⟩ | ⟨rfl, h⟩ | ⟨_, h⟩)
        · have h8 := name_facts h
          rw [h8.2.2.2.2, h8.2.2.2.1] at hkey; cases hkey
        · have h8 := key_facts h
          rw [h8.2.2.2] at hn
          exact ⟨by rw [hn]; exact List.length_pos_iff.2 h8.1, hn, hc⟩
        · rw [hsign] at h; cases h
    · constructor
      · rintro ⟨h1, h2, h3⟩
        have := all_word (hn ▸ h2)
        rw [this] at hname
        exact .inl ⟨h3.symm.trans hc, hname⟩
      · rintro (⟨rfl, h⟩ | ⟨_, h⟩ | ⟨_, h⟩)
        · have h8 := name_facts h
          rw [h8.2.2.2.2] at hn
          exact ⟨by rw [hn]; exact List.length_pos_iff.2 h8.1, hn, hc⟩
        · have h8 := key_facts h
          rw [h8.2.2.2, h] at hkey; cases hkey
        · rw [hsign] at h; cases h
    · constructor
      · rintro ⟨h1, _⟩; omega
      · rintro (⟨_, h⟩ | ⟨_, h⟩ | ⟨_, h⟩)
        · have h8 := name_facts h
          rw [h8.2.2.2.2, h] at hname; cases hname
        · have h8 := key_facts h
          rw [h8.2.2.2, h] at hkey; cases hkey
        · rw [hsign] at h; cases h
theorem ref02_Text_is : Wr ref02_Text.id := by
  intro t ht
  have hb := i64_bounds ht.num
  have htl := ht.text
  obtain ⟨kind, text, num, at_⟩ := t
  dsimp only at *
  have e : den Sp ref02_Text.id [.agg (Tk.v ⟨kind, text, num, at_⟩)] [] none = _ := ref02_Text.eq kind (B text) num at_
  by_cases h2 : kind = 2
  · subst h2
    rw [show ((2 : Int) == 2) = true from rfl, cond_true, ref01_Text_is num hb.1 hb.2, B_nil, B_dec] at e
    simp only [Option.bind_some, onRet_ret, asStr_str] at e
    by_cases hn : num ≥ 0
    · rw [decide_eq_true hn, cond_true] at e
      have hn' : 0 ≤ num := hn
      exact wr_ret (x := decs num) e (by simp [wrOk, hn']) fun _ => by simp [wrT]
    · rw [decide_eq_false hn, cond_false] at e
      have hn' : ¬ 0 ≤ num := hn
      exact wr_ret (x := decs num) e (by simp [wrOk, hn']) fun _ => by simp [wrT]
  · rw [beq_eq_false_iff_ne.2 h2, cond_false] at e
    obtain ⟨w, n, hd, hc⟩ := first_whole text (by omega)
    have hc := hc kind h2
    rw [hd] at e
    unfold firstV at e
    simp only [Option.bind_some, onRet_ret, tup2] at e
    rw [tk_agg, tk_0] at e
    have e2 : den Sp ref02_Text.id [.agg (Tk.v ⟨kind, text, num, at_⟩)] [] none = V.asStr (w.v.getD 1 .undef) fun s12 => V.asInt (w.v.getD 2 .undef) IntKind.i64 fun n13 => V.asInt (w.v.getD 3 .undef) IntKind.i64 fun n14 => V.asInt (.int .i64 (n : Int)) IntKind.i64 fun n15 => (bif (num == (0 : Int)) then (bif (decide (n15 > (0 : Int))) then (bif (n15 == (((ByteArray.size (B text)) : Nat) : Int)) then (some ⟨(Out.ret (V.tup [(V.str (B text)), (V.bool (w.kind == kind))])), [], none⟩) else (some ⟨(Out.ret (V.tup [(V.str (B text)), (V.bool Bool.false)])), [], none⟩)) else (some ⟨(Out.ret (V.tup [(V.str (B text)), (V.bool Bool.false)])), [], none⟩)) else (some ⟨(Out.ret (V.tup [(V.str (B text)), (V.bool Bool.false)])), [], none⟩)) := e
    rw [tk_1, tk_2, tk_3, asInt_int, B_size] at e2
    have hwr : wrOk ⟨kind, text, num, at_⟩ = (decide (num = 0) && decide (0 < n ∧ n = text.length ∧ w.kind = kind)) := by
      rw [Bool.eq_iff_iff, Bool.and_eq_true, decide_eq_true_eq, decide_eq_true_eq, hc]
      unfold wrOk
      dsimp only
      by_cases h1 : kind = 1
      · subst h1; simp
      · by_cases h3 : kind = 3
        · subst h3; simp
        · by_cases h4 : kind = 4
          · subst h4; simp
          · simp [h1, h2, h3, h4]
    have hx : wrOk ⟨kind, text, num, at_⟩ = true → text = wrT ⟨kind, text, num, at_⟩ := fun _ => by simp [wrT, h2]
    by_cases hn : num = 0
    · rw [beq_iff_eq.2 hn, cond_true] at e2
      rw [decide_eq_true hn, Bool.true_and] at hwr
      by_cases h5 : 0 < n
      · have h6 : ((n : Int) > 0) := by omega
        rw [decide_eq_true h6, cond_true] at e2
        by_cases h7 : n = text.length
        · rw [beq_iff_eq.2 (by omega), cond_true] at e2
          refine wr_ret e2 ?_ hx
          have h8 : 0 < text.length := h7 ▸ h5
          rw [hwr, beq_dec]
          simp [h7, h8]
        · rw [beq_eq_false_iff_ne.2 (by omega), cond_false] at e2
          exact wr_ret e2 (by rw [hwr]; simp [h7]) hx
      · have h6 : ¬ ((n : Int) > 0) := by omega
        rw [decide_eq_false h6, cond_false] at e2
        exact wr_ret e2 (by rw [hwr]; simp [h5]) hx
    · rw [beq_eq_false_iff_ne.2 hn, cond_false] at e2
      exact wr_ret e2 (by rw [hwr]; simp [hn]) hx
end Go.Proofs.YtenpcpfkiniggaaDoor
