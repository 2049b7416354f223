/- Values of names that came in. Own work. -/
import Derived.Test.YtipjanijidbelaaEvalB
namespace Go.Proofs.Ytipjanijidbelaa
open Go Go.Proofs.Ab Go.Proofs.Px
set_option linter.unusedVariables false
set_option linter.unusedSimpArgs false
set_option maxRecDepth 100000

theorem env_parts : partTypes Sp.P T_parallaxref05_Env = some [25, 26, 27] := by kernel_rfl
theorem strs_el : Program.underlying Sp.P 25 = some (.slice 9) := by kernel_rfl
theorem ints_el : Program.underlying Sp.P 26 = some (.slice 2) := by kernel_rfl
theorem lists_el : Program.underlying Sp.P 27 = some (.slice 26) := by kernel_rfl
theorem str_pz : Sp.pz 9 = false := by kernel_rfl
theorem i64_pz : Sp.pz 2 = true := by kernel_rfl
theorem i64s_pz : Sp.pz 26 = false := by kernel_rfl
theorem strs_in {cs : List V} (h : Fits Sp.P Sp.pz 25 cs) : ∃ l : List (List UInt8), cs = [.sl .no T_string (sv l)] ∧ l.length ≤ 140737488351232 ∧ ∀ s ∈ l, s.length ≤ 140737488351232 := by
  obtain ⟨es, he, hl, hm, hf⟩ := fits_sl strs_el str_pz h
  obtain ⟨l, rfl, hok⟩ := fits_rows (v := fun s : List UInt8 => [.str (B s)]) (ok := fun s => s.length ≤ 140737488351232) (fun cs h => fits_str str_u h) es hf
  refine ⟨l, he, ?_, hok⟩
  have hb : Program.bytesOf Sp.P 9 = 16 := by kernel_rfl
  rw [hb, List.length_map] at hl
  omega
theorem i64s_in {cs : List V} (h : Fits Sp.P Sp.pz 26 cs) : ∃ (z : Bool) (l : List Int), cs = [.sl (tkz z) T_int64 (iv l)] ∧ (z = true → l = []) ∧ l.length ≤ 140737488351232 ∧ ∀ n ∈ l, i64 n := by
  obtain ⟨tok, es, he, ht, hl, hm, hf⟩ := fits_slz ints_el h
  rw [i64_pz] at ht
  obtain ⟨z, rfl, hz⟩ := ZTok_tkz ht
  obtain ⟨l, rfl, hok⟩ := fits_rows (v := fun n : Int => [.int .i64 n]) (ok := i64) (fun cs h => by
    obtain ⟨n, h1, h2⟩ := fits_int (k := .i64) int64_u h
    exact ⟨n, h1, i64_wf h2⟩) es hf
  refine ⟨z, l, he, fun h => ?_, ?_, hok⟩
  · simpa using hz h
  · have hb : Program.bytesOf Sp.P 2 = 8 := by kernel_rfl
    rw [hb, List.length_map] at hl
    omega
theorem env_in {cs : List V} (h : Fits Sp.P Sp.pz T_parallaxref05_Env cs) : ∃ e : Ev, cs = e.v ∧ EvOk e ∧ e.names.length ≤ 140737488351232 ∧ e.vals.length ≤ 140737488351232 ∧ e.lists.length ≤ 140737488351232 ∧ (∀ s ∈ e.names, s.length ≤ 140737488351232) ∧ ∀ p ∈ e.lists, p.2.length ≤ 140737488351232 := by
  obtain ⟨ps, rfl, hl, hf⟩ := fits_st env_parts h
  match ps, hl with
  | [a, b, c], _ =>
    obtain ⟨names, rfl, w0, w0'⟩ := strs_in (hf 0 _ rfl)
    obtain ⟨z, vals, rfl, w1z, w1, w1'⟩ := i64s_in (hf 1 _ rfl)
    obtain ⟨es, he, hl3, hm3, hf3⟩ := fits_sl lists_el i64s_pz (hf 2 _ rfl)
    have he' : c = _ := he
    subst he'
    obtain ⟨lists, rfl, hok⟩ := fits_rows (v := fun p : Bool × List Int => [.sl (tkz p.1) T_int64 (iv p.2)]) (ok := fun p => (p.1 = true → p.2 = []) ∧ p.2.length ≤ 140737488351232 ∧ ∀ n ∈ p.2, i64 n) (fun cs h => by
      obtain ⟨z, l, h1, h2, h3, h4⟩ := i64s_in h
      exact ⟨(z, l), h1, h2, h3, h4⟩) es hf3
    refine ⟨⟨names, z, vals, lists⟩, rfl, ⟨by show names.length < _; omega, w1', fun p hp => ⟨(hok p hp).1, (hok p hp).2.2⟩⟩, w0, w1, ?_, w0', fun p hp => (hok p hp).2.1⟩
    have hb : Program.bytesOf Sp.P 26 = 24 := by kernel_rfl
    rw [hb, List.length_map] at hl3
    show lists.length ≤ _
    omega
theorem law05_many_is (e : Ev) (h0 : e.names.length ≤ 140737488351232) (h1 : e.vals.length ≤ 140737488351232) (h2 : e.lists.length ≤ 140737488351232) (h3 : ∀ s ∈ e.names, s.length ≤ 140737488351232) (h4 : ∀ p ∈ e.lists, p.2.length ≤ 140737488351232) :
    ∃ b, den Sp law05_many.id [.agg e.v] [] none = some ⟨.ret (.bool b), [], none⟩ := by
  unfold Ev.v
  have c2 : List.contains [2] 2 = true := rfl
  rw [law05_many.eq, c2, tokOf_tkz, iv_len, sv_len]
  have k2 : ∀ i : Nat, i ≤ e.lists.length → ∀ n j : Int, 0 ≤ n → n ≤ 281474976714464 → ∃ b, law05_many.L1_1_1_0_1_0 n j (i : Int) (sv e.names) (tkz e.vz) (iv e.vals) (lv e.lists) = some ⟨.ret (.bool b), [], none⟩ := by
    refine down (fun n j _ _ => ?_) fun i hi ih n j hn hn2 => ?_
    · exact ⟨_, by rw [law05_many.L1_1_1_0_1_0_eq, lv_len, decide_eq_false (Int.lt_irrefl _), cond_false]⟩
    · rw [law05_many.L1_1_1_0_1_0_eq, lv_len, decide_eq_true (show (i : Int) < (e.lists.length : Int) by omega), cond_true]
      by_cases hc : n ≤ 3000
      · have h5 := h4 _ (List.getElem_mem hi)
        rw [decide_eq_true hc, cond_true, if_pos (in_row hi), Int.toNat_natCast, Nat.zero_add, lv_at _ _ hi, asSlN_tkz, iv_len, c2, tokOf_tkz, wrap_nat (by omega), wrap_in (n := n + 1) (by omega) (by omega), wrap_in (by omega) (by omega)]
        obtain ⟨b, hb⟩ := ih (n + 1 + (e.lists[i].2.length : Int)) j (by omega) (by omega)
        refine ⟨b, ?_⟩
        rw [hb]
        cases e.lists[i].1 <;> rfl
      · exact ⟨_, by rw [decide_eq_false hc, cond_false]⟩
  have k1 : ∀ i : Nat, i ≤ e.names.length → ∀ n : Int, 0 ≤ n → n ≤ 281474976714464 → ∃ b, law05_many.L1_1_0_1_0 n (i : Int) (sv e.names) (tkz e.vz) (iv e.vals) (lv e.lists) = some ⟨.ret (.bool b), [], none⟩ := by
    refine down (fun n hn hn2 => ?_) fun i hi ih n hn hn2 => ?_
    · rw [law05_many.L1_1_0_1_0_eq, sv_len, decide_eq_false (Int.lt_irrefl _), cond_false, c2, tokOf_tkz]
      exact k2 0 (Nat.zero_le _) n _ hn hn2
    · rw [law05_many.L1_1_0_1_0_eq, sv_len, decide_eq_true (show (i : Int) < (e.names.length : Int) by omega), cond_true, c2, tokOf_tkz]
      by_cases hc : n ≤ 3000
      · have h5 := h3 _ (List.getElem_mem hi)
        rw [decide_eq_true hc, cond_true, if_pos (in_row hi), Int.toNat_natCast, sv_at _ _ hi, asStr_str, B_size, wrap_nat (by omega), wrap_in (by omega) (by omega)]
        exact ih _ (by omega) (by omega)
      · rw [decide_eq_false hc, cond_false]
        exact k2 0 (Nat.zero_le _) n _ hn hn2
  rw [wrap_in (by omega) (by omega)]
  exact k1 0 (Nat.zero_le _) _ (by omega) (by omega)
theorem law05_own_is (e : Ev) : den Sp law05_own.id [.agg e.v] [] none = some ⟨.ret (.agg e.v), [], none⟩ := by
  unfold Ev.v
  have c2 : List.contains [2] 2 = true := rfl
  rw [law05_own.eq, c2, tokOf_tkz]
end Go.Proofs.Ytipjanijidbelaa
