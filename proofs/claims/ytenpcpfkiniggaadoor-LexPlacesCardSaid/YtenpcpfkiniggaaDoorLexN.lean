/- Numbers' texts: what both answer. Own work. -/
import Derived.Test.YtenpcpfkiniggaaDoorPxDec
import Derived.Test.YtenpcpfkiniggaaDoorR1
namespace Go.Proofs.YtenpcpfkiniggaaDoor
open Go Go.Proofs.Ab Go.Proofs.Px
set_option linter.unusedVariables false
set_option linter.unusedSimpArgs false

theorem dgt_w (u : Nat) : IntKind.wrap IntKind.u8 (IntKind.wrap IntKind.u64 ((48 : Int) + (Int.tmod (u : Int) (10 : Int)))) = ((dgt u).toNat : Int) := by
  rw [dgt_nat, Int.tmod_eq_emod_of_nonneg (by omega), IntKind.wrap_u64, IntKind.wrap_u8]
  omega
theorem div_w (u : Nat) (h : u < 18446744073709551616) : IntKind.wrap IntKind.u64 (Int.tdiv (u : Int) (10 : Int)) = ((u / 10 : Nat) : Int) := by
  rw [Int.tdiv_eq_ediv_of_nonneg (by omega), IntKind.wrap_u64]
  omega
def sgn (n : Int) (l : List UInt8) : List UInt8 := if n < 0 then 45 :: l else l
theorem set_drop (l : List (List V)) (k : Nat) (x : List V) (h : k < l.length) : (l.set k x).drop k = x :: l.drop (k + 1) := by
  rw [List.drop_set, if_neg (by omega), Nat.sub_self, List.drop_eq_getElem_cons h]
  rfl
theorem text_loop (n : Int) (f : Nat) : ∀ (k u : Nat) (acc : List UInt8) (l : List (List V)), u < 10 ^ f → u < 18446744073709551616 → 0 < f → f + 1 ≤ k → k ≤ 20 → l.length = 20 → l.drop k = bv acc →
    num_Text.L1_1_1_1_1_0_0 n (k : Int) (u : Int) l = some ⟨.ret (.str (B (sgn n (decGo f u acc)))), [], none⟩ := by
  induction f with
  | zero => intro _ _ _ _ _ _ h; omega
  | succ f ih =>
    intro k u acc l hu hu6 hf0 hk hk2 hl hd
    obtain ⟨k, rfl⟩ : ∃ j, k = j + 1 := ⟨k - 1, by omega⟩
    have w1 : IntKind.wrap IntKind.i64 (((k + 1 : Nat) : Int) - 1) = (k : Int) := by rw [wrap_in (by omega) (by omega)]; omega
    have c1 : ((0 : Int) ≤ (k : Int)) ∧ (((k : Int) < ((20 : Nat) : Int)) ∧ ((k : Int) < ((l.length : Nat) : Int))) := by rw [hl]; omega
    have hset : (l.set k [V.int .u8 ((dgt u).toNat : Int)]).drop k = bv (dgt u :: acc) := by
      rw [set_drop l k _ (by omega), hd]; rfl
    have hlen : (l.set k [V.int .u8 ((dgt u).toNat : Int)]).length = 20 := by rw [List.length_set]; exact hl
    have tk : ∀ (m : List (List V)) (j : Nat) (t : List UInt8), m.length = 20 → j ≤ 20 → m.drop j = bv t → m.drop j = bv t ∧ (m.drop j).take (20 - j) = bv t := fun m j t h1 h2 h3 =>
      ⟨h3, by rw [List.take_of_length_le (by rw [List.length_drop]; omega), h3]⟩
    rw [num_Text.L1_1_1_1_1_0_0_eq, w1, if_pos c1, dgt_w, div_w u hu6, Int.toNat_natCast]
    unfold decGo
    by_cases h0 : u / 10 = 0
    · rw [if_pos h0, h0, show (((0 : Nat) : Int) == (0 : Int)) = true from rfl, cond_true]
      by_cases hn : n < 0
      · obtain ⟨k, rfl⟩ : ∃ j, k = j + 1 := ⟨k - 1, by omega⟩
        have w2 : IntKind.wrap IntKind.i64 (((k + 1 : Nat) : Int) - 1) = (k : Int) := by rw [wrap_in (by omega) (by omega)]; omega
        have hset2 : ((l.set (k + 1) [V.int .u8 ((dgt u).toNat : Int)]).set k [V.int .u8 45]).drop k = bv (45 :: dgt u :: acc) := by
          rw [set_drop _ k _ (by omega), hset]; rfl
        have hlen2 : ((l.set (k + 1) [V.int .u8 ((dgt u).toNat : Int)]).set k [V.int .u8 45]).length = 20 := by rw [List.length_set]; exact hlen
        have ht := tk _ k _ hlen2 (by omega) hset2
        rw [decide_eq_true hn, cond_true, w2, if_pos (by rw [hlen]; omega), if_pos (by omega), Int.toNat_natCast, hlen2, if_pos (by omega), ht.2, bytesOk_bv, if_pos ⟨rfl, by omega⟩, toBytes_bv]
        unfold sgn
        rw [if_pos hn]
        rfl
      · have ht := tk _ k _ hlen (by omega) hset
        rw [decide_eq_false hn, cond_false, if_pos (by omega), hlen, if_pos (by omega), ht.2, bytesOk_bv, if_pos ⟨rfl, by omega⟩, toBytes_bv]
        unfold sgn
        rw [if_neg hn]
        rfl
    · have h1 : u / 10 < 10 ^ f := by
        rw [Nat.pow_succ] at hu
        omega
      have hf : 0 < f := by
        rcases Nat.eq_zero_or_pos f with rfl | h2
        · simp at h1; omega
        · exact h2
      rw [if_neg h0, beq_eq_false_iff_ne.2 (by omega), cond_false]
      exact ih k (u / 10) (dgt u :: acc) _ h1 (by omega) hf (by omega) (by omega) hlen hset
theorem num_Text_is (n : Int) (h0 : -9223372036854775808 ≤ n) (h1 : n ≤ 9223372036854775807) : den Sp num_Text.id [.int .i64 n] [] none = some ⟨.ret (.str (B (decs n))), [], none⟩ := by
  have h19 : (10 : Nat) ^ 19 = 10000000000000000000 := by decide
  have hb : n.natAbs < 10 ^ 19 := by rw [h19]; omega
  have hz : ∀ u : Nat, u = n.natAbs → num_Text.L1_1_1_1_1_0_0 n (20 : Int) (u : Int) [[(V.int IntKind.u8 (0 : Int))], [(V.int IntKind.u8 (0 : Int))], [(V.int IntKind.u8 (0 : Int))], [(V.int IntKind.u8 (0 : Int))], [(V.int IntKind.u8 (0 : Int))], [(V.int IntKind.u8 (0 : Int))], [(V.int IntKind.u8 (0 : Int))], [(V.int IntKind.u8 (0 : Int))], [(V.int IntKind.u8 (0 : Int))], [(V.int IntKind.u8 (0 : Int))], [(V.int IntKind.u8 (0 : Int))], [(V.int IntKind.u8 (0 : Int))], [(V.int IntKind.u8 (0 : Int))], [(V.int IntKind.u8 (0 : Int))], [(V.int IntKind.u8 (0 : Int))], [(V.int IntKind.u8 (0 : Int))], [(V.int IntKind.u8 (0 : Int))], [(V.int IntKind.u8 (0 : Int))], [(V.int IntKind.u8 (0 : Int))], [(V.int IntKind.u8 (0 : Int))]] =
      some ⟨.ret (.str (B (decs n))), [], none⟩ := by
    rintro u rfl
    have := text_loop n 19 20 n.natAbs [] _ hb (by omega) (by omega) (by omega) (by omega) (show List.length [[(V.int IntKind.u8 (0 : Int))], [(V.int IntKind.u8 (0 : Int))], [(V.int IntKind.u8 (0 : Int))], [(V.int IntKind.u8 (0 : Int))], [(V.int IntKind.u8 (0 : Int))], [(V.int IntKind.u8 (0 : Int))], [(V.int IntKind.u8 (0 : Int))], [(V.int IntKind.u8 (0 : Int))], [(V.int IntKind.u8 (0 : Int))], [(V.int IntKind.u8 (0 : Int))], [(V.int IntKind.u8 (0 : Int))], [(V.int IntKind.u8 (0 : Int))], [(V.int IntKind.u8 (0 : Int))], [(V.int IntKind.u8 (0 : Int))], [(V.int IntKind.u8 (0 : Int))], [(V.int IntKind.u8 (0 : Int))], [(V.int IntKind.u8 (0 : Int))], [(V.int IntKind.u8 (0 : Int))], [(V.int IntKind.u8 (0 : Int))], [(V.int IntKind.u8 (0 : Int))]] = 20 from rfl) rfl
    refine Eq.trans this ?_
    rw [← dec_of 19 n.natAbs hb (by omega) (by omega)]
    rfl
  rw [num_Text.eq]
  by_cases hn : n < 0
  · have e1 : IntKind.wrap IntKind.u64 ((0 : Int) - (IntKind.wrap IntKind.u64 n)) = ((n.natAbs : Nat) : Int) := by rw [IntKind.wrap_u64, IntKind.wrap_u64]; omega
    rw [decide_eq_true hn, cond_true, e1, hz _ rfl]
  · have e1 : IntKind.wrap IntKind.u64 n = ((n.natAbs : Nat) : Int) := by rw [IntKind.wrap_u64]; omega
    rw [decide_eq_false hn, cond_false, e1, hz _ rfl]
end Go.Proofs.YtenpcpfkiniggaaDoor
