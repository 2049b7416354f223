/- How great a program is, as the reference counts. Own work. -/
import Derived.Test.YtipjanijidbelaaPxSize
namespace Go.Proofs.Ytipjanijidbelaa
open Go Go.Proofs.Ab Go.Proofs.Px
set_option linter.unusedVariables false
set_option linter.unusedSimpArgs false
set_option maxRecDepth 100000

def Par.sizes : List Par → Nat
  | [] => 0
  | x :: l => x.name.length / 8 + Par.sizes l
theorem Par.sizes_drop {l : List Par} {i : Nat} (h : i < l.length) : Par.sizes (l.drop i) = l[i].name.length / 8 + Par.sizes (l.drop (i + 1)) := by
  rw [List.drop_eq_getElem_cons h, Par.sizes]
def Prc.size (p : Prc) : Nat := 1 + p.name.length / 8 + p.params.length + Par.sizes p.params + Stm.sizes p.body
def Prc.sizes : List Prc → Nat
  | [] => 0
  | x :: l => x.size + Prc.sizes l
theorem Prc.sizes_drop {l : List Prc} {i : Nat} (h : i < l.length) : Prc.sizes (l.drop i) = l[i].size + Prc.sizes (l.drop (i + 1)) := by
  rw [List.drop_eq_getElem_cons h, Prc.sizes]
theorem Prc.sizes_app : ∀ a b : List Prc, Prc.sizes (a ++ b) = Prc.sizes a + Prc.sizes b
  | [], b => by simp [Prc.sizes]
  | x :: a, b => by rw [List.cons_append, Prc.sizes, Prc.sizes, Prc.sizes_app a b]; omega
theorem Prc.size_mem : ∀ {l : List Prc} {x : Prc}, x ∈ l → x.size ≤ Prc.sizes l
  | y :: l, x, h => by
    rw [Prc.sizes]
    rcases List.mem_cons.1 h with rfl | h
    · omega
    · have := Prc.size_mem h; omega
theorem Prc.sizes_len : ∀ l : List Prc, l.length ≤ Prc.sizes l
  | [] => Nat.zero_le _
  | x :: l => by rw [Prc.sizes]; have := Prc.sizes_len l; unfold Prc.size; simp only [List.length_cons]; omega
theorem ref03_Size_is (ps : List Prc) (hl : ps.length ≤ 140737488351232) (hok : ∀ p ∈ ps, PrcOk p) (most : Int) (h0 : 0 ≤ most) (h1 : most ≤ 1000000) :
    ∃ n : Int, den Sp ref03_Size.id [.agg [.sl .no T_api_Proc (ps.map Prc.v)], .int .i64 most] [] none = some ⟨.ret (.int .i64 n), [], none⟩ ∧ 0 ≤ n ∧ (n ≤ most → n = (Prc.sizes ps : Int)) := by
  rw [ref03_Size.eq]
  have inner : ∀ i (hi : i < ps.length), (∀ n k : Int, 0 ≤ n → n ≤ most + 281474976710656 → ∃ n2 : Int, ref03_Size.L1_1_0_1_0v1 most n ((i + 1 : Nat) : Int) k (ps.map Prc.v) = some ⟨.ret (.int .i64 n2), [], none⟩ ∧ n ≤ n2 ∧ n2 ≤ most + 281474976710656 ∧ (n2 ≤ most → n2 = n + (Prc.sizes (ps.drop (i + 1)) : Int))) →
      ∀ j : Nat, j ≤ ps[i].params.length → ∀ n : Int, 0 ≤ n → n ≤ most + 281474976710656 → ∃ n2 : Int, ref03_Size.L1_1_0_1_0_0_1_0_0_1_0_1_0 most n (i : Int) (j : Int) (ps.map Prc.v) = some ⟨.ret (.int .i64 n2), [], none⟩ ∧ n ≤ n2 ∧ n2 ≤ most + 281474976710656 ∧ (n2 ≤ most → n2 = n + (Par.sizes (ps[i].params.drop j) : Int) + (Stm.sizes ps[i].body : Int) + (Prc.sizes (ps.drop (i + 1)) : Int)) := by
    intro i hi hnext
    have ho := hok _ (List.getElem_mem hi)
    have hlen := ho.params.1
    have fin : ∀ n k : Int, 0 ≤ n → n ≤ most + 281474976710656 → ∃ b n2 : Int, den Sp ref03_StmtsSize.id [.sl .no T_api_Stmt (ps[i].body.map Stm.v), .int .i64 (most - n)] [] none = some ⟨.ret (.int .i64 b), [], none⟩ ∧ 0 ≤ b ∧ n + b ≤ most + 281474976710656 ∧
        ref03_Size.L1_1_0_1_0v1 most (n + b) ((i + 1 : Nat) : Int) k (ps.map Prc.v) = some ⟨.ret (.int .i64 n2), [], none⟩ ∧ n ≤ n2 ∧ n2 ≤ most + 281474976710656 ∧ (n2 ≤ most → n2 = n + (Stm.sizes ps[i].body : Int) + (Prc.sizes (ps.drop (i + 1)) : Int)) := by
      intro n k hn hn2
      obtain ⟨b, b1, b2, b3, b4, b5⟩ := ref03_StmtsSize_is _ ho.body.1 ho.body.2 (most - n) (by omega) (by omega)
      obtain ⟨n2, g1, g2, g3, g4⟩ := hnext (n + b) k (by omega) (by omega)
      exact ⟨b, n2, b1, b2, by omega, g1, by omega, g3, fun h => by have := g4 h; have := b5 (by omega); omega⟩
    refine down (fun n hn hn2 => ?_) fun j hj ihj n hn hn2 => ?_
    · obtain ⟨b, n2, b1, b2, b3, g1, g2, g3, g4⟩ := fin n (ps[i].params.length : Int) hn hn2
      refine ⟨n2, ?_, g2, g3, fun h => ?_⟩
      · rw [ref03_Size.L1_1_0_1_0_0_1_0_0_1_0_1_0_eq]
        simp (disch := omega) [hi, wrap_in, b1]
        simpa using g1
      · simpa [Par.sizes] using g4 h
    · by_cases hc : n ≤ most
      · have h2 := (ho.params.2 _ (List.getElem_mem hj)).name
        obtain ⟨n2, g1, g2, g3, g4⟩ := ihj (n + ((ps[i].params[j].name.length / 8 : Nat) : Int)) (by omega) (by omega)
        refine ⟨n2, ?_, by omega, g3, fun h => ?_⟩
        · rw [ref03_Size.L1_1_0_1_0_0_1_0_0_1_0_1_0_eq]
          simp (disch := omega) [hi, hj, hc, wrap_in]
          simpa using g1
        · have := g4 h; rw [Par.sizes_drop hj]; omega
      · obtain ⟨b, n2, b1, b2, b3, g1, g2, g3, g4⟩ := fin n (j : Int) hn hn2
        refine ⟨n2, ?_, g2, g3, fun h => by omega⟩
        rw [ref03_Size.L1_1_0_1_0_0_1_0_0_1_0_1_0_eq]
        simp (disch := omega) [hi, hj, hc, wrap_in, b1]
        simpa using g1
  have outer : ∀ i : Nat, i ≤ ps.length → ∀ n k : Int, 0 ≤ n → n ≤ most + 281474976710656 → ∃ n2 : Int, ref03_Size.L1_1_0_1_0v1 most n (i : Int) k (ps.map Prc.v) = some ⟨.ret (.int .i64 n2), [], none⟩ ∧ n ≤ n2 ∧ n2 ≤ most + 281474976710656 ∧ (n2 ≤ most → n2 = n + (Prc.sizes (ps.drop i) : Int)) := by
    refine down (fun n k hn hn2 => ?_) fun i hi ihi n k hn hn2 => ?_
    · refine ⟨n, ?_, by omega, hn2, fun _ => by simp [Prc.sizes]⟩
      rw [ref03_Size.L1_1_0_1_0v1_eq]; simp
    · by_cases hc : n ≤ most
      · have ho := hok _ (List.getElem_mem hi)
        have h2 := ho.name
        have h3 := ho.params.1
        obtain ⟨n2, g1, g2, g3, g4⟩ := inner i hi ihi 0 (Nat.zero_le _) (n + 1 + ((ps[i].name.length / 8 : Nat) : Int) + (ps[i].params.length : Int)) (by omega) (by omega)
        refine ⟨n2, ?_, by omega, g3, fun h => ?_⟩
        · rw [ref03_Size.L1_1_0_1_0v1_eq]
          simp (disch := omega) [hi, hc, wrap_in]
          simpa using g1
        · have := g4 h; rw [Prc.sizes_drop hi, Prc.size]; rw [List.drop_zero] at this; omega
      · refine ⟨n, ?_, by omega, hn2, fun h => by omega⟩
        rw [ref03_Size.L1_1_0_1_0v1_eq]; simp [hi, hc]
  rw [ref03_Size.L1_1_0_1_0_eq]
  rcases Nat.eq_zero_or_pos ps.length with hz | hi
  · obtain rfl := List.eq_nil_of_length_eq_zero hz
    exact ⟨0, by simp, by omega, fun _ => rfl⟩
  · have ho := hok _ (List.getElem_mem hi)
    have h2 := ho.name
    have h3 := ho.params.1
    obtain ⟨n2, g1, g2, g3, g4⟩ := inner 0 hi (outer 1 hi) 0 (Nat.zero_le _) (1 + ((ps[0].name.length / 8 : Nat) : Int) + (ps[0].params.length : Int)) (by omega) (by omega)
    refine ⟨n2, ?_, by omega, fun h => ?_⟩
    · simp (disch := omega) [h0, hi, wrap_in]
      simpa using g1
    · have := g4 h
      have hd := Prc.sizes_drop hi
      rw [List.drop_zero] at this hd
      rw [hd, Prc.size]; omega
end Go.Proofs.Ytipjanijidbelaa
