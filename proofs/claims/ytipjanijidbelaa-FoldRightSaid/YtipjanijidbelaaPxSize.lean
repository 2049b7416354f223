/- How great expressions, statements and programs are, as the reference counts. Own work. -/
import Derived.Test.YtipjanijidbelaaPxProg
import Derived.Test.YtipjanijidbelaaRSizes
namespace Go.Proofs.Ytipjanijidbelaa
open Go Go.Proofs.Ab Go.Proofs.Px
set_option linter.unusedVariables false
set_option linter.unusedSimpArgs false
set_option maxRecDepth 100000

/-- A count that may stop where it is past 'most': exact, if it is not. -/
def CountIs (r : Option Res) (size : Nat) (most : Int) : Prop := ∃ n : Int, r = some ⟨.ret (.int .i64 n), [], none⟩ ∧ 0 ≤ n ∧ n ≤ max most 0 + 70368744177664 ∧ (n ≤ most → n = (size : Int))
theorem eighth {n : Nat} (h : n ≤ 140737488351232) : IntKind.wrap IntKind.i64 (Int.tdiv ((n : Nat) : Int) 8) = ((n / 8 : Nat) : Int) := by
  rw [Int.tdiv_eq_ediv_of_nonneg (by omega), wrap_in (by omega) (by omega)]; omega
theorem Ex.sizes_drop {l : List Ex} {i : Nat} (h : i < l.length) : Ex.sizes (l.drop i) = l[i].size + Ex.sizes (l.drop (i + 1)) := by
  rw [List.drop_eq_getElem_cons h, Ex.sizes]
theorem ref03_ExprSize_is : ∀ x : Ex, ExOk x → ∀ most : Int, -1125899906842624 ≤ most → most ≤ 1125899906842624 → CountIs (den Sp ref03_ExprSize.id [.agg x.v, .int .i64 most] [] none) x.size most := by
  refine Ex.ind fun k s m l ih hx most h0 h1 => ?_
  obtain ⟨hk, hs, hm, hl, hok⟩ := hx.inv
  rw [Ex.v_mk, ref03_ExprSize.eq, B_size, eighth hs, Ex.size]
  have key : ∀ i : Nat, i ≤ l.length → ∀ n : Int, 0 ≤ n → n ≤ max most 0 + 70368744177664 → ∃ n' : Int, ref03_ExprSize.L1_1_0_1_0 most n (i : Int) k (B s) m (l.map Ex.v) = some ⟨.ret (.int .i64 n'), [], none⟩ ∧ 0 ≤ n' ∧ n' ≤ max most 0 + 70368744177664 ∧ (n' ≤ most → n' = n + (Ex.sizes (l.drop i) : Int)) := by
    refine down (fun n hn hn2 => ?_) fun i hi ihi n hn hn2 => ?_
    · refine ⟨n, ?_, hn, hn2, fun _ => by simp [Ex.sizes]⟩
      rw [ref03_ExprSize.L1_1_0_1_0_eq]; simp
    · have hmem := List.getElem_mem hi
      have hd := Ex.sizes_drop hi
      by_cases hc : n ≤ most
      · obtain ⟨n1, h2, h3, h4, h5⟩ := ih _ hmem (hok _ hmem) (most - n) (by omega) (by omega)
        obtain ⟨n2, g2, g3, g4, g5⟩ := ihi (n + n1) (by omega) (by omega)
        refine ⟨n2, ?_, g3, g4, fun h => ?_⟩
        · rw [ref03_ExprSize.L1_1_0_1_0_eq]
          simp (disch := omega) [hi, hc, Ex.v_agg, wrap_in, h2]
          simpa using g2
        · have := g5 h; rw [hd]; have := h5 (by omega); omega
      · refine ⟨n, ?_, hn, hn2, fun h => by omega⟩
        rw [ref03_ExprSize.L1_1_0_1_0_eq]; simp [hi, hc]
  obtain ⟨n, h2, h3, h4, h5⟩ := key 0 (Nat.zero_le _) (1 + ((s.length / 8 : Nat) : Int)) (by omega) (by omega)
  refine ⟨n, ?_, h3, h4, fun h => ?_⟩
  · rw [wrap_in (by omega) (by omega)]; exact h2
  · have := h5 h; rw [List.drop_zero] at this; omega
/-- The same of statements: nothing is counted, where 'most' is below 0. -/
def StmtsIs (r : Option Res) (size : Nat) (most : Int) : Prop := ∃ n : Int, r = some ⟨.ret (.int .i64 n), [], none⟩ ∧ 0 ≤ n ∧ (most < 0 → n = 0) ∧ (0 ≤ most → n ≤ most + 70368744177664) ∧ (n ≤ most → n = (size : Int))
theorem ref03_StmtsSize_is : ∀ l : List Stm, l.length ≤ 140737488351232 → (∀ x ∈ l, StmOk x) → ∀ most : Int, -562949953421312 ≤ most → most ≤ 562949953421312 → StmtsIs (den Sp ref03_StmtsSize.id [.sl .no T_api_Stmt (l.map Stm.v), .int .i64 most] [] none) (Stm.sizes l) most := by
  refine Stm.ind_list fun l ih hl hok most h0 h1 => ?_
  rw [ref03_StmtsSize.eq]
  by_cases hm : most < 0
  · refine ⟨0, ?_, by omega, fun _ => rfl, fun _ => by omega, fun _ => by omega⟩
    rw [ref03_StmtsSize.L1_1_0_1_0_eq, decide_eq_false (show ¬ (0 : Int) ≤ most by omega)]
    simp
  have body : ∀ i (hi : i < l.length) (n : Int) (k : Int), 0 ≤ n → n ≤ most + 70368744177664 → ∀ t : Int → Option Res,
      (∀ n', 0 ≤ n' → n' ≤ most + 70368744177664 → ∃ n2 : Int, t n' = some ⟨.ret (.int .i64 n2), [], none⟩ ∧ n' ≤ n2 ∧ n2 ≤ most + 70368744177664 ∧ (n2 ≤ most → n2 = n' + (Stm.sizes (l.drop (i + 1)) : Int))) → ∃ b e n2 : Int, 
      den Sp ref03_StmtsSize.id [.sl .no T_api_Stmt (l[i].body.map Stm.v), .int .i64 (most - n)] [] none = some ⟨.ret (.int .i64 b), [], none⟩ ∧
      den Sp ref03_StmtsSize.id [.sl .no T_api_Stmt (l[i].els.map Stm.v), .int .i64 (most - (n + b))] [] none = some ⟨.ret (.int .i64 e), [], none⟩ ∧ 0 ≤ b ∧ 0 ≤ e ∧ n + b + e ≤ most + 70368744177664 ∧
      t (n + b + e) = some ⟨.ret (.int .i64 n2), [], none⟩ ∧ n ≤ n2 ∧ n2 ≤ most + 70368744177664 ∧ (n2 ≤ most → n2 = n + (Stm.sizes l[i].body : Int) + (Stm.sizes l[i].els : Int) + (Stm.sizes (l.drop (i + 1)) : Int)) := by
    intro i hi n k hn hn2 t ht
    have hmem := List.getElem_mem hi
    have ho := (hok _ hmem).inv'
    obtain ⟨b, b1, b2, b3, b4, b5⟩ := (ih _ hmem).1 ho.hb ho.hbs (most - n) (by omega) (by omega)
    have hb : n + b ≤ most + 70368744177664 := by omega
    obtain ⟨e, e1, e2, e3, e4, e5⟩ := (ih _ hmem).2 ho.hl ho.hls (most - (n + b)) (by omega) (by omega)
    obtain ⟨n2, g1, g2, g3, g4⟩ := ht (n + b + e) (by omega) (by omega)
    refine ⟨b, e, n2, b1, e1, b2, e2, by omega, g1, by omega, g3, fun h => ?_⟩
    have := g4 h; have := e5 (by omega); have := b5 (by omega); omega
  have inner : ∀ i (hi : i < l.length), (∀ n k : Int, 0 ≤ n → n ≤ most + 70368744177664 → ∃ n2 : Int, ref03_StmtsSize.L1_1_0_1_0v1 (l.map Stm.v) most n ((i + 1 : Nat) : Int) k = some ⟨.ret (.int .i64 n2), [], none⟩ ∧ n ≤ n2 ∧ n2 ≤ most + 70368744177664 ∧ (n2 ≤ most → n2 = n + (Stm.sizes (l.drop (i + 1)) : Int))) →
      ∀ j : Nat, j ≤ l[i].e.length → ∀ n : Int, 0 ≤ n → n ≤ most + 70368744177664 → ∃ n2 : Int, ref03_StmtsSize.L1_1_0_1_0_0_1_0_0_1_0_1_0 (l.map Stm.v) most n (i : Int) (j : Int) = some ⟨.ret (.int .i64 n2), [], none⟩ ∧ n ≤ n2 ∧ n2 ≤ most + 70368744177664 ∧ (n2 ≤ most → n2 = n + (Ex.sizes (l[i].e.drop j) : Int) + (Stm.sizes l[i].body : Int) + (Stm.sizes l[i].els : Int) + (Stm.sizes (l.drop (i + 1)) : Int)) := by
    intro i hi hnext
    have hmem := List.getElem_mem hi
    have ho := (hok _ hmem).inv'
    have hlen := ho.he
    refine down (fun n hn hn2 => ?_) fun j hj ihj n hn hn2 => ?_
    · obtain ⟨b, e, n2, b1, e1, b2, e2, b3, t1, t2, t3, t4⟩ := body i hi n 0 hn hn2 (fun n' => ref03_StmtsSize.L1_1_0_1_0v1 (l.map Stm.v) most n' ((i + 1 : Nat) : Int) (l[i].e.length : Int)) (fun n' => hnext n' _)
      refine ⟨n2, ?_, t2, t3, fun h => ?_⟩
      · rw [ref03_StmtsSize.L1_1_0_1_0_0_1_0_0_1_0_1_0_eq]
        simp (disch := omega) [hi, wrap_in, b1, e1]
        simpa using t1
      · simpa [Ex.sizes] using t4 h
    · by_cases hc : n ≤ most
      · obtain ⟨m, m1, m2, m3, m4⟩ := ref03_ExprSize_is _ (ho.hes _ (List.getElem_mem hj)) (most - n) (by omega) (by omega)
        obtain ⟨n2, g1, g2, g3, g4⟩ := ihj (n + m) (by omega) (by omega)
        refine ⟨n2, ?_, by omega, g3, fun h => ?_⟩
        · rw [ref03_StmtsSize.L1_1_0_1_0_0_1_0_0_1_0_1_0_eq]
          simp (disch := omega) [hi, hj, hc, wrap_in, Ex.v_agg, m1]
          simpa using g1
        · have := g4 h; have := m4 (by omega); rw [Ex.sizes_drop hj]; omega
      · obtain ⟨b, e, n2, b1, e1, b2, e2, b3, t1, t2, t3, t4⟩ := body i hi n 0 hn hn2 (fun n' => ref03_StmtsSize.L1_1_0_1_0v1 (l.map Stm.v) most n' ((i + 1 : Nat) : Int) (j : Int)) (fun n' => hnext n' _)
        refine ⟨n2, ?_, t2, t3, fun h => by omega⟩
        rw [ref03_StmtsSize.L1_1_0_1_0_0_1_0_0_1_0_1_0_eq]
        simp (disch := omega) [hi, hj, hc, wrap_in, b1, e1]
        simpa using t1
  have outer : ∀ i : Nat, i ≤ l.length → ∀ n k : Int, 0 ≤ n → n ≤ most + 70368744177664 → ∃ n2 : Int, ref03_StmtsSize.L1_1_0_1_0v1 (l.map Stm.v) most n (i : Int) k = some ⟨.ret (.int .i64 n2), [], none⟩ ∧ n ≤ n2 ∧ n2 ≤ most + 70368744177664 ∧ (n2 ≤ most → n2 = n + (Stm.sizes (l.drop i) : Int)) := by
    refine down (fun n k hn hn2 => ?_) fun i hi ihi n k hn hn2 => ?_
    · refine ⟨n, ?_, by omega, hn2, fun _ => by simp [Stm.sizes]⟩
      rw [ref03_StmtsSize.L1_1_0_1_0v1_eq]; simp
    · by_cases hc : n ≤ most
      · have ho := (hok _ (List.getElem_mem hi)).inv'
        have h2 := ho.hn
        have h3 := ho.hp
        obtain ⟨n2, g1, g2, g3, g4⟩ := inner i hi ihi 0 (Nat.zero_le _) (n + 1 + ((l[i].name.length / 8 : Nat) : Int) + ((l[i].proc.length / 8 : Nat) : Int)) (by omega) (by omega)
        refine ⟨n2, ?_, by omega, g3, fun h => ?_⟩
        · rw [ref03_StmtsSize.L1_1_0_1_0v1_eq]
          simp (disch := omega) [hi, hc, wrap_in]
          simpa using g1
        · have := g4 h; rw [Stm.sizes_drop hi, Stm.size_is]; rw [List.drop_zero] at this; omega
      · refine ⟨n, ?_, by omega, hn2, fun h => by omega⟩
        rw [ref03_StmtsSize.L1_1_0_1_0v1_eq]; simp [hi, hc]
  rw [ref03_StmtsSize.L1_1_0_1_0_eq]
  rcases Nat.eq_zero_or_pos l.length with hz | hi
  · obtain rfl := List.eq_nil_of_length_eq_zero hz
    exact ⟨0, by simp, by omega, fun _ => rfl, fun _ => by omega, fun _ => rfl⟩
  · have ho := (hok _ (List.getElem_mem hi)).inv'
    have h2 := ho.hn
    have h3 := ho.hp
    obtain ⟨n2, g1, g2, g3, g4⟩ := inner 0 hi (outer 1 hi) 0 (Nat.zero_le _) (1 + ((l[0].name.length / 8 : Nat) : Int) + ((l[0].proc.length / 8 : Nat) : Int)) (by omega) (by omega)
    refine ⟨n2, ?_, by omega, fun h => by omega, fun _ => g3, fun h => ?_⟩
    · simp (disch := omega) [show (0 : Int) ≤ most by omega, hi, wrap_in]
      simpa using g1
    · have := g4 h
      have hd := Stm.sizes_drop hi
      rw [List.drop_zero] at this hd
      rw [hd, Stm.size_is]; omega
end Go.Proofs.Ytipjanijidbelaa
