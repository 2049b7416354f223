/- CheckScopes: at each mark the variables in scope have unlike names, and each is found by its name. Own work. -/
import Derived.Test.YtkelkkjkbpdldaaKnCheck
import Derived.Test.YtkelkkjkbpdldaaPxSame4
import Derived.Test.YtkelkkjkbpdldaaPxAmong
import Derived.Test.YtkelkkjkbpdldaaGreat04
import Derived.Test.YtkelkkjkbpdldaaRScopes
namespace Go.Proofs.Ytkelkkjkbpdldaa
open Go Go.Proofs.Ab Go.Proofs.Px
set_option linter.unusedVariables false
set_option linter.unusedSimpArgs false
set_option maxRecDepth 100000

theorem procsE_none {all : List Prc} : ∀ {l : List Prc} {i : Int}, procsE all l i = none → ∀ q ∈ l, (procE all q).2 = 0
  | [], _, _, q, h => by cases h
  | a :: l, i, h, q, hq => by
    unfold procsE at h
    split at h
    · cases h
    · rename_i c
      rcases List.mem_cons.1 hq with rfl | hq
      · simpa using c
      · exact procsE_none h q hq
/-- What a right program is. -/
theorem checkP_ok {ps : List Prc} (h : (checkP ps).2.2 = 0) : wholeE ps = 0 ∧ procsE ps ps 0 = none ∧ checkP ps = (0, 0, 0) := by
  unfold checkP at *
  by_cases hw : wholeE ps = 0
  · rw [if_neg (fun c => c hw)] at h ⊢
    cases hp : procsE ps ps 0 with
    | none => exact ⟨hw, rfl, rfl⟩
    | some r => rw [hp] at h; exact absurd h (procsE_ne hp)
  · rw [if_pos hw] at h
    exact absurd h hw
theorem procE_ok {all : List Prc} {q : Prc} (h : (procE all q).2 = 0) : q.params.length ≤ 8 ∧ (varsP q).length ≤ 60 ∧ dupP ((varsP q).map (·.name)) [] = false ∧ (runE (fun m s => stmtE (varsP q) m all q s) 0 (Stm.flats q.body)).2 = 0 ∧ (q.type = 0 ∨ Stm.endss q.body = true) := by
  unfold procE at h
  split at h
  · simp at h
  · rename_i c1
    split at h
    · simp at h
    · rename_i c2
      split at h
      · rename_i c3; exact absurd h c3
      · rename_i c3
        split at h
        · rename_i c4
          refine ⟨by omega, by omega, by simpa using c2, by simpa using c3, c4⟩
        · simp at h
/-- Of unlike names each is found. -/
theorem find_unlike (mark : Int) : ∀ (l : List Vr) (i : Int) (j : Nat) (h : j < l.length), (l.map (·.name)).Nodup → scopeP l[j].name mark l[j] = true → findI l[j].name mark l i = i + (j : Int)
  | v :: l, i, 0, h, hn, hs => by
    simp only [List.getElem_cons_zero] at hs ⊢
    rw [findI, if_pos hs]; simp
  | v :: l, i, j + 1, h, hn, hs => by
    simp only [List.getElem_cons_succ] at hs ⊢
    have hj : j < l.length := by simpa using h
    rw [List.map_cons, List.nodup_cons] at hn
    have hne : ¬ v.name = l[j].name := fun e => hn.1 (e ▸ List.mem_map.2 ⟨l[j], List.getElem_mem hj, rfl⟩)
    rw [findI, if_neg (by simp [scopeP, hne]), find_unlike mark l (i + 1) j hj hn.2 hs]
    omega
theorem parVars_at (c : Int) : ∀ (l : List Par) (j : Nat) (h : j < l.length), (parVars c l)[j]'(by rw [parVars_len]; exact h) = ⟨l[j].name, l[j].type, 0, 0, c⟩
  | x :: l, 0, h => rfl
  | x :: l, j + 1, h => by
    simp only [parVars, List.getElem_cons_succ]
    exact parVars_at c l j (by simpa using h)
theorem varsP_par (q : Prc) (j : Nat) (h : j < q.params.length) (h' : j < (varsP q).length) : (varsP q)[j] = ⟨q.params[j].name, q.params[j].type, 0, 0, (Stm.counts q.body : Int) + 1⟩ := by
  have h1 : (varsP q)[j]? = some ⟨q.params[j].name, q.params[j].type, 0, 0, (Stm.counts q.body : Int) + 1⟩ := by
    unfold varsP
    rw [List.getElem?_append_left (by rw [parVars_len]; exact h), List.getElem?_eq_getElem (by rw [parVars_len]; exact h), parVars_at _ _ j h]
  rw [List.getElem?_eq_getElem h'] at h1
  exact Option.some.inj h1
theorem checkScopes_den (x0 : List V) (h0 : Fits Sp.P Sp.pz T_api_Prog x0) (a1 : Int) (w1 : (Lit.int .i64 a1).wf = true) : den Sp law04_CheckScopes.id [.agg x0, .int .i64 a1] [] none = some ⟨.ret (.bool true), [], none⟩ := by
  obtain ⟨⟨ps⟩, rfl, hp⟩ := Prg_in h0
  have hok := hp.procs
  simp only at hok
  obtain ⟨b, hb, hbs⟩ := law04_great_is ps hok.1 hok.2
  rw [Prg.v_mk, law04_CheckScopes.eq, hb, law04_known_is]
  cases b with
  | true => simp
  | false =>
    have hs := hbs rfl
    have hlen := Prc.sizes_len ps
    have hc := check_Check_is ps hok.2 (by omega)
    unfold checkR at hc
    by_cases he : (checkP ps).2.2 = 0
    · obtain ⟨g1, g2, g3⟩ := checkP_ok he
      rw [g3] at hc
      simp only [if_pos] at hc
      unfold infoV at hc
      have hq : ∀ q ∈ ps, Stm.counts q.body ≤ 1500 := fun q h => by
        have h1 := Prc.size_mem h
        have h2 := Stm.counts_sizes q.body
        unfold Prc.size at h1
        omega
      have inner : ∀ i (hi : i < ps.length) (m : Int), 0 ≤ m → m ≤ (Stm.counts ps[i].body : Int) + 1 → (∀ m k : Int, law04_CheckScopes.L1_1_1_1_1_0_1_0v1 a1 ((i + 1 : Nat) : Int) m k (ps.map Prc.v) (vrows (ps.map varsP)) (iv (ps.map fun q => (Stm.counts q.body : Int))) 0 0 = some ⟨.ret (.bool true), [], none⟩) →
          ∀ j : Nat, j ≤ (varsP ps[i]).length → law04_CheckScopes.L1_1_1_1_1_0_1_0_0_1_0_0_1_1_0 a1 (i : Int) m (j : Int) (ps.map Prc.v) (vrows (ps.map varsP)) (iv (ps.map fun q => (Stm.counts q.body : Int))) 0 0 = some ⟨.ret (.bool true), [], none⟩ := by
        intro i hi m m0 m1 hn
        obtain ⟨o1, o2, o3, o4, o5⟩ := procE_ok (procsE_none g2 _ (List.getElem_mem hi))
        have hnd := ((dup_iff _ _).1 o3).1
        have hi' : i < (ps.map varsP).length := by simpa using hi
        have e1 := vrows_at (ps.map varsP) i hi'
        rw [List.getElem_map, List.getD_eq_getElem?_getD, List.getD_eq_getElem?_getD] at e1
        refine down ?_ fun j hj ih => ?_
        · have h2 := hn m ((varsP ps[i]).length : Int)
          simp only [Int.natCast_add, Int.natCast_one] at h2
          rw [law04_CheckScopes.L1_1_1_1_1_0_1_0_0_1_0_0_1_1_0_eq]
          simp (disch := omega) [hi, e1, wrap_in, h2]
        · simp only [Int.natCast_add, Int.natCast_one] at ih
          have hf := check_Find_is (varsP ps[i]) (by omega) (varsP ps[i])[j].name m
          have hu := find_unlike m (varsP ps[i]) 0 j hj hnd
          rw [law04_CheckScopes.L1_1_1_1_1_0_1_0_0_1_0_0_1_1_0_eq]
          by_cases d3 : j < ps[i].params.length
          · have hv := varsP_par ps[i] j d3 hj
            rw [hv] at hu hf
            have hu' := hu (by simp [scopeP, m0, m1])
            rw [hu'] at hf
            simp (disch := omega) [hi, hj, e1, wrap_in, d3, hv, m0, m1, hf, ih]
          · by_cases d1 : (varsP ps[i])[j].frm ≤ m
            · by_cases d2 : m ≤ (varsP ps[i])[j].to
              · have hu' := hu (by simp [scopeP, d1, d2])
                rw [hu'] at hf
                simp (disch := omega) [hi, hj, e1, wrap_in, d3, d1, d2, hf, ih]
              · simp (disch := omega) [hi, hj, e1, wrap_in, d3, d1, d2, ih]
            · simp (disch := omega) [hi, hj, e1, wrap_in, d3, d1, ih]
      have outer : ∀ i : Nat, i ≤ ps.length → ∀ m k : Int, law04_CheckScopes.L1_1_1_1_1_0_1_0v1 a1 (i : Int) m k (ps.map Prc.v) (vrows (ps.map varsP)) (iv (ps.map fun q => (Stm.counts q.body : Int))) 0 0 = some ⟨.ret (.bool true), [], none⟩ := by
        refine down (fun m k => ?_) fun i hi ih m k => ?_
        · rw [law04_CheckScopes.L1_1_1_1_1_0_1_0v1_eq, law04_known_is]; simp
        · have hi' : i < (ps.map fun q => (Stm.counts q.body : Int)).length := by simpa using hi
          have e1 := iv_at (ps.map fun q => (Stm.counts q.body : Int)) i hi'
          rw [List.getElem_map, List.getD_eq_getElem?_getD, List.getD_eq_getElem?_getD] at e1
          have hcn := hq _ (List.getElem_mem hi)
          have ha := ref01_Among_is a1 ((Stm.counts ps[i].body : Int) + 2) (by omega) (by omega)
          have b0 := Int.emod_nonneg a1 (show ((Stm.counts ps[i].body : Int) + 2) ≠ 0 by omega)
          have b1 := Int.emod_lt_of_pos a1 (show 0 < ((Stm.counts ps[i].body : Int) + 2) by omega)
          have h2 := inner i hi (a1 % ((Stm.counts ps[i].body : Int) + 2)) b0 (by omega) ih 0 (Nat.zero_le _)
          rw [law04_CheckScopes.L1_1_1_1_1_0_1_0v1_eq]
          simp (disch := omega) [hi, e1, wrap_in, ha]
          simpa using h2
      have fin : law04_CheckScopes.L1_1_1_1_1_0_1_0 a1 (ps.map Prc.v) (vrows (ps.map varsP)) (iv (ps.map fun q => (Stm.counts q.body : Int))) 0 0 = some ⟨.ret (.bool true), [], none⟩ := by
        rw [law04_CheckScopes.L1_1_1_1_1_0_1_0_eq, law04_known_is]
        rcases Nat.eq_zero_or_pos ps.length with hz | hi
        · obtain rfl := List.eq_nil_of_length_eq_zero hz
          simp
        · have hi' : 0 < (ps.map fun q => (Stm.counts q.body : Int)).length := by simpa using hi
          have e1 := iv_at (ps.map fun q => (Stm.counts q.body : Int)) 0 hi'
          rw [List.getElem_map, List.getD_eq_getElem?_getD, List.getD_eq_getElem?_getD] at e1
          have hcn := hq _ (List.getElem_mem hi)
          have ha := ref01_Among_is a1 ((Stm.counts ps[0].body : Int) + 2) (by omega) (by omega)
          have b0 := Int.emod_nonneg a1 (show ((Stm.counts ps[0].body : Int) + 2) ≠ 0 by omega)
          have b1 := Int.emod_lt_of_pos a1 (show 0 < ((Stm.counts ps[0].body : Int) + 2) by omega)
          have h2 := inner 0 hi (a1 % ((Stm.counts ps[0].body : Int) + 2)) b0 (by omega) (outer 1 hi) 0 (Nat.zero_le _)
          have hw : IntKind.wrap IntKind.i64 ((Stm.counts ps[0].body : Int) + 2) = (Stm.counts ps[0].body : Int) + 2 := wrap_in (by omega) (by omega)
          simp only [Int.natCast_zero] at h2
          unfold iv at h2 ⊢
          rw [List.map_map] at h2
          simp [hi, hw, ha, h2]
      simp [hc, fin]
    · simp [hc, he, infoV, vrows]
end Go.Proofs.Ytkelkkjkbpdldaa
