/- CheckMore: a right program is right with one procedure more. Own work. -/
import Derived.Test.YtkelkkjkbpdldaaLawCheckScopes
import Derived.Test.YtkelkkjkbpdldaaRMore
namespace Go.Proofs.Ytkelkkjkbpdldaa
open Go Go.Proofs.Ab Go.Proofs.Px
set_option linter.unusedVariables false
set_option linter.unusedSimpArgs false
set_option maxRecDepth 100000

theorem called_more {name : List UInt8} {p : Prc} : ∀ {ps : List Prc} {qs : List Prc}, calledP name ps = some p → calledP name (ps ++ qs) = some p
  | [], qs, h => by cases h
  | a :: l, qs, h => by
    unfold calledP at h
    rw [List.cons_append, calledP]
    split at h
    · rename_i c; rw [if_pos c]; exact h
    · rename_i c; rw [if_neg c]; exact called_more h
theorem callE_more {vs : List Vr} {m : Int} {ps qs : List Prc} {s : Stm} (h : callE vs m ps s = 0) : callE vs m (ps ++ qs) s = 0 := by
  unfold callE at h ⊢
  cases hc : calledP s.proc ps with
  | none => rw [hc] at h; simp at h
  | some p => rw [called_more hc]; rw [hc] at h; exact h
theorem stmtE_more {vs : List Vr} {m : Int} {ps qs : List Prc} {q : Prc} {s : Stm} (h : stmtE vs m ps q s = 0) : stmtE vs m (ps ++ qs) q s = 0 := by
  unfold stmtE at h ⊢
  by_cases c1 : s.body ≠ [] ∧ s.kind ≠ 4 ∧ s.kind ≠ 5
  · rw [if_pos c1] at h ⊢; exact h
  rw [if_neg c1] at h ⊢
  by_cases c2 : s.els ≠ [] ∧ s.kind ≠ 4
  · rw [if_pos c2] at h ⊢; exact h
  rw [if_neg c2] at h ⊢
  by_cases c3 : s.kind = 1
  · rw [if_pos c3] at h ⊢; exact h
  rw [if_neg c3] at h ⊢
  by_cases c4 : s.kind = 2
  · rw [if_pos c4] at h ⊢; exact h
  rw [if_neg c4] at h ⊢
  by_cases c5 : s.kind = 3
  · rw [if_pos c5] at h ⊢; exact h
  rw [if_neg c5] at h ⊢
  by_cases c6 : s.kind = 4 ∨ s.kind = 5 ∨ s.kind = 10
  · rw [if_pos c6] at h ⊢; exact h
  rw [if_neg c6] at h ⊢
  by_cases c7 : s.kind = 8
  · rw [if_pos c7] at h ⊢; exact h
  rw [if_neg c7] at h ⊢
  by_cases c8 : s.kind = 9
  · rw [if_pos c8] at h ⊢; exact h
  rw [if_neg c8] at h ⊢
  by_cases c9 : s.kind = 6
  · rw [if_pos c9] at h ⊢; exact callE_more h
  rw [if_neg c9] at h ⊢
  exact h
theorem runE_congr {f g : Int → Stm → Int} (h : ∀ m s, f m s = 0 → g m s = 0) : ∀ (l : List Stm) (m : Int), (runE f m l).2 = 0 → runE g m l = runE f m l
  | [], m, _ => rfl
  | s :: l, m, h0 => by
    unfold runE at h0 ⊢
    by_cases c : f (m + 1) s = 0
    · simp only [c, h _ _ c, ne_eq, not_true_eq_false, if_false] at h0 ⊢
      exact runE_congr h l (m + 1) h0
    · rw [if_pos c] at h0; exact absurd h0 c
theorem procE_more {ps qs : List Prc} {q : Prc} (h : (procE ps q).2 = 0) : (procE (ps ++ qs) q).2 = 0 := by
  obtain ⟨h1, h2, h3, h4, h5⟩ := procE_ok h
  have hr := runE_congr (f := fun m s => stmtE (varsP q) m ps q s) (g := fun m s => stmtE (varsP q) m (ps ++ qs) q s) (fun m s => stmtE_more) _ _ h4
  unfold procE
  rw [if_neg (by omega), if_neg (by simp [h3]), hr, if_neg (by simpa using h4), if_pos h5]
theorem procsE_app (all : List Prc) : ∀ (a b : List Prc) (i : Int), (∀ q ∈ a, (procE all q).2 = 0) → procsE all (a ++ b) i = procsE all b (i + (a.length : Int))
  | [], b, i, _ => by simp
  | q :: a, b, i, h => by
    rw [List.cons_append, procsE, if_neg (by simpa using h q (List.mem_cons_self ..)), procsE_app all a b (i + 1) fun r hr => h r (List.mem_cons_of_mem _ hr), List.length_cons]
    congr 1; omega
theorem whole_ok {ps : List Prc} (h : wholeE ps = 0) : ps.length ≤ 40 ∧ dupP (ps.map (·.name)) [] = false ∧ ps.any mainP = true := by
  unfold wholeE at h
  split at h
  · simp at h
  · rename_i c1
    split at h
    · simp at h
    · rename_i c2
      split at h
      · rename_i c3; exact ⟨by omega, by simpa using c2, c3⟩
      · simp at h
/-- **One procedure more.** -/
theorem check_more {ps : List Prc} {q : Prc} (h : (checkP ps).2.2 = 0) (hl : ps.length < 40) (hn : ∀ p ∈ ps, p.name ≠ q.name) : checkP (ps ++ [q]) = (if (procE (ps ++ [q]) q).2 = 0 then (0, 0, 0) else ((ps.length : Int), procE (ps ++ [q]) q)) := by
  obtain ⟨g1, g2, g3⟩ := checkP_ok h
  obtain ⟨w1, w2, w3⟩ := whole_ok g1
  have hw : wholeE (ps ++ [q]) = 0 := by
    unfold wholeE
    have hd : dupP ((ps ++ [q]).map (·.name)) [] = false := by
      rw [dup_iff] at w2 ⊢
      refine ⟨?_, fun n _ h => by cases h⟩
      rw [List.map_append, List.nodup_append]
      refine ⟨w2.1, by simp, fun a ha b hb => ?_⟩
      obtain ⟨p, hp, rfl⟩ := List.mem_map.1 ha
      simp only [List.map_cons, List.map_nil, List.mem_singleton] at hb
      subst hb
      exact hn p hp
    rw [if_neg (by simp; omega), if_neg (by rw [hd]; simp), if_pos (by rw [List.any_append, w3]; rfl)]
  unfold checkP
  rw [if_neg (fun c => c hw), procsE_app _ _ _ _ fun r hr => procE_more (procsE_none g2 r hr), procsE]
  by_cases c : (procE (ps ++ [q]) q).2 = 0
  · rw [if_neg (fun d => d c), if_pos c]; rfl
  · rw [if_pos c, if_neg c]; simp
theorem checkMore_den (x0 : List V) (h0 : Fits Sp.P Sp.pz T_api_Prog x0) (x1 : List V) (h1 : Fits Sp.P Sp.pz T_api_Proc x1) : den Sp law04_CheckMore.id [.agg x0, .agg x1] [] none = some ⟨.ret (.bool true), [], none⟩ := by
  obtain ⟨⟨ps⟩, rfl, hp⟩ := Prg_in h0
  obtain ⟨q, rfl, hq⟩ := Prc_in h1
  have hok := hp.procs
  simp only at hok
  obtain ⟨b, hb, hbs⟩ := law04_great_is ps hok.1 hok.2
  obtain ⟨b2, hb2, hbs2⟩ := law04_great_is [q] (by simp) (by simpa using hq)
  have hqv : [V.str (B q.name), V.sl .no T_api_Param (q.params.map Par.v), V.int .i64 q.type, V.sl .no T_api_Stmt (q.body.map Stm.v)] = q.v := rfl
  have hpv : Prg.v ⟨ps⟩ = [V.sl .no T_api_Proc (ps.map Prc.v)] := rfl
  rw [hpv, ← hqv, law04_CheckMore.eq, hb, law04_known_is]
  rw [List.map_singleton, ← hqv] at hb2
  rw [hb2]
  cases b with
  | true => simp
  | false =>
    cases b2 with
    | true => simp
    | false =>
      have hs := hbs rfl
      have hs2 := hbs2 rfl
      have hlen := Prc.sizes_len ps
      have hc := check_Check_is ps hok.2 (by omega)
      unfold checkR at hc
      by_cases he : (checkP ps).2.2 = 0
      · obtain ⟨g1, g2, g3⟩ := checkP_ok he
        rw [g3] at hc
        simp only [if_pos] at hc
        unfold infoV at hc
        by_cases h40 : ps.length < 40
        · have key : ∀ i : Nat, i ≤ ps.length → (∀ p ∈ ps.take i, p.name ≠ q.name) → law04_CheckMore.L1_1_1_1_0_1_0 (i : Int) (ps.map Prc.v) (B q.name) (q.params.map Par.v) q.type (q.body.map Stm.v) (vrows (ps.map varsP)) (iv (ps.map fun q => (Stm.counts q.body : Int))) 0 0 = some ⟨.ret (.bool true), [], none⟩ := by
            refine down (fun hn => ?_) fun i hi ih hn => ?_
            · rw [List.take_length] at hn
              have hok2 : ∀ p ∈ ps ++ [q], PrcOk p := fun p hp => (List.mem_append.1 hp).elim (hok.2 p) fun h => by rw [List.mem_singleton.1 h]; exact hq
              have hsz2 : Prc.sizes (ps ++ [q]) ≤ 1000000 := by
                have := Prc.sizes_app ps [q]
                omega
              have hc2 := check_Check_is (ps ++ [q]) hok2 hsz2
              unfold checkR at hc2
              rw [check_more he h40 hn, List.map_append, List.map_singleton, ← hqv] at hc2
              rw [law04_CheckMore.L1_1_1_1_0_1_0_eq, law04_known_is]
              by_cases d : (procE (ps ++ [q]) q).2 = 0
              · simp only [if_pos d, if_true] at hc2
                unfold infoV at hc2
                have hrf := ref04_Same_refl (ps.map varsP) (ps.map fun q => (Stm.counts q.body : Int)) (by simp) (by simp; omega) (by
                  intro r hr
                  obtain ⟨p, hp, rfl⟩ := List.mem_map.1 hr
                  have := (procE_ok (procsE_none g2 p hp)).2.1
                  omega)
                unfold infoV at hrf
                have t1 : List.take ps.length (vrows (List.map varsP (ps ++ [q]))) = vrows (ps.map varsP) := by simp [vrows]
                have t2 : List.take ps.length (iv (List.map (fun q => (Stm.counts q.body : Int)) (ps ++ [q]))) = iv (ps.map fun q => (Stm.counts q.body : Int)) := by simp [iv]
                have hm1 : ps.length ≤ most := by unfold most; omega
                have hm2 : ps.length + 1 ≤ most := by unfold most; omega
                simp only [List.map_append, List.map_cons, List.map_nil] at t1 t2 hc2
                simp (disch := omega) [hc2, most_if, wrap_in, law04_info.eq, t1, t2, hrf]
                simp [t1, t2, hrf]
              · simp only [if_neg d] at hc2
                unfold infoV at hc2
                simp (disch := omega) [hc2, most_if, d]
                simp [d]
            · simp only [Int.natCast_add, Int.natCast_one] at ih
              rw [law04_CheckMore.L1_1_1_1_0_1_0_eq, law04_known_is]
              by_cases d : ps[i].name = q.name
              · simp [hi, d]
              · have ih := ih (by
                  intro p hp
                  rw [List.take_succ_eq_append_getElem hi] at hp
                  rcases List.mem_append.1 hp with hp | hp
                  · exact hn p hp
                  · rw [List.mem_singleton.1 hp]; exact d)
                simp (disch := omega) [hi, d, wrap_in, ih]
          have k0 := key 0 (Nat.zero_le _) (by simp)
          simp only [Int.natCast_zero] at k0
          simp [hc, k0, h40, show ¬ (40 : Int) ≤ (ps.length : Int) by omega]
        · simp [hc, show (40 : Int) ≤ (ps.length : Int) by omega]
      · simp [hc, he, infoV, vrows]
end Go.Proofs.Ytkelkkjkbpdldaa
