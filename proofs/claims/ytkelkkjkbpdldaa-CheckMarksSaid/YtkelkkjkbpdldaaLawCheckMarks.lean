/- CheckMarks: of any procedure and number the statement is told. Own work. -/
import Derived.Test.YtkelkkjkbpdldaaKnCheck
import Derived.Test.YtkelkkjkbpdldaaPxMarks
namespace Go.Proofs.Ytkelkkjkbpdldaa
open Go Go.Proofs.Ab Go.Proofs.Px
set_option linter.unusedVariables false
set_option linter.unusedSimpArgs false
set_option maxRecDepth 100000

theorem law04_great_is (ps : List Prc) (hl : ps.length ≤ 140737488351232) (hok : ∀ p ∈ ps, PrcOk p) : ∃ b, den Sp law04_great.id [.agg [.sl .no T_api_Proc (ps.map Prc.v)]] [] none = some ⟨.ret (.bool b), [], none⟩ ∧ (b = false → Prc.sizes ps ≤ 1500) := by
  obtain ⟨n, h1, h2, h3⟩ := ref03_Size_is ps hl hok 1500 (by omega) (by omega)
  refine ⟨decide (1500 < n), ?_, fun h => ?_⟩
  · rw [law04_great.eq, h1]; simp
  · have := h3 (by simpa using h); have h4 : ¬ 1500 < n := by simpa using h
    omega
theorem checkMarks_den (x0 : List V) (h0 : Fits Sp.P Sp.pz T_api_Proc x0) (a1 : Int) (w1 : (Lit.int .i64 a1).wf = true) : den Sp law04_CheckMarks.id [.agg x0, .int .i64 a1] [] none = some ⟨.ret (.bool true), [], none⟩ := by
  obtain ⟨p, rfl, hp⟩ := Prc_in h0
  obtain ⟨b, hb, hbs⟩ := law04_great_is [p] (by simp) (by simpa using hp)
  have hm : a1 ≤ 9223372036854775807 := by
    have h : -9223372036854775808 ≤ a1 ∧ a1 ≤ 9223372036854775807 := by simpa [Lit.wf, IntKind.min, IntKind.max, IntKind.signed, IntKind.bits] using w1
    exact h.2
  obtain ⟨nm, ps, t, l⟩ := p
  rw [Prc.v_mk, law04_CheckMarks.eq]
  simp only [List.map_cons, List.map_nil, Prc.v_mk] at hb
  rw [hb, law04_known_is]
  cases b with
  | true => simp
  | false =>
    have hs := hbs rfl
    have hc : Stm.counts l ≤ 999999 := by
      have := Stm.counts_sizes l
      simp [Prc.sizes, Prc.size] at hs
      omega
    have hq : ∀ s : Stm, StmOk s → den Sp ref03_SameStmts.id [.sl .no T_api_Stmt [s.v], .sl .no T_api_Stmt [s.v]] [] none = some ⟨.ret (.bool true), [], none⟩ := fun s hs => ref03_SameStmts_refl [s] (by simp) (by simpa using hs)
    have e1 := check_Stmt_is nm (ps.map Par.v) t l hc a1 hm
    have e2 := ref04_Stmt_is nm (ps.map Par.v) t l hc a1
    have e3 := check_count_is l (by omega)
    have e4 := ref04_total_is l (by omega)
    have hz : (Stm.mk 0 [] [] 0 [] [] []).v = [V.int IntKind.i64 0, V.str (B []), V.str (B []), V.int IntKind.i64 0, V.sl Tok.no T_api_Expr [], V.sl Tok.no T_api_Stmt [], V.sl Tok.no T_api_Stmt []] := by rw [Stm.v_mk]; rfl
    have hk : (Lit.int .i64 0).wf = true := by decide
    have hzo : StmOk (Stm.mk 0 [] [] 0 [] [] []) := .mk hk (by simp) (by simp) hk (by simp) (fun x h => by cases h) (by simp) (fun x h => by cases h) (by simp) (fun x h => by cases h)
    cases hr : (if a1 < 1 then none else (Stm.flats l)[a1.toNat - 1]?) with
    | none =>
      rw [hr] at e1 e2
      have h5 := hq _ hzo
      rw [hz] at h5
      simp [e1, e2, e3, e4, h5, check_Count.eq, ref04_Count.eq]
    | some s =>
      rw [hr] at e1 e2
      have hso : StmOk s := by
        have hmem : s ∈ Stm.flats l := by
          split at hr
          · cases hr
          · exact List.mem_of_getElem? hr
        exact Stm.flats_ok hp.body.2 s hmem
      have h5 := hq _ hso
      simp [e1, e2, e3, e4, h5, check_Count.eq, ref04_Count.eq]
end Go.Proofs.Ytkelkkjkbpdldaa
