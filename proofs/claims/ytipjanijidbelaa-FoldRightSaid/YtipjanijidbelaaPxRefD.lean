/- Checking procedures and programs: the reference's, whole. Own work. -/
import Derived.Test.YtipjanijidbelaaPxRefC
namespace Go.Proofs.Ytipjanijidbelaa
open Go Go.Proofs.Ab Go.Proofs.Px
set_option linter.unusedVariables false
set_option linter.unusedSimpArgs false
set_option maxRecDepth 100000

theorem ref04_proc_is (ps : List Prc) (hps : ps.length ≤ 140737488351232) (q : Prc) (hq : PrcOk q) (hp : q.params.length ≤ 1000000) (hc : Stm.counts q.body ≤ 1000000) :
    den Sp ref04_proc.id [.agg [.sl .no T_api_Proc (ps.map Prc.v)], .agg q.v] [] none = some ⟨.ret (.tup [.int .i64 (procE ps q).1, .int .i64 (procE ps q).2]), [], none⟩ := by
  have vars := ref04_Vars_is q hp hc
  have row := ref04_Row_is q.body hc 1 (by omega) (by omega)
  have ret := ref04_Returns_is q.body hq.body.1 hq.body.2
  have hvl : (varsP q).length ≤ 3000000 := by
    have := declP_len q.body 1
    unfold varsP
    rw [List.length_append, parVars_len]; omega
  have hfst := Stm.items_fst q.body 1 (1 + (Stm.counts q.body : Int) - 1)
  have hil := Stm.items_len q.body 1 (1 + (Stm.counts q.body : Int) - 1)
  generalize hits : Stm.items q.body 1 (1 + (Stm.counts q.body : Int) - 1) = its at row hfst hil
  have hfl := Stm.flats_len q.body
  have hfok := Stm.flats_ok hq.body.2
  have st : ∀ (mark : Int) (s : Stm), StmOk s → (∀ v, findV s.name mark (varsP q) = some v → 0 ≤ v.size) → den Sp ref04_stmt.id [.agg [.sl .no T_api_Proc (ps.map Prc.v)], .agg q.v, .agg s.v, .sl .no T_api_Var ((varsP q).map Vr.v), .int .i64 mark] [] none = some ⟨.ret (.int .i64 (stmtE (varsP q) mark ps q s)), [], none⟩ := fun mark s hs hv => by
    obtain ⟨k, n, p, m, e, b, l⟩ := s
    exact ref04_stmt_is (varsP q) (by omega) mark ps hps q k n p m e b l hs.inv.he hv
  have size_ok := size_ok q
  have rm := runE_mark (fun m s => stmtE (varsP q) m ps q s) (Stm.flats q.body) 0
  unfold procE
  generalize hfd : Stm.flats q.body = fl at *
  generalize hvd : varsP q = vs at *
  have hlen : its.length = fl.length := by omega
  have hat : ∀ (i : Nat) (h : i < its.length), its[i].1 = fl[i] := fun i h => by
    have h1 : fl[i]? = some its[i].1 := by rw [← hfst, List.getElem?_map, List.getElem?_eq_getElem h]; rfl
    rw [List.getElem?_eq_getElem (by omega)] at h1
    exact (Option.some.inj h1).symm
  have hqv : q.v = [V.str (B q.name), V.sl .no T_api_Param (q.params.map Par.v), V.int .i64 q.type, V.sl .no T_api_Stmt (q.body.map Stm.v)] := rfl
  rw [hqv] at vars st ⊢
  have stm : ∀ (x1 x2 : Int) (i : Nat), i ≤ fl.length → (∀ (j : Nat) (h : j < fl.length), j < i → fl[j].kind = 1 → -1 ≤ fl[j].num) → ref04_proc.L1_1_1_1_1_0_1_0 (vs.map Vr.v) x1 x2 (its.map itemV) (i : Int) (ps.map Prc.v) (B q.name) (q.params.map Par.v) q.type (q.body.map Stm.v) =
      some ⟨.ret (.tup (if (runE (fun m s => stmtE vs m ps q s) (i : Int) (fl.drop i)).2 ≠ 0 then [.int .i64 (runE (fun m s => stmtE vs m ps q s) (i : Int) (fl.drop i)).1, .int .i64 (runE (fun m s => stmtE vs m ps q s) (i : Int) (fl.drop i)).2] else if q.type = 0 ∨ Stm.endss q.body = true then [.int .i64 0, .int .i64 0] else [.int .i64 ((fl.length : Int) + 1), .int .i64 43])), [], none⟩ := by
    intro x1 x2
    refine down (fun hQ => ?_) fun i hi ih hQ => ?_
    · rw [ref04_proc.L1_1_1_1_1_0_1_0_eq]
      by_cases t : q.type = 0
      · simp [runE, hlen, t]
      · cases he : Stm.endss q.body with
        | true => rw [he] at ret; simp [runE, hlen, t, ret]
        | false => rw [he] at ret; simp (disch := omega) [runE, hlen, t, ret, wrap_in]
    · have hi' : i < its.length := by omega
      have hmem := List.getElem_mem hi
      have hfi : its[i].1 = fl[i] := hat i hi'
      have hs := st ((i : Int) + 1) fl[i] (hfok _ hmem) (size_ok i hQ fl[i].name)
      rw [ref04_proc.L1_1_1_1_1_0_1_0_eq, List.drop_eq_getElem_cons hi, runE]
      simp only [Int.natCast_add, Int.natCast_one] at ih
      by_cases e0 : stmtE vs ((i : Int) + 1) ps q fl[i] = 0
      · have ih := ih (fun j h hj hk => by
          rcases Nat.lt_or_ge j i with hji | hji
          · exact hQ j h hji hk
          · obtain rfl : j = i := by omega
            exact stmtE_num e0 hk)
        rw [e0] at hs
        simp (disch := omega) [hi', hfi, wrap_in, hs, e0, ih]
      · simp (disch := omega) [hi', hfi, wrap_in, hs, e0]
  have stmv : ∀ i : Nat, i ≤ fl.length → (∀ (j : Nat) (h : j < fl.length), j < i → fl[j].kind = 1 → -1 ≤ fl[j].num) → ref04_proc.L1_1_1_1_1_0_1_0v1 (vs.map Vr.v) (its.map itemV) (i : Int) (ps.map Prc.v) (B q.name) (q.params.map Par.v) q.type (q.body.map Stm.v) =
      some ⟨.ret (.tup (if (runE (fun m s => stmtE vs m ps q s) (i : Int) (fl.drop i)).2 ≠ 0 then [.int .i64 (runE (fun m s => stmtE vs m ps q s) (i : Int) (fl.drop i)).1, .int .i64 (runE (fun m s => stmtE vs m ps q s) (i : Int) (fl.drop i)).2] else if q.type = 0 ∨ Stm.endss q.body = true then [.int .i64 0, .int .i64 0] else [.int .i64 ((fl.length : Int) + 1), .int .i64 43])), [], none⟩ := by
    refine down (fun hQ => ?_) fun i hi ih hQ => ?_
    · rw [ref04_proc.L1_1_1_1_1_0_1_0v1_eq]
      by_cases t : q.type = 0
      · simp [runE, hlen, t]
      · cases he : Stm.endss q.body with
        | true => rw [he] at ret; simp [runE, hlen, t, ret]
        | false => rw [he] at ret; simp (disch := omega) [runE, hlen, t, ret, wrap_in]
    · have hi' : i < its.length := by omega
      have hmem := List.getElem_mem hi
      have hfi : its[i].1 = fl[i] := hat i hi'
      have hs := st ((i : Int) + 1) fl[i] (hfok _ hmem) (size_ok i hQ fl[i].name)
      rw [ref04_proc.L1_1_1_1_1_0_1_0v1_eq, List.drop_eq_getElem_cons hi, runE]
      simp only [Int.natCast_add, Int.natCast_one] at ih
      by_cases e0 : stmtE vs ((i : Int) + 1) ps q fl[i] = 0
      · have ih := ih (fun j h hj hk => by
          rcases Nat.lt_or_ge j i with hji | hji
          · exact hQ j h hji hk
          · obtain rfl : j = i := by omega
            exact stmtE_num e0 hk)
        rw [e0] at hs
        simp (disch := omega) [hi', hfi, wrap_in, hs, e0, ih]
      · simp (disch := omega) [hi', hfi, wrap_in, hs, e0]
  have fin : ∀ r : Int × Int, r = runE (fun m s => stmtE vs m ps q s) 0 fl → (if r.2 ≠ 0 then [V.int .i64 r.1, V.int .i64 r.2] else if q.type = 0 ∨ Stm.endss q.body = true then [.int .i64 0, .int .i64 0] else [.int .i64 ((fl.length : Int) + 1), .int .i64 43]) = [V.int .i64 (if r.2 ≠ 0 then r else if q.type = 0 ∨ Stm.endss q.body = true then (0, 0) else (r.1 + 1, 43)).1, .int .i64 (if r.2 ≠ 0 then r else if q.type = 0 ∨ Stm.endss q.body = true then (0, 0) else (r.1 + 1, 43)).2] := by
    intro r hr
    by_cases c1 : r.2 = 0
    · by_cases c2 : q.type = 0 ∨ Stm.endss q.body = true
      · simp [c1, c2]
      · have := rm.2.2 (by rw [← hr]; exact c1)
        rw [← hr] at this
        simp [c1, c2, this]
    · simp [c1]
  have fin := fin _ rfl
  have tail : ∀ x1 x2 : Int, ref04_proc.L1_1_1_1_1_0_1_0 (vs.map Vr.v) x1 x2 (its.map itemV) 0 (ps.map Prc.v) (B q.name) (q.params.map Par.v) q.type (q.body.map Stm.v) = _ := fun x1 x2 => stm x1 x2 0 (Nat.zero_le _) (fun j h hj => absurd hj (Nat.not_lt_zero _))
  have tailv : ref04_proc.L1_1_1_1_1_0_1_0v1 (vs.map Vr.v) (its.map itemV) 0 (ps.map Prc.v) (B q.name) (q.params.map Par.v) q.type (q.body.map Stm.v) = _ := stmv 0 (Nat.zero_le _) (fun j h hj => absurd hj (Nat.not_lt_zero _))
  rw [List.drop_zero] at tail tailv
  simp only [Int.natCast_zero] at tail tailv
  rw [fin] at tail tailv
  clear fin stm stmv
  generalize (if (runE (fun m s => stmtE vs m ps q s) 0 fl).2 ≠ 0 then runE (fun m s => stmtE vs m ps q s) 0 fl else if q.type = 0 ∨ Stm.endss q.body = true then (0, 0) else ((runE (fun m s => stmtE vs m ps q s) 0 fl).1 + 1, 43)) = W at tail tailv ⊢
  have inner : ∀ i (hi : i < vs.length), (∀ x : Int, ref04_proc.L1_1_1_0_1_0v1 (vs.map Vr.v) ((i + 1 : Nat) : Int) x (ps.map Prc.v) (B q.name) (q.params.map Par.v) q.type (q.body.map Stm.v) = some ⟨.ret (.tup (if dupP ((vs.map (·.name)).drop (i + 1)) ((vs.map (·.name)).take (i + 1)) then [.int .i64 0, .int .i64 40] else [.int .i64 W.1, .int .i64 W.2])), [], none⟩) →
      ∀ k : Nat, k ≤ i → ref04_proc.L1_1_1_0_1_0_0_1_0_0_1_0 (vs.map Vr.v) (i : Int) (k : Int) (ps.map Prc.v) (B q.name) (q.params.map Par.v) q.type (q.body.map Stm.v) = some ⟨.ret (.tup (if vs[i].name ∈ ((vs.map (·.name)).take i).drop k ∨ dupP ((vs.map (·.name)).drop (i + 1)) ((vs.map (·.name)).take (i + 1)) = true then [.int .i64 0, .int .i64 40] else [.int .i64 W.1, .int .i64 W.2])), [], none⟩ := by
    intro i hi hn
    refine down ?_ fun k hk ih => ?_
    · have h2 := hn (i : Int)
      simp only [Int.natCast_add, Int.natCast_one] at h2
      have e : ((vs.map (·.name)).take i).drop i = [] := by rw [List.drop_eq_nil_iff, List.length_take]; omega
      rw [ref04_proc.L1_1_1_0_1_0_0_1_0_0_1_0_eq, e]
      simp (disch := omega) [wrap_in, h2]
    · have hk' : k < vs.length := by omega
      have e : ((vs.map (·.name)).take i).drop k = vs[k].name :: ((vs.map (·.name)).take i).drop (k + 1) := by
        rw [List.drop_eq_getElem_cons (by rw [List.length_take, List.length_map]; omega), List.getElem_take, List.getElem_map]
      simp only [Int.natCast_add, Int.natCast_one] at ih
      rw [ref04_proc.L1_1_1_0_1_0_0_1_0_0_1_0_eq, e]
      simp only [List.mem_cons]
      by_cases c : vs[k].name = vs[i].name
      · simp (disch := omega) [hi, hk, hk', c]
      · have c' : ¬ vs[i].name = vs[k].name := fun h => c h.symm
        simp (disch := omega) [hi, hk, hk', c, c', wrap_in]
        simpa using ih
  have outer : ∀ i : Nat, i ≤ vs.length → ∀ x : Int, ref04_proc.L1_1_1_0_1_0v1 (vs.map Vr.v) (i : Int) x (ps.map Prc.v) (B q.name) (q.params.map Par.v) q.type (q.body.map Stm.v) = some ⟨.ret (.tup (if dupP ((vs.map (·.name)).drop i) ((vs.map (·.name)).take i) then [.int .i64 0, .int .i64 40] else [.int .i64 W.1, .int .i64 W.2])), [], none⟩ := by
    refine down (fun x => ?_) fun i hi ih x => ?_
    · have e : (vs.map (·.name)).drop vs.length = [] := by rw [List.drop_eq_nil_iff, List.length_map]; omega
      rw [ref04_proc.L1_1_1_0_1_0v1_eq, e, dupP, row]
      simp [tail]
    · have h2 := inner i hi ih 0 (Nat.zero_le _)
      have hi2 : i < (vs.map (·.name)).length := by rw [List.length_map]; exact hi
      have e1 : (vs.map (·.name)).drop i = vs[i].name :: (vs.map (·.name)).drop (i + 1) := by rw [List.drop_eq_getElem_cons hi2, List.getElem_map]
      have e2 : (vs.map (·.name)).take i ++ [vs[i].name] = (vs.map (·.name)).take (i + 1) := by rw [List.take_succ_eq_append_getElem hi2, List.getElem_map]
      rw [ref04_proc.L1_1_1_0_1_0v1_eq, e1, dupP, e2]
      simp only [List.drop_zero, Int.natCast_zero] at h2
      have hii : (i : Int) < (vs.length : Int) := by omega
      simp only [List.length_map, decide_eq_true hii, cond_true]
      rw [h2]
      by_cases c : vs[i].name ∈ (vs.map (·.name)).take i <;> simp [c]
  rw [ref04_proc.eq, vars]
  by_cases d1 : 8 < q.params.length
  · simp [d1, show (8 : Int) < (q.params.length : Int) by omega]
  by_cases d2 : 60 < vs.length
  · simp [d1, d2, show ¬ (8 : Int) < (q.params.length : Int) by omega, show (60 : Int) < (vs.length : Int) by omega]
  have h0 : ref04_proc.L1_1_1_0_1_0 (vs.map Vr.v) (ps.map Prc.v) (B q.name) (q.params.map Par.v) q.type (q.body.map Stm.v) = some ⟨.ret (.tup (if dupP (vs.map (·.name)) [] then [.int .i64 0, .int .i64 40] else [.int .i64 W.1, .int .i64 W.2])), [], none⟩ := by
    rw [ref04_proc.L1_1_1_0_1_0_eq]
    rcases Nat.eq_zero_or_pos vs.length with hz | hi
    · obtain hz := List.eq_nil_of_length_eq_zero hz
      rw [hz] at tailv ⊢
      rw [row]
      simp only [List.map_nil] at tailv
      simp [tailv, dupP]
    · have h2 := inner 0 hi (outer 1 hi) 0 (Nat.zero_le _)
      have hi2 : 0 < (vs.map (·.name)).length := by rw [List.length_map]; exact hi
      have h3 := outer 0 (Nat.zero_le _) 0
      rw [ref04_proc.L1_1_1_0_1_0v1_eq] at h3
      simp only [List.length_map, Int.natCast_zero, decide_eq_true (show (0 : Int) < (vs.length : Int) by omega), cond_true, List.drop_zero, List.take_zero] at h3 ⊢
      exact h3
  simp [d1, d2, show ¬ (8 : Int) < (q.params.length : Int) by omega, show ¬ (60 : Int) < (vs.length : Int) by omega, h0]
  by_cases g : dupP (vs.map (·.name)) [] = true <;> simp [g]
end Go.Proofs.Ytipjanijidbelaa
