/- Checking a program: the reference's whole answer. Own work. -/
import Derived.Test.YtipjanijidbelaaPxRefD
namespace Go.Proofs.Ytipjanijidbelaa
open Go Go.Proofs.Ab Go.Proofs.Px
set_option linter.unusedVariables false
set_option linter.unusedSimpArgs false
set_option maxRecDepth 100000

theorem ref04_Check_is (ps : List Prc) (hok : ∀ q ∈ ps, PrcOk q) (hs : Prc.sizes ps ≤ 1000000) : den Sp ref04_Check.id [.agg [.sl .no T_api_Proc (ps.map Prc.v)]] [] none = checkR ps := by
  have hlen := Prc.sizes_len ps
  have hq : ∀ q ∈ ps, q.params.length ≤ 1000000 ∧ Stm.counts q.body ≤ 1000000 := fun q h => by
    have h1 := Prc.size_mem h
    have h2 := Stm.counts_sizes q.body
    unfold Prc.size at h1
    omega
  have procs : ∀ (b : Bool) (x1 x2 : Int) (i : Nat), i ≤ ps.length → ∀ (vs : List (List Vr)) (ms : List Int), vs.length + (ps.length - i) ≤ 1000000 → ms.length + (ps.length - i) ≤ 1000000 → ref04_Check.L1_1_1_1_1_1_0_1_0 b x1 x2 (i : Int) (ps.map Prc.v) (vrows vs) (iv ms) =
      match procsE ps (ps.drop i) (i : Int) with
      | some r => some ⟨.ret (.tup [infoV [] [], .agg [.int .i64 r.1, .int .i64 r.2.1], .int .i64 r.2.2]), [], none⟩
      | none => some ⟨.ret (.tup [infoV (vs ++ (ps.drop i).map varsP) (ms ++ (ps.drop i).map fun q : Prc => (Stm.counts q.body : Int)), .agg [.int .i64 0, .int .i64 0], .int .i64 0]), [], none⟩ := by
    intro b x1 x2
    refine down (fun vs ms _ _ => ?_) fun i hi ih vs ms hv hm => ?_
    · rw [ref04_Check.L1_1_1_1_1_1_0_1_0_eq]; simp [procsE, infoV]
    · have hmem := List.getElem_mem hi
      have hc := ref04_proc_is ps (by omega) ps[i] (hok _ hmem) (hq _ hmem).1 (hq _ hmem).2
      have hvr := ref04_Vars_is ps[i] (hq _ hmem).1 (hq _ hmem).2
      have c1 := ref04_total_is ps[i].body (hq _ hmem).2
      have hqv : ps[i].v = [V.str (B ps[i].name), V.sl .no T_api_Param (ps[i].params.map Par.v), V.int .i64 ps[i].type, V.sl .no T_api_Stmt (ps[i].body.map Stm.v)] := rfl
      rw [hqv] at hc hvr
      rw [ref04_Check.L1_1_1_1_1_1_0_1_0_eq, List.drop_eq_getElem_cons hi, procsE]
      by_cases e0 : (procE ps ps[i]).2 = 0
      · have h3 := ih (vs ++ [varsP ps[i]]) (ms ++ [(Stm.counts ps[i].body : Int)]) (by simp; omega) (by simp; omega)
        simp only [Int.natCast_add, Int.natCast_one] at h3
        have e1 : vrows (vs ++ [varsP ps[i]]) = vrows vs ++ [[.sl .no T_api_Var ((varsP ps[i]).map Vr.v)]] := by simp [vrows]
        have e2 : iv (ms ++ [(Stm.counts ps[i].body : Int)]) = iv ms ++ [[.int .i64 (Stm.counts ps[i].body : Int)]] := by simp [iv]
        rw [e1, e2] at h3
        simp (disch := omega) [hi, hc, hvr, e0, c1, most_if, wrap_in, List.getElem?_cons_zero]
        rw [h3]
        cases procsE ps (List.drop (i + 1) ps) ((i : Int) + 1)
        · simp only [List.map_cons, List.append_assoc, List.singleton_append]
          rw [← List.map_drop, ← List.map_drop, List.drop_eq_getElem_cons hi, List.map_cons, List.map_cons]
        · rfl
      · simp (disch := omega) [hi, hc, e0, infoV, List.getElem?_cons_zero]
        rfl
  have e40 : ∀ x : Option Res, x = x := fun x => rfl
  -- what follows once the names are known to be unlike
  have after : ∀ (b : Bool) (x1 x2 : Int), (bif (!b) then some (Res.mk (.ret (.tup [.agg [.sl .no T_L_api_Var [], .sl .no T_int []], .agg [.int .i64 0, .int .i64 0], .int .i64 42])) [] none) else ref04_Check.L1_1_1_1_1_1_0_1_0 b x1 x2 0 (ps.map Prc.v) [] []) =
      (if b = true then (match procsE ps ps 0 with
      | some r => some ⟨.ret (.tup [infoV [] [], .agg [.int .i64 r.1, .int .i64 r.2.1], .int .i64 r.2.2]), [], none⟩
      | none => some ⟨.ret (.tup [infoV (ps.map varsP) (ps.map fun q : Prc => (Stm.counts q.body : Int)), .agg [.int .i64 0, .int .i64 0], .int .i64 0]), [], none⟩) else some ⟨.ret (.tup [infoV [] [], .agg [.int .i64 0, .int .i64 0], .int .i64 42]), [], none⟩) := by
    intro b x1 x2
    cases b with
    | false => simp [infoV, vrows]
    | true =>
      have h0 := procs true x1 x2 0 (Nat.zero_le _) [] [] (by simp; omega) (by simp; omega)
      rw [show vrows [] = [] from rfl, show iv [] = [] from rfl] at h0
      simp only [List.drop_zero, Int.natCast_zero, List.nil_append] at h0
      simpa using h0
  generalize hA : (match procsE ps ps 0 with
      | some r => some (Res.mk (.ret (.tup [infoV [] [], .agg [.int .i64 r.1, .int .i64 r.2.1], .int .i64 r.2.2])) [] none)
      | none => some ⟨.ret (.tup [infoV (ps.map varsP) (ps.map fun q : Prc => (Stm.counts q.body : Int)), .agg [.int .i64 0, .int .i64 0], .int .i64 0]), [], none⟩) = A at after
  have fin : ∀ b : Bool, (if b = true then A else some (Res.mk (.ret (.tup [infoV [] [], .agg [.int .i64 0, .int .i64 0], .int .i64 42])) [] none)) = (if b = true then A else some ⟨.ret (.tup [infoV [] [], .agg [.int .i64 0, .int .i64 0], .int .i64 42]), [], none⟩) := fun b => rfl
  have inner : ∀ (b : Bool) (i : Nat) (hi : i < ps.length), (∀ x : Int, ref04_Check.L1_1_1_0_1_0v1 b ((i + 1 : Nat) : Int) x (ps.map Prc.v) = if dupP ((ps.map (·.name)).drop (i + 1)) ((ps.map (·.name)).take (i + 1)) = true then some ⟨.ret (.tup [infoV [] [], .agg [.int .i64 0, .int .i64 0], .int .i64 40]), [], none⟩ else if (b || (ps.drop (i + 1)).any mainP) = true then A else some ⟨.ret (.tup [infoV [] [], .agg [.int .i64 0, .int .i64 0], .int .i64 42]), [], none⟩) →
      ∀ k : Nat, k ≤ i → ref04_Check.L1_1_1_0_1_0_0_1_0_0_1_1_1_0 b (i : Int) (k : Int) (ps.map Prc.v) (B ps[i].name) (ps[i].params.map Par.v) ps[i].type (ps[i].body.map Stm.v) = if ps[i].name ∈ ((ps.map (·.name)).take i).drop k ∨ dupP ((ps.map (·.name)).drop (i + 1)) ((ps.map (·.name)).take (i + 1)) = true then some ⟨.ret (.tup [infoV [] [], .agg [.int .i64 0, .int .i64 0], .int .i64 40]), [], none⟩ else if (b || (ps.drop (i + 1)).any mainP) = true then A else some ⟨.ret (.tup [infoV [] [], .agg [.int .i64 0, .int .i64 0], .int .i64 42]), [], none⟩ := by
    intro b i hi hn
    refine down ?_ fun k hk ih => ?_
    · have h2 := hn (i : Int)
      simp only [Int.natCast_add, Int.natCast_one] at h2
      have e : ((ps.map (·.name)).take i).drop i = [] := by rw [List.drop_eq_nil_iff, List.length_take]; omega
      rw [ref04_Check.L1_1_1_0_1_0_0_1_0_0_1_1_1_0_eq, e, decide_eq_false (Int.lt_irrefl _), cond_false, wrap_in (by omega) (by omega), h2]
      simp only [List.not_mem_nil, false_or]
    · have hk' : k < ps.length := by omega
      have e : ((ps.map (·.name)).take i).drop k = ps[k].name :: ((ps.map (·.name)).take i).drop (k + 1) := by
        rw [List.drop_eq_getElem_cons (by rw [List.length_take, List.length_map]; omega), List.getElem_take, List.getElem_map]
      simp only [Int.natCast_add, Int.natCast_one] at ih
      rw [ref04_Check.L1_1_1_0_1_0_0_1_0_0_1_1_1_0_eq, e]
      simp only [List.mem_cons]
      by_cases c : ps[k].name = ps[i].name
      · simp (disch := omega) [hi, hk, hk', c, infoV, vrows]
      · have c' : ¬ ps[i].name = ps[k].name := fun h => c h.symm
        rw [decide_eq_true (show (k : Int) < (i : Int) by omega), cond_true, List.length_map, if_pos (in_row hk'), Int.toNat_natCast, map_at _ _ _ hk', Prc.v_0, asStr_str, B_dec, decide_eq_false c, cond_false, wrap_in (by omega) (by omega), ih]
        simp only [c', false_or]
  have outer : ∀ i : Nat, i ≤ ps.length → ∀ (b : Bool) (x : Int), ref04_Check.L1_1_1_0_1_0v1 b (i : Int) x (ps.map Prc.v) = if dupP ((ps.map (·.name)).drop i) ((ps.map (·.name)).take i) = true then some ⟨.ret (.tup [infoV [] [], .agg [.int .i64 0, .int .i64 0], .int .i64 40]), [], none⟩ else if (b || (ps.drop i).any mainP) = true then A else some ⟨.ret (.tup [infoV [] [], .agg [.int .i64 0, .int .i64 0], .int .i64 42]), [], none⟩ := by
    refine down (fun b x => ?_) fun i hi ih b x => ?_
    · have e : (ps.map (·.name)).drop ps.length = [] := by rw [List.drop_eq_nil_iff, List.length_map]; omega
      rw [ref04_Check.L1_1_1_0_1_0v1_eq, e, dupP, List.length_map, decide_eq_false (Int.lt_irrefl _), cond_false, after, List.drop_length]
      simp only [List.any_nil, Bool.or_false, Bool.false_eq_true, if_false]
    · have hi2 : i < (ps.map (·.name)).length := by rw [List.length_map]; exact hi
      have e1 : (ps.map (·.name)).drop i = ps[i].name :: (ps.map (·.name)).drop (i + 1) := by rw [List.drop_eq_getElem_cons hi2, List.getElem_map]
      have e2 : (ps.map (·.name)).take i ++ [ps[i].name] = (ps.map (·.name)).take (i + 1) := by rw [List.take_succ_eq_append_getElem hi2, List.getElem_map]
      have h2 := fun b => inner b i hi (fun x => ih b x) 0 (Nat.zero_le _)
      simp only [List.drop_zero, Int.natCast_zero] at h2
      have h2' : ∀ b b2 : Bool, (b2 || (ps.drop i).any mainP) = (b || (ps.drop (i + 1)).any mainP) → ref04_Check.L1_1_1_0_1_0_0_1_0_0_1_1_1_0 b (i : Int) 0 (ps.map Prc.v) (B ps[i].name) (ps[i].params.map Par.v) ps[i].type (ps[i].body.map Stm.v) = if dupP ((ps.map (·.name)).drop i) ((ps.map (·.name)).take i) = true then some ⟨.ret (.tup [infoV [] [], .agg [.int .i64 0, .int .i64 0], .int .i64 40]), [], none⟩ else if (b2 || (ps.drop i).any mainP) = true then A else some ⟨.ret (.tup [infoV [] [], .agg [.int .i64 0, .int .i64 0], .int .i64 42]), [], none⟩ := fun b b2 hb => by
        rw [h2 b, e1, dupP, e2, hb]
        simp only [Bool.or_eq_true, decide_eq_true_eq]
      have hd : (ps.drop i).any mainP = (mainP ps[i] || (ps.drop (i + 1)).any mainP) := by rw [List.drop_eq_getElem_cons hi, List.any_cons]
      rw [ref04_Check.L1_1_1_0_1_0v1_eq, List.length_map, decide_eq_true (show (i : Int) < (ps.length : Int) by omega), cond_true, if_pos (in_row hi), Int.toNat_natCast, map_at _ _ _ hi]
      simp only [Prc.v_0, Prc.v_1, Prc.v_2, Prc.v_3, asStr_str, asSl_sl, asInt_int, List.length_map]
      cases b with
      | true =>
        rw [cond_true]
        exact h2' true true (by simp)
      | false =>
        rw [cond_false]
        have hm : mainP ps[i] = (decide (ps[i].name = [109, 97, 105, 110]) && decide (ps[i].params.length = 0) && decide (ps[i].type = 0)) := rfl
        rw [hm] at hd
        by_cases c1 : ps[i].name = [109, 97, 105, 110]
        · by_cases c2 : ps[i].params.length = 0
          · have e3 : ((ps[i].params.length : Int) == 0) = true := by simp [c2]
            have e4 : decide (B ps[i].name = ByteArray.mk #[109, 97, 105, 110]) = true := by rw [c1]; rfl
            rw [e4, cond_true, e3, cond_true]
            refine h2' _ false ?_
            rw [hd]
            simp [c1, c2]
          · have e3 : ((ps[i].params.length : Int) == 0) = false := by simp; intro h; rw [h] at c2; exact c2 rfl
            have e4 : decide (B ps[i].name = ByteArray.mk #[109, 97, 105, 110]) = true := by rw [c1]; rfl
            rw [e4, cond_true, e3, cond_false]
            refine h2' _ false ?_
            rw [hd]
            simp [c2]
        · have e4 : decide (B ps[i].name = ByteArray.mk #[109, 97, 105, 110]) = false := by
            rw [decide_eq_false_iff_not]; intro h
            exact c1 (B_inj.1 h)
          rw [e4, cond_false]
          refine h2' _ false ?_
          rw [hd]
          simp [c1]
  rw [ref04_Check.eq]
  unfold checkR checkP wholeE
  by_cases c40 : 40 < ps.length
  · simp [c40, show (40 : Int) < (ps.length : Int) by omega, infoV, vrows]
  have hstart : ref04_Check.L1_1_1_0_1_0 (ps.map Prc.v) = ref04_Check.L1_1_1_0_1_0v1 false 0 0 (ps.map Prc.v) := by
    rw [ref04_Check.L1_1_1_0_1_0_eq, ref04_Check.L1_1_1_0_1_0v1_eq]
    rfl
  have h0 := outer 0 (Nat.zero_le _) false 0
  simp only [Int.natCast_zero, List.drop_zero, List.take_zero, Bool.false_or] at h0
  rw [hstart, h0]
  by_cases cd : dupP (ps.map (·.name)) [] = true
  · simp [c40, show ¬ (40 : Int) < (ps.length : Int) by omega, cd]
  · by_cases cm : ps.any mainP = true
    · simp only [List.length_map, decide_eq_false (show ¬ (ps.length : Int) > 40 by omega), cond_false, if_neg cd, if_pos cm, if_neg c40, ne_eq, not_true_eq_false, if_false]
      rw [← hA]
      cases hp : procsE ps ps 0 with
      | none => rfl
      | some r =>
        have hr := procsE_ne hp
        simp only [Option.getD_some, if_neg hr]
    · simp [c40, show ¬ (40 : Int) < (ps.length : Int) by omega, cd, cm]
end Go.Proofs.Ytipjanijidbelaa
