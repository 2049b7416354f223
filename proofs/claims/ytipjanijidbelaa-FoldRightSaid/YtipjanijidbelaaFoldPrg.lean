/- Folding programs: what the program's fold answers, and that a right program stays right. Own work. -/
import Derived.Test.YtipjanijidbelaaFoldTy
import Derived.Test.YtipjanijidbelaaFoldD
import Derived.Test.YtipjanijidbelaaPxRefE
import Derived.Test.YtipjanijidbelaaRFoldS
namespace Go.Proofs.Ytipjanijidbelaa
open Go Go.Proofs.Ab Go.Proofs.Px
set_option linter.unusedVariables false
set_option linter.unusedSimpArgs false
set_option maxRecDepth 100000

namespace Stm
mutual
/-- A statement whose expressions are folded. -/
def fold : Stm → Stm
  | .mk k n p m e b l => .mk k n p m (e.map foldP) (folds b) (folds l)
def folds : List Stm → List Stm
  | [] => []
  | x :: l => fold x :: folds l
end
theorem folds_map : ∀ l : List Stm, folds l = l.map fold
  | [] => by rw [folds]; rfl
  | x :: l => by rw [folds, folds_map l]; rfl
theorem fold_is (x : Stm) : fold x = .mk x.kind x.name x.proc x.num (x.e.map foldP) (x.body.map fold) (x.els.map fold) := by cases x; rw [fold, folds_map, folds_map]; rfl
mutual
theorem fold_count : ∀ x : Stm, (fold x).count = x.count
  | .mk k n p m e b l => by rw [fold, count, count, folds_counts b, folds_counts l]
theorem folds_counts : ∀ l : List Stm, counts (folds l) = counts l
  | [] => by rw [folds]
  | x :: l => by rw [folds, counts, counts, fold_count x, folds_counts l]
end
mutual
theorem fold_flat : ∀ x : Stm, flat (fold x) = (flat x).map fold
  | .mk k n p m e b l => by rw [fold, flat, flat, List.map_cons, List.map_append, folds_flats b, folds_flats l, fold]
theorem folds_flats : ∀ l : List Stm, flats (folds l) = (flats l).map fold
  | [] => by rw [folds, flats]; rfl
  | x :: l => by rw [folds, flats, flats, List.map_append, fold_flat x, folds_flats l]
end
mutual
theorem fold_ends : ∀ x : Stm, ends (fold x) = ends x
  | .mk k n p m e b l => by rw [fold, ends, ends, folds_endss b, folds_endss l]
theorem folds_endss : ∀ l : List Stm, endss (folds l) = endss l
  | [] => by rw [folds]
  | x :: l => by rw [folds, endss, endss, fold_ends x, folds_endss l]
end
mutual
theorem fold_item : ∀ (x : Stm) (a b : Int), item (fold x) a b = (item x a b).map fun p => (p.1.fold, p.2)
  | .mk k n p m e b l, x, y => by
    rw [fold, item, item, List.map_cons, List.map_append, folds_items b, folds_items l, folds_counts, folds_counts, fold]
theorem folds_items : ∀ (l : List Stm) (a b : Int), items (folds l) a b = (items l a b).map fun p => (p.1.fold, p.2)
  | [], _, _ => by rw [folds, items]; rfl
  | x :: l, a, b => by rw [folds, items, items, List.map_append, fold_item x, folds_items l, fold_count]
end
end Stm
theorem varsOf_fold : ∀ (its : List (Stm × Int)) (m : Int), varsOf (its.map fun p => (p.1.fold, p.2)) m = varsOf its m
  | [], m => rfl
  | (s, last) :: l, m => by
    have h := varsOf_fold l (m + 1)
    simp only [List.map_cons, varsOf]
    rw [h]
    have e1 : s.fold.kind = s.kind := by rw [Stm.fold_is]; rfl
    have e2 : varOf s.fold m last = varOf s m last := by rw [Stm.fold_is]; rfl
    rw [e1, e2]
def Prc.fold (q : Prc) : Prc := ⟨q.name, q.params, q.type, Stm.folds q.body⟩
theorem varsP_fold (q : Prc) : varsP q.fold = varsP q := by
  unfold varsP Prc.fold declP
  simp only [Stm.folds_counts, Stm.folds_items, varsOf_fold]
theorem called_fold (name : List UInt8) : ∀ ps : List Prc, calledP name (ps.map Prc.fold) = (calledP name ps).map Prc.fold
  | [] => rfl
  | p :: ps => by
    rw [List.map_cons, calledP, calledP]
    by_cases c : p.name = name
    · rw [if_pos c, if_pos (show p.fold.name = name from c)]; rfl
    · rw [if_neg c, if_neg (show ¬ p.fold.name = name from c), called_fold name ps]
theorem typedE_fold {vs : List Vr} {m : Int} {x : Ex} {t : Int} (hx : ExOk x) (h : typedE vs m x t = 0) : typedE vs m (foldP x) t = 0 := by
  unfold typedE at h ⊢
  by_cases c : (tyP vs m x).1 = 0
  · rw [fold_ty vs m x hx c]; exact h
  · rw [if_pos c] at h; exact absurd h c
theorem argsE_fold {vs : List Vr} {m : Int} : ∀ {l : List Ex} {ps : List Par}, (∀ x ∈ l, ExOk x) → argsE vs m l ps = 0 → argsE vs m (l.map foldP) ps = 0
  | [], ps, _, h => by rw [List.map_nil, argsE]
  | x :: l, [], _, h => by rw [List.map_cons, argsE]
  | x :: l, p :: ps, hok, h => by
    rw [argsE] at h
    rw [List.map_cons, argsE]
    by_cases c : typedE vs m x p.type = 0
    · rw [if_neg (fun d => d c)] at h
      rw [if_neg (fun d => d (typedE_fold (hok x (List.mem_cons_self ..)) c))]
      exact argsE_fold (fun y hy => hok y (List.mem_cons_of_mem _ hy)) h
    · rw [if_pos c] at h; exact absurd h c
/-- The error of a call, of its parts. -/
def callK (vs : List Vr) (mark : Int) (ps : List Prc) (n p : List UInt8) (e : List Ex) : Int := match calledP p ps with
  | none => 40
  | some r => if e.length ≠ r.params.length then 41 else if argsE vs mark e r.params ≠ 0 then argsE vs mark e r.params else takesE vs mark n r.type
theorem callE_mk (vs : List Vr) (mark : Int) (ps : List Prc) (k : Int) (n p : List UInt8) (m : Int) (e : List Ex) (b l : List Stm) : callE vs mark ps (.mk k n p m e b l) = callK vs mark ps n p e := by
  unfold callE callK
  simp only [Stm.proc_mk]
  cases calledP p ps <;> rfl
theorem stmtE_fold {vs : List Vr} {m : Int} {ps : List Prc} {q : Prc} {s : Stm} (hs : StmOk s) (h : stmtE vs m ps q s = 0) : stmtE vs m (ps.map Prc.fold) q.fold s.fold = 0 := by
  obtain ⟨k, n, p, num, e, b, l⟩ := s
  have hes := hs.inv.hes
  rw [Stm.fold, stmtE_mk]
  rw [stmtE_mk] at h
  have hb : Stm.folds b ≠ [] → b ≠ [] := fun c d => c (by rw [d, Stm.folds])
  have hl : Stm.folds l ≠ [] → l ≠ [] := fun c d => c (by rw [d, Stm.folds])
  unfold stmtK at h ⊢
  by_cases c1 : b ≠ [] ∧ k ≠ 4 ∧ k ≠ 5
  · rw [if_pos c1] at h; simp at h
  rw [if_neg c1] at h
  rw [if_neg (show ¬ (Stm.folds b ≠ [] ∧ k ≠ 4 ∧ k ≠ 5) from fun d => c1 ⟨hb d.1, d.2⟩)]
  by_cases c2 : l ≠ [] ∧ k ≠ 4
  · rw [if_pos c2] at h; simp at h
  rw [if_neg c2] at h
  rw [if_neg (show ¬ (Stm.folds l ≠ [] ∧ k ≠ 4) from fun d => c2 ⟨hl d.1, d.2⟩), List.length_map]
  by_cases c3 : k = 1
  · rw [if_pos c3] at h ⊢; exact h
  rw [if_neg c3] at h ⊢
  by_cases c4 : k = 2
  · rw [if_pos c4] at h ⊢
    match e, h with
    | [x], h =>
      simp only [List.map_cons, List.map_nil]
      simp only at h
      cases hv : findV n m vs with
      | none => rw [hv] at h; simp at h
      | some v =>
        rw [hv] at h
        simp only at h ⊢
        by_cases z : v.size = 0
        · rw [if_pos z] at h ⊢; exact typedE_fold (hes x (List.mem_singleton_self x)) h
        · rw [if_neg z] at h; simp at h
    | [], h => simp at h
    | x :: y :: r, h => simp at h
  rw [if_neg c4] at h ⊢
  by_cases c5 : k = 3
  · rw [if_pos c5] at h ⊢
    match e, h with
    | [x, y], h =>
      simp only [List.map_cons, List.map_nil]
      simp only at h
      cases hv : findV n m vs with
      | none => rw [hv] at h; simp at h
      | some v =>
        rw [hv] at h
        simp only at h ⊢
        by_cases z : 0 < v.size
        · rw [if_pos z] at h ⊢
          by_cases d : typedE vs m x 1 = 0
          · rw [if_neg (fun c => c d)] at h
            rw [if_neg (fun c => c (typedE_fold (hes x (by simp)) d))]
            exact typedE_fold (hes y (by simp)) h
          · rw [if_pos d] at h; exact absurd h d
        · rw [if_neg z] at h; simp at h
    | [], h => simp at h
    | [x], h => simp at h
    | x :: y :: z :: r, h => simp at h
  rw [if_neg c5] at h ⊢
  by_cases c6 : k = 4 ∨ k = 5 ∨ k = 10
  · rw [if_pos c6] at h ⊢
    match e, h with
    | [x], h => exact typedE_fold (hes x (List.mem_singleton_self x)) h
    | [], h => simp [oneE] at h
    | x :: y :: r, h => simp [oneE] at h
  rw [if_neg c6] at h ⊢
  by_cases c7 : k = 8
  · rw [if_pos c7] at h ⊢
    match e, h with
    | [x], h => exact (congrArg Prod.fst (fold_ty vs m x (hes x (List.mem_singleton_self x)) h)).trans h
    | [], h => simp [oneE] at h
    | x :: y :: r, h => simp [oneE] at h
  rw [if_neg c7] at h ⊢
  by_cases c8 : k = 9
  · rw [if_pos c8] at h ⊢
    match e, h with
    | [], h => exact h
    | x :: r, h => simp at h
  rw [if_neg c8] at h ⊢
  by_cases c9 : k = 6
  · rw [if_pos c9] at h ⊢
    rw [callE_mk] at h ⊢
    unfold callK at h ⊢
    rw [called_fold]
    cases hc : calledP p ps with
    | none => rw [hc] at h; simp at h
    | some r =>
      rw [hc] at h
      simp only [Option.map_some] at h ⊢
      have e1 : r.fold.params = r.params := rfl
      have e2 : r.fold.type = r.type := rfl
      rw [e1, e2, List.length_map]
      by_cases d1 : e.length ≠ r.params.length
      · rw [if_pos d1] at h; simp at h
      · rw [if_neg d1] at h ⊢
        by_cases d2 : argsE vs m e r.params = 0
        · rw [if_neg (fun c => c d2)] at h
          rw [if_neg (fun c => c (argsE_fold hes d2))]
          exact h
        · rw [if_pos d2] at h; exact absurd h d2
  rw [if_neg c9] at h ⊢
  by_cases c10 : k = 7
  · rw [if_pos c10] at h ⊢
    unfold returnsE at h ⊢
    match e, h with
    | [], h => exact h
    | [x], h =>
      simp only [List.map_cons, List.map_nil]
      simp only at h
      show (if q.type = 0 then (41 : Int) else typedE vs m (foldP x) q.type) = 0
      by_cases t : q.type = 0
      · rw [if_pos t] at h; simp at h
      · rw [if_neg t] at h ⊢; exact typedE_fold (hes x (List.mem_singleton_self x)) h
    | x :: y :: r, h => simp at h
  rw [if_neg c10] at h; simp at h
theorem runE_fold {f g : Int → Stm → Int} : ∀ (l : List Stm) (m : Int), (∀ m s, s ∈ l → f m s = 0 → g m s.fold = 0) → (runE f m l).2 = 0 → (runE g m (l.map Stm.fold)).2 = 0
  | [], m, _, _ => rfl
  | s :: l, m, h, h0 => by
    rw [List.map_cons]
    unfold runE at h0 ⊢
    by_cases c : f (m + 1) s = 0
    · rw [if_neg (fun d => d c)] at h0
      rw [if_neg (fun d => d (h _ _ (List.mem_cons_self ..) c))]
      exact runE_fold l (m + 1) (fun m s hs => h m s (List.mem_cons_of_mem _ hs)) h0
    · rw [if_pos c] at h0; exact absurd h0 c
theorem procE_fold {ps : List Prc} {q : Prc} (hq : PrcOk q) (h : (procE ps q).2 = 0) : procE (ps.map Prc.fold) q.fold = (0, 0) := by
  obtain ⟨h1, h2, h3, h4, h5⟩ := procE_ok h
  have hr := runE_fold (f := fun m s => stmtE (varsP q) m ps q s) (g := fun m s => stmtE (varsP q) m (ps.map Prc.fold) q.fold s) (Stm.flats q.body) 0 (fun m s hs h0 => stmtE_fold (Stm.flats_ok hq.body.2 s hs) h0) h4
  have e1 : Stm.flats q.fold.body = (Stm.flats q.body).map Stm.fold := Stm.folds_flats q.body
  have e2 : Stm.endss q.fold.body = Stm.endss q.body := Stm.folds_endss q.body
  have e3 : q.fold.params = q.params := rfl
  have e4 : q.fold.type = q.type := rfl
  unfold procE
  rw [varsP_fold, e1, e2, e3, e4, if_neg (by omega), if_neg (by simp [h3]), if_neg (by simpa using hr), if_pos h5]
theorem procsE_fold {all : List Prc} : ∀ {l : List Prc} {i : Int}, (∀ q ∈ l, PrcOk q) → (∀ q ∈ l, (procE all q).2 = 0) → procsE (all.map Prc.fold) (l.map Prc.fold) i = none
  | [], i, _, _ => rfl
  | q :: l, i, hok, h => by
    rw [List.map_cons, procsE, procE_fold (hok q (List.mem_cons_self ..)) (h q (List.mem_cons_self ..)), if_neg (fun c => c rfl)]
    exact procsE_fold (fun r hr => hok r (List.mem_cons_of_mem _ hr)) fun r hr => h r (List.mem_cons_of_mem _ hr)
/-- **A right program stays right.** -/
theorem check_fold {ps : List Prc} (hok : ∀ q ∈ ps, PrcOk q) (h : (checkP ps).2.2 = 0) : checkP (ps.map Prc.fold) = (0, 0, 0) := by
  obtain ⟨g1, g2, g3⟩ := checkP_ok h
  have hw : wholeE (ps.map Prc.fold) = 0 := by
    obtain ⟨w1, w2, w3⟩ := whole_ok g1
    unfold wholeE
    have e1 : (ps.map Prc.fold).map (·.name) = ps.map (·.name) := by rw [List.map_map]; rfl
    have e2 : (ps.map Prc.fold).any mainP = ps.any mainP := by rw [List.any_map]; rfl
    rw [List.length_map, e1, e2, if_neg (by omega), if_neg (by simp [w2]), if_pos w3]
  unfold checkP
  rw [if_neg (fun c => c hw), procsE_fold hok (procsE_none g2)]
  rfl
theorem folds_ok {l : List Stm} : (∀ x ∈ l, StmOk x) → ∀ x ∈ Stm.folds l, StmOk x := by
  refine Stm.ind_list (P := fun l => (∀ x ∈ l, StmOk x) → ∀ x ∈ Stm.folds l, StmOk x) (fun l ih => ?_) l
  intro h x hx
  rw [Stm.folds_map] at hx
  obtain ⟨y, hy, rfl⟩ := List.mem_map.1 hx
  have ho := (h y hy).inv'
  have h1 := (ih y hy).1 ho.hbs
  have h2 := (ih y hy).2 ho.hls
  rw [Stm.folds_map] at h1 h2
  rw [Stm.fold_is]
  refine .mk ho.hk ho.hn ho.hp ho.hm (by rw [List.length_map]; exact ho.he) (fun z hz => ?_) (by rw [List.length_map]; exact ho.hb) h1 (by rw [List.length_map]; exact ho.hl) h2
  obtain ⟨w, hw, rfl⟩ := List.mem_map.1 hz
  exact foldP_ok (ho.hes w hw)
theorem fold_prc_ok {q : Prc} (h : PrcOk q) : PrcOk q.fold :=
  ⟨h.name, h.params, h.type, by show (Stm.folds q.body).length ≤ _; rw [Stm.folds_map, List.length_map]; exact h.body.1, folds_ok h.body.2⟩
/-! ### The program's fold -/
theorem fold_each_is (l : List Ex) (hl : l.length ≤ 1000000) (hok : ∀ x ∈ l, ExOk x) (hs : ∀ x ∈ l, x.size ≤ 1000000) : den Sp fold_stmts_1.id [.sl .no T_api_Expr (l.map Ex.v)] [] none = some ⟨.ret (.sl .no T_api_Expr ((l.map foldP).map Ex.v)), [], none⟩ := by
  have key : ∀ i : Nat, i ≤ l.length → ∀ acc : List Ex, acc.length + (l.length - i) ≤ 1000000 → fold_stmts_1.L1_1_0_1_0 (acc.map Ex.v) (l.map Ex.v) (l.length : Int) (i : Int) = some ⟨.ret (.sl .no T_api_Expr ((acc ++ foldPs (l.drop i)).map Ex.v)), [], none⟩ := by
    refine down (fun acc _ => ?_) fun i hi ih acc ha => ?_
    · rw [fold_stmts_1.L1_1_0_1_0_eq]; simp [foldPs]
    · have hm := List.getElem_mem hi
      have h1 := fold_Expr_is l[i] (hok _ hm) (hs _ hm)
      have h3 := ih (acc ++ [foldP l[i]]) (by simp; omega)
      rw [fold_stmts_1.L1_1_0_1_0_eq, List.drop_eq_getElem_cons hi, foldPs]
      simp (disch := omega) [hi, h1, wrap_in, most_if]
      simpa using h3
  rw [fold_stmts_1.eq]
  have h0 := key 0 (Nat.zero_le _) [] (by simpa using hl)
  rw [List.drop_zero, foldPs_map] at h0
  simpa using h0
theorem fold_stmts_is : ∀ l : List Stm, Stm.sizes l ≤ 1000000 → (∀ x ∈ l, StmOk x) → den Sp fold_stmts.id [.sl .no T_api_Stmt (l.map Stm.v)] [] none = some ⟨.ret (.sl .no T_api_Stmt ((Stm.folds l).map Stm.v)), [], none⟩ := by
  refine Stm.ind_list fun l ih hsz hok => ?_
  have hlen := Stm.sizes_len l
  have key : ∀ i : Nat, i ≤ l.length → ∀ acc : List Stm, acc.length + (l.length - i) ≤ 1000000 → fold_stmts.L1_1_1_0_1_0 (acc.map Stm.v) (l.map Stm.v) (l.length : Int) (i : Int) = some ⟨.ret (.sl .no T_api_Stmt ((acc ++ Stm.folds (l.drop i)).map Stm.v)), [], none⟩ := by
    refine down (fun acc _ => ?_) fun i hi ihi acc ha => ?_
    · rw [fold_stmts.L1_1_1_0_1_0_eq]; simp [Stm.folds]
    · have hm := List.getElem_mem hi
      have ho := (hok _ hm).inv'
      have hsz1 := Stm.size_mem hm
      rw [Stm.size_is] at hsz1
      have h1 := (ih _ hm).1 (by omega) ho.hbs
      have h2 := (ih _ hm).2 (by omega) ho.hls
      have hel := Ex.sizes_len l[i].e
      have h3 := fold_each_is l[i].e (by omega) ho.hes (fun x hx => by have := Ex.size_mem hx; omega)
      rw [Stm.folds_map] at h1 h2
      have h4 := ihi (acc ++ [l[i].fold]) (by simp; omega)
      rw [fold_stmts.L1_1_1_0_1_0_eq, List.drop_eq_getElem_cons hi, Stm.folds]
      rw [Stm.fold_is] at h4 ⊢
      simp only [List.map_append, List.map_cons, List.map_nil, Stm.v_mk] at h4 ⊢
      simp (disch := omega) [hi, h1, h2, h3, wrap_in, most_if]
      simpa using h4
  rw [fold_stmts.eq]
  simpa using key 0 (Nat.zero_le _) [] (by simp; omega)
theorem fold_Prog_is (ps : List Prc) (hok : ∀ q ∈ ps, PrcOk q) (hs : Prc.sizes ps ≤ 1000000) : den Sp fold_Prog.id [.agg [.sl .no T_api_Proc (ps.map Prc.v)]] [] none = some ⟨.ret (.agg [.sl .no T_api_Proc ((ps.map Prc.fold).map Prc.v)]), [], none⟩ := by
  have hlen := Prc.sizes_len ps
  have key : ∀ i : Nat, i ≤ ps.length → ∀ acc : List Prc, acc.length + (ps.length - i) ≤ 1000000 → fold_Prog.L1_1_0_1_0 (ps.map Prc.v) (ps.length : Int) (i : Int) (ps.map Prc.v) (acc.map Prc.v) = some ⟨.ret (.agg [.sl .no T_api_Proc ((acc ++ (ps.map Prc.fold).drop i).map Prc.v)]), [], none⟩ := by
    refine down (fun acc _ => ?_) fun i hi ih acc ha => ?_
    · rw [fold_Prog.L1_1_0_1_0_eq]; simp
    · have hm := List.getElem_mem hi
      have h1 := Prc.size_mem hm
      unfold Prc.size at h1
      have h2 := fold_stmts_is ps[i].body (by omega) (hok _ hm).body.2
      have h4 := ih (acc ++ [ps[i].fold]) (by simp; omega)
      have e : (ps.map Prc.fold).drop i = ps[i].fold :: (ps.map Prc.fold).drop (i + 1) := by
        rw [List.drop_eq_getElem_cons (by rw [List.length_map]; exact hi), List.getElem_map]
      have ev : ps[i].fold.v = [V.str (B ps[i].name), V.sl .no T_api_Param (ps[i].params.map Par.v), V.int .i64 ps[i].type, V.sl .no T_api_Stmt ((Stm.folds ps[i].body).map Stm.v)] := rfl
      have hp : ps[i].params.length ≤ 1000000 := by omega
      rw [fold_Prog.L1_1_0_1_0_eq, e]
      simp (disch := omega) [hi, h2, wrap_in, most_if]
      simp only [List.map_append, List.map_cons, List.map_nil, ev, List.append_assoc, List.singleton_append, Int.natCast_add, Int.natCast_one] at h4
      simpa [ev] using h4
  rw [fold_Prog.eq]
  simpa using key 0 (Nat.zero_le _) [] (by simp; omega)
end Go.Proofs.Ytipjanijidbelaa
