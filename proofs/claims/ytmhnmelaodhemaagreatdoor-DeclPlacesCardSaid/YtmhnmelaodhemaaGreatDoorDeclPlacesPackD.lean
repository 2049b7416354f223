/- Own texts under the law DeclPlaces, merged, without what it does not lean on: part 4 of 7 (the abstract machine and its proof; residual forms; contracts; the plain law). -/
import Derived.Test.YtmhnmelaodhemaaGreatDoorDeclPlacesPackC
import Derived.LoopN
import Derived.Scope
import Derived.Below
import Derived.Lib.Join
import Derived.Test.YtmhnmelaodhemaaGreatDoorProg
import Derived.ProofKit
import Derived.LaidMore
import Derived.OpenShut
import Derived.WalkKit
import Derived.ShutString
import Derived.ChangeOld
import Derived.SizedLaws
import Derived.Shelf.Strings.OnBuilder
import Derived.IntWalk
import Derived.Lib.SmallJoins
import Derived.KernelRfl
import Derived.Laws.Bits64
set_option linter.unusedVariables false
set_option linter.unusedSimpArgs false
set_option linter.unusedSectionVars false
set_option maxRecDepth 100000
namespace Go.Proofs.Ab
open Go
structure SameF (env : Env) (st : St) (s : FS) : Prop where
 e : ∀ t, env.get t = s.e t
 g : ∀ id, getB st.bl id = s.g id
 u : st.used = s.u
 d : st.dead = s.d
def FS.of (env : Env) (st : St) : FS
 | .slot t => .v (env.get t)
 | .blk id => .b (getB st.bl id)
 | .rows => .r st.used st.dead
theorem SameF.of (env : Env) (st : St) : SameF env st (FS.of env st) := ⟨fun _ => rfl, fun _ => rfl, rfl, rfl⟩
section
variable {p0 : Option (Option V)} {df0 : List (FuncId × List V)} {pg : Pg} {D : DSem} {f : FuncId} {c0 c : Cx} {own0 own : Own} {nt : Nat} {ops : Array Oper} {l : List (Oper × Eff)} {s0 s : FS} {Q : Exit -> Act -> World -> Prop} {env : Env} {st : St} {r : Res} {k : K} {a : Act}
theorem At.toF (h : At pg p0 c0 own0 nt c own env st a) (hs : SameF env st s) : FAt pg st.df c0 own0 nt c own s a := by
 have hg : getB st.bl = s.g := funext hs.g
 have hl : Live st = s.live := by unfold Live FS.live; rw [hs.u, hs.d]
 refine ⟨by rw [<- hg, <- hl]; exact h.inv.inv, fun t r hr => by rw [<- hs.u]; exact h.inv.domr t r hr, fun t => by rw [<- hs.e]; exact h.env t, h.size, h.defs, h.after, h.blk, h.out⟩
theorem FAt.toA (h : FAt pg df0 c0 own0 nt c own s a) (hs : SameF env st s) (hd : st.df = df0) (hp : st.pn = p0) : At pg p0 c0 own0 nt c own env st a := by
 have hg : getB st.bl = s.g := funext hs.g
 have hl : Live st = s.live := by unfold Live FS.live; rw [hs.u, hs.d]
 refine ⟨⟨by rw [hg, hl]; exact h.inv, fun t r hr => by rw [hs.u]; exact h.domr t r hr⟩, fun t => by rw [hs.e]; exact h.env t, h.size, (by rw [hd]; exact h.defs), hp, h.after, h.blk, h.out⟩
theorem envF_get (env : Env) : ∀ {l : List Tmp} {t : Tmp}, t ∈ l -> (envF env l).get t = env.get t
 | [], t, h => by cases h
 | a :: l, t, h => by
  show (bif Nat.beq a t then env.get a else (envF env l).get t) = env.get t
  by_cases ha : a = t
  ·subst ha; rw [Nat.beq_refl]; rfl
  ·rw [nbeq ha, cond_false]
   exact envF_get env ((List.mem_cons.1 h).resolve_left fun e => ha e.symm)
theorem putE_get {nt : Nat} {d : Option Tmp} {v : V} {env' : Env} (h : putE nt env d v = some env') : (∀ t, env'.get t = if d = some t then v else env.get t) ∧ ∀ t, d = some t -> t < nt := by
 unfold putE at h
 split at h
 ·cases h; exact ⟨fun t => by simp, fun t h => by cases h⟩
 ·rename_i d0
  obtain ⟨h1, h2⟩ := condL_some h
  cases h2
  have hlt : d0 < nt := by simpa [Nat.blt_eq] using h1
  refine ⟨fun t => ?_, fun t ht => by cases ht; exact hlt⟩
  show (bif Nat.beq d0 t then v else env.get t) = _
  by_cases hd : d0 = t
  ·subst hd; simp
  ·rw [nbeq hd]; simp [hd]
theorem map_bind {α β : Type} (o : Option α) (g : α -> β) : o.map g = o.bind fun x => some (g x) := by cases o <;> rfl
theorem appendS_bare {R : Type} (e : TypeId) (v x : V) (d : Tmp) (st : St) (df : List (FuncId × List V)) (pn : Option (Option V)) (k : V -> St -> Option R) :
  appendS pg e v x d { st with df := df, pn := pn } k = appendS pg e v x d st fun v s => k v { s with df := df, pn := pn } := by
 unfold appendS
 split <;> rfl
theorem callK_bare {R : Type} (f : FuncId) (vs : List V) (nt : Tmp) (st : St) (df : List (FuncId × List V)) (pn p : Option (Option V)) (k : V -> St -> Res -> Option R) (kp : V -> St -> Option R) :
  callK pg D f vs nt { st with df := df, pn := pn } p k kp = callK pg D f vs nt st p (fun v s r => k v { s with df := df, pn := pn } r) fun v s => kp v { s with df := df, pn := pn } := by
 unfold callK
 split <;> rfl
theorem opI_bare {R : Type} {f : FuncId} {o : Oper} {env : Env} {st : St} (df : List (FuncId × List V)) (pn : Option (Option V)) (k kp : V -> St -> Option R) :
  opI pg f env o { st with df := df, pn := pn } k kp = opI pg f env o st (fun v s => k v { s with df := df, pn := pn }) (fun v s => kp v { s with df := df, pn := pn }) := by
 unfold opI
 congr 1
theorem evIOps_bare {R : Type} {f : FuncId} {nt : Nat} (df : List (FuncId × List V)) (pn : Option (Option V)) : ∀ (l : List Oper) (env : Env) (st : St) (k : Ex -> Env -> St -> Option R),
  evIOps pg f nt l env { st with df := df, pn := pn } k = evIOps pg f nt l env st fun ex env s => k ex env { s with df := df, pn := pn }
 | [], env, st, k => rfl
 | o :: l, env, st, k => by
  unfold evIOps
  split
  ·rw [opI_bare]
   congr 1
   funext v s
   split
   ·exact evIOps_bare df pn l _ _ _
   ·rfl
  ·rfl
theorem evI_bare {R : Type} {f : FuncId} {nt : Nat} (df : List (FuncId × List V)) (pn : Option (Option V)) : ∀ (c : Code) (env : Env) (st : St) (k : Ex -> Env -> St -> Option R),
  evI pg f nt c env { st with df := df, pn := pn } k = evI pg f nt c env st fun ex env s => k ex env { s with df := df, pn := pn } := by
 intro c
 induction c with
 | seq a b iha ihb =>
  intro env st k
  unfold evI
  rw [iha]
  congr 1
  funext ex env s
  cases ex with
  | normal => exact ihb _ _ _
  | _ => rfl
 | cond c a b iha ihb =>
  intro env st k
  unfold evI
  split
  ·rw [iha, ihb]
  ·rfl
 | scope c ih => intro env st k; unfold evI; exact ih _ _ _
 | region id ops draw => intro env st k; unfold evI; rw [evIOps_bare]
 | _ => intro env st k; rfl
theorem inlK_bare {R : Type} {f : FuncId} {fn : Func} {vs : List V} {st : St} (df : List (FuncId × List V)) (pn : Option (Option V)) (k kp : V -> St -> Option R) :
  inlK pg f fn vs { st with df := df, pn := pn } k kp = inlK pg f fn vs st (fun v s => k v { s with df := df, pn := pn }) fun v s => kp v { s with df := df, pn := pn } := by
 unfold inlK
 rw [evI_bare]
 congr 2
theorem step1_bare {f : FuncId} {o : Oper} {env : Env} {st : St} (df : List (FuncId × List V)) (pn : Option (Option V)) (h1 : isRow o = true) (h2 : notDrawn o = false) :
  step1 pg D f env o { st with df := df, pn := pn } = (step1 pg D f env o st).map fun q => match q with | .val v s => .val v { s with df := df, pn := pn } | .pan v s => .pan v { s with df := df, pn := pn } := by
 unfold isRow at h1
 unfold notDrawn at h2
 have app : ∀ (e : TypeId) (v x : V) (d : Tmp), appendS pg e v x d { st with df := df, pn := pn } (fun v s => some (Step.val v s)) = (appendS pg e v x d st fun v s => some (Step.val v s)).map fun q => match q with | .val v s => .val v { s with df := df, pn := pn } | .pan v s => .pan v { s with df := df, pn := pn } := by
  intro e v x d
  rw [appendS_bare, map_bind, appendS_bind]
  rfl
 unfold step1 opS
 split at h1
 ·rename_i x ho
  rw [ho]
  dsimp only
  split <;> rfl
 ·rename_i args ts ho
  rw [ho]
  dsimp only
  split
  ·split
   ·rename_i e _
    cases (Nat.beq _ _ || (match pg.P.underlying _ with | some .string => true | _ => false)) with
    | true => exact app ..
    | false => rfl
   ·rfl
  ·rfl
 ·rename_i cl args ts ho
  rw [ho]
  dsimp only
  split
  ·split
   ·cases Nat.beq args.size _ with
    | true =>
     rw [cond_true, cond_true]
     cases pg.inl _ with
     | true =>
      rw [cond_true, cond_true, inlK_bare, map_bind, inlK_bind]
      rfl
     | false =>
      rw [cond_false, cond_false, callK_bare, map_bind, callK_bind]
      rfl
    | false => rfl
   ·rfl
  ·rfl
 ·cases h1
theorem inl_dfs {f : FuncId} {fn : Func} {vs : List V} {st : St} {q : Step} (h : inlK pg f fn vs st (fun v s => some (Step.val v s)) (fun v s => some (Step.pan v s)) = some q) :
  (∀ v s, q = .val v s -> s.df = st.df ∧ s.pn = st.pn) ∧ ∀ v s, q = .pan v s -> s.df = st.df ∧ s.pn = st.pn := by
 have h1 : inlK pg f fn vs { st with df := st.df, pn := st.pn } (fun v s => some (Step.val v s)) (fun v s => some (Step.pan v s)) = some q := h
 rw [inlK_bare] at h1
 have h2 : (inlK pg f fn vs st (fun v s => some (Step.val v s)) (fun v s => some (Step.pan v s))).bind (fun q => match q with | .val v s => some (Step.val v { s with df := st.df, pn := st.pn }) | .pan v s => some (Step.pan v { s with df := st.df, pn := st.pn })) = some q := by
  rw [inlK_bind]; exact h1
 rw [h, Option.bind_some] at h2
 cases q with
 | val v s =>
  simp only [Option.some.injEq, Step.val.injEq] at h2
  refine ⟨fun v2 s2 he => ?_, fun v2 s2 he => (by cases he)⟩
  cases he
  rw [<- h2.2]; exact ⟨rfl, rfl⟩
 | pan v s =>
  simp only [Option.some.injEq, Step.pan.injEq] at h2
  refine ⟨fun v2 s2 he => (by cases he), fun v2 s2 he => ?_⟩
  cases he
  rw [<- h2.2]; exact ⟨rfl, rfl⟩
theorem inl_df {f : FuncId} {fn : Func} {vs : List V} {st st' : St} {v : V} (h : inlK pg f fn vs st (fun v s => some (Step.val v s)) (fun v s => some (Step.pan v s)) = some (.val v st')) : st'.df = st.df ∧ st'.pn = st.pn := (inl_dfs h).1 v st' rfl
theorem inl_dfp {f : FuncId} {fn : Func} {vs : List V} {st st' : St} {v : V} (h : inlK pg f fn vs st (fun v s => some (Step.val v s)) (fun v s => some (Step.pan v s)) = some (.pan v st')) : st'.df = st.df ∧ st'.pn = st.pn := (inl_dfs h).2 v st' rfl
theorem step1_df {f : FuncId} {o : Oper} {v : V} {st st' : St} (h1 : isRow o = true) (h2 : notDrawn o = false) (h : step1 pg D f env o st = some (.val v st')) : st'.df = st.df ∧ st'.pn = st.pn := by
 unfold step1 opS at h
 unfold isRow at h1
 unfold notDrawn at h2
 have app : ∀ {e s x d} {k : V -> St -> Option Step}, appendS pg e s x d st k = some (.val v st') -> (∀ v s, k v s = some (.val v s)) -> st'.df = st.df ∧ st'.pn = st.pn := by
  intro e s x d k h hk
  have go : ∀ {old es}, appGo pg e x d st k old es = some (.val v st') -> st'.df = st.df ∧ st'.pn = st.pn := by
   intro old es h
   unfold appGo at h
   obtain ⟨_, h1⟩ := condL_some h
   split at h1
   ·obtain ⟨_, h2⟩ := condL_some h1
    obtain ⟨_, h3⟩ := iteL_some h2
    rw [hk] at h3; cases h3; exact ⟨rfl, rfl⟩
   ·split at h1
    ·obtain ⟨_, h2⟩ := condL_some h1
     obtain ⟨_, h3⟩ := iteL_some h2
     rw [hk] at h3; cases h3; exact ⟨rfl, rfl⟩
    ·cases h1
   ·split at h1
    ·obtain ⟨_, h2⟩ := condR_some h1
     obtain ⟨_, h3⟩ := iteL_some h2
     rw [hk] at h3; cases h3; exact ⟨rfl, rfl⟩
    ·cases h1
   ·cases h1
  unfold appendS at h
  split at h
  ·obtain ⟨_, h1⟩ := condL_some h; exact go h1
  ·obtain ⟨_, h1⟩ := condL_some h; exact go h1
  ·cases h
 split at h
 ·split at h
  ·cases h
  ·cases h
 ·split at h
  ·split at h
   ·obtain ⟨_, h3⟩ := condL_some h
    exact app h3 fun _ _ => rfl
   ·cases h
  ·cases h
 ·rename_i args ts ho; rw [ho] at h2; cases h2
 ·rename_i args ts ho; rw [ho] at h2; cases h2
 ·split at h
  ·split at h
   ·obtain ⟨_, h3⟩ := condL_some h
    rcases cond_some h3 with ⟨_, h3⟩ | ⟨_, h3⟩
    ·exact inl_df h3
    unfold callK at h3
    split at h3
    ·cases h3
    split at h3
    ·cases h3
    split at h3
    ·cases h3
    split at h3
    ·cases h3
    split at h3
    ·cases h3
    split at h3
    ·cases h3
    have key : ∀ {nt h bs} {xs : List (Nat × Nat × Option TypeId)} {ws i bl p} {k : List (Nat × Blk) -> Nat -> Option Step} {r}, backAll pg nt h bs i xs ws bl p k = some r -> ∃ bl' p', k bl' p' = some r := by
     intro nt h bs xs ws i bl p k r hb
     have h1 := backAll_bind (R := (List (Nat × Blk)) × Nat) (fun q => k q.1 q.2) pg nt h bs xs ws i bl p (fun l p => some (l, p))
     simp only [Option.bind_some] at h1
     rw [hb] at h1
     obtain ⟨q, _, h2⟩ := Option.bind_eq_some_iff.1 h1
     exact ⟨q.1, q.2, h2⟩
    split at h3
    ·obtain ⟨_, h4⟩ := condR_some h3
     obtain ⟨res, _, h5⟩ := Option.bind_eq_some_iff.1 h4
     obtain ⟨bl', p', h6⟩ := key h5
     obtain ⟨_, h7⟩ := condR_some h6
     obtain ⟨v1, _, h8⟩ := onRet_some h7
     obtain ⟨v2, p2, h9, _⟩ := decOwn_spec h8
     obtain ⟨_, h10⟩ := condR_some h9
     cases h10 <;> exact ⟨rfl, rfl⟩
    ·obtain ⟨_, h4⟩ := condR_some h3
     obtain ⟨res, _, h5⟩ := Option.bind_eq_some_iff.1 h4
     obtain ⟨bl', p', h6⟩ := key h5
     obtain ⟨_, h7⟩ := condR_some h6
     split at h7
     ·obtain ⟨v1, _, h8⟩ := onRet_some h7
      obtain ⟨v2, h9, _⟩ := decRes_vrep h8
      cases h9; exact ⟨rfl, rfl⟩
     ·rcases onOut_some h7 with ⟨v1, _, h8⟩ | ⟨v1, _, h8⟩
      ·obtain ⟨v2, h9, _⟩ := decRes_vrep h8
       cases h9; exact ⟨rfl, rfl⟩
      ·obtain ⟨w2, rfl, h9⟩ := asIface_some h8
       obtain ⟨w3, h10, _⟩ := decR_vrep h9
       cases h10
   ·cases h
  ·cases h
 ·rename_i args ts ho; rw [ho] at h2; cases h2
 ·have h3 : opB pg f env o st.bl (fun v bl' => some (Step.val v { st with bl := bl' })) = some (.val v st') := h
  rw [opB_step] at h3
  obtain ⟨q, _, h4⟩ := Option.bind_eq_some_iff.1 h3
  cases h4; exact ⟨rfl, rfl⟩
theorem step1_dfp {f : FuncId} {o : Oper} {v : V} {st st' : St} (h1 : isRow o = true) (h2 : notDrawn o = false) (h : step1 pg D f env o st = some (.pan v st')) : st'.df = st.df ∧ st'.pn = st.pn := by
 unfold step1 opS at h
 unfold isRow at h1
 unfold notDrawn at h2
 have app : ∀ {e s x d} {k : V -> St -> Option Step}, appendS pg e s x d st k = some (.pan v st') -> (∀ v s, k v s = some (.val v s)) -> st'.df = st.df ∧ st'.pn = st.pn := by
  intro e s x d k h hk
  have go : ∀ {old es}, appGo pg e x d st k old es = some (.pan v st') -> st'.df = st.df ∧ st'.pn = st.pn := by
   intro old es h
   unfold appGo at h
   obtain ⟨_, h1⟩ := condL_some h
   split at h1
   ·obtain ⟨_, h2⟩ := condL_some h1
    obtain ⟨_, h3⟩ := iteL_some h2
    rw [hk] at h3; cases h3
   ·split at h1
    ·obtain ⟨_, h2⟩ := condL_some h1
     obtain ⟨_, h3⟩ := iteL_some h2
     rw [hk] at h3; cases h3
    ·cases h1
   ·split at h1
    ·obtain ⟨_, h2⟩ := condR_some h1
     obtain ⟨_, h3⟩ := iteL_some h2
     rw [hk] at h3; cases h3
    ·cases h1
   ·cases h1
  unfold appendS at h
  split at h
  ·obtain ⟨_, h1⟩ := condL_some h; exact go h1
  ·obtain ⟨_, h1⟩ := condL_some h; exact go h1
  ·cases h
 split at h
 ·split at h
  ·cases h; exact ⟨rfl, rfl⟩
  ·cases h
 ·split at h
  ·split at h
   ·obtain ⟨_, h3⟩ := condL_some h
    exact app h3 fun _ _ => rfl
   ·cases h
  ·cases h
 ·rename_i args ts ho; rw [ho] at h2; cases h2
 ·rename_i args ts ho; rw [ho] at h2; cases h2
 ·split at h
  ·split at h
   ·obtain ⟨_, h3⟩ := condL_some h
    rcases cond_some h3 with ⟨_, h3⟩ | ⟨_, h3⟩
    ·exact inl_dfp h3
    unfold callK at h3
    split at h3
    ·cases h3
    split at h3
    ·cases h3
    split at h3
    ·cases h3
    split at h3
    ·cases h3
    split at h3
    ·cases h3
    split at h3
    ·cases h3
    have key : ∀ {nt h bs} {xs : List (Nat × Nat × Option TypeId)} {ws i bl p} {k : List (Nat × Blk) -> Nat -> Option Step} {r}, backAll pg nt h bs i xs ws bl p k = some r -> ∃ bl' p', k bl' p' = some r := by
     intro nt h bs xs ws i bl p k r hb
     have h1 := backAll_bind (R := (List (Nat × Blk)) × Nat) (fun q => k q.1 q.2) pg nt h bs xs ws i bl p (fun l p => some (l, p))
     simp only [Option.bind_some] at h1
     rw [hb] at h1
     obtain ⟨q, _, h2⟩ := Option.bind_eq_some_iff.1 h1
     exact ⟨q.1, q.2, h2⟩
    split at h3
    ·obtain ⟨_, h4⟩ := condR_some h3
     obtain ⟨res, _, h5⟩ := Option.bind_eq_some_iff.1 h4
     obtain ⟨bl', p', h6⟩ := key h5
     obtain ⟨_, h7⟩ := condR_some h6
     obtain ⟨v1, _, h8⟩ := onRet_some h7
     obtain ⟨v2, p2, h9, _⟩ := decOwn_spec h8
     obtain ⟨_, h10⟩ := condR_some h9
     cases h10 <;> exact ⟨rfl, rfl⟩
    ·obtain ⟨_, h4⟩ := condR_some h3
     obtain ⟨res, _, h5⟩ := Option.bind_eq_some_iff.1 h4
     obtain ⟨bl', p', h6⟩ := key h5
     obtain ⟨_, h7⟩ := condR_some h6
     split at h7
     ·obtain ⟨v1, _, h8⟩ := onRet_some h7
      obtain ⟨v2, h9, _⟩ := decRes_vrep h8
      cases h9
     ·rcases onOut_some h7 with ⟨v1, _, h8⟩ | ⟨v1, _, h8⟩
      ·obtain ⟨v2, h9, _⟩ := decRes_vrep h8
       cases h9
      ·obtain ⟨w2, rfl, h9⟩ := asIface_some h8
       obtain ⟨w3, h10, _⟩ := decR_vrep h9
       cases h10; exact ⟨rfl, rfl⟩
   ·cases h
  ·cases h
 ·rename_i args ts ho; rw [ho] at h2; cases h2
 ·have h3 : opB pg f env o st.bl (fun v bl' => some (Step.val v { st with bl := bl' })) = some (.pan v st') := h
  rw [opB_step] at h3
  obtain ⟨q, _, h4⟩ := Option.bind_eq_some_iff.1 h3
  cases h4
theorem preds_lt (htopo : okTopo 0 ops.toList = true) : ∀ (n j : Nat), j < n -> ∀ k, k ∈ (predsOf ops.toList).getD j [] -> k < j
 | 0, j, hj => by omega
 | n + 1, j, hj => fun k hk => by
  cases ho : ops[j]? with
  | none =>
   exfalso
   have hlen : ∀ (l : List Oper) (acc : List (List Nat)), (l.foldl (fun acc o => acc ++ [dedup ((o.after.toList.filter (Region.binds .any)).map fun e => e.on :: acc.getD e.on []).flatten]) acc).length = acc.length + l.length := by
    intro l
    induction l with
    | nil => intro acc; rfl
    | cons a l ih => intro acc; rw [List.foldl_cons, ih]; simp; omega
   have h1 : (predsOf ops.toList).length = ops.size := by unfold predsOf; rw [hlen]; simp
   have h2 : ops.size <= j := by simpa using ho
   rw [List.getD_eq_getElem?_getD, List.getElem?_eq_none (by omega)] at hk
   cases hk
  | some o =>
   have hoj : ops.toList[j]? = some o := by rw [Array.getElem?_toList]; exact ho
   obtain ⟨e, h1, h2, h3⟩ := preds_spec hoj hk
   have h4 := topo_spec htopo j o hoj e h1 h2
   rcases h3 with rfl | ⟨h5, h6⟩
   ·omega
   ·have := preds_lt htopo n e.on (by omega) k h6
    omega
def Md.at (md : Md) : Option Nat := match md with | none => none | some m => some m.1
structure Pre (pg : Pg) (D : DSem) (f : FuncId) (nt : Nat) (ops : Array Oper) (n0 : List Nat) (df0 : List (FuncId × List V)) (p0 : Option (Option V)) (s0 : FS) (pre : List (Oper × Eff)) (tr : List (Nat × Oper × Ft)) (md : Md) (env : Env) (st : St) : Prop where
 tr : ∀ (j : Nat) x, pre[j]? = some x -> alB (predsOf ops.toList) md.at j = true ∨ md.at = some j -> (j, x.1, x.2.ft) ∈ tr
 same : SameF env st (runL (alB (predsOf ops.toList) md.at) 0 pre s0)
 df : st.df = df0
 pn : st.pn = p0
 op : ∀ (j : Nat) x, pre[j]? = some x -> alB (predsOf ops.toList) md.at j = true -> OpF pg D f nt ops (runL (fun m => Nat.blt m j && alB (predsOf ops.toList) md.at m) 0 pre s0) x
 ind : ∀ (i j : Nat) x y, i < j -> pre[i]? = some x -> pre[j]? = some y -> alB (predsOf ops.toList) md.at i = true ∨ md.at = some i -> alB (predsOf ops.toList) md.at j = true ∨ md.at = some j -> i ∉ (predsOf ops.toList).getD j [] -> ApartW ops x y
 rc : ∀ (i j : Nat) x y, i < j -> pre[i]? = some x -> pre[j]? = some y -> alB (predsOf ops.toList) md.at i = true -> alB (predsOf ops.toList) md.at j = true -> i ∉ (predsOf ops.toList).getD j [] -> x.2.ft.apart y.2.ft = false -> Rc pg D f nt ops (alB (predsOf ops.toList) md.at) pre s0 i j x
 pan : ∀ m, md = some m -> ∃ x, pre[m.1]? = some x ∧ PanF pg D f ops (runL (fun j => Nat.blt j m.1 && alB (predsOf ops.toList) md.at j) 0 pre s0) x m.2.1 ∧
  (∀ id, getB m.2.2.bl id = (app x (runL (fun j => Nat.blt j m.1 && alB (predsOf ops.toList) md.at j) 0 pre s0)).g id) ∧ m.2.2.used = x.2.u ∧ m.2.2.dead = x.2.d ∧ m.2.2.df = df0 ∧ m.2.2.pn = p0
 far : ∀ m, md = some m -> ∀ (j : Nat) x, pre[j]? = some x -> alB (predsOf ops.toList) md.at j = true -> j ∉ (predsOf ops.toList).getD m.1 [] -> meets x.2.ft.wr n0 = false
section
variable {n0 : List Nat} {pre : List (Oper × Eff)} {tr : List (Nat × Oper × Ft)} {md : Md} {o : Oper} {E : Eff}
theorem snoc_get {x : Oper × Eff} {j : Nat} {y : Oper × Eff} (hj : (pre ++ [x])[j]? = some y) : (j < pre.length ∧ pre[j]? = some y) ∨ (j = pre.length ∧ y = x) := by
 rcases Nat.lt_or_ge j pre.length with hlt | hge
 ·rw [List.getElem?_append_left hlt] at hj; exact .inl ⟨hlt, hj⟩
 ·rw [List.getElem?_append_right hge] at hj
  have h0 : j - pre.length = 0 := by
   rcases Nat.eq_zero_or_pos (j - pre.length) with h0 | h0
   ·exact h0
   ·rw [List.getElem?_eq_none (by simp; omega)] at hj; cases hj
  rw [h0] at hj
  simp at hj
  exact .inr ⟨by omega, hj.symm⟩
theorem snoc_old {x y : Oper × Eff} {j : Nat} (hj : pre[j]? = some y) : (pre ++ [x])[j]? = some y := by
 rw [List.getElem?_append_left (List.getElem?_eq_some_iff.1 hj).1]; exact hj
theorem snoc_cut {q : Nat -> Bool} {x : Oper × Eff} {j : Nat} (hj : j <= pre.length) : runL (fun m => Nat.blt m j && q m) 0 (pre ++ [x]) s0 = runL (fun m => Nat.blt m j && q m) 0 pre s0 := by
 rw [runL_append]
 have : Nat.blt (0 + pre.length) j = false := by
  cases hb : Nat.blt (0 + pre.length) j with
  | false => rfl
  | true => rw [Nat.blt_eq] at hb; omega
 rw [this]; rfl
theorem snoc_all {q : Nat -> Bool} : runL (fun m => Nat.blt m pre.length && q m) 0 pre s0 = runL q 0 pre s0 := funext fun loc => runL_agree rfl fun m y hy hne => by
 exfalso
 apply hne
 have h1 := (List.getElem?_eq_some_iff.1 hy).1
 have h2 : Nat.blt (0 + m) pre.length = true := by rw [Nat.blt_eq]; omega
 rw [h2, Bool.true_and]
theorem okDraw_at (hok : okDraw ops ((predsOf ops.toList).getD pre.length []) o E.ft tr = true) {i : Nat} {x : Oper × Eff} (hx : (i, x.1, x.2.ft) ∈ tr) (hn : i ∉ (predsOf ops.toList).getD pre.length []) :
  ApartW ops x (o, E) ∧ (x.2.ft.apart E.ft = false -> between ops ((predsOf ops.toList).getD pre.length []) (i, x.1, x.2.ft) tr = true) := by
 unfold okDraw at hok
 have h5 := List.all_eq_true.1 hok _ hx
 have h6 : ((predsOf ops.toList).getD pre.length []).contains i = false := by
  cases hc : ((predsOf ops.toList).getD pre.length []).contains i with
  | false => rfl
  | true => exact absurd (List.contains_iff_mem.1 hc) hn
 dsimp only at h5
 rw [h6, Bool.false_or, Bool.and_eq_true, Bool.or_eq_true, Bool.and_eq_true] at h5
 refine ⟨⟨h5.1, h5.2.imp id fun h => ?_⟩, fun hf => ?_⟩
 ·have h7 := h.1
  unfold Ft.still at h7
  rw [Bool.and_eq_true, List.isEmpty_iff, Bool.not_eq_true'] at h7
  exact h7
 ·rcases h5.2 with h | h
  ·rw [hf] at h; cases h
  ·exact h.2
theorem runL_slot {q : Nat -> Bool} {d : Tmp} : ∀ {l : List (Oper × Eff)} {i0 j0 : Nat} {s : FS} {x : Oper × Eff}, l[j0]? = some x -> q (i0 + j0) = true -> x.1.dst = some d -> (∀ (m : Nat) z, j0 < m -> l[m]? = some z -> q (i0 + m) = true -> z.1.dst ≠ some d) -> (runL q i0 l s).e d = x.2.v
 | [], i0, j0, s, x, h, _, _, _ => by simp at h
 | y :: l, i0, 0, s, x, h, hq, hd, hm => by
  simp at h
  subst h
  unfold runL
  rw [Nat.add_zero] at hq
  rw [hq, cond_true]
  have h1 : (runL q (i0 + 1) l (app y s)) (.slot d) = (app y s) (.slot d) := runL_same fun m z hz hqm hw => hm (m + 1) z (by omega) (by simpa using hz) (by rw [show i0 + (m + 1) = i0 + 1 + m by omega]; exact hqm) hw
  rw [FS.e_eq h1, app_e, if_pos hd]
 | y :: l, i0, j0 + 1, s, x, h, hq, hd, hm => by
  unfold runL
  exact runL_slot (i0 := i0 + 1) (j0 := j0) (by simpa using h) (by rw [show i0 + 1 + j0 = i0 + (j0 + 1) by omega]; exact hq) hd fun m z hjm hz hqm => hm (m + 1) z (by omega) (by simpa using hz) (by rw [show i0 + (m + 1) = i0 + 1 + m by omega]; exact hqm)
theorem Pre.lt (hP : Pre pg D f nt ops n0 df0 p0 s0 pre tr md env st) {i : Nat} (hm : md.at = some i) : i < pre.length := by
 cases md with
 | none => cases hm
 | some m =>
  cases hm
  obtain ⟨x, h1, _⟩ := hP.pan m rfl
  exact (List.getElem?_eq_some_iff.1 h1).1
theorem Rc.snoc {q : Nat -> Bool} {i j : Nat} {x z : Oper × Eff} (h : Rc pg D f nt ops q pre s0 i j x) (hj : j < pre.length) : Rc pg D f nt ops q (pre ++ [z]) s0 i j x := by
 refine ⟨?_, fun k y hik hk hy => h.btw k y hik hk (by rw [List.getElem?_append_left (by omega)] at hy; exact hy)⟩
 rw [snoc_cut (by omega)]
 exact h.op
theorem Rc.as {q q' : Nat -> Bool} {i j : Nat} {x : Oper × Eff} (h : Rc pg D f nt ops q pre s0 i j x) (hq : ∀ k, k <= j -> q' k = q k) : Rc pg D f nt ops q' pre s0 i j x := by
 refine ⟨?_, fun k y hik hk hy hqk => h.btw k y hik hk hy (by rw [<- hq k (by omega)]; exact hqk)⟩
 have : runL (fun m => Nat.blt m (j + 1) && q' m) 0 pre s0 = runL (fun m => Nat.blt m (j + 1) && q m) 0 pre s0 := funext fun loc => runL_agree rfl fun m y hy hne => by
  exfalso
  apply hne
  rw [Nat.zero_add]
  cases hb : Nat.blt m (j + 1) with
  | false => rfl
  | true =>
   rw [Nat.blt_eq] at hb
   rw [hq m (by omega)]
 rw [this]
 exact h.op
theorem recheck_spec {env1 : Env} {st1 : St} (hP : Pre pg D f nt ops n0 df0 p0 s0 pre tr md env st) (hal : alB (predsOf ops.toList) md.at pre.length = true) (hok : okDraw ops ((predsOf ops.toList).getD pre.length []) o E.ft tr = true)
  (hs1 : SameF env1 st1 (app (o, E) (runL (alB (predsOf ops.toList) md.at) 0 pre s0))) (hre : recheck pg f ((predsOf ops.toList).getD pre.length []) env1 st1.bl E.ft ((pre.length, o, E.ft) :: tr) tr = true) :
  ∀ (i : Nat) x, pre[i]? = some x -> alB (predsOf ops.toList) md.at i = true -> i ∉ (predsOf ops.toList).getD pre.length [] -> x.2.ft.apart E.ft = false -> Rc pg D f nt ops (alB (predsOf ops.toList) md.at) (pre ++ [(o, E)]) s0 i pre.length x := by
 intro i x hx hi hn hap
 have hlt := (List.getElem?_eq_some_iff.1 hx).1
 have htr := hP.tr i x hx (.inl hi)
 obtain ⟨hA, hbt⟩ := okDraw_at hok htr hn
 have hbt := hbt hap
 obtain ⟨hwr, hrw⟩ : x.2.ft.wr = [] ∧ x.2.ft.row = false := by
  rcases hA.2 with h | h
  ·rw [show (o, E).2.ft = E.ft from rfl, hap] at h; cases h
  ·exact h
 have hag : again pg f env1 st1.bl (i, x.1, x.2.ft) ((pre.length, o, E.ft) :: tr) = true := by
  have h1 := List.all_eq_true.1 hre _ htr
  have h2 : ((predsOf ops.toList).getD pre.length []).contains i = false := by
   cases hc : ((predsOf ops.toList).getD pre.length []).contains i with
   | false => rfl
   | true => exact absurd (List.contains_iff_mem.1 hc) hn
  dsimp only at h1
  rw [h2, hap, Bool.false_or, Bool.false_or] at h1
  exact h1
 have hbtw : ∀ (m : Nat) z, i <= m -> m < pre.length -> pre[m]? = some z -> alB (predsOf ops.toList) md.at m = true -> (∀ t, z.1.dst = some t -> t ∉ x.1.looksAt ops) ∧ (m ∈ (predsOf ops.toList).getD pre.length [] ∨ meets z.2.ft.wr x.2.ft.rd = false) := by
  intro m z him hm hz ham
  have h1 := List.all_eq_true.1 hbt _ (hP.tr m z hz (.inl ham))
  dsimp only at h1
  have h2 : Nat.blt m i = false := by
   cases hb : Nat.blt m i with
   | false => rfl
   | true => rw [Nat.blt_eq] at hb; omega
  rw [h2, Bool.false_or, Bool.and_eq_true, Bool.or_eq_true, Bool.not_eq_true', Bool.not_eq_true'] at h1
  refine ⟨fun t ht hmem => ?_, h1.2.imp (fun h => List.contains_iff_mem.1 h) id⟩
  have h3 := h1.1
  unfold dstIn at h3
  rw [ht] at h3
  have h4 : (x.1.looksAt ops).contains t = true := List.contains_iff_mem.2 hmem
  exact absurd (h4.symm.trans h3) nofun
 have hold := hP.op i x hx hi
 have hon : x.2.on = true := by
  cases h : x.2.on with
  | true => rfl
  | false =>
   have h1 := (hold.skip h).2
   rw [h1, Ft.nil_apart] at hap; cases hap
 obtain ⟨hnd, hFt, _⟩ := hold.go hon
 have hstate : runL (fun m => Nat.blt m (pre.length + 1) && alB (predsOf ops.toList) md.at m) 0 (pre ++ [(o, E)]) s0 = app (o, E) (runL (alB (predsOf ops.toList) md.at) 0 pre s0) := by
  have h1 : runL (fun m => Nat.blt m (pre.length + 1) && alB (predsOf ops.toList) md.at m) 0 (pre ++ [(o, E)]) s0 = runL (alB (predsOf ops.toList) md.at) 0 (pre ++ [(o, E)]) s0 := funext fun loc => runL_agree rfl fun m y hy hne => by
   exfalso
   apply hne
   have h2 := (List.getElem?_eq_some_iff.1 hy).1
   have h3 : Nat.blt (0 + m) (pre.length + 1) = true := by rw [Nat.blt_eq]; simp at h2; omega
   rw [h3, Bool.true_and]
  rw [h1, runL_append, Nat.zero_add, hal]; rfl
 have hslot : ∀ t, t ∈ x.1.looksAt ops -> (runL (fun m => Nat.blt m i && alB (predsOf ops.toList) md.at m) 0 pre s0).e t = (app (o, E) (runL (alB (predsOf ops.toList) md.at) 0 pre s0)).e t := fun t ht => by
  rw [app_e, if_neg fun hd => hA.slot.2.2 t hd ht]
  refine FS.e_eq (runL_agree rfl fun m z hz hne hw => ?_)
  rw [Nat.zero_add] at hne
  have hm := (List.getElem?_eq_some_iff.1 hz).1
  rcases Nat.lt_or_ge m i with hmi | hmi
  ·have h1 : Nat.blt m i = true := by rw [Nat.blt_eq]; exact hmi
   rw [h1, Bool.true_and] at hne
   exact hne rfl
  ·have h1 : Nat.blt m i = false := by
    cases hb : Nat.blt m i with
    | false => rfl
    | true => rw [Nat.blt_eq] at hb; omega
   have ham : alB (predsOf ops.toList) md.at m = true := by
    cases h : alB (predsOf ops.toList) md.at m with
    | true => rfl
    | false => rw [h1, h] at hne; exact absurd rfl hne
   exact (hbtw m z hmi hm hz ham).1 t hw ht
 unfold again at hag
 dsimp only at hag
 split at hag
 ·cases hag
 ·rename_i d hd
  rw [Bool.and_eq_true] at hag
  obtain ⟨hlast, hag⟩ := hag
  split at hag
  ·rename_i v bl' hst
   rw [Bool.and_eq_true] at hag
   obtain ⟨hkeys, hv⟩ := hag
   have hv := beqV_eq hv
   have hd1 : env1.get d = x.2.v := by
    rw [hs1.e]
    have h1 : app (o, E) (runL (alB (predsOf ops.toList) md.at) 0 pre s0) = runL (alB (predsOf ops.toList) md.at) 0 (pre ++ [(o, E)]) s0 := by
     rw [runL_append, Nat.zero_add, hal]; rfl
    rw [h1]
    refine runL_slot (j0 := i) (snoc_old hx) (by rw [Nat.zero_add]; exact hi) hd fun m z him hz hqm hzd => ?_
    rw [Nat.zero_add] at hqm
    have hin : (m, z.1, z.2.ft) ∈ (pre.length, o, E.ft) :: tr := by
     rcases snoc_get hz with ⟨_, h3⟩ | ⟨rfl, rfl⟩
     ·exact List.mem_cons_of_mem _ (hP.tr m z h3 (.inl hqm))
     ·exact List.mem_cons_self ..
    have h2 := List.all_eq_true.1 hlast _ hin
    dsimp only at h2
    have h3 : Nat.blt i m = true := by rw [Nat.blt_eq]; exact him
    rw [h3, hzd] at h2
    simp at h2
   rw [hd1] at hv
   refine ⟨⟨⟨true, x.2.v, bl', [], [], x.2.ft⟩, rfl, hon.symm, rfl, ?_⟩, fun m z him hm hz ham hnp loc hrd hw => ?_⟩
   ·rw [hstate]
    refine ⟨?_, hold.dst, fun _ => ⟨hnd, ⟨hFt.row, hFt.rd, hFt.wr, hFt.made, fun id kk hk => ?_⟩, envF env1 (tmpsOf x.1), subB st1.bl (dedup (x.2.ft.rd ++ x.2.ft.wr)), fun t ht => ?_, fun id => ?_, fun hr => ?_, fun _ => ?_⟩, fun h => by cases h⟩
    ·have hg := hold.guard
     rw [hon] at hg
     unfold GuardF at hg ⊢
     cases hgd : x.1.guard with
     | none => rfl
     | some gw =>
      obtain ⟨g, want⟩ := gw
      rw [hgd] at hg
      obtain ⟨t, h1, h2⟩ := hg
      have ht := hslot t (by
       refine List.mem_append_right _ ?_
       rw [hgd]
       show t ∈ ((ops[g]?).bind (·.dst)).toList
       unfold dstOf at h1
       rw [Array.getElem?_toList] at h1
       cases ho : ops[g]? with
       | none => rw [ho] at h1; cases h1
       | some o' =>
        rw [ho] at h1
        have h1' : o'.dst = some t := h1
        simp [h1'])
      exact ⟨t, h1, by rw [<- ht]; exact h2⟩
    ·have := keys_of hkeys hk
     rw [mem_dedup, List.mem_append] at this
     exact this
    ·rw [envF_get env1 ht, hs1.e]
    ·rw [getB_subB, hs1.g]
     have : id ∈ dedup (x.2.ft.rd ++ x.2.ft.wr) ↔ (id ∈ x.2.ft.rd ∨ id ∈ x.2.ft.wr) := by rw [mem_dedup, List.mem_append]
     by_cases h3 : id ∈ x.2.ft.rd ∨ id ∈ x.2.ft.wr
     ·rw [if_pos (this.2 h3), if_pos h3]
     ·rw [if_neg fun h => h3 (this.1 h), if_neg h3]
    ·have h1 := hFt.row
     rw [hrw] at h1
     rw [hr] at h1; cases h1
    ·show stepB pg f _ x.1 _ = some (x.2.v, bl')
     rw [hv]; exact hst
   ·rw [List.getElem?_append_left hm] at hz
    obtain ⟨h1, h2⟩ := hbtw m z him hm hz ham
    cases loc with
    | slot t => exact h1 t hw hrd
    | blk id =>
     have h3 := h2.resolve_left hnp
     rcases hrd with hrd | hrd
     ·exact meets_false h3 hw hrd
     ·rw [hwr] at hrd; cases hrd
    | rows => rw [show RdF ops x .rows = (x.2.ft.row = true) from rfl, hrw] at hrd; cases hrd
  ·cases hag
theorem Pre.push {env1 : Env} {st1 : St} (hP : Pre pg D f nt ops n0 df0 p0 s0 pre tr md env st) (hal : alB (predsOf ops.toList) md.at pre.length = true) (hO : OpF pg D f nt ops (runL (alB (predsOf ops.toList) md.at) 0 pre s0) (o, E))
  (hok : okDraw ops ((predsOf ops.toList).getD pre.length []) o E.ft tr = true) (hmd : md.at ≠ none -> meets E.ft.wr n0 = false) (hs1 : SameF env1 st1 (app (o, E) (runL (alB (predsOf ops.toList) md.at) 0 pre s0))) (hd : st1.df = df0) (hp : st1.pn = p0)
  (hrc : ∀ (i : Nat) x, pre[i]? = some x -> alB (predsOf ops.toList) md.at i = true -> i ∉ (predsOf ops.toList).getD pre.length [] -> x.2.ft.apart E.ft = false -> Rc pg D f nt ops (alB (predsOf ops.toList) md.at) (pre ++ [(o, E)]) s0 i pre.length x) :
  Pre pg D f nt ops n0 df0 p0 s0 (pre ++ [(o, E)]) ((pre.length, o, E.ft) :: tr) md env1 st1 := by
 refine ⟨fun j x hj ha => ?_, ?_, hd, hp, fun j x hj ha => ?_, fun i1 j1 x y hij hx hy hi1 hj1 hn => ?_, fun i1 j1 x y hij hx hy hi1 hj1 hn hap => ?_, fun m hm => ?_, fun m hm j x hj ha hn => ?_⟩
 ·rcases snoc_get hj with ⟨_, h3⟩ | ⟨rfl, rfl⟩
  ·exact List.mem_cons_of_mem _ (hP.tr j x h3 ha)
  ·exact List.mem_cons_self ..
 ·rw [runL_append, Nat.zero_add, hal]; exact hs1
 ·rcases snoc_get hj with ⟨hlt, h3⟩ | ⟨rfl, rfl⟩
  ·rw [snoc_cut (by omega)]; exact hP.op j x h3 ha
  ·rw [snoc_cut (Nat.le_refl _), snoc_all]; exact hO
 ·rcases snoc_get hy with ⟨hlt, h3⟩ | ⟨rfl, rfl⟩
  ·rcases snoc_get hx with ⟨_, h4⟩ | ⟨h4, _⟩
   ·exact hP.ind i1 j1 x y hij h4 h3 hi1 hj1 hn
   ·omega
  ·rcases snoc_get hx with ⟨_, h4⟩ | ⟨h4, _⟩
   ·exact (okDraw_at hok (hP.tr i1 x h4 hi1) hn).1
   ·omega
 ·rcases snoc_get hy with ⟨hlt, h3⟩ | ⟨rfl, rfl⟩
  ·rcases snoc_get hx with ⟨_, h4⟩ | ⟨h4, _⟩
   ·exact (hP.rc i1 j1 x y hij h4 h3 hi1 hj1 hn hap).snoc hlt
   ·omega
  ·rcases snoc_get hx with ⟨_, h4⟩ | ⟨h4, _⟩
   ·exact hrc i1 x h4 hi1 hn hap
   ·omega
 ·obtain ⟨x, h1, h2, h3⟩ := hP.pan m hm
  have hlt := (List.getElem?_eq_some_iff.1 h1).1
  refine ⟨x, snoc_old h1, ?_⟩
  rw [snoc_cut (by omega)]
  exact ⟨h2, h3⟩
 ·rcases snoc_get hj with ⟨hlt, h3⟩ | ⟨rfl, rfl⟩
  ·exact hP.far m hm j x h3 ha hn
  ·exact hmd (by rw [hm]; nofun)
theorem Pre.pass (hP : Pre pg D f nt ops n0 df0 p0 s0 pre tr md env st) (hal : alB (predsOf ops.toList) md.at pre.length = false) :
  Pre pg D f nt ops n0 df0 p0 s0 (pre ++ [(o, E)]) tr md env st := by
 have hne : md.at ≠ some pre.length := fun h => absurd (hP.lt h) (by omega)
 have nal : ∀ {P : Prop}, alB (predsOf ops.toList) md.at pre.length = true ∨ md.at = some pre.length -> P := fun h => by
  rcases h with h | h
  ·rw [hal] at h; cases h
  ·exact absurd h hne
 refine ⟨fun j x hj ha => ?_, ?_, hP.df, hP.pn, fun j x hj ha => ?_, fun i1 j1 x y hij hx hy hi1 hj1 hn => ?_, fun i1 j1 x y hij hx hy hi1 hj1 hn hap => ?_, fun m hm => ?_, fun m hm j x hj ha hn => ?_⟩
 ·rcases snoc_get hj with ⟨_, h3⟩ | ⟨rfl, rfl⟩
  ·exact hP.tr j x h3 ha
  ·exact nal ha
 ·rw [runL_append, Nat.zero_add, hal]; exact hP.same
 ·rcases snoc_get hj with ⟨hlt, h3⟩ | ⟨rfl, rfl⟩
  ·rw [snoc_cut (by omega)]; exact hP.op j x h3 ha
  ·exact nal (.inl ha)
 ·rcases snoc_get hy with ⟨hlt, h3⟩ | ⟨rfl, rfl⟩
  ·rcases snoc_get hx with ⟨_, h4⟩ | ⟨h4, _⟩
   ·exact hP.ind i1 j1 x y hij h4 h3 hi1 hj1 hn
   ·omega
  ·exact nal hj1
 ·rcases snoc_get hy with ⟨hlt, h3⟩ | ⟨rfl, rfl⟩
  ·rcases snoc_get hx with ⟨_, h4⟩ | ⟨h4, _⟩
   ·exact (hP.rc i1 j1 x y hij h4 h3 hi1 hj1 hn hap).snoc hlt
   ·omega
  ·exact nal (.inl hj1)
 ·obtain ⟨x, h1, h2, h3⟩ := hP.pan m hm
  have hlt := (List.getElem?_eq_some_iff.1 h1).1
  refine ⟨x, snoc_old h1, ?_⟩
  rw [snoc_cut (by omega)]
  exact ⟨h2, h3⟩
 ·rcases snoc_get hj with ⟨hlt, h3⟩ | ⟨rfl, rfl⟩
  ·exact hP.far m hm j x h3 ha hn
  ·exact nal (.inl ha)
theorem Pre.die {v : V} {st' : St} (htopo : okTopo 0 ops.toList = true) (hP : Pre pg D f nt ops n0 df0 p0 s0 pre tr none env st) (hO : PanF pg D f ops (runL (fun _ => true) 0 pre s0) (o, E) v)
  (hok : okDraw ops ((predsOf ops.toList).getD pre.length []) o E.ft tr = true) (hpan : okPan (predsOf ops.toList) n0 pre.length tr = true) (hs1 : ∀ id, getB st'.bl id = (app (o, E) (runL (fun _ => true) 0 pre s0)).g id)
  (hu : st'.used = E.u) (hdd : st'.dead = E.d) (hd : st'.df = df0) (hp : st'.pn = p0) :
  Pre pg D f nt ops n0 df0 p0 s0 (pre ++ [(o, E)]) ((pre.length, o, E.ft) :: tr) (some (pre.length, v, st')) env st := by
 have hal : ∀ j, j < pre.length -> alB (predsOf ops.toList) (some pre.length) j = true := fun j hj => by
  have h1 : ((predsOf ops.toList).getD j []).contains pre.length = false := by
   cases hc : ((predsOf ops.toList).getD j []).contains pre.length with
   | false => rfl
   | true =>
    have := preds_lt htopo (j + 1) j (by omega) _ (List.contains_iff_mem.1 hc)
    omega
  show (!(j == pre.length) && !((predsOf ops.toList).getD j []).contains pre.length) = true
  rw [h1]
  have : j ≠ pre.length := by omega
  simp [this]
 have hsame : ∀ {i : Nat}, i <= pre.length -> runL (fun m => Nat.blt m i && alB (predsOf ops.toList) (some pre.length) m) 0 pre s0 = runL (fun m => Nat.blt m i && alB (predsOf ops.toList) none m) 0 pre s0 := fun {i} hi => funext fun loc => runL_agree rfl fun m y hy hne => by
  exfalso
  apply hne
  have h1 := (List.getElem?_eq_some_iff.1 hy).1
  rw [hal (0 + m) (by omega)]; rfl
 have hall : runL (fun m => Nat.blt m pre.length && alB (predsOf ops.toList) (some pre.length) m) 0 pre s0 = runL (fun _ => true) 0 pre s0 := by
  rw [hsame (Nat.le_refl _), snoc_all]; rfl
 have hself : alB (predsOf ops.toList) (some pre.length) pre.length = false := alB_self
 refine ⟨fun j x hj ha => ?_, ?_, hP.df, hP.pn, fun j x hj ha => ?_, fun i1 j1 x y hij hx hy hi1 hj1 hn => ?_, fun i1 j1 x y hij hx hy hi1 hj1 hn hap => ?_, fun m hm => ?_, fun m hm j x hj ha hn => ?_⟩
 ·rcases snoc_get hj with ⟨_, h3⟩ | ⟨rfl, rfl⟩
  ·exact List.mem_cons_of_mem _ (hP.tr j x h3 (.inl rfl))
  ·exact List.mem_cons_self ..
 ·show SameF env st (runL (alB (predsOf ops.toList) (some pre.length)) 0 (pre ++ [(o, E)]) s0)
  rw [runL_append, Nat.zero_add, hself]
  have : runL (alB (predsOf ops.toList) (some pre.length)) 0 pre s0 = runL (fun _ => true) 0 pre s0 := by rw [<- snoc_all (pre := pre) (q := alB (predsOf ops.toList) (some pre.length)), hall]
  rw [this]; exact hP.same
 ·rcases snoc_get hj with ⟨hlt, h3⟩ | ⟨rfl, rfl⟩
  ·rw [snoc_cut (by omega)]
   show OpF pg D f nt ops (runL (fun m => Nat.blt m j && alB (predsOf ops.toList) (some pre.length) m) 0 pre s0) x
   rw [hsame (by omega)]; exact hP.op j x h3 rfl
  ·have ha' : alB (predsOf ops.toList) (some pre.length) pre.length = true := ha
   rw [hself] at ha'; cases ha'
 ·rcases snoc_get hy with ⟨hlt, h3⟩ | ⟨rfl, rfl⟩
  ·rcases snoc_get hx with ⟨_, h4⟩ | ⟨h4, _⟩
   ·exact hP.ind i1 j1 x y hij h4 h3 (.inl rfl) (.inl rfl) hn
   ·omega
  ·rcases snoc_get hx with ⟨_, h4⟩ | ⟨h4, _⟩
   ·exact (okDraw_at hok (hP.tr i1 x h4 (.inl rfl)) hn).1
   ·omega
 ·rcases snoc_get hy with ⟨hlt, h3⟩ | ⟨rfl, rfl⟩
  ·rcases snoc_get hx with ⟨_, h4⟩ | ⟨h4, _⟩
   ·refine ((hP.rc i1 j1 x y hij h4 h3 rfl rfl hn hap).as (q' := alB (predsOf ops.toList) (some pre.length)) fun k hk => ?_).snoc hlt
    rw [hal k (by omega)]; rfl
   ·omega
  ·have hj1' : alB (predsOf ops.toList) (some pre.length) pre.length = true := hj1
   rw [hself] at hj1'; cases hj1'
 ·cases hm
  refine ⟨(o, E), by simp, ?_⟩
  rw [snoc_cut (Nat.le_refl _)]
  show PanF pg D f ops (runL (fun m => Nat.blt m pre.length && alB (predsOf ops.toList) (some pre.length) m) 0 pre s0) _ _ ∧ (∀ id, _ = (app (o, E) (runL (fun m => Nat.blt m pre.length && alB (predsOf ops.toList) (some pre.length) m) 0 pre s0)).g id) ∧ _
  rw [hall]
  exact ⟨hO, hs1, hu, hdd, hd, hp⟩
 ·cases hm
  rcases snoc_get hj with ⟨hlt, h3⟩ | ⟨rfl, rfl⟩
  ·have h5 := List.all_eq_true.1 hpan _ (hP.tr j x h3 (.inl rfl))
   have h6 : ((predsOf ops.toList).getD pre.length []).contains j = false := by
    cases hc : ((predsOf ops.toList).getD pre.length []).contains j with
    | false => rfl
    | true => exact absurd (List.contains_iff_mem.1 hc) hn
   dsimp only at h5
   rw [h6, Bool.false_or, Bool.not_eq_true'] at h5
   exact h5
  ·have ha' : alB (predsOf ops.toList) (some pre.length) pre.length = true := ha
   rw [hself] at ha'; cases ha'
theorem evDraw_run (htopo : okTopo 0 ops.toList = true) : ∀ (rest : List Oper) (i : Nat) (env : Env) (st : St) (tr : List (Nat × Oper × Ft)) (md : Md) (pre : List (Oper × Eff)), evDraw pg D f nt ops (predsOf ops.toList) n0 i rest env st tr md k = some r ->
  pre.length = i -> Pre pg D f nt ops n0 df0 p0 s0 pre tr md env st ->
  ∃ l env' st' tr' md', l.map (·.1) = pre.map (·.1) ++ rest ∧ Pre pg D f nt ops n0 df0 p0 s0 l tr' md' env' st' ∧
   match md' with | none => k .normal env' st' = some r | some m => ∃ y, canon pg f n0 (undefE ops env', m.2.2) = some y ∧ k (.pan m.2.1) y.1 y.2 = some r
 | [], i, env, st, tr, md, pre, h, hl, hP => by
  refine ⟨pre, env, st, tr, md, by simp, hP, ?_⟩
  unfold evDraw at h
  cases md with
  | none => exact h
  | some m =>
   dsimp only at h
   split at h
   ·exact ⟨_, ‹_›, h⟩
   ·cases h
 | o :: rest, i, env, st, tr, md, pre, h, hl, hP => by
  subst hl
  have next : ∀ {E : Eff} {env1 : Env} {st1 : St} {tr1 : List (Nat × Oper × Ft)} {md1 : Md}, evDraw pg D f nt ops (predsOf ops.toList) n0 (pre.length + 1) rest env1 st1 tr1 md1 k = some r -> Pre pg D f nt ops n0 df0 p0 s0 (pre ++ [(o, E)]) tr1 md1 env1 st1 ->
    ∃ l env' st' tr' md', l.map (·.1) = pre.map (·.1) ++ (o :: rest) ∧ Pre pg D f nt ops n0 df0 p0 s0 l tr' md' env' st' ∧
     match md' with | none => k .normal env' st' = some r | some m => ∃ y, canon pg f n0 (undefE ops env', m.2.2) = some y ∧ k (.pan m.2.1) y.1 y.2 = some r := by
   intro E env1 st1 tr1 md1 hrest hP1
   obtain ⟨l, env', st', tr', md', g1, g2⟩ := evDraw_run htopo rest (pre.length + 1) env1 st1 tr1 md1 (pre ++ [(o, E)]) hrest (by simp) hP1
   exact ⟨l, env', st', tr', md', by rw [g1]; simp, g2⟩
  have hs := hP.same
  unfold evDraw at h
  rcases cond_some h with ⟨hw, h⟩ | ⟨hw, h⟩
  ·refine next (E := ⟨false, .hole, [], [], [], ⟨[], [], false⟩⟩) h (hP.pass ?_)
   cases md with
   | none => cases hw
   | some m =>
    show (!(pre.length == m.1) && !((predsOf ops.toList).getD pre.length []).contains m.1) = false
    have hw' : ((predsOf ops.toList).getD pre.length []).contains m.1 = true := hw
    rw [hw']; simp
  have hal : alB (predsOf ops.toList) md.at pre.length = true := by
   cases md with
   | none => rfl
   | some m =>
    have hw' : ((predsOf ops.toList).getD pre.length []).contains m.1 = false := hw
    have hlt := hP.lt (i := m.1) rfl
    show (!(pre.length == m.1) && !((predsOf ops.toList).getD pre.length []).contains m.1) = true
    rw [hw']
    have : pre.length ≠ m.1 := by omega
    simp [this]
  have skip : ∀ {env2 : Env}, (∀ t, env2.get t = env.get t) -> GuardF ops (runL (alB (predsOf ops.toList) md.at) 0 pre s0) o false ->
    (bif !okDraw ops ((predsOf ops.toList).getD pre.length []) o ⟨[], [], false⟩ tr || notDrawn o then none else
     (match putE nt env2 o.dst .hole with | some env' => evDraw pg D f nt ops (predsOf ops.toList) n0 (pre.length + 1) rest env' st ((pre.length, o, ⟨[], [], false⟩) :: tr) md k | none => none)) = some r ->
    ∃ l env' st' tr' md', l.map (·.1) = pre.map (·.1) ++ (o :: rest) ∧ Pre pg D f nt ops n0 df0 p0 s0 l tr' md' env' st' ∧
     match md' with | none => k .normal env' st' = some r | some m => ∃ y, canon pg f n0 (undefE ops env', m.2.2) = some y ∧ k (.pan m.2.1) y.1 y.2 = some r := by
   intro env2 he hg hh
   obtain ⟨hc, hh2⟩ := condR_some hh
   simp only [Bool.or_eq_false_iff, Bool.not_eq_false'] at hc
   split at hh2
   ·rename_i env1 hp
    obtain ⟨h3, h4⟩ := putE_get hp
    refine next hh2 (hP.push (E := ⟨false, .hole, [], [], [], ⟨[], [], false⟩⟩) hal ⟨hg, h4, (fun hon => by cases hon), fun _ => ⟨rfl, rfl⟩⟩ hc.1 (fun _ => rfl) ⟨fun t => ?_, fun id => ?_, ?_, ?_⟩ hP.df hP.pn fun i x _ _ _ hap => by rw [Ft.apart_nil] at hap; cases hap)
    ·rw [h3, app_e, he, hs.e]
    ·rw [app_g]; simpa using hs.g id
    ·rw [app_u]; simpa using hs.u
    ·rw [app_d]; simpa using hs.d
   ·cases hh2
  have go : ∀ {env2 : Env}, (∀ t, env2.get t = env.get t) -> GuardF ops (runL (alB (predsOf ops.toList) md.at) 0 pre s0) o true ->
    goDraw pg D f (envF env2 (tmpsOf o)) o (footOf (envF env2 (tmpsOf o)) st.bl o) (fun ft => okDraw ops ((predsOf ops.toList).getD pre.length []) o ft tr && md.ok n0 o ft) st (fun ft v st' => match putE nt env2 o.dst v with
     | some env' => bif recheck pg f ((predsOf ops.toList).getD pre.length []) env' st'.bl ft ((pre.length, o, ft) :: tr) tr then evDraw pg D f nt ops (predsOf ops.toList) n0 (pre.length + 1) rest env' st' ((pre.length, o, ft) :: tr) md k else none
     | none => none)
     (fun ft v st' => bif okPan (predsOf ops.toList) n0 pre.length tr then (match pur pg [] pdeep v with
     | some v' => evDraw pg D f nt ops (predsOf ops.toList) n0 (pre.length + 1) rest env2 st ((pre.length, o, ft) :: tr) (some (pre.length, v', st')) k
     | none => none) else none) = some r ->
    ∃ l env' st' tr' md', l.map (·.1) = pre.map (·.1) ++ (o :: rest) ∧ Pre pg D f nt ops n0 df0 p0 s0 l tr' md' env' st' ∧
     match md' with | none => k .normal env' st' = some r | some m => ∃ y, canon pg f n0 (undefE ops env', m.2.2) = some y ∧ k (.pan m.2.1) y.1 y.2 = some r := by
   intro env2 he hg hh
   generalize hft : footOf (envF env2 (tmpsOf o)) st.bl o = ft at hh
   have hrow : ft.row = isRow o := by rw [<- hft]; exact footOf_row
   unfold goDraw at hh
   obtain ⟨hc, hh2⟩ := condR_some hh
   simp only [Bool.or_eq_false_iff, Bool.not_eq_false', Bool.and_eq_true] at hc
   obtain ⟨⟨hok, hmok⟩, hnd⟩ := hc
   have hmok' : md.at ≠ none -> isRow o = false ∧ meets ft.wr n0 = false := fun hne => by
    cases md with
    | none => exact absurd rfl hne
    | some m =>
     have h1 : (!isRow o && !meets ft.wr n0) = true := hmok
     rw [Bool.and_eq_true, Bool.not_eq_true', Bool.not_eq_true'] at h1
     exact h1
   have hB : ∀ id, getB (subB st.bl (dedup (ft.rd ++ ft.wr))) id = if id ∈ ft.rd ∨ id ∈ ft.wr then (runL (alB (predsOf ops.toList) md.at) 0 pre s0).g id else none := fun id => by
    rw [getB_subB, hs.g]
    have : id ∈ dedup (ft.rd ++ ft.wr) ↔ (id ∈ ft.rd ∨ id ∈ ft.wr) := by rw [mem_dedup, List.mem_append]
    by_cases h3 : id ∈ ft.rd ∨ id ∈ ft.wr
    ·rw [if_pos (this.2 h3), if_pos h3]
    ·rw [if_neg fun h => h3 (this.1 h), if_neg h3]
   have henv : ∀ t, t ∈ tmpsOf o -> Env.get (envF env2 (tmpsOf o)) t = (runL (alB (predsOf ops.toList) md.at) 0 pre s0).e t := fun t ht => by rw [envF_get env2 ht, he, hs.e]
   have hkeys : ∀ {bl' : List (Nat × Blk)}, (bl'.all fun p => (dedup (ft.rd ++ ft.wr)).contains p.1) = true -> ∀ id kk, getB bl' id = some kk -> id ∈ ft.rd ∨ id ∈ ft.wr := fun hb id kk hk => by
    have := keys_of hb hk
    rw [mem_dedup, List.mem_append] at this
    exact this
   have hFt : ∀ {v : V} {bl' : List (Nat × Blk)} {u d : List Nat}, (bl'.all fun p => (dedup (ft.rd ++ ft.wr)).contains p.1) = true -> FtOk o ⟨true, v, bl', u, d, ft⟩ := fun hb =>
    ⟨hrow, fun hrd => by rw [<- hft]; exact footOf_rd hrd, fun hrd => by rw [<- hft]; exact footOf_wr hrd, fun ha d hd => by rw [<- hft]; exact footOf_mk ha hd, hkeys hb⟩
   rcases cond_some hh2 with ⟨hr, hh3⟩ | ⟨hr, hh3⟩
   ·have hmd : md = none := by
     cases md with
     | none => rfl
     | some m => have := (hmok' nofun).1; rw [hr] at this; cases this
    rw [opS_step] at hh3
    obtain ⟨q, hq, hh4⟩ := Option.bind_eq_some_iff.1 hh3
    cases q with
    | pan v st' =>
     subst hmd
     obtain ⟨hb, hh5⟩ := condL_some (hh4 : (bif (st'.bl.all fun p => (dedup (ft.rd ++ ft.wr)).contains p.1) then _ else none) = some r)
     obtain ⟨hpan, hh6⟩ := condL_some hh5
     split at hh6
     ·rename_i v' hv'
      obtain ⟨h5, h6⟩ := step1_dfp hr hnd hq
      have hq' : step1 pg D f (envF env2 (tmpsOf o)) o ⟨subB st.bl (dedup (ft.rd ++ ft.wr)), (runL (fun _ => true) 0 pre s0).u, (runL (fun _ => true) 0 pre s0).d, [], none⟩ = some (.pan v ⟨st'.bl, st'.used, st'.dead, [], none⟩) := by
       have hsu := hs.u
       have hsd := hs.d
       have h8 := step1_bare (pg := pg) (D := D) (f := f) (o := o) (env := envF env2 (tmpsOf o)) (st := { st with bl := subB st.bl (dedup (ft.rd ++ ft.wr)) }) [] none hr hnd
       rw [hq] at h8
       show step1 pg D f (envF env2 (tmpsOf o)) o ⟨subB st.bl (dedup (ft.rd ++ ft.wr)), (runL (alB (predsOf ops.toList) (Md.at none)) 0 pre s0).u, (runL (alB (predsOf ops.toList) (Md.at none)) 0 pre s0).d, [], none⟩ = _
       rw [<- hsu, <- hsd]
       exact h8
      have hdie := Pre.die (o := o) (E := ⟨true, .undef, st'.bl, st'.used, st'.dead, ft⟩) (v := v') (st' := { st' with bl := overB st.bl st'.bl ft.wr }) htopo hP
       ⟨hg, hnd, hr, hFt hb, v, _, _, hv', henv, hB, hq'⟩ hok hpan (fun id => by
        rw [app_g]
        show getB (overB st.bl st'.bl ft.wr) id = _
        rw [getB_overB, hs.g] <;> rfl) rfl rfl (h5.trans hP.df) (h6.trans hP.pn)
      refine next hh6 ⟨hdie.tr, ⟨fun t => (he t).trans (hdie.same.e t), hdie.same.g, hdie.same.u, hdie.same.d⟩, hdie.df, hdie.pn, hdie.op, hdie.ind, hdie.rc, hdie.pan, hdie.far⟩
     ·cases hh6
    | val v st' =>
     obtain ⟨hb, hh5⟩ := condL_some (hh4 : (bif (st'.bl.all fun p => (dedup (ft.rd ++ ft.wr)).contains p.1) then _ else none) = some r)
     dsimp only at hh5
     split at hh5
     ·rename_i env1 hp
      obtain ⟨h3, h4⟩ := putE_get hp
      obtain ⟨h5, h6⟩ := step1_df hr hnd hq
      have hq' : step1 pg D f (envF env2 (tmpsOf o)) o ⟨subB st.bl (dedup (ft.rd ++ ft.wr)), (runL (alB (predsOf ops.toList) md.at) 0 pre s0).u, (runL (alB (predsOf ops.toList) md.at) 0 pre s0).d, [], none⟩ = some (.val v ⟨st'.bl, st'.used, st'.dead, [], none⟩) := by
       rw [<- hs.u, <- hs.d]
       have h8 := step1_bare (pg := pg) (D := D) (f := f) (o := o) (env := envF env2 (tmpsOf o)) (st := { st with bl := subB st.bl (dedup (ft.rd ++ ft.wr)) }) [] none hr hnd
       rw [hq] at h8
       exact h8
      obtain ⟨hre, hh6⟩ := condL_some hh5
      have hs1 : SameF env1 { st' with bl := overB st.bl st'.bl ft.wr } (app (o, ⟨true, v, st'.bl, st'.used, st'.dead, ft⟩) (runL (alB (predsOf ops.toList) md.at) 0 pre s0)) := by
       refine ⟨fun t => ?_, fun id => ?_, ?_, ?_⟩
       ·rw [h3, app_e, he, hs.e]
       ·rw [app_g]
        show getB (overB st.bl st'.bl ft.wr) id = _
        rw [getB_overB, hs.g] <;> rfl
       ·rw [app_u, if_pos (by rw [hrow]; exact hr)]
       ·rw [app_d, if_pos (by rw [hrow]; exact hr)]
      exact next hh6 (hP.push (E := ⟨true, v, st'.bl, st'.used, st'.dead, ft⟩) hal ⟨hg, h4, fun _ => ⟨hnd, hFt hb, _, _, henv, hB, fun _ => hq', (fun hnr => by rw [hr] at hnr; cases hnr)⟩, (fun hon => by cases hon)⟩ hok (fun hne => (hmok' hne).2)
       hs1 (h5.trans hP.df) (h6.trans hP.pn) (recheck_spec hP hal hok hs1 hre))
     ·cases hh5
   ·rw [opB_step] at hh3
    obtain ⟨q, hq, hh4⟩ := Option.bind_eq_some_iff.1 hh3
    obtain ⟨v, bl'⟩ := q
    obtain ⟨hb, hh5⟩ := condL_some (hh4 : (bif (bl'.all fun p => (dedup (ft.rd ++ ft.wr)).contains p.1) then _ else none) = some r)
    dsimp only at hh5
    split at hh5
    ·rename_i env1 hp
     obtain ⟨h3, h4⟩ := putE_get hp
     obtain ⟨hre, hh6⟩ := condL_some hh5
     have hs1 : SameF env1 { st with bl := overB st.bl bl' ft.wr } (app (o, ⟨true, v, bl', [], [], ft⟩) (runL (alB (predsOf ops.toList) md.at) 0 pre s0)) := by
      refine ⟨fun t => ?_, fun id => ?_, ?_, ?_⟩
      ·rw [h3, app_e, he, hs.e]
      ·rw [app_g]
       show getB (overB st.bl bl' ft.wr) id = _
       rw [getB_overB, hs.g] <;> rfl
      ·rw [app_u, if_neg (by rw [hrow, hr]; nofun)]; exact hs.u
      ·rw [app_d, if_neg (by rw [hrow, hr]; nofun)]; exact hs.d
     exact next hh6 (hP.push (E := ⟨true, v, bl', [], [], ft⟩) hal ⟨hg, h4, fun _ => ⟨hnd, hFt hb, _, _, henv, hB, (fun hnr => by rw [hr] at hnr; cases hnr), fun _ => hq⟩, (fun hon => by cases hon)⟩ hok (fun hne => (hmok' hne).2)
      hs1 hP.df hP.pn (recheck_spec hP hal hok hs1 hre))
    ·cases hh5
  dsimp only at h
  split at h
  ·rename_i hg
   exact go (fun _ => rfl) (by unfold GuardF; rw [hg]) h
  ·rename_i g want hg
   split at h
   ·cases h
   ·rename_i t ht
    have hget : ∀ b, env.get t = .bool b -> ∀ t', Env.get ((t, .bool b) :: env) t' = env.get t' := fun b hb t' => by
     show (bif Nat.beq t t' then V.bool b else env.get t') = _
     by_cases htt : t = t'
     ·subst htt; rw [Nat.beq_refl, hb]; rfl
     ·rw [nbeq htt]; rfl
    have hG : ∀ (b : Bool), env.get t = .bool b -> ∀ on, on = (b == want) -> GuardF ops (runL (alB (predsOf ops.toList) md.at) 0 pre s0) o on := fun b hb on hon => by
     unfold GuardF
     rw [hg]
     exact ⟨t, ht, .inl ⟨b, by rw [<- hs.e]; exact hb, hon⟩⟩
    split at h
    ·rename_i b hb
     cases b <;> cases want
     ·exact go (hget _ hb) (hG _ hb _ rfl) h
     ·exact skip (hget _ hb) (hG _ hb _ rfl) h
     ·exact skip (hget _ hb) (hG _ hb _ rfl) h
     ·exact go (hget _ hb) (hG _ hb _ rfl) h
    ·rename_i hb
     refine skip (fun _ => rfl) ?_ h
     unfold GuardF
     rw [hg]
     exact ⟨t, ht, .inr ⟨by rw [<- hs.e]; exact hb, rfl⟩⟩
    ·cases h
end
theorem getB_keys {bl : List (Nat × Blk)} {id : Nat} {b : Blk} (h : getB bl id = some b) : id ∈ keysOf bl := by
 induction bl with
 | nil => cases h
 | cons p l ih =>
  obtain ⟨i, b'⟩ := p
  unfold getB at h
  by_cases hi : i = id
  ·subst hi; exact List.mem_cons_self ..
  ·rw [nbeq hi] at h
   exact List.mem_cons_of_mem _ (ih h)
theorem DefRep.cut {P : Program} {n0 : List Nat} {rows : Nat -> Option (Value × TypeId × Nat)} {l : List (FuncId × List V)} {ds : List Deferred} (h : DefRep P c l ds) (hn : (l.all fun p => capIn n0 p.2) = true) : DefRep P (c.cut n0 rows) l ds := by
 induction h with
 | nil => exact .nil
 | cons hl h _ ih =>
  rw [List.all_cons, Bool.and_eq_true] at hn
  refine .cons hl (fun j hj => ?_) (ih hn.2)
  obtain ⟨id, off, h1, h2⟩ := capIn_at hn.1 hj
  have h3 := h j hj
  rw [h1] at h3 ⊢
  obtain ⟨b, o, n, h4, h5⟩ := h3.ref_inv
  rw [h5]
  exact .ref off (show (if n0.contains id then c.blk id else none) = some (b, o, n) by rw [if_pos h2]; exact h4)
theorem At.canon {n0 : List Nat} {y : Env × St} (hA : At pg p0 c0 own0 nt c own env st a) (h : canon pg f n0 (env, st) = some y) (hn : ∀ i r, c0.blk i = some r -> i ∈ n0) : ∃ c1 own1, c1.w = c.w ∧ c1.prot = c.prot ∧ At pg p0 c0 own0 nt c1 own1 y.1 y.2 a := by
 obtain ⟨env', st'⟩ := y
 obtain ⟨c1, own1, h1, h2, h3, h4, h5, h6, h7, h8, h9, ⟨rows, h10⟩, h11⟩ := canon_sound hA.inv hA.env h
 refine ⟨c1, own1, h1, h2, h3, h4, hA.size, (by rw [h6, h10]; exact hA.defs.cut h11), h7.trans hA.pn, hA.after.trans ⟨?_, fun b x _ hn => h5 b x hn, fun b x hp => ⟨by rw [h2]; exact hp, by rw [h1]⟩, fun b x hp => .inl (by rw [<- h2]; exact hp), h9, fun id r ho => absurd ho (hA.out id)⟩, fun i r hr => h8 i r (hn i r hr) (hA.blk i r hr), fun id => by rw [h9]; exact hA.out id⟩
 rw [h1]; exact Frame.refl _ _
theorem At.keys (hA : At pg p0 c0 own0 nt c own env st a) : ∀ i r, c0.blk i = some r -> i ∈ keysOf st.bl := fun i r hr => by
 rcases hA.inv.inv.dom i r (hA.blk i r hr) with ⟨b, hb⟩ | ho
 ·exact getB_keys hb
 ·exact absurd ho (hA.out i)
theorem takeB_congr {bl bl' : List (Nat × Blk)} : ∀ {n0 : List Nat}, (∀ id, id ∈ n0 -> getB bl id = getB bl' id) -> takeB bl n0 = takeB bl' n0
 | [], _ => rfl
 | id :: n0, h => by
  unfold takeB
  rw [h id (List.mem_cons_self ..), takeB_congr fun i hi => h i (List.mem_cons_of_mem _ hi)]
theorem canon_congr {n0 : List Nat} {st st' : St} {y : Env × St} (hb : ∀ id, id ∈ n0 -> getB st.bl id = getB st'.bl id) (hdd : st.dead = st'.dead) (hdf : st.df = st'.df) (hpn : st.pn = st'.pn) (h : canon pg f n0 (env, st) = some y) : canon pg f n0 (env, st') = some y := by
 obtain ⟨bl, u, d, df, pn⟩ := st
 obtain ⟨bl', u', d', df', pn'⟩ := st'
 dsimp only at hb hdd hdf hpn
 subst hdd; subst hdf; subst hpn
 unfold canon at h ⊢
 dsimp only at h ⊢
 rw [<- takeB_congr hb]
 exact h
theorem undefE_get {env : Env} {t : Tmp} : (undefE ops env).get t = .undef ∨ ((undefE ops env).get t = env.get t ∧ ∀ o, o ∈ ops.toList -> o.dst ≠ some t) := by
 unfold undefE
 have gen : ∀ (l : List Oper), Env.get ((l.filterMap (·.dst)).map (fun t => (t, V.undef)) ++ env) t = .undef ∨ (Env.get ((l.filterMap (·.dst)).map (fun t => (t, V.undef)) ++ env) t = env.get t ∧ ∀ o, o ∈ l -> o.dst ≠ some t) := by
  intro l
  induction l with
  | nil => exact .inr ⟨rfl, fun o h => by cases h⟩
  | cons o l ih =>
   cases hd : o.dst with
   | none =>
    rw [List.filterMap_cons, hd]
    rcases ih with h | ⟨h1, h2⟩
    ·exact .inl h
    ·exact .inr ⟨h1, fun o' ho' => by
      rcases List.mem_cons.1 ho' with rfl | ho'
      ·rw [hd]; nofun
      ·exact h2 o' ho'⟩
   | some d =>
    rw [List.filterMap_cons, hd]
    by_cases hdt : d = t
    ·subst hdt
     left
     show (bif Nat.beq d d then V.undef else _) = _
     rw [Nat.beq_refl]; rfl
    ·have e : Env.get (((d, V.undef) :: (l.filterMap (·.dst)).map (fun t => (t, V.undef))) ++ env) t = Env.get ((l.filterMap (·.dst)).map (fun t => (t, V.undef)) ++ env) t := by
      show (bif Nat.beq d t then V.undef else _) = _
      rw [nbeq hdt]; rfl
     show Env.get (((d, V.undef) :: (l.filterMap (·.dst)).map (fun t => (t, V.undef))) ++ env) t = .undef ∨ _
     rcases ih with h | ⟨h1, h2⟩
     ·exact .inl (e.trans h)
     ·exact .inr ⟨e.trans h1, fun o' ho' => by
       rcases List.mem_cons.1 ho' with rfl | ho'
       ·rw [hd]; intro h; cases h; exact hdt rfl
       ·exact h2 o' ho'⟩
 exact gen ops.toList
def FS.fin (s : FS) : Prop := ∃ bl, ∀ id, getB bl id = s.g id
theorem FS.fin_app {s : FS} {x : Oper × Eff} (h : s.fin) : (app x s).fin := by
 obtain ⟨bl, h⟩ := h
 exact ⟨overB bl x.2.bl x.2.ft.wr, fun id => by rw [app_g, getB_overB, h] <;> rfl⟩
theorem FS.fin_run {p : Nat -> Bool} : ∀ {l : List (Oper × Eff)} {i : Nat} {s : FS}, s.fin -> (runL p i l s).fin
 | [], i, s, h => h
 | x :: l, i, s, h => by
  unfold runL
  cases p i with
  | true => exact FS.fin_run (FS.fin_app h)
  | false => exact FS.fin_run h
theorem evReg_sound {id : Nat} {draw : Bool} (hD : DSound pg D) (hmix : pg.P.follows .mixedOrders = true) (hk : KOk pg p0 r c0 own0 nt k Q) (h : evReg pg D f nt ops draw env st k = some r) (hA : At pg p0 c0 own0 nt c own env st a) :
  (Code.region id ops draw).wp pg.P Q a c.w := by
 unfold evReg at h
 cases draw with
 | false => exact wp_region_list (evOps_sound hD hk _ _ _ _ _ _ h hA)
 | true =>
  obtain ⟨htopo, h1⟩ := condL_some h
  obtain ⟨l, env', st', tr', md', g1, g2, g3⟩ := evDraw_run (s0 := FS.of env st) htopo ops.toList 0 env st [] none [] h1 rfl
   ⟨fun j x h => by simp at h, SameF.of env st, rfl, hA.pn, fun j x h => by simp at h, fun i j x y _ h => by simp at h, fun i j x y _ h => by simp at h, (fun m hm => by cases hm), (fun m hm => by cases hm)⟩
  have hsame : l.map (·.1) = ops.toList := by simpa using g1
  have hR : RunT pg D f nt ops l (FS.of env st) md'.at := ⟨hsame, g2.op, g2.ind, g2.rc⟩
  refine wp_region_any hmix ?_
  have hF := hA.toF (SameF.of env st)
  have hF' : FAt pg st.df c0 own0 nt c.drw own (FS.of env st) a :=
   ⟨hF.inv.drw, hF.domr, fun t => (hF.env t).mono (Ext.drw c), hF.size, hF.defs.mono (Ext.drw c), hF.after.trans (After.drw c own), hF.blk, hF.out⟩
  refine any_sound (df0 := st.df) (c0 := c0) (own0 := own0) (c := c.drw) (own := own) hD hR htopo (fun hmd c1 own1 a1 hF1 => ?_) (fun i0 hmd => ?_) ops.size _ a (by simp) (cnt_le _ _) (fun j hj => ?_) (fun j o hj hL => ?_) ?_
  ·cases md' with
   | some m => cases hmd
   | none => exact hk .normal env' st' c1 own1 a1 g3 (hF1.toA g2.same g2.df g2.pn)
  ·cases md' with
   | none => cases hmd
   | some m =>
    cases hmd
    obtain ⟨y, g4, g5⟩ := g3
    obtain ⟨x, g6, g7, g8, g9, g10, g11, g12⟩ := g2.pan m rfl
    refine ⟨x, m.2.1, g6, g7, fun L c1 own1 a1 c2 own2 z hF1 hal hpr hI2 hd2 ha2 hx2 hz => ?_⟩
    have hrow : x.2.ft.row = true := by rw [g7.ft.row]; exact g7.row
    have hagree : ∀ id, id ∈ keysOf st.bl -> (runL L 0 l (FS.of env st)).g id = (runL (fun j => Nat.blt j m.1 && alB (predsOf ops.toList) (Md.at (some m)) j) 0 l (FS.of env st)).g id := fun id hid => FS.g_eq (runL_agree rfl fun j y hy hne hw => by
     rw [Nat.zero_add] at hne
     have hnm : ∀ {y : Oper × Eff}, l[j]? = some y -> alB (predsOf ops.toList) (Md.at (some m)) j = true -> j ∉ (predsOf ops.toList).getD m.1 [] -> id ∈ y.2.ft.wr -> False := fun hy ha hn hw => meets_false (g2.far m rfl j _ hy ha hn) hw hid
     cases hL : L j with
     | true =>
      have ha := hal j hL
      rw [hL, ha, Bool.and_true] at hne
      have hnl : ¬ j < m.1 := fun h => hne (by symm; rw [Nat.blt_eq]; exact h)
      exact hnm hy ha (fun hp => hnl (preds_lt htopo (m.1 + 1) m.1 (by omega) _ hp)) hw
     | false =>
      rw [hL] at hne
      cases ha : alB (predsOf ops.toList) (Md.at (some m)) j with
      | false => rw [ha, Bool.and_false] at hne; exact absurd rfl hne
      | true => exact hnm hy ha (fun hp => by rw [hpr j hp] at hL; cases hL) hw)
    obtain ⟨bl, hbl⟩ : (app x (runL L 0 l (FS.of env st))).fin := FS.fin_app (FS.fin_run ⟨st.bl, fun id => rfl⟩)
    have hbf : getB bl = (app x (runL L 0 l (FS.of env st))).g := funext hbl
    have hlive : Live ⟨bl, m.2.2.used, m.2.2.dead, m.2.2.df, m.2.2.pn⟩ = (app x (runL L 0 l (FS.of env st))).live := by
     unfold Live FS.live
     rw [app_u, app_d, if_pos hrow, if_pos hrow, g9, g10]
    have hA2 : At pg p0 c0 own0 nt c2 own2 (undefE ops env') ⟨bl, m.2.2.used, m.2.2.dead, m.2.2.df, m.2.2.pn⟩ a1 := by
     refine ⟨⟨by show Inv pg c2 own2 (getB bl) _; rw [hbf, hlive]; exact hI2, fun t r hr => ?_⟩, fun t => ?_, hF1.size, ?_, g12, hF1.after.trans ha2, fun i r hr => hx2.blk _ _ (hF1.blk i r hr), fun id => by rw [ha2.far.1]; exact hF1.out id⟩
     ·have := hd2 t r hr
      rw [app_u, if_pos hrow] at this
      show m.2.2.used.contains t = true
      rw [g9]; exact this
     ·rcases undefE_get (ops := ops) (env := env') (t := t) with h | ⟨h, hnd⟩
      ·rw [h]; exact .undef _
      ·rw [h]
       have e1 : env'.get t = (runL L 0 l (FS.of env st)).e t := by
        rw [g2.same.e]
        refine FS.e_eq (runL_agree rfl fun j y hy _ hw => ?_)
        exact hnd y.1 (by rw [<- hsame]; exact List.mem_map_of_mem (List.mem_of_getElem? hy)) hw
       rw [e1]
       exact (hF1.env t).mono hx2
     ·show DefRep pg.P c2 m.2.2.df a1.defers
      rw [g11]; exact hF1.defs.mono hx2
    have hcan : canon pg f (keysOf st.bl) (undefE ops env', ⟨bl, m.2.2.used, m.2.2.dead, m.2.2.df, m.2.2.pn⟩) = some y := canon_congr (st := m.2.2) (fun id hid => by
     show getB m.2.2.bl id = getB bl id
     rw [g8, hbl, app_g, app_g, hagree id hid]) rfl rfl rfl g4
    obtain ⟨c3, own3, h3, h4, hA3⟩ := hA2.canon hcan hA.keys
    have := hk (.pan m.2.1) y.1 y.2 c3 own3 a1 g5 hA3 z (.pure (by rw [h3, h4]; exact hz))
    rw [h3] at this
    exact this
  ·have : (Array.replicate ops.size false).getD j false = false := by
    simp [Array.getD_eq_getD_getElem?, Array.getElem?_replicate]
    split <;> rfl
   rw [this] at hj; cases hj
  ·have : (Array.replicate ops.size false).getD j false = false := by
    simp [Array.getD_eq_getD_getElem?, Array.getElem?_replicate]
    split <;> rfl
   have hL' : (Array.replicate ops.size false).getD j false = true := hL
   rw [this] at hL'; cases hL'
  ·have : runL (fun j => (Array.replicate ops.size false).getD j false) 0 l (FS.of env st) = FS.of env st := funext fun loc => runL_same fun j x hj hp => by
    have h2 : (Array.replicate ops.size false).getD (0 + j) false = false := by
     simp [Array.getD_eq_getD_getElem?, Array.getElem?_replicate]
     split <;> rfl
    rw [h2] at hp; cases hp
   rw [this]; exact hF'
end
end Go.Proofs.Ab
namespace Go.Proofs.Ab
open Go
section
variable {p0 : Option (Option V)} {df0 : List (FuncId × List V)} {pg : Pg} {D : DSem} {f : FuncId} {c0 c : Cx} {own0 own : Own} {nt : Nat} {ops : Array Oper} {Q : Exit -> Act -> World -> Prop} {env : Env} {st : St} {r : Res} {k : K} {a : Act}
theorem lfp_some {X R : Type} {Φ : (X -> Option R) -> X -> Option R} {x : X} {r : R} (h : lfp Φ x = some r) : ∃ n, iter Φ n x = some r := by
 unfold lfp at h
 split at h
 ·rename_i hex
  cases h
  exact Classical.choose_spec hex
 ·cases h
theorem At.setC {o : Operand} {b : Bool} (hA : At pg p0 c0 own0 nt c own env st a) (h : evO pg env 0 o = .bool b) : At pg p0 c0 own0 nt c own (setC env o b) st a := by
 cases o with
 | tmp t => exact hA.known h
 | _ => exact hA
theorem ev_sound (hD : DSound pg D) (hmix : pg.P.follows .mixedOrders = true) : ∀ (code : Code) {k : K} {Q : Exit -> Act -> World -> Prop} {env : Env} {st : St} {c : Cx} {own : Own} {a : Act}, KOk pg p0 r c0 own0 nt k Q -> ev pg D f nt code env st k = some r ->
  At pg p0 c0 own0 nt c own env st a -> code.wp pg.P Q a c.w := by
 intro code
 induction code with
 | skip => intro k Q env st c own a hk h hA; exact wp_skip (hk .normal env st c own a h hA)
 | label l => intro k Q env st c own a hk h hA; exact wp_label (hk .normal env st c own a h hA)
 | region id ops draw =>
  intro k Q env st c own a hk h hA
  unfold ev at h
  rcases cond_some h with ⟨hj, h1⟩ | ⟨hj, h1⟩
  ·split at h1
   ·rename_i x hx
    obtain ⟨c1, own1, hw, _, hA1⟩ := hA.canon hx hA.keys
    rw [<- hw]
    rw [JR_eq] at h1
    exact evReg_sound hD hmix hk h1 hA1
   ·cases h1
  ·exact evReg_sound hD hmix hk h1 hA
 | seq x y ihx ihy =>
  intro k Q env st c own a hk h hA
  unfold ev at h
  refine wp_seq (ihx (k := kSeq (ev pg D f nt y) k) (fun ex env st c own a h hA => ?_) h hA)
  cases ex with
  | normal => exact ihy hk h hA
  | exit id => exact hk (.exit id) env st c own a h hA
  | ret => exact hk .ret env st c own a h hA
  | pan v => exact hk (.pan v) env st c own a h hA
 | cond o x y ihx ihy =>
  intro k Q env st c own a hk h hA
  unfold ev at h
  split at h
  ·rename_i b hb
   have hv := hA.env.eval hA.inv.inv 0 o
   rw [hb] at hv
   refine wp_cond hv.bool_inv ?_
   cases b with
   | true => exact ihx hk h (hA.setC hb)
   | false => exact ihy hk h (hA.setC hb)
  ·cases h
 | block id x ih =>
  intro k Q env st c own a hk h hA
  unfold ev at h
  refine wp_block (ih (k := kBlk id k) (fun ex env st c own a h hA => ?_) h hA)
  cases ex with
  | normal => exact hk .normal env st c own a h hA
  | exit id' =>
   show (if id' = id then Q .normal a c.w else Q (.exit id') a c.w)
   rcases cond_some (h : (bif Nat.beq id' id then k .normal env st else k (.exit id') env st) = some r) with ⟨hi, h1⟩ | ⟨hi, h1⟩
   ·rw [if_pos (by simpa using hi)]
    exact hk .normal env st c own a h1 hA
   ·rw [if_neg (by intro he; subst he; simp at hi)]
    exact hk (.exit id') env st c own a h1 hA
  | ret => exact hk .ret env st c own a h hA
  | pan v => exact hk (.pan v) env st c own a h hA
 | loop x ih =>
  intro k Q env st c own a hk h hA
  unfold ev at h
  split at h
  ·rename_i y hy
   have hn := hA.keys
   obtain ⟨c1, own1, hw, _, hA1⟩ := hA.canon hy hn
   obtain ⟨n, hit⟩ : ∃ n, iter (fun rec x_1 => ev pg D f nt x x_1.1 x_1.2 (kLoop (canon pg f (keysOf st.bl)) rec k)) n y = some r := by
    rcases cond_some h with ⟨_, h⟩ | ⟨_, h⟩
    ·exact lfp_some h
    ·exact ⟨_, h⟩
   have key : ∀ (n : Nat) (y : Env × St) (c1 : Cx) (own1 : Own) (a : Act), At pg p0 c0 own0 nt c1 own1 y.1 y.2 a ->
     iter (fun rec x_1 => ev pg D f nt x x_1.1 x_1.2 (kLoop (canon pg f (keysOf st.bl)) rec k)) n y = some r -> Code.rounds pg.P x Q n a c1.w := by
    intro n
    induction n with
    | zero => intro y c1 own1 a hA1 hit; cases hit
    | succ n ihn =>
     intro y c1 own1 a hA1 hit
     rw [rounds_succ]
     refine ih (k := kLoop (canon pg f (keysOf st.bl)) (iter (fun rec x_1 => ev pg D f nt x x_1.1 x_1.2 (kLoop (canon pg f (keysOf st.bl)) rec k)) n) k) (fun ex env1 st1 c2 own2 a2 h2 hA2 => ?_) hit hA1
     cases ex with
     | normal =>
      dsimp only [kLoop] at h2
      split at h2
      ·rename_i z hz
       obtain ⟨c3, own3, hw3, _, hA3⟩ := hA2.canon hz hn
       show Code.rounds pg.P x Q n a2 c2.w
       rw [<- hw3]
       exact ihn z c3 own3 a2 hA3 h2
      ·cases h2
     | exit id => exact hk (.exit id) env1 st1 c2 own2 a2 h2 hA2
     | ret => exact hk .ret env1 st1 c2 own2 a2 h2 hA2
     | pan v => exact hk (.pan v) env1 st1 c2 own2 a2 h2 hA2
   rw [<- hw]
   exact wp_loop_rounds n (key n y c1 own1 a hA1 hit)
  ·cases h
 | rangeFunc f p x y ihx ihy => intro k Q env st c own a hk h hA; unfold ev at h; cases h
 | exit id => intro k Q env st c own a hk h hA; exact wp_exit (hk (.exit id) env st c own a h hA)
 | scope x ih =>
  intro k Q env st c own a hk h hA
  unfold ev at h
  refine wp_scope_straight (ih (k := k) (fun ex env st c own a h hA => ?_) h hA)
  cases ex with
  | normal => exact hk .normal env st c own a h hA
  | exit id => exact hk (.exit id) env st c own a h hA
  | ret => exact hk .ret env st c own a h hA
  | pan v => exact hk (.pan v) env st c own a h hA
 | goto l => intro k Q env st c own a hk h hA; unfold ev at h; cases h
 | ret => intro k Q env st c own a hk h hA; exact wp_ret (hk .ret env st c own a h hA)
 | refuse s => intro k Q env st c own a hk h hA; unfold ev at h; cases h
end
end Go.Proofs.Ab
namespace Go.Proofs.Ab
open Go
section
variable {p0 : Option (Option V)} {df0 : List (FuncId × List V)} {pg : Pg} {D : DSem} {f : FuncId} {c0 c : Cx} {own0 own : Own} {nt : Nat} {Q : Exit -> Act -> World -> Prop} {env : Env} {st : St} {r : Res} {k : K} {a : Act} {fn : Func} {live : Nat -> Prop}
theorem canCells_border {n0 dead ownl : List Nat} : ∀ {cs cs' : List V} {j0 : Nat} {gv gv' : Gv}, canCells pg true n0 dead ownl j0 cs gv = some (cs', gv') -> ∀ n, border (cs'.getD n .undef) = cs'.getD n .undef
 | [], cs', j0, gv, gv', h, n => by cases h; simp [border]
 | v :: cs, cs', j0, gv, gv', h, n => by
  unfold canCells at h
  rcases cond_some h with ⟨ho, h1⟩ | ⟨ho, h1⟩
  ·split at h1
   ·rename_i v' g1 hgo
    split at h1
    ·rename_i cs1 g2 hrest
     cases h1
     cases n with
     | zero =>
      unfold giveOwn at hgo
      split at hgo
      ·cases hgo; rfl
      ·obtain ⟨_, h2⟩ := condR_some hgo; cases h2; rfl
      ·cases hgo
     | succ n => simpa using canCells_border hrest n
    ·cases h1
   ·cases h1
  ·split at h1
   ·rename_i cs1 g2 hrest
    cases h1
    cases n with
    | zero => exact border_idem _
    | succ n => simpa using canCells_border hrest n
   ·cases h1
theorem canBlks_border {n0 dead : List Nat} : ∀ {ks ks' : List Blk} {gv gv' : Gv}, canBlks pg true n0 dead ks gv = some (ks', gv') ->
  ∀ (i : Nat) (t : TypeId) (cs : List V) (fz : Bool) (j : Nat), ks'[i]? = some (.cells t cs fz) -> border (cs.getD j .undef) = cs.getD j .undef
 | [], ks', gv, gv', h, i, t, cs, fz, j, hi => by cases h; simp at hi
 | k0 :: ks, ks', gv, gv', h, i, t, cs, fz, j, hi => by
  unfold canBlks at h
  split at h
  ·rename_i k1 g1 hk
   split at h
   ·rename_i ks1 g2 hrest
    cases h
    cases i with
    | zero =>
     simp at hi
     subst hi
     unfold canBlk at hk
     split at hk
     ·split at hk
      ·rename_i cs' g' hc
       cases hk
       exact canCells_border hc j
      ·cases hk
     ·cases hk
     ·cases hk
    | succ i => exact canBlks_border hrest i t cs fz j (by simpa using hi)
   ·cases h
  ·cases h
theorem giveOwn_border {dead : List Nat} {gv gv' : Gv} {v v' : V} (h : giveOwn dead gv v = some (v', gv')) : border v' = v' ∧ cellsOf v' = [v'] := by
 unfold giveOwn at h
 split at h
 ·cases h; exact ⟨rfl, rfl⟩
 ·obtain ⟨_, h1⟩ := condR_some h
  cases h1; exact ⟨rfl, rfl⟩
 ·cases h
theorem ownVal_border {dead l : List Nat} {gv gv' : Gv} {v v' : V} (h : ownVal pg dead l gv v = some (v', gv')) : ∀ j, border ((cellsOf v').getD j .undef) = (cellsOf v').getD j .undef := by
 intro j
 unfold ownVal at h
 split at h
 ·split at h
  ·rename_i cs' g' hc
   cases h
   exact canCells_border hc j
  ·cases h
 ·obtain ⟨h1, h2⟩ := giveOwn_border h
  rw [h2]
  cases j with
  | zero => exact h1
  | succ j => rfl
theorem leave_sound {o : Option (List Nat)} {m : Nat} {mk : V -> Out} {v : V} {x : Value} (hA : At pg p0 c0 own0 nt c own env st a) (hm : ∀ i r, i < m -> c0.blk i = some r -> True) (h : leave pg o m st mk v = some r) (hv : VRep pg.P c v x) :
  ∃ c1 own1 v', r.pn = st.pn ∧ c1.w = c.w ∧ r.out = mk v' ∧ RetRep pg o c1 v' x ∧ After c0 own0 c1 own1 ∧ (∀ i r, i < m -> c0.blk i = some r -> c1.blk i = some r) ∧ Inv pg c1 own1 (fun i => r.bl[i]?) (fun p => ∃ r, c1.row p = some r) ∧
   ∀ (i : Nat) (t : TypeId) (cs : List V) (fz : Bool) (j : Nat), r.bl[i]? = some (.cells t cs fz) -> border (cs.getD j .undef) = cs.getD j .undef := by
 unfold leave at h
 split at h
 ·rename_i v' bl hp
  split at h
  ·rename_i bs hb
   split at h
   ·rename_i bl' gv hc
    obtain ⟨c1, own1, hw1, hI1, ha1, hx1, hb1, hr1, hvl, hvr, hkeep⟩ := purAll_sound hA.inv.inv hp
    have hpr := hvr 0 x (by simp) (by simpa using hv)
    obtain ⟨hbl, hbg⟩ := takeB_some hb
    have hbl' : bs.length = m := by simpa using hbl
    split at h
    ·cases h
     obtain ⟨tags, recs, hG, hl2, hm2, hI2⟩ := canBlks_inv hI1 (fun t r h1 h2 => ⟨hA.inv.domr t r (by rw [<- hr1]; exact h1), h2⟩) (by omega) (fun i kk hi => by
      have hlt := (List.getElem?_eq_some_iff.1 hi).1
      obtain ⟨k2, h3, h4⟩ := hbg i i (List.getElem?_range (by omega))
      rw [hi] at h4
      cases h4
      exact h3) (fun i r hi _ => by omega) hc
     refine ⟨c1.cut (List.range m) (fun p => recs[p]?), own1.retag (List.range m) tags, v', rfl, hw1, rfl, (show PRep pg.P c1.w c1.prot v' x from hpr), ?_, fun i r hi hr => ?_, ?_, canBlks_border hc⟩
     ·have hfar : Far c1 (c1.cut (List.range m) (fun p => recs[p]?)) := ⟨rfl, fun id r ho _ => by
       exfalso
       have : c1.out id := ho
       rw [ha1.far.1] at this
       exact hA.out id this⟩
      exact hA.after.trans (ha1.trans ⟨Frame.refl _ _, fun b x _ hn => Own.retag_none hn, fun b x hp => ⟨hp, rfl⟩, fun b x hp => .inl hp, hfar⟩)
     ·show (if (List.range m).contains i then c1.blk i else none) = some r
      rw [if_pos (by simpa using hi), hb1]
      exact hA.blk i r hr
     ·refine hI2.less fun p hp => ?_
      obtain ⟨q, hq⟩ := hp
      rw [<- hG.rl]
      exact (List.getElem?_eq_some_iff.1 (show recs[p]? = some q from hq)).1
    ·rename_i l
     split at h
     ·rename_i v2 gv2 ho
      cases h
      have hv1 : VRep pg.P c1 v x := hv.mono hx1
      obtain ⟨tags, recs, hG, hQ, hl2, hm2, hI2⟩ := canBlks_more (gv2 := gv2) (Q := fun recs => ∀ rows, Told recs rows -> VRep pg.P (c1.cut [] rows) v2 x) hI1 (fun t r h1 h2 => ⟨hA.inv.domr t r (by rw [<- hr1]; exact h1), h2⟩) (by omega) (fun i kk hi => by
       have hlt := (List.getElem?_eq_some_iff.1 hi).1
       obtain ⟨k2, h3, h4⟩ := hbg i i (List.getElem?_range (by omega))
       rw [hi] at h4
       cases h4
       exact h3) (fun i r hi _ => by omega) hc (fun tags recs hG0 => ownVal_sound (fun t r h1 h2 => ⟨hA.inv.domr t r (by rw [<- hr1]; exact h1), h2⟩) ho hG0 hv1)
      have hE : Ext (c1.cut [] (fun p => recs[p]?)) (c1.cut (List.range m) (fun p => recs[p]?)) := ⟨fun b x h => ⟨h, rfl⟩, fun id r h => by
       have h' : (if List.contains [] id then c1.blk id else none) = some r := h
       simp at h', fun t r h => h⟩
      refine ⟨c1.cut (List.range m) (fun p => recs[p]?), own1.retag (List.range m) tags, v2, rfl, hw1, rfl, (show VRep pg.P (c1.cut (List.range m) (fun p => recs[p]?)) v2 x ∧ _ from ⟨(hQ (fun p => recs[p]?) fun p q h => h).mono hE, ownVal_border ho⟩), ?_, fun i r hi hr => ?_, ?_, canBlks_border hc⟩
      ·have hfar : Far c1 (c1.cut (List.range m) (fun p => recs[p]?)) := ⟨rfl, fun id r ho _ => by
        exfalso
        have : c1.out id := ho
        rw [ha1.far.1] at this
        exact hA.out id this⟩
       exact hA.after.trans (ha1.trans ⟨Frame.refl _ _, fun b x _ hn => Own.retag_none hn, fun b x hp => ⟨hp, rfl⟩, fun b x hp => .inl hp, hfar⟩)
      ·show (if (List.range m).contains i then c1.blk i else none) = some r
       rw [if_pos (by simpa using hi), hb1]
       exact hA.blk i r hr
      ·refine hI2.less fun p hp => ?_
       obtain ⟨q, hq⟩ := hp
       rw [<- hG.rl]
       exact (List.getElem?_eq_some_iff.1 (show recs[p]? = some q from hq)).1
     ·cases h
   ·cases h
  ·cases h
 ·cases h
theorem resVals_sound (hA : At pg p0 c0 own0 nt c own env st a) : ∀ {l : List ResultVar} {kk : List V -> Option Res}, resVals pg env st l kk = some r ->
  ∃ vs xs, kk vs = some r ∧ vs.length = l.length ∧ (l.mapM fun | .tmp t => pure (a.tmps.getD t Go.undef) | .cell b t => do loadVar t (<- asAddr (a.tmps.getD b Go.undef)) : Sem (List Value)).run pg.P c.w = .ok xs c.w ∧ xs.length = l.length ∧
   ∀ j, j < l.length -> VRep pg.P c (vs.getD j .undef) (xs.getD j Go.undef)
 | [], kk, h => ⟨[], [], h, rfl, by simp, rfl, fun j hj => absurd hj (Nat.not_lt_zero _)⟩
 | .tmp t :: l, kk, h => by
  unfold resVals at h
  obtain ⟨vs, xs, h1, h2, h3, h4, h5⟩ := resVals_sound hA h
  refine ⟨_ :: vs, a.tmps.getD t Go.undef :: xs, h1, by simp [h2], ?_, by simp [h4], fun j hj => ?_⟩
  ·rw [List.mapM_cons]
   simp only [Sem.run_bind, Sem.run_pure, Result.andThen_ok, h3]
  ·cases j with
   | zero => exact hA.env t
   | succ j => simpa using h5 j (by simpa using hj)
 | .cell b t :: l, kk, h => by
  unfold resVals at h
  obtain ⟨v, x, h1, h2, h3⟩ := loadS_sound hA.inv.inv h (hA.env b)
  obtain ⟨vs, xs, h4, h5, h6, h7, h8⟩ := resVals_sound hA h1
  have hload : (do loadVar t (<- asAddr (a.tmps.getD b Go.undef)) : Sem Value).run pg.P c.w = .ok x c.w := by
   have h9 := h2
   unfold Instr.loadAt at h9
   cases hq : a.tmps.getD b Go.undef with
   | pointer p =>
    rw [hq] at h9
    cases p with
    | some ad => exact h9
    | none => exfalso; simp [Instr.sureAddr, stuck] at h9
   | _ => rw [hq] at h9; exfalso; simp [Instr.sureAddr, stuck] at h9
  refine ⟨_ :: vs, x :: xs, h4, by simp [h5], ?_, by simp [h7], fun j hj => ?_⟩
  ·rw [List.mapM_cons]
   simp only [Sem.run_bind] at hload
   simp only [Sem.run_bind, Sem.run_pure, hload, Result.andThen_ok, h6]
  ·cases j with
   | zero => exact h3
   | succ j => simpa using h8 j (by simpa using hj)
theorem fin_ret {o : Option (List Nat)} {m : Nat} (hA : At pg p0 c0 own0 nt c own env st a) (h : kFin.fin pg o fn m env none st = some r) : ∃ v, (results fn a.tmps).run pg.P c.w = .ok v c.w ∧ Ends pg o c0 own0 m r (.returned v) c.w ∧ r.pn = p0 := by
 obtain ⟨vs, xs, h1, h2, h3, h4, h5⟩ := resVals_sound hA (l := fn.results.toList) h
 have hrun : (results fn a.tmps).run pg.P c.w = .ok (if hh : xs.toArray.size = 1 then xs.toArray[0] else .tuple xs.toArray) c.w := by
  unfold results
  rw [Array.mapM_eq_mapM_toList]
  simp only [Sem.run_bind, Sem.run_map]
  erw [h3]
  rfl
 refine ⟨_, hrun, ?_⟩
 have hv : VRep pg.P c (match vs with | [v] => v | vs => .tup vs) (if hh : xs.toArray.size = 1 then xs.toArray[0] else .tuple xs.toArray) := by
  by_cases hone : xs.length = 1
  ·obtain ⟨x, rfl⟩ := List.length_eq_one_iff.1 hone
   obtain ⟨v, rfl⟩ := List.length_eq_one_iff.1 (h2.trans (h4.symm.trans hone))
   have := h5 0 (by omega)
   simpa using this
  ·have hne : ∀ v, vs ≠ [v] := fun v hv => hone (by rw [h4, <- h2, hv]; rfl)
   have hsz : ¬ xs.toArray.size = 1 := by simpa using hone
   rw [dif_neg hsz]
   have hm : (match vs with | [v] => v | vs => .tup vs) = V.tup vs := by
    split
    ·rename_i v; exact absurd rfl (hne v)
    ·rfl
   rw [hm]
   exact .tup (by simp; omega) fun j hj => by simpa [List.getD, Array.getD_eq_getD_getElem?] using h5 j (by omega)
 obtain ⟨c1, own1, v', g0, g1, g2, g3, g4, g5, g6, g7⟩ := leave_sound hA (fun _ _ _ _ => trivial) h1 hv
 refine ⟨⟨c1, own1, g1, g4, g5, g6, g7, ?_⟩, g0.trans hA.pn⟩
 rw [g2]
 exact g3
theorem fin_pan {o : Option (List Nat)} {m : Nat} {v : V} {x : Value} (hA : At pg p0 c0 own0 nt c own env st a) (h : kFin.fin pg o fn m env (some v) st = some r) (hx : VRep pg.P c v x) : Ends pg o c0 own0 m r (.panicked [{ v := x, recovered := false }]) c.w ∧ r.pn = p0 := by
 have h'' : leave pg none m st .pan v = some r := h
 obtain ⟨c1, own1, v', g0, g1, g2, g3, g4, g5, g6, g7⟩ := leave_sound hA (fun _ _ _ _ => trivial) h'' hx
 refine ⟨⟨c1, own1, g1, g4, g5, g6, g7, ?_⟩, g0.trans hA.pn⟩
 rw [g2]
 exact ⟨x, rfl, g3⟩
def EndsP (pg : Pg) (o : Option (List Nat)) (p0 : Option (Option V)) (c : Cx) (own : Own) (n : Nat) (res : Res) (e : Ending) (w' : World) : Prop := Ends pg o c own n res e w' ∧ res.pn = p0
theorem runDef_sound (hD : DSoundD pg D) {o : Option (List Nat)} {m : Nat} : ∀ (l : List (FuncId × List V)) (ds : List Deferred) (cur : Option V) (u : FrameMode) (st : St) (c : Cx) (own : Own), DefRep pg.P c l ds -> ModeOk pg c cur u ->
  (∀ a', a'.tmps = a.tmps -> a'.defers = [] -> At pg p0 c0 own0 nt c own env st a') -> st.df = [] -> runDef pg D cur l st (kFin.fin pg o fn m env) = some r -> Leaves pg.P fn a.tmps (EndsP pg o p0 c0 own0 m r) ds u c.w
 | [], ds, cur, u, st, c, own, hd, hu, hA, hdf, h => by
  cases hd
  have hA' := hA { a with defers := [] } rfl rfl
  cases cur with
  | none =>
   cases hu
   obtain ⟨v, h1, h2⟩ := fin_ret hA' h
   exact ⟨v, h1, h2⟩
  | some v =>
   obtain ⟨x, rfl, hx⟩ := hu
   exact fin_pan hA' h (.pure hx)
 | (f, cap) :: l, ds, cur, u, st, c, own, hd, hu, hA, hdf, h => by
  cases hd with
  | @cons _ _ xs _ ds hl hcap hr =>
   have hA0 := hA { a with defers := [] } rfl rfl
   have h' : callK pg D f cap 100000 st (some cur) (fun _ st' res => res.onPn (runDef pg D none l st' (kFin.fin pg o fn m env)) (fun _ => runDef pg D cur l st' (kFin.fin pg o fn m env))) (fun _ _ => none) = some r := h
   obtain ⟨hbod, hcall⟩ := callD_sound hD hA0.inv hu h' hl hcap
   have hnr : u ≠ .run := by
    cases cur with
    | none => cases hu; nofun
    | some v => obtain ⟨x, rfl, _⟩ := hu; nofun
   refine leaves_cons (args := xs) hnr ?_ (hcall.mono fun e u' w' hE => ?_)
   ·show (callFunc f (#[] ++ xs)).run pg.P c.w = _
    rw [callFunc_enter hbod]
    simp
   ·obtain ⟨res, ⟨c', own', st', rfl, hS, ha, hx, e1, e2, hout⟩, hmode⟩ := hE
    have next : ∀ a', a'.tmps = a.tmps -> a'.defers = [] -> At pg p0 c0 own0 nt c' own' env st' a' := fun a' h1 h2 => by
     have := (hA a' h1 h2).stay hS ha hx e1 e2
     exact this
    cases e with
    | panicked ch => obtain ⟨v, x, h1, _⟩ := hout; cases h1
    | outgrown => exact hout.elim
    | returned x =>
     obtain ⟨v, hk0, _⟩ := hout
     have hk : res.onPn (runDef pg D none l st' (kFin.fin pg o fn m env)) (fun _ => runDef pg D cur l st' (kFin.fin pg o fn m env)) = some r := hk0
     show Leaves pg.P fn a.tmps _ ds (settle u') c'.w
     rcases hmode with ⟨h1, rfl⟩ | ⟨h1, h2⟩
     ·unfold Res.onPn at hk
      rw [h1] at hk
      cases cur with
      | none =>
       cases hu
       exact runDef_sound hD l ds none .returning st' c' own' (hr.mono hx) rfl next (e1.trans hdf) hk
      | some v =>
       obtain ⟨y, rfl, hy⟩ := hu
       exact runDef_sound hD l ds (some v) _ st' c' own' (hr.mono hx) ⟨y, rfl, hy.mono hx.prot⟩ next (e1.trans hdf) hk
     ·unfold Res.onPn at hk
      rw [h1] at hk
      rw [h2]
      exact runDef_sound hD l ds none .returning st' c' own' (hr.mono hx) rfl next (e1.trans hdf) hk
theorem kFin_sound (hD : DSoundD pg D) {o : Option (List Nat)} {m : Nat} : KOk pg p0 r c0 own0 nt (kFin pg D o fn m) (bodyPostD pg.P fn (EndsP pg o p0 c0 own0 m r)) := by
 intro ex env st c own a h hA
 have bare : ∀ a', a'.tmps = a.tmps -> a'.defers = [] -> At pg p0 c0 own0 nt c own env { st with df := [] } a' := fun a' h1 h2 =>
  ⟨⟨hA.inv.inv, hA.inv.domr⟩, fun t => by rw [h1]; exact hA.env t, by rw [h1]; exact hA.size, by rw [h2]; exact .nil, hA.pn, hA.after, hA.blk, hA.out⟩
 cases ex with
 | normal =>
  have h' : runDef pg D none st.df { st with df := [] } (kFin.fin pg o fn m env) = some r := h
  exact runDef_sound hD st.df a.defers none .returning _ c own hA.defs rfl bare rfl h'
 | ret =>
  have h' : runDef pg D none st.df { st with df := [] } (kFin.fin pg o fn m env) = some r := h
  exact runDef_sound hD st.df a.defers none .returning _ c own hA.defs rfl bare rfl h'
 | exit id => cases h
 | pan v =>
  intro x hx
  show Leaves pg.P fn a.tmps _ a.defers _ c.w
  unfold kFin at h
  dsimp only at h
  split at h
  ·rename_i hdf
   have hd := hA.defs
   rw [hdf] at hd
   cases hq : a.defers with
   | nil => exact fin_pan hA h hx
   | cons d ds => rw [hq] at hd; cases hd
  ·rename_i d l hdf
   split at h
   ·rename_i v' bl hp
    obtain ⟨c1, own1, hw1, hI1, ha1, hx1, hb1, hr1, hvl, hvr, hkeep⟩ := purAll_sound hA.inv.inv hp
    have hpr := hvr 0 x (by simp) (by simpa using hx)
    have hpr' : PRep pg.P c1.w c1.prot v' x := hpr
    rw [<- hw1]
    rw [<- hdf] at h
    refine runDef_sound (nt := nt) hD st.df a.defers (some v') _ { st with df := [], bl := bl } c1 own1 (hA.defs.mono hx1) ⟨x, rfl, hpr'⟩ (fun a' h1 h2 => ?_) rfl h
    have hS1 : SInv pg c1 own1 { st with df := [], bl := bl } := ⟨hI1, fun t r h3 => hA.inv.domr t r (by rw [<- hr1]; exact h3)⟩
    exact ⟨hS1, fun t => by rw [h1]; exact (hA.env t).mono hx1, by rw [h1]; exact hA.size, by rw [h2]; exact .nil, hA.pn, hA.after.trans ha1, fun i r hr => by rw [hb1]; exact hA.blk i r hr, fun id => by rw [ha1.far.1]; exact hA.out id⟩
   ·cases h
end
end Go.Proofs.Ab
namespace Go.Proofs.Ab
open Go
section
variable {pg : Pg} {D : DSem}
def NatOk (pg : Pg) (f : FuncId) (g : List V -> List Blk -> Option Res) : Prop :=
 ∀ vs bl res, g vs bl = some res -> Bodied pg.P f ∧ ∀ (c : Cx) (own : Own) (xs : Array Value),
  Inv pg c own (fun i => bl[i]?) (fun p => p < rowsOf pg bl + ownN (pg.oa f)) -> (∀ p r, c.row p = some r -> p < rowsOf pg bl + ownN (pg.oa f)) -> (∀ id, ¬ c.out id) -> vs.length = xs.size -> (∀ j, j < vs.length -> VRep pg.P c (vs.getD j .undef) (xs.getD j Go.undef)) ->
  Calls pg.P f xs c.w (Ends pg (pg.oo f) c own bl.length res)
structure PgOk (pg : Pg) : Prop where
 mix : pg.P.follows .mixedOrders = true
 nat : ∀ f g, pg.nat f = some g -> NatOk pg f g
theorem getB_range (bl : List Blk) (i : Nat) : getB ((List.range bl.length).zip bl) i = bl[i]? := by
 cases h : getB ((List.range bl.length).zip bl) i with
 | some b =>
  obtain ⟨j, h1, h2⟩ := getB_zip h
  have hj : j < bl.length := (List.getElem?_eq_some_iff.1 h2).1
  rw [List.getElem?_range hj] at h1
  cases h1
  exact h2.symm
 | none =>
  cases h2 : bl[i]? with
  | none => rfl
  | some b =>
   have hi : i < bl.length := (List.getElem?_eq_some_iff.1 h2).1
   obtain ⟨k, hk⟩ := getB_zip_of (ids := List.range bl.length) (bs := bl) (id := i) (by simp) (by simpa using hi)
   rw [h] at hk; cases hk
theorem args0_get : ∀ (vs : List V) (n t : Nat), (args0 n vs).get t = if n <= t ∧ t < n + vs.length then vs.getD (t - n) .undef else .undef
 | [], n, t => by
  have : ¬ (n <= t ∧ t < n + ([] : List V).length) := by rw [List.length_nil]; omega
  rw [if_neg this]; rfl
 | v :: vs, n, t => by
  show (bif Nat.beq n t then v else (args0 (n + 1) vs).get t) = _
  by_cases h : n = t
  ·subst h
   rw [Nat.beq_refl, cond_true, if_pos (by simp)]
   simp
  ·rw [nbeq h, cond_false, args0_get vs (n + 1) t]
   by_cases h1 : n + 1 <= t ∧ t < n + 1 + vs.length
   ·rw [if_pos h1, if_pos (by simp; omega)]
    have : t - n = (t - (n + 1)) + 1 := by omega
    rw [this]; simp
   ·rw [if_neg h1, if_neg (by simp; omega)]
theorem args0_env {c : Cx} {vs : List V} {xs : Array Value} {n : Nat} (hl : vs.length = xs.size) (hlen : vs.length <= n) (hx : ∀ j, j < vs.length -> VRep pg.P c (vs.getD j .undef) (xs.getD j Go.undef)) :
  EnvRep pg.P c (args0 0 vs) { tmps := xs ++ Array.replicate (n - xs.size) Go.undef, defers := [] } := fun t => by
 rw [args0_get]
 by_cases ht : 0 <= t ∧ t < 0 + vs.length
 ·rw [if_pos ht]
  have htl : t < vs.length := by omega
  have h2 : (xs ++ Array.replicate (n - xs.size) Go.undef).getD t Go.undef = xs.getD t Go.undef := by
   have h3 : t < xs.size := by omega
   have h4 : t < xs.size + (n - xs.size) := by omega
   simp [Array.getD, h3, h4, Array.getElem_append]
  show VRep pg.P c _ ((xs ++ Array.replicate (n - xs.size) Go.undef).getD t Go.undef)
  rw [h2]
  exact hx t htl
 ·rw [if_neg ht]; exact .undef _
theorem At.enter {f : FuncId} {c : Cx} {own : Own} {vs : List V} {bl : List Blk} {xs : Array Value} {n : Nat} (p0 : Option (Option V)) (hI : Inv pg c own (fun i => bl[i]?) (fun p => p < rowsOf pg bl + ownN (pg.oa f))) (hdom : ∀ p r, c.row p = some r -> p < rowsOf pg bl + ownN (pg.oa f)) (hout : ∀ id, ¬ c.out id)
  (hl : vs.length = xs.size) (hlen : vs.length <= n) (hx : ∀ j, j < vs.length -> VRep pg.P c (vs.getD j .undef) (xs.getD j Go.undef)) :
  At pg p0 c own n c own (args0 0 vs) { bl := (List.range bl.length).zip bl, used := List.range (rowsOf pg bl + ownN (pg.oa f)), dead := [], df := [], pn := p0 } { tmps := xs ++ Array.replicate (n - xs.size) Go.undef, defers := [] } := by
 have hg : getB ((List.range bl.length).zip bl) = fun i => bl[i]? := funext (getB_range bl)
 refine ⟨⟨?_, fun t r hr => by simpa using hdom t r hr⟩, args0_env hl hlen hx, by simp; omega, .nil, rfl, After.refl _ _, fun _ _ h => h, hout⟩
 rw [hg]
 exact hI.less fun p hp => by simpa using hp.1
theorem nblt {a b : Nat} (h : Nat.blt a b = false) : b <= a := by
 rcases Nat.lt_or_ge a b with hlt | hge
 ·have h9 : Nat.blt a b = true := by rw [Nat.blt_eq]; exact hlt
  rw [h9] at h; cases h
 ·exact hge
theorem evF_sound (hD : DSound pg D) (hDD : DSoundD pg D) (hP : PgOk pg) : DSound pg fun f vs bl pn => evF pg D f vs bl pn := by
 intro f vs bl res h
 dsimp only at h
 unfold evF at h
 cases hg : pg.nat f with
 | some g =>
  rw [hg] at h
  exact hP.nat f g hg vs bl res h
 | none =>
 rw [hg] at h
 dsimp only at h
 split at h
 ·rename_i fn hfn
  obtain ⟨hc, h1⟩ := condR_some h
  simp only [Bool.or_eq_false_iff] at hc
  obtain ⟨⟨hb, hname⟩, hlen⟩ := hc
  refine ⟨⟨fn, hfn, hb, hname⟩, fun c own xs hI hdom hout hl hx => ?_⟩
  cases hbody : fn.body with
  | none => rw [hbody] at hb; cases hb
  | some code =>
   have hbo : bodyOf fn = code := by unfold bodyOf; rw [hbody]
   rw [hbo] at h1
   have hw := calls_of_wp_defers hfn hbody (args := xs) (R := EndsP pg (pg.oo f) none c own bl.length res) (ev_sound hD hP.mix code (kFin_sound hDD) h1 (At.enter none hI hdom hout hl (nblt hlen) hx))
   exact hw.mono fun e w' hE => hE.1
 ·cases h
theorem upon_S {P : Program} {ops : Array Oper} {rest : List Nat} {a : Act} {cs : List Go.Frame} {w : World} {o : Oper} {Q : Exit -> Act -> List Go.Frame -> World -> Prop} (h : o.wp P a w (fun a' w' => wpOpsS P ops Q rest a' cs w') (fun e a' w' => Q e a' cs w')) :
  match (execOp a.eval o).run P w with
  | .ok .recover w' =>
   (match recoverD cs with
   | some (v, cs') => wpOpsS P ops Q rest (a.put o.dst v) cs' w'
   | none => wpOpsS P ops Q rest (a.put o.dst .nilIface) cs w')
  | r => o.upon P a (fun a' w' => wpOpsS P ops Q rest a' cs w') (fun e a' w' => Q e a' cs w') r := by
 unfold Oper.wp at h
 generalize (execOp a.eval o).run P w = r at h ⊢
 split
 ·exact (h : False).elim
 ·exact h
section
variable {p0 : Option (Option V)} {c0 : Cx} {own0 : Own} {nt : Nat} {f : FuncId} {k : K} {r : Res} {cs : List Go.Frame} {QS : Exit -> Act -> List Go.Frame -> World -> Prop} {ops : Array Oper}
theorem evOpsS_sound (hD : DSound pg D) (hk : KOk pg p0 r c0 own0 nt k (fun e a w => QS e a cs w)) : ∀ (rest : List Oper) (i : Nat) (env : Env) (st : St) (c : Cx) (own : Own) (a : Act), (∀ j, rest[j]? = ops[i + j]?) -> evOps pg D f nt ops.toList rest env st k = some r ->
  At pg p0 c0 own0 nt c own env st a -> wpOpsS pg.P ops QS (List.range' i rest.length) a cs c.w
 | [], i, env, st, c, own, a, hi, h, hA => hk .normal env st c own a h hA
 | o :: rest, i, env, st, c, own, a, hi, h, hA => by
  have h0 : ops[i]? = some o := by simpa using (hi 0).symm
  have hi' : ∀ j, rest[j]? = ops[i + 1 + j]? := fun j => by have := hi (j + 1); simpa [Nat.add_assoc, Nat.add_comm 1 j] using this
  show wpOpsS pg.P ops QS (i :: List.range' (i + 1) rest.length) a cs c.w
  unfold wpOpsS
  rw [h0]
  dsimp only
  have go : ∀ {env : Env}, opS pg D f env o st (fun v st' => match putE nt env o.dst v with | some env' => evOps pg D f nt ops.toList rest env' st' k | none => none) (fun v st' => k (.pan v) env st') = some r ->
    At pg p0 c0 own0 nt c own env st a -> (match (execOp a.eval o).run pg.P c.w with
     | .ok .recover w' =>
      (match recoverD cs with
      | some (v, cs') => wpOpsS pg.P ops QS (List.range' (i + 1) rest.length) (a.put o.dst v) cs' w'
      | none => wpOpsS pg.P ops QS (List.range' (i + 1) rest.length) (a.put o.dst .nilIface) cs w')
     | r => o.upon pg.P a (fun a' w' => wpOpsS pg.P ops QS (List.range' (i + 1) rest.length) a' cs w') (fun e a' w' => QS e a' cs w') r) := by
   intro env h hA
   refine upon_S ?_
   by_cases hdf : ∃ c, o.op = .defer c
   ·obtain ⟨cl, ho⟩ := hdf
    obtain ⟨fv, f2, cap, xs, h1, hrun, h3, h4⟩ := opS_defer hA ho h
    unfold Oper.wp
    rw [hrun]
    split at h1
    ·rename_i env' hp
     refine evOpsS_sound hD hk rest (i + 1) env' _ c own _ hi' h1 ?_
     exact ⟨⟨hA.inv.inv, hA.inv.domr⟩, EnvRep.put (a := { a with defers := { target := .fn (.func f2) xs, args := #[] } :: a.defers }) hA.env hA.size hp (.undef _), (put_size _ o.dst _).trans hA.size, (by rw [put_defers]; exact .cons h3 h4 hA.defs), hA.pn, hA.after, hA.blk, hA.out⟩
    ·cases h1
   refine opS_sound hD (fun c hc => hdf ⟨c, hc⟩) hA.inv (fun _ d _ => hA.out _) h (fun x _ t => hA.env.eval hA.inv.inv t x) (fun v st' c' own' x h1 hv hS ha hx e1 e2 => ?_) (fun v st' c' own' x h1 hv hS ha hx e1 e2 => ?_)
   ·split at h1
    ·rename_i env' hp
     exact evOpsS_sound hD hk rest (i + 1) _ _ _ _ _ hi' h1 (hA.step hS ha hx e1 e2 hp hv)
    ·cases h1
   ·exact hk (.pan v) env st' c' own' a h1 (hA.stay hS ha hx e1 e2) x hv
  have skip : ∀ {env : Env}, (match putE nt env o.dst .hole with | some env' => evOps pg D f nt ops.toList rest env' st k | none => none) = some r -> At pg p0 c0 own0 nt c own env st a -> wpOpsS pg.P ops QS (List.range' (i + 1) rest.length) (a.put o.dst Go.undef) cs c.w := by
   intro env h hA
   split at h
   ·rename_i env' hp
    exact evOpsS_sound hD hk rest (i + 1) _ _ _ _ _ hi' h (hA.step hA.inv (After.refl _ _) (Ext.refl _) rfl rfl hp .hole)
   ·cases h
  unfold evOps at h
  dsimp only at h
  split at h
  ·rename_i hg
   rw [if_pos (by unfold Region.wanted; rw [hg])]
   exact go h hA
  ·rename_i g want hg
   split at h
   ·cases h
   ·rename_i t ht
    split at h
    ·rename_i b hb
     have hx := hA.env t
     rw [hb] at hx
     have hw := wanted_of (P := pg.P) (a := a) hg ht (x := some b) hx.bool_inv
     have hA' := hA.known hb
     rw [hw]
     cases b <;> cases want
     ·rw [if_pos (by rfl)]; exact go h hA'
     ·rw [if_neg (by nofun)]; exact skip h hA'
     ·rw [if_neg (by nofun)]; exact skip h hA'
     ·rw [if_pos (by rfl)]; exact go h hA'
    ·rename_i hb
     have hx := hA.env t
     rw [hb] at hx
     have hw := wanted_of (P := pg.P) (a := a) hg ht (x := none) hx.hole_inv
     rw [hw, if_neg (by nofun)]
     exact skip h hA
    ·cases h
end
theorem kFinD_sound (hD : DSoundD pg D) {o : Option (List Nat)} {p0 : Option (Option V)} {r : Res} {c0 : Cx} {own0 : Own} {nt : Nat} {fn : Func} {m : Nat} : KOk pg p0 r c0 own0 nt (kFinD pg D o fn m) (bodyPost pg.P fn (EndsP pg o p0 c0 own0 m r)) := by
 intro ex env st c own a h hA
 unfold kFinD at h
 split at h
 ·rename_i hdf
  have hd := hA.defs
  rw [hdf] at hd
  have hq : a.defers = [] := by cases hq : a.defers with | nil => rfl | cons d ds => rw [hq] at hd; cases hd
  have h1 := kFin_sound hD (r := r) (c0 := c0) (own0 := own0) (nt := nt) (p0 := p0) ex env st c own a h hA
  cases ex with
  | normal =>
   have h2 : Leaves pg.P fn a.tmps (EndsP pg o p0 c0 own0 m r) a.defers .returning c.w := h1
   rw [hq] at h2
   exact ⟨hq, h2⟩
  | ret =>
   have h2 : Leaves pg.P fn a.tmps (EndsP pg o p0 c0 own0 m r) a.defers .returning c.w := h1
   rw [hq] at h2
   exact ⟨hq, h2⟩
  | exit id => exact h1.elim
  | pan v =>
   intro x hx
   have h2 : Leaves pg.P fn a.tmps (EndsP pg o p0 c0 own0 m r) a.defers (.panicking [{ v := x, recovered := false }]) c.w := h1 x hx
   rw [hq] at h2
   exact ⟨hq, h2⟩
 ·cases h
theorem KOk.mono {p0 : Option (Option V)} {r : Res} {c0 : Cx} {own0 : Own} {nt : Nat} {k : K} {Q Q' : Exit -> Act -> World -> Prop} (h : KOk pg p0 r c0 own0 nt k Q) (hq : ∀ e a w, Q e a w -> Q' e a w) : KOk pg p0 r c0 own0 nt k Q' := by
 intro ex env st c own a h1 hA
 have h2 := h ex env st c own a h1 hA
 cases ex with
 | normal => exact hq _ _ _ h2
 | exit id => exact hq _ _ _ h2
 | ret => exact hq _ _ _ h2
 | pan v => exact fun x hx => hq _ _ _ (h2 x hx)
theorem recHead_some {code : Code} {o : Oper} {ops : Array Oper} {rest : Code} (h : recHead code = some (o, ops, rest)) : ∃ id os, code = .seq (.region id ops false) rest ∧ ops.toList = o :: os ∧ o.guard = none ∧ ∃ ts, o.op = .call { callee := .builtin .recover, args := #[], argTypes := ts } := by
 unfold recHead at h
 split at h
 ·rename_i id ops' rest'
  split at h
  ·rename_i o' os hos
   split at h
   ·rename_i args ts ho hg
    obtain ⟨hz, h1⟩ := condL_some h
    cases h1
    have ha : args = #[] := Array.size_eq_zero_iff.1 (Nat.eq_of_beq_eq_true hz)
    subst ha
    exact ⟨id, os, rfl, hos, hg, ts, ho⟩
   ·cases h
  ·cases h
 ·cases h
theorem evF_soundD (hD : DSound pg D) (hDD : DSoundD pg D) (hP : PgOk pg) : DSoundD pg fun f vs bl pn => evF pg D f vs bl pn := by
 intro f vs bl cur res h
 dsimp only at h
 unfold evF at h
 cases hg : pg.nat f with
 | some g => rw [hg] at h; cases h
 | none =>
 rw [hg] at h
 dsimp only at h
 split at h
 ·rename_i fn hfn
  obtain ⟨hc, h1⟩ := condR_some h
  simp only [Bool.or_eq_false_iff] at hc
  obtain ⟨⟨hb, hname⟩, hlen⟩ := hc
  refine ⟨⟨fn, hfn, hb, hname⟩, fun c own xs u hI hdom hout hl hx hu => ?_⟩
  cases hbody : fn.body with
  | none => rw [hbody] at hb; cases hb
  | some code =>
   have hbo : bodyOf fn = code := by unfold bodyOf; rw [hbody]
   rw [hbo] at h1
   split at h1
   ·rename_i o ops rest hrec
    obtain ⟨id, os, rfl, hops, hg, ts, ho⟩ := recHead_some hrec
    split at h1
    ·rename_i env hp
     have hA0 := At.enter (some none) hI hdom hout hl (nblt hlen) hx
     rw [hops, List.drop_one, List.tail_cons] at h1
     refine callsD_of_wpS hfn hbody fun c₀ cs hc0 => ?_
     have hc0' : ({ c₀ with mode := u } : Go.Frame) = c₀ := by subst hc0; rfl
     refine wpS_seq (wpS_region ?_)
     have hsz : List.range ops.size = 0 :: List.range' 1 os.length := by
      have : ops.size = os.length + 1 := by rw [<- Array.length_toList, hops]; rfl
      rw [this, List.range_eq_range']; rfl
     rw [hsz]
     have ho0 : ops[0]? = some o := by rw [<- Array.getElem?_toList, hops]; rfl
     unfold wpOpsS
     rw [ho0]
     dsimp only
     rw [if_pos (by unfold Region.wanted; rw [hg])]
     generalize ha0 : ({ tmps := xs ++ Array.replicate (fn.ntmps - xs.size) Go.undef, defers := [] } : Act) = a0 at hA0 ⊢
     have hrun : (execOp a0.eval o).run pg.P c.w = .ok .recover c.w := by
      simp [execOp, ho, resolve, invoke, builtin]
     rw [hrun]
     dsimp only
     have go : ∀ (u1 : FrameMode) (x : Value) (v : V), settle u1 = .returning -> VRep pg.P c v x -> putE fn.ntmps (args0 0 vs) o.dst v = some env ->
       wpOpsS pg.P ops (Exit.thenS (rest.wpS pg.P (bodyPostS pg.P fn c₀ cs (fun e u' w' => Ends pg (pg.oo f) c own bl.length res e w' ∧ ((res.pn = some cur ∧ u' = u) ∨ (res.pn = some none ∧ settle u' = .returning))))) (bodyPostS pg.P fn c₀ cs (fun e u' w' => Ends pg (pg.oo f) c own bl.length res e w' ∧ ((res.pn = some cur ∧ u' = u) ∨ (res.pn = some none ∧ settle u' = .returning))))) (List.range' 1 os.length) (a0.put o.dst x) ({ c₀ with mode := u1 } :: cs) c.w := by
      intro u1 x v hset hv hp'
      have hfin : KOk pg (some none) res c own fn.ntmps (kFinD pg D (pg.oo f) fn bl.length) (fun e a w => bodyPostS pg.P fn c₀ cs (fun e u' w' => Ends pg (pg.oo f) c own bl.length res e w' ∧ ((res.pn = some cur ∧ u' = u) ∨ (res.pn = some none ∧ settle u' = .returning))) e a ({ c₀ with mode := u1 } :: cs) w) :=
       (kFinD_sound hDD).mono fun e a w hq => by
        cases e with
        | normal => obtain ⟨g1, v, g2, g3⟩ := hq; exact ⟨g1, u1, rfl, v, g2, g3.1, .inr ⟨g3.2, hset⟩⟩
        | ret => obtain ⟨g1, v, g2, g3⟩ := hq; exact ⟨g1, u1, rfl, v, g2, g3.1, .inr ⟨g3.2, hset⟩⟩
        | panic ch => obtain ⟨g1, g3⟩ := hq; exact ⟨g1, u1, rfl, g3.1, .inr ⟨g3.2, hset⟩⟩
        | outgrown => exact ⟨u1, hq.1, .inr ⟨hq.2, hset⟩⟩
        | exit i => exact hq
        | goto l => exact hq
      rw [<- hops] at h1
      refine evOpsS_sound (c0 := c) (own0 := own) (nt := fn.ntmps) (p0 := some none) (r := res) (k := kSeq (ev pg D f fn.ntmps rest) (kFinD pg D (pg.oo f) fn bl.length)) hD (fun ex env st c1 own1 a h hA => ?_) os 1 env _ c own _ (fun j => ?_) h1 (hA0.step hA0.inv (After.refl _ _) (Ext.refl _) rfl rfl hp' hv)
      ·cases ex with
       | normal => exact wpS_of_wp (ev_sound hD hP.mix rest hfin h hA)
       | exit i => exact hfin (.exit i) env st c1 own1 a h hA
       | ret => exact hfin .ret env st c1 own1 a h hA
       | pan v => exact hfin (.pan v) env st c1 own1 a h hA
      ·rw [<- Array.getElem?_toList, hops, Nat.add_comm]; rfl
     cases cur with
     | none =>
      have hu' : u = .returning := hu
      have hrec : recoverD (c₀ :: cs) = none := by
       have hm : c₀.mode = .returning := hc0.trans hu'
       unfold recoverD
       dsimp only
       split
       ·rename_i he; rw [hm] at he; cases he
       ·rfl
      rw [hrec]
      dsimp only
      have := go u .nilIface .nili (by rw [hu']; rfl) (.pure .nili) hp
      rw [hc0'] at this
      exact this
     | some v =>
      obtain ⟨x, hu', hx'⟩ := hu
      have hrec : recoverD (c₀ :: cs) = some (x, { c₀ with mode := .panicking [{ v := x, recovered := true }] } :: cs) := by
       have hm : c₀.mode = .panicking [{ v := x, recovered := false }] := hc0.trans hu'
       unfold recoverD
       dsimp only
       split
       ·rename_i he; rw [hm] at he; cases he; rfl
       ·rename_i he; exact absurd hm (he _ _)
      rw [hrec]
      dsimp only
      exact go (.panicking [{ v := x, recovered := true }]) x v rfl (.pure hx') hp
    ·cases h1
   ·
    have hw := callsD_of_wp (u := u) hfn hbody (args := xs) (R := EndsP pg (pg.oo f) (some cur) c own bl.length res) (ev_sound hD hP.mix code (kFinD_sound hDD) h1 (At.enter (some cur) hI hdom hout hl (nblt hlen) hx))
    exact hw.mono fun e u' w' hE => ⟨hE.2.1, .inl ⟨hE.2.2, hE.1⟩⟩
 ·cases h
theorem call_sound' (hP : PgOk pg) : ∀ n, DSound pg (call pg n) ∧ DSoundD pg (call pg n)
 | 0 => ⟨(fun f vs bl res h => by cases h), (fun f vs bl cur res h => by cases h)⟩
 | n + 1 => ⟨evF_sound (call_sound' hP n).1 (call_sound' hP n).2 hP, evF_soundD (call_sound' hP n).1 (call_sound' hP n).2 hP⟩
theorem den_sound (hP : PgOk pg) : DSound pg (den pg) := by
 intro f vs bl res h
 unfold den at h
 split at h
 ·rename_i hex
  cases h
  obtain ⟨n, hn⟩ := Classical.choose_spec hex
  exact (call_sound' hP n).1 f vs bl _ hn
 ·cases h
end
end Go.Proofs.Ab
namespace Go.Proofs.Ab
open Go Go.RowKit
def Before (W : World) : Nat -> Nat -> Prop := fun b _ => b < W.heap.size
theorem cell_lt {W : World} {b x : Nat} {y : Value} (h : W.cell? ⟨b, x, none⟩ = some y) : b < W.heap.size := by
 unfold World.cell? at h
 cases hb : W.heap[b]? with
 | none => simp [hb] at h
 | some o => exact (Array.getElem?_eq_some_iff.1 hb).1
theorem Frame.below {own : Own} {w w' : World} (h : Frame own w w') (ho : ∀ b x, own b x = none) : Below w.heap.size w w' := by
 refine ⟨h.os, h.tape, h.output, h.size, fun k hk => ?_⟩
 obtain ⟨o, hb⟩ : ∃ o, w.heap[k]? = some o := ⟨_, Array.getElem?_eq_getElem hk⟩
 rcases h.blk k o hb with h1 | ⟨a, a', e, fr, rfl, h1, h2, h3⟩ | ⟨es, n, es', n', _, _, h1⟩
 ·rw [h1, hb]
 ·have : a' = a := Array.ext_getElem? fun i => h3 i (ho k i)
  subst this
  rw [h1, hb]
 ·exact absurd (ho k 0) h1
theorem law_calls {pg : Pg} (hP : PgOk pg) {f : FuncId} {vs : List V} {v : V} {bl' : List Blk} {pn' : Option (Option V)} (h : den pg f vs [] none = some ⟨.ret v, bl', pn'⟩) {W : World}
  (hgl : ∀ i cs, pg.gl i = some cs -> ∀ j, j < cs.length -> ∃ x, W.cell? ⟨i, j, none⟩ = some x ∧ x.oneCell' = true ∧ PRep pg.P W (Before W) (cs.getD j .undef) x) {xs : Array Value} (hl : vs.length = xs.size)
  (hx : ∀ j, j < vs.length -> PRep pg.P W (Before W) (vs.getD j .undef) (xs.getD j Go.undef)) (hoa : pg.oa f = [] := by rfl) (hoo : pg.oo f = none := by rfl) :
  Calls pg.P f xs W fun e W' => Below W.heap.size W W' ∧ ∃ x prot, e = .returned x ∧ PRep pg.P W' prot v x := by
 let c : Cx := ⟨W, fun _ => none, fun _ => none, Before W, fun _ => False⟩
 have hrows : rowsOf pg [] = 0 := rfl
 have hI : Inv pg c (fun _ _ => none) (fun i => ([] : List Blk)[i]?) (fun p => p < rowsOf pg []) := by
  refine ⟨fun id k hk => by simp at hk, fun t ht => by rw [hrows] at ht; omega, fun b x hp => ⟨rfl, hp⟩, fun b x hn => absurd rfl hn, (fun id r hr => by cases hr), fun i cs hg => ?_⟩
  have hc := hgl i cs hg
  refine .ptr (fun j => if hj : j < cs.length then Classical.choose (hc j hj) else Go.undef) i 0 (fun j hj => ?_) (fun j hj => ?_)
  ·have hs := Classical.choose_spec (hc j hj)
   simp only [hj, dif_pos, Nat.zero_add]
   exact ⟨cell_lt hs.1, hs.1, hs.2.1⟩
  ·have hs := Classical.choose_spec (hc j hj)
   simp only [hj, dif_pos]
   exact hs.2.2
 obtain ⟨_, hcall⟩ := den_sound hP f vs [] _ h
 refine (hcall c (fun _ _ => none) xs (by rw [hoa]; exact hI) (fun p r hr => by cases hr) (fun _ h => h) hl fun j hj => .pure (hx j hj)).mono fun e W' hE => ?_
 obtain ⟨c', own', rfl, ha, _, _, _, hout⟩ := hE
 refine ⟨ha.frame.below fun _ _ => rfl, ?_⟩
 cases e with
 | returned x =>
  have h1 : RetRep pg (pg.oo f) c' v x := hout
  rw [hoo] at h1
  exact ⟨x, c'.prot, rfl, h1⟩
 | panicked ch => exact hout.elim
 | outgrown => exact hout.elim
theorem law_true {pg : Pg} (hP : PgOk pg) {f : FuncId} {vs : List V} {bl' : List Blk} {pn' : Option (Option V)} (h : den pg f vs [] none = some ⟨.ret (.bool true), bl', pn'⟩) {W : World}
  (hgl : ∀ i cs, pg.gl i = some cs -> ∀ j, j < cs.length -> ∃ x, W.cell? ⟨i, j, none⟩ = some x ∧ x.oneCell' = true ∧ PRep pg.P W (Before W) (cs.getD j .undef) x) {xs : Array Value} (hl : vs.length = xs.size)
  (hx : ∀ j, j < vs.length -> PRep pg.P W (Before W) (vs.getD j .undef) (xs.getD j Go.undef)) (hoa : pg.oa f = [] := by rfl) (hoo : pg.oo f = none := by rfl) :
  Calls pg.P f xs W fun e W' => e = .returned (.bool true) ∧ Below W.heap.size W W' :=
 (law_calls hP h hgl hl hx hoa hoo).mono fun e W' ⟨hb, x, prot, he, hp⟩ => by
  cases hp
  exact ⟨he, hb⟩
end Go.Proofs.Ab
namespace Go.Proofs.Ab
open Go
section
variable (pg : Pg)
theorem ev_mono {D D' : DSem} {f : FuncId} {nt : Nat} {c : Code} {k k' : K} (hD : ∀ f vs bl pn r, D f vs bl pn = some r -> D' f vs bl pn = some r) (hk : ∀ ex env st r, k ex env st = some r -> k' ex env st = some r) {env : Env} {st : St} {r : Res}
  (h : ev pg D f nt c env st k = some r) : ev pg D' f nt c env st k' = some r := by
 have hDs : LimD (fun j => if j = 0 then D else D') D' := fun f vs bl pn => by
  refine ⟨fun j r hj => ?_, fun r => ⟨fun h => ⟨1, h⟩, fun ⟨j, hj⟩ => ?_⟩⟩
  ·by_cases h0 : j = 0
   ·subst h0; simpa using hD _ _ _ _ _ (by simpa using hj)
   ·simpa [h0] using hj
  ·by_cases h0 : j = 0
   ·subst h0; exact hD _ _ _ _ _ (by simpa using hj)
   ·simpa [h0] using hj
 have hks : LimK (fun j => if j = 0 then k else k') k' := fun ex env st => by
  refine ⟨fun j r hj => ?_, fun r => ⟨fun h => ⟨1, h⟩, fun ⟨j, hj⟩ => ?_⟩⟩
  ·by_cases h0 : j = 0
   ·subst h0; simpa using hk _ _ _ _ (by simpa using hj)
   ·simpa [h0] using hj
  ·by_cases h0 : j = 0
   ·subst h0; exact hk _ _ _ _ (by simpa using hj)
   ·simpa [h0] using hj
 exact ((ev_lim pg f nt c hDs hks env st).to r).2 ⟨0, by simpa using h⟩
variable (N : Nat)
section
variable (D : DSem) (f : FuncId) (nt : Nat)
def evN : Code -> Env -> St -> K -> Option Res
 | .skip, env, st, k => k .normal env st
 | .label _, env, st, k => k .normal env st
 | .seq a b, env, st, k => evN a env st (kSeq (evN b) k)
 | .cond c a b, env, st, k => (match evO pg env 0 c with
  | .bool t => bif t then evN a (setC env c true) st k else evN b (setC env c false) st k
  | _ => none)
 | .block id c, env, st, k => evN c env st (kBlk id k)
 | .loop c, env, st, k => (match canon pg f (keysOf st.bl) (env, st) with
  | some x => iter (fun rec y => evN c y.1 y.2 (kLoop (canon pg f (keysOf st.bl)) rec k)) (bif Nat.beq (pg.unr f (headId c)) 0 then N else pg.unr f (headId c)) x
  | none => none)
 | .scope c, env, st, k => evN c env st k
 | .exit id, env, st, k => k (.exit id) env st
 | .ret, env, st, k => k .ret env st
 | .region id ops draw, env, st, k =>
  bif (pg.joins f).contains id then (match canon pg f (keysOf st.bl) (env, st) with
   | some x => evReg pg D f nt ops draw x.1 x.2 k
   | none => none)
  else evReg pg D f nt ops draw env st k
 | _, _, _, _ => none
theorem evN_le : ∀ (c : Code) {k : K} {env : Env} {st : St} {r : Res}, evN pg N D f nt c env st k = some r -> ev pg D f nt c env st k = some r := by
 intro c
 induction c with
 | skip => intro k env st r h; exact h
 | label l => intro k env st r h; exact h
 | seq a b iha ihb =>
  intro k env st r h
  show ev pg D f nt a env st (kSeq (ev pg D f nt b) k) = some r
  refine ev_mono pg (fun _ _ _ _ _ h => h) (k := kSeq (evN pg N D f nt b) k) (k' := kSeq (ev pg D f nt b) k) (fun ex env st r h => ?_) (iha h)
  cases ex with
  | normal => exact ihb h
  | _ => exact h
 | cond c a b iha ihb =>
  intro k env st r h
  simp only [evN] at h
  simp only [ev]
  split at h
  ·rename_i t ht
   rw [ht]
   cases t with
   | true => exact iha h
   | false => exact ihb h
  ·cases h
 | block id c ih => intro k env st r h; exact ih h
 | loop c ih =>
  intro k env st r h
  simp only [evN] at h
  simp only [ev]
  split at h
  ·rename_i x hx
   rw [hx]
   have key : ∀ m x r, iter (fun rec y => evN pg N D f nt c y.1 y.2 (kLoop (canon pg f (keysOf st.bl)) rec k)) m x = some r -> LP (ev pg D f nt c) (canon pg f (keysOf st.bl)) k x = some r := by
    intro m
    induction m with
    | zero => intro x r h; cases h
    | succ m ihm =>
     intro x r h
     rw [LP_eq]
     refine ev_mono pg (fun _ _ _ _ _ h => h) (k := kLoop (canon pg f (keysOf st.bl)) (iter (fun rec y => evN pg N D f nt c y.1 y.2 (kLoop (canon pg f (keysOf st.bl)) rec k)) m) k) (fun ex env st r' h => ?_) (ih h)
     cases ex with
     | normal =>
      dsimp only [kLp, kLoop] at h ⊢
      split at h
      ·rename_i y hy
       exact ihm y r' h
      ·cases h
     | _ => exact h
   dsimp only
   cases hu : Nat.beq (pg.unr f (headId c)) 0 with
   | true => rw [hu] at h; exact key N x r h
   | false =>
    rw [hu] at h
    have key2 : ∀ m x r, iter (fun rec y => evN pg N D f nt c y.1 y.2 (kLoop (canon pg f (keysOf st.bl)) rec k)) m x = some r -> iter (fun rec y => ev pg D f nt c y.1 y.2 (kLoop (canon pg f (keysOf st.bl)) rec k)) m x = some r := by
     intro m
     induction m with
     | zero => intro x r h; cases h
     | succ m ihm =>
      intro x r h
      refine ev_mono pg (fun _ _ _ _ _ h => h) (k := kLoop (canon pg f (keysOf st.bl)) (iter (fun rec y => evN pg N D f nt c y.1 y.2 (kLoop (canon pg f (keysOf st.bl)) rec k)) m) k) (fun ex env st r' h => ?_) (ih h)
      cases ex with
      | normal =>
       dsimp only [kLoop] at h ⊢
       split at h
       ·rename_i y hy
        exact ihm y r' h
       ·cases h
      | _ => exact h
    exact key2 _ x r h
  ·cases h
 | scope c ih => intro k env st r h; exact ih h
 | exit id => intro k env st r h; exact h
 | ret => intro k env st r h; exact h
 | region id ops draw =>
  intro k env st r h
  simp only [evN] at h
  simp only [ev, JR_eq]
  exact h
 | goto l => intro k env st r h; cases h
 | rangeFunc g ps a b iha ihb => intro k env st r h; cases h
 | refuse w => intro k env st r h; cases h
end
def evFN (D : DSem) (f : FuncId) (vs : List V) (bl : List Blk) (pn : Option (Option V)) : Option Res :=
 match pg.nat f with
 | some g => (match pn with | none => g vs bl | some _ => none)
 | none =>
 match pg.P.funcs[f]? with
 | some fn => bif fn.body.isNone || fn.name == "runtime.NumGoroutine" || Nat.blt fn.ntmps vs.length then none else
   (match pn with
   | none => evN pg N D f fn.ntmps (bodyOf fn) (args0 0 vs) { bl := (List.range bl.length).zip bl, used := List.range (rowsOf pg bl + ownN (pg.oa f)), dead := [], df := [], pn := none } (kFin pg D (pg.oo f) fn bl.length)
   | some cur => (match recHead (bodyOf fn) with
    | some (o, ops, rest) => (match putE fn.ntmps (args0 0 vs) o.dst (curV cur) with
     | some env => evOps pg D f fn.ntmps ops.toList (ops.toList.drop 1) env { bl := (List.range bl.length).zip bl, used := List.range (rowsOf pg bl + ownN (pg.oa f)), dead := [], df := [], pn := some none } (kSeq (evN pg N D f fn.ntmps rest) (kFinD pg D (pg.oo f) fn bl.length))
     | none => none)
    | none => evN pg N D f fn.ntmps (bodyOf fn) (args0 0 vs) { bl := (List.range bl.length).zip bl, used := List.range (rowsOf pg bl + ownN (pg.oa f)), dead := [], df := [], pn := some cur } (kFinD pg D (pg.oo f) fn bl.length)))
 | none => none
def callN : Nat -> DSem
 | 0 => fun _ _ _ _ => none
 | n + 1 => evFN pg N (callN n)
theorem kFin_mono {D D' : DSem} (hD : ∀ f vs bl pn r, D f vs bl pn = some r -> D' f vs bl pn = some r) {o : Option (List Nat)} {fn : Func} {m : Nat} {ex : Ex} {env : Env} {st : St} {r : Res} (h : kFin pg D o fn m ex env st = some r) : kFin pg D' o fn m ex env st = some r := by
 have hDs : LimD (fun j => if j = 0 then D else D') D' := fun f vs bl pn => by
  refine ⟨fun j r hj => ?_, fun r => ⟨fun h => ⟨1, h⟩, fun ⟨j, hj⟩ => ?_⟩⟩
  ·by_cases h0 : j = 0
   ·subst h0; simpa using hD _ _ _ _ _ (by simpa using hj)
   ·simpa [h0] using hj
  ·by_cases h0 : j = 0
   ·subst h0; exact hD _ _ _ _ _ (by simpa using hj)
   ·simpa [h0] using hj
 exact ((kFin_lim pg hDs o fn m ex env st).to r).2 ⟨0, by simpa using h⟩
theorem kFinD_mono {D D' : DSem} (hD : ∀ f vs bl pn r, D f vs bl pn = some r -> D' f vs bl pn = some r) {o : Option (List Nat)} {fn : Func} {m : Nat} {ex : Ex} {env : Env} {st : St} {r : Res} (h : kFinD pg D o fn m ex env st = some r) : kFinD pg D' o fn m ex env st = some r := by
 unfold kFinD at h ⊢
 split at h
 ·exact kFin_mono pg hD h
 ·cases h
theorem evOps_mono {D D' : DSem} {f : FuncId} {nt : Nat} {k k' : K} (hD : ∀ f vs bl pn r, D f vs bl pn = some r -> D' f vs bl pn = some r) (hk : ∀ ex env st r, k ex env st = some r -> k' ex env st = some r) {all os : List Oper} {env : Env} {st : St} {r : Res}
  (h : evOps pg D f nt all os env st k = some r) : evOps pg D' f nt all os env st k' = some r := by
 have hDs : LimD (fun j => if j = 0 then D else D') D' := fun f vs bl pn => by
  refine ⟨fun j r hj => ?_, fun r => ⟨fun h => ⟨1, h⟩, fun ⟨j, hj⟩ => ?_⟩⟩
  ·by_cases h0 : j = 0
   ·subst h0; simpa using hD _ _ _ _ _ (by simpa using hj)
   ·simpa [h0] using hj
  ·by_cases h0 : j = 0
   ·subst h0; exact hD _ _ _ _ _ (by simpa using hj)
   ·simpa [h0] using hj
 have hks : LimK (fun j => if j = 0 then k else k') k' := fun ex env st => by
  refine ⟨fun j r hj => ?_, fun r => ⟨fun h => ⟨1, h⟩, fun ⟨j, hj⟩ => ?_⟩⟩
  ·by_cases h0 : j = 0
   ·subst h0; simpa using hk _ _ _ _ (by simpa using hj)
   ·simpa [h0] using hj
  ·by_cases h0 : j = 0
   ·subst h0; exact hk _ _ _ _ (by simpa using hj)
   ·simpa [h0] using hj
 exact ((evOps_lim pg hDs hks f nt all os env st).to r).2 ⟨0, by simpa using h⟩
theorem callN_le : ∀ n {f : FuncId} {vs : List V} {bl : List Blk} {pn : Option (Option V)} {r : Res}, callN pg N n f vs bl pn = some r -> den pg f vs bl pn = some r
 | 0, f, vs, bl, pn, r, h => by cases h
 | n + 1, f, vs, bl, pn, r, h => by
  rw [den_eq]
  have h' : evFN pg N (callN pg N n) f vs bl pn = some r := h
  unfold evFN at h'
  unfold evF
  cases hg : pg.nat f with
  | some g =>
   rw [hg] at h'
   cases pn with
   | none => exact h'
   | some c => cases h'
  | none =>
  rw [hg] at h'
  dsimp only at h' ⊢
  split at h'
  ·rename_i fn hf
   rw [hf]
   dsimp only
   cases hc : (fn.body.isNone || fn.name == "runtime.NumGoroutine" || Nat.blt fn.ntmps vs.length) with
   | true => rw [hc] at h'; cases h'
   | false =>
    rw [hc] at h'
    rw [cond_false] at h' ⊢
    have up : ∀ f vs bl pn r, callN pg N n f vs bl pn = some r -> den pg f vs bl pn = some r := fun f vs bl pn r h => callN_le n h
    split at h'
    ·exact ev_mono pg (D := callN pg N n) (k := kFin pg (callN pg N n) (pg.oo f) fn bl.length) up (fun ex env st r h => kFin_mono pg up h) (evN_le pg N (callN pg N n) f fn.ntmps _ h')
    ·rename_i cur
     dsimp only
     split at h'
     ·rename_i o ops rest hrec
      rw [hrec]
      dsimp only
      split at h'
      ·rename_i env hp
       rw [hp]
       dsimp only
       refine evOps_mono pg up (k := kSeq (evN pg N (callN pg N n) f fn.ntmps rest) (kFinD pg (callN pg N n) (pg.oo f) fn bl.length)) (fun ex env st r h => ?_) h'
       cases ex with
       | normal => exact ev_mono pg (D := callN pg N n) (k := kFinD pg (callN pg N n) (pg.oo f) fn bl.length) up (fun ex env st r h => kFinD_mono pg up h) (evN_le pg N (callN pg N n) f fn.ntmps _ h)
       | exit i => exact kFinD_mono pg up h
       | ret => exact kFinD_mono pg up h
       | pan v => exact kFinD_mono pg up h
      ·cases h'
     ·rename_i hrec
      rw [hrec]
      dsimp only
      exact ev_mono pg (D := callN pg N n) (k := kFinD pg (callN pg N n) (pg.oo f) fn bl.length) up (fun ex env st r h => kFinD_mono pg up h) (evN_le pg N (callN pg N n) f fn.ntmps _ h')
  ·cases h'
end
end Go.Proofs.Ab
namespace Go.Proofs.Ab
open Go Go.RowKit
theorem strsOf_some : ∀ {es : List (List V)} {xs : List ByteArray}, strsOf es = some xs -> es = xs.map fun s => [.str s]
 | [], xs, h => by cases h; rfl
 | e :: l, xs, h => by
  unfold strsOf at h
  split at h
  ·rename_i h0; cases h0
  ·rename_i s l' h0
   cases h0
   split at h
   ·rename_i r hr
    cases h
    rw [strsOf_some hr]; rfl
   ·cases h
  ·cases h
theorem natJoin_ok {pg : Pg} {f : FuncId} {e : TypeId} (hb : Bodied pg.P f) (hs : sz pg.P e = 1)
  (h0 : ∀ (a : Option Addr) (c : Nat) (sep : ByteArray) (w : World), Calls pg.P f #[.slice a 0 c, .string sep] w fun e w' => e = .returned (.string ⟨#[]⟩) ∧ w' = w)
  (h1 : ∀ (bk o c : Nat) (xs : List ByteArray) (sep : ByteArray) (w : World), (∀ (j : Nat) x, xs[j]? = some x -> w.cell? ⟨bk, o + j, none⟩ = some (.string x)) -> bk < w.heap.size -> xs.length <= 140737488355328 -> xs.length <= c ->
   (Lib.join (xs.map (·.data.toList)) sep.data.toList).length <= 140737488355328 ->
   Calls pg.P f #[.slice (some ⟨bk, o, none⟩) xs.length c, .string sep] w fun e w' => e = .returned (.string ⟨(Lib.join (xs.map (·.data.toList)) sep.data.toList).toArray⟩) ∧ Below w.heap.size w w') (hoa : pg.oa f = [] := by rfl) (hoo : pg.oo f = none := by rfl) : NatOk pg f (natJoin e) := by
 intro vs bl res h
 unfold natJoin at h
 split at h
 ·rename_i tok e' es sep
  obtain ⟨he, h1'⟩ := condL_some h
  have he : e = e' := by simpa using he
  subst he
  clear h
  split at h1'
  ·rename_i xs hxs
   obtain ⟨⟨hm1, hm2⟩, h2'⟩ := iteL_some h1'
   cases h2'
   refine ⟨hb, fun c own args hI hdom hout hl hx => ?_⟩
   rw [hoo]
   rw [hoa] at hdom
   obtain ⟨x0, x1, rfl⟩ : ∃ x0 x1, args = #[x0, x1] := by
    obtain ⟨l⟩ := args
    match l, hl with
    | [a, b], _ => exact ⟨a, b, rfl⟩
   have hx0 := hx 0 (by simp)
   have hx1 := hx 1 (by simp)
   have hx0 : VRep pg.P c (.sl tok e es) x0 := by simpa using hx0
   have hx1 : VRep pg.P c (.str sep) x1 := by simpa using hx1
   obtain rfl := hx1.str_inv
   obtain ⟨base, cap, arr, rfl, hcap, hfl, hcell⟩ := sl_flat hx0.sl_inv
   have hes := strsOf_some hxs
   have hlen : es.length = xs.length := by rw [hes, List.length_map]
   have fin : ∀ (w' : World), Below c.w.heap.size c.w w' -> Ends pg none c own 0 ⟨.ret (.str (joinB xs sep)), [], none⟩ (.returned (.string (joinB xs sep))) w' := by
    intro w' hB
    have hf : Frame (fun _ _ => none) c.w w' := ⟨hB.os, hB.tape, hB.output, hB.size, fun b o hb => .inl (by rw [hB.block b (Array.getElem?_eq_some_iff.1 hb).1]; exact hb)⟩
    have hext : Ext c { c with w := w' } := ⟨fun b x hp => ⟨hp, hf.cell rfl (hI.np b x hp).2⟩, fun _ _ h => h, fun _ _ h => h⟩
    have hf' : Frame own c.w w' := ⟨hB.os, hB.tape, hB.output, hB.size, fun b o hb => .inl (by rw [hB.block b (Array.getElem?_eq_some_iff.1 hb).1]; exact hb)⟩
    refine ⟨{ c with w := w' }, own, rfl, ⟨hf', fun _ _ _ h => h, hext.prot, fun _ _ h => .inl h, .of rfl rfl⟩, fun i r hi => absurd hi (Nat.not_lt_zero _), ⟨fun id k hk => ?_, fun t ht => ?_, fun b x hp => ⟨(hI.np b x hp).1, Nat.lt_of_lt_of_le (hI.np b x hp).2 hB.size⟩, fun b x hn => Nat.lt_of_lt_of_le (hI.fresh b x hn) hB.size, fun id r hr => hI.dom id r hr, fun i cs hg => (hI.gl i cs hg).mono hext.prot⟩, fun i t cs fz j hi => ?_, .str _⟩
    ·simp at hk
    ·obtain ⟨r, hr⟩ := ht
     exact absurd (hdom t r hr) (Nat.not_lt_zero _)
    ·simp at hi
   by_cases hn : xs = []
   ·subst hn
    have hz : es.length = 0 := by rw [hlen]; rfl
    rw [hz]
    refine (h0 base cap sep c.w).mono fun e w' ⟨he, hw⟩ => ?_
    subst he; subst hw
    exact fin _ (Below.refl _ _)
   ·have hne : es ≠ [] := by intro h; rw [h] at hlen; exact hn (List.length_eq_zero_iff.1 hlen.symm)
    obtain ⟨b, o, rfl, hc⟩ := hcell hne
    have hpos : 0 < xs.length := List.length_pos_iff.2 hn
    have hsz : arr.size = xs.length := by rw [hfl.1, hs, hlen, Nat.mul_one]
    have hjl : (Lib.join (xs.map (·.data.toList)) sep.data.toList).length <= 140737488355328 := by
     have h9 : (joinB xs sep).size = (Lib.join (xs.map (·.data.toList)) sep.data.toList).length := by
      show (List.toArray _).size = _
      rw [List.size_toArray]; rfl
     have : most <= 140737488355328 := by decide
     omega
    have hm : xs.length <= 140737488355328 := Nat.le_trans hm1 (by decide)
    rw [hlen] at hcap ⊢
    refine (h1 b o cap xs sep c.w (fun j x hj => ?_) ?_ hm hcap hjl).mono fun e w' ⟨he, hw⟩ => ?_
    ·have hjl : j < xs.length := (List.getElem?_eq_some_iff.1 hj).1
     have h3 := (hc j (by omega)).2
     have h4 := ((hfl.2 j (by omega)).2 0 (by omega)).1
     rw [hs, Nat.mul_one, Nat.add_zero] at h4
     have h5 : (es.getD j []).getD 0 .undef = .str x := by
      rw [hes]
      simp [List.getD, hj]
     rw [h5] at h4
     rw [h3]
     generalize arr.getD j Go.undef = y at h4 ⊢
     cases h4; rfl
    ·have := (hI.np _ _ (hc 0 (by omega)).1).2
     exact this
    ·subst he
     exact fin w' hw
  ·cases h1'
 ·cases h
end Go.Proofs.Ab
namespace Go.Proofs.YtmhnmelaodhemaaGreatDoor
open Go Go.Proofs.Ab
namespace law12_DeclPlaces
abbrev id : FuncId := 5
end law12_DeclPlaces
namespace law12_known
abbrev id : FuncId := 10
end law12_known
namespace decl_Print
abbrev id : FuncId := 11
end decl_Print
namespace decl_Parse
abbrev id : FuncId := 15
end decl_Parse
namespace law12_long
abbrev id : FuncId := 18
end law12_long
namespace decl_Places
abbrev id : FuncId := 19
end decl_Places
namespace ref12_Places
abbrev id : FuncId := 20
end ref12_Places
namespace decl_Kept
abbrev id : FuncId := 28
end decl_Kept
namespace ref01_Text
abbrev id : FuncId := 36
end ref01_Text
namespace lex_Scan
abbrev id : FuncId := 40
end lex_Scan
namespace decl_Parse_1
abbrev id : FuncId := 41
end decl_Parse_1
namespace decl_reader_line
abbrev id : FuncId := 42
end decl_reader_line
namespace decl_kind
abbrev id : FuncId := 44
end decl_kind
namespace ref12_Parse
abbrev id : FuncId := 45
end ref12_Parse
namespace ref02_Scan
abbrev id : FuncId := 46
end ref02_Scan
namespace lex_IsName
abbrev id : FuncId := 60
end lex_IsName
namespace num_Text
abbrev id : FuncId := 61
end num_Text
namespace ref01_size
abbrev id : FuncId := 66
end ref01_size
namespace ref02_IsName
abbrev id : FuncId := 69
end ref02_IsName
namespace lex_reader_blank
abbrev id : FuncId := 70
end lex_reader_blank
namespace lex_reader_next
abbrev id : FuncId := 71
end lex_reader_next
namespace decl_reader_word
abbrev id : FuncId := 72
end decl_reader_word
namespace decl_reader_full
abbrev id : FuncId := 73
end decl_reader_full
namespace decl_reader_name
abbrev id : FuncId := 74
end decl_reader_name
namespace decl_reader_same
abbrev id : FuncId := 76
end decl_reader_same
namespace decl_reader_side
abbrev id : FuncId := 77
end decl_reader_side
namespace decl_reader_stop
abbrev id : FuncId := 79
end decl_reader_stop
namespace decl_reader_fail
abbrev id : FuncId := 82
end decl_reader_fail
namespace decl_reader_sign
abbrev id : FuncId := 83
end decl_reader_sign
namespace ref12_in_line
abbrev id : FuncId := 85
end ref12_in_line
namespace ref02_Blank
abbrev id : FuncId := 86
end ref02_Blank
namespace ref02_First
abbrev id : FuncId := 87
end ref02_First
namespace lex_letter
abbrev id : FuncId := 103
end lex_letter
namespace lex_isKey
abbrev id : FuncId := 104
end lex_isKey
namespace lex_inner
abbrev id : FuncId := 105
end lex_inner
namespace ref01_Neg
abbrev id : FuncId := 110
end ref01_Neg
namespace ref03_Tight
abbrev id : FuncId := 111
end ref03_Tight
namespace ref02_inner
abbrev id : FuncId := 114
end ref02_inner
namespace ref02_letter
abbrev id : FuncId := 115
end ref02_letter
namespace ref02_in
abbrev id : FuncId := 116
end ref02_in
namespace ref02_Keys
abbrev id : FuncId := 117
end ref02_Keys
namespace lex_reader_word
abbrev id : FuncId := 118
end lex_reader_word
namespace lex_digit
abbrev id : FuncId := 119
end lex_digit
namespace num_Parse
abbrev id : FuncId := 120
end num_Parse
namespace lex_sign
abbrev id : FuncId := 121
end lex_sign
namespace syntax_ReadExpr
abbrev id : FuncId := 122
end syntax_ReadExpr
namespace ref12_in_is
abbrev id : FuncId := 123
end ref12_in_is
namespace ref12_in_most
abbrev id : FuncId := 124
end ref12_in_most
namespace ref12_in_name
abbrev id : FuncId := 125
end ref12_in_name
namespace ref12_in_take
abbrev id : FuncId := 126
end ref12_in_take
namespace ref12_in_side
abbrev id : FuncId := 127
end ref12_in_side
namespace ref03_ReadExpr
abbrev id : FuncId := 128
end ref03_ReadExpr
namespace ref12_in_fail
abbrev id : FuncId := 129
end ref12_in_fail
namespace ref02_run
abbrev id : FuncId := 130
end ref02_run
namespace ref02_digit
abbrev id : FuncId := 131
end ref02_digit
namespace ref01_Parse
abbrev id : FuncId := 132
end ref01_Parse
namespace ref02_Signs
abbrev id : FuncId := 133
end ref02_Signs
namespace ref01_Sub
abbrev id : FuncId := 159
end ref01_Sub
namespace ref02_between
abbrev id : FuncId := 160
end ref02_between
namespace lex_Right
abbrev id : FuncId := 161
end lex_Right
namespace syntax_ReadExpr_1
abbrev id : FuncId := 162
end syntax_ReadExpr_1
namespace syntax_caught
abbrev id : FuncId := 163
end syntax_caught
namespace syntax_reader_expr
abbrev id : FuncId := 164
end syntax_reader_expr
namespace ref02_Right
abbrev id : FuncId := 165
end ref02_Right
namespace ref03_In_expr
abbrev id : FuncId := 166
end ref03_In_expr
namespace syntax_level
abbrev id : FuncId := 171
end syntax_level
namespace ref01_number
abbrev id : FuncId := 172
end ref01_number
namespace ref01_plus
abbrev id : FuncId := 173
end ref01_plus
namespace ref01_Bits
abbrev id : FuncId := 174
end ref01_Bits
namespace ref01_other
abbrev id : FuncId := 175
end ref01_other
namespace lex_written
abbrev id : FuncId := 176
end lex_written
namespace syntax_tokens_deep
abbrev id : FuncId := 177
end syntax_tokens_deep
namespace syntax_reader_begins
abbrev id : FuncId := 178
end syntax_reader_begins
namespace syntax_reader_bin
abbrev id : FuncId := 179
end syntax_reader_bin
namespace ref02_Text
abbrev id : FuncId := 180
end ref02_Text
namespace ref03_In_part
abbrev id : FuncId := 181
end ref03_In_part
namespace ref03_In_opens
abbrev id : FuncId := 182
end ref03_In_opens
namespace ref03_In_tight
abbrev id : FuncId := 183
end ref03_In_tight
namespace syntax_tokens_wrong
abbrev id : FuncId := 191
end syntax_tokens_wrong
namespace syntax_tokens_is
abbrev id : FuncId := 192
end syntax_tokens_is
namespace syntax_reader_unary
abbrev id : FuncId := 193
end syntax_reader_unary
namespace syntax_reader_sign
abbrev id : FuncId := 194
end syntax_reader_sign
namespace ref03_In_fail
abbrev id : FuncId := 195
end ref03_In_fail
namespace ref03_In_kind
abbrev id : FuncId := 196
end ref03_In_kind
namespace ref03_In_is
abbrev id : FuncId := 197
end ref03_In_is
namespace ref03_In_one
abbrev id : FuncId := 198
end ref03_In_one
namespace syntax_tokens_has
abbrev id : FuncId := 201
end syntax_tokens_has
namespace syntax_tokens_need
abbrev id : FuncId := 202
end syntax_tokens_need
namespace syntax_tokens_name
abbrev id : FuncId := 203
end syntax_tokens_name
namespace ref03_In_got
abbrev id : FuncId := 204
end ref03_In_got
namespace ref03_In_want
abbrev id : FuncId := 205
end ref03_In_want
namespace ref03_In_word
abbrev id : FuncId := 206
end ref03_In_word
abbrev T_n0 : TypeId := 0
abbrev T_int : TypeId := 3
abbrev T_uint8 : TypeId := 5
abbrev T_string : TypeId := 9
abbrev T_parallaxref12_File : TypeId := 27
abbrev T_api_Errno : TypeId := 30
abbrev T_decl_File : TypeId := 37
abbrev T_L_int : TypeId := 45
abbrev T_A5_L_int : TypeId := 46
abbrev T_api_Pair : TypeId := 73
abbrev T_gen_Keep : TypeId := 77
abbrev T_L_string : TypeId := 79
abbrev T_decl_Keep : TypeId := 85
abbrev T_decl_Break : TypeId := 89
abbrev T_decl_Watch : TypeId := 91
abbrev T_parallaxref12_Keep : TypeId := 93
abbrev T_parallaxref12_Break : TypeId := 94
abbrev T_parallaxref12_Watch : TypeId := 95
abbrev T_api_Expr : TypeId := 100
abbrev T_decl_given : TypeId := 107
abbrev T_decl_reader : TypeId := 111
abbrev T_api_Token : TypeId := 113
abbrev T_lex_reader : TypeId := 166
abbrev T_parallaxref12_in : TypeId := 182
abbrev T_syntax_tokens : TypeId := 261
abbrev T_syntax_reader : TypeId := 264
abbrev T_parallaxref03_In : TypeId := 268
abbrev T_syntax_given : TypeId := 281
def keepTab : List (List (Nat × Bool)) := [[], [], [], [], [], [(3, false), (5, false), (7, false), (8, false)], [], [], [], [(1, false), (3, false), (4, false), (5, false)], [], [(1, false), (4, false), (18, false), (19, false), (20, false), (61, false), (62, false), (63, false), (102, false), (103, false), (104, false), (142, false), (143, false), (144, false), (167, false), (168, false), (169, false)], [(1, false), (2, false), (3, false), (4, false), (5, false), (7, false)], [(1, false), (4, true), (5, false), (6, false), (8, false), (9, false), (14, false)], [(1, false), (3, false), (4, false), (6, false), (8, false), (9, false), (10, false), (11, false), (12, false)], [(2, false), (3, false), (4, false), (6, false)], [(2, false), (3, false), (5, false), (6, false), (7, false), (8, false), (9, false), (10, false)], [(1, false), (2, false), (3, false), (4, false), (5, false), (7, false)], [], [(2, false), (4, false), (11, false), (30, false), (31, false), (32, false)], [(2, false), (4, false), (8, false), (9, false), (12, false), (13, false)], [], [(3, false), (6, false), (8, false), (14, false), (27, false), (28, false), (68, false), (69, false), (73, false), (74, false)], [(3, false), (4, false), (5, false), (6, false), (12, false), (14, false), (19, false), (21, false)], [(1, false), (2, false), (3, false), (4, false), (6, false), (8, false), (10, false), (12, false)], [(1, false), (2, false), (3, false), (5, false), (6, false), (7, false), (8, false), (9, false), (10, false)], [], [(1, false), (2, false), (5, false), (6, false), (7, false)], [(1, false), (2, false), (5, false), (6, false), (13, false), (14, false), (15, false), (39, false), (40, false), (41, false)], [(5, false), (6, false), (7, false)], [(0, false), (1, false), (6, false), (7, false), (8, false)], [], [], [(0, false), (51, false), (52, false), (53, false)], [], [], [(0, false), (3, false), (4, false)], [], [(0, false), (3, false), (4, false)], [(0, false), (3, false)], [(5, false), (6, true)], [], [], [(0, false), (1, false), (5, false)], [], [(2, false), (8, false), (9, false)], [(0, false), (5, true), (6, false)], [(1, false), (2, false), (5, false), (6, false), (7, false)], [(1, false), (2, false), (3, false), (6, false), (20, false), (21, false), (22, false)], [], [(0, false), (4, false), (5, false), (8, false), (9, false)], [(1, false), (4, false), (6, false), (7, false), (9, false), (10, false)], [], [(2, false), (6, false), (9, false), (10, false)], [(3, false), (7, false), (9, false), (10, false)], [(2, false), (3, false), (6, false), (7, false), (8, false), (9, false), (10, false)], [(1, false), (3, false), (4, true), (5, false), (6, false)], [(0, false), (3, false), (4, false)], [(1, false), (2, false), (5, false), (6, false)], [(1, false), (2, false), (5, false), (6, false), (7, false)], [(0, false), (22, false), (23, false)], [(0, false), (3, false), (4, false), (5, false)], [], [], [], [], [], [(1, false), (3, false), (4, false), (5, false), (6, false), (7, false)], [], [(0, false), (3, false)], [(0, false)], [], [], [], [], [], [(0, false), (2, false), (3, false), (12, false), (13, false)], [], [], [], [], [], [], [], [], [(0, false), (3, false), (4, false), (7, true), (8, false)], [(0, false), (3, false), (4, false)], [(0, false), (2, false), (4, false), (8, false)], [(0, false), (1, false), (5, false), (6, false), (7, false)], [(1, false), (3, false), (14, false), (15, false), (16, false), (29, false), (30, false), (31, false)], [(0, false), (2, false), (3, false), (4, false), (42, false), (43, false), (44, false)], [(3, false), (6, false), (7, false), (8, false)], [(5, false), (34, false), (35, false), (36, false)], [(0, false), (5, false), (6, false), (37, false), (38, false), (39, false)], [], [(0, false), (5, false), (6, false), (48, false), (49, false), (50, false)], [], [(1, false), (2, false), (5, false)], [], [(1, false), (2, false), (3, false), (9, false), (10, false), (15, false)], [(0, false), (1, false), (5, true), (6, false), (7, false)], [(3, false), (4, false), (5, false), (6, false), (7, false), (11, false), (78, false)], [(0, false), (3, false)], [], [(0, false), (5, false), (6, false)], [], [], [], [], [], [], [(0, false), (3, false), (4, false), (5, false)], [], [], [], [], [(0, false), (1, false), (5, false)], [], [(0, false), (3, false)], [], [(4, false), (5, false), (6, false), (7, false), (8, false)], [(0, false), (3, false), (6, false), (7, false)], [(0, false), (1, false), (4, false), (5, false), (6, false), (7, false)], [], [], [], [], [], [], [], [(0, false), (3, false)], [], [(0, false), (4, false), (5, false)], [], [], [], [(1, false), (3, true), (7, false), (8, false), (9, false)], [], [(0, false), (6, false), (7, false), (8, false)], [(5, false), (6, false), (7, false)], [(2, false), (21, false), (22, false), (23, false)], [(3, false), (8, false), (28, false), (29, false), (30, false)], [], [(0, false), (1, false), (2, false), (7, false)], [], [], [], [], [], [(0, false), (3, false)], [(2, false), (3, false), (4, false), (5, false), (9, false), (10, false), (11, false), (12, false)], [], [], [], [], [], [(3, true), (6, false), (7, false), (8, false)], [], [], [], [], [(0, false), (7, false), (8, false), (9, false)], [], [], [], [(0, false), (3, false), (4, false)], [], [(1, false), (5, true), (6, false), (15, false), (16, false), (17, false)], [(0, false), (3, false), (39, false)], [], [], [], [(0, false), (3, false), (4, false)], [(0, false), (1, false), (2, false), (7, true), (8, false)], [(0, false), (3, true), (4, false)], [(0, false), (3, true), (4, false)], [], [], [], [(0, false), (1, false), (2, false), (6, false), (7, false), (8, false)], [], [], [], [(0, false), (1, false), (2, false), (6, false), (7, false), (8, false)], [], [], [], [(0, false), (3, false), (4, false), (24, false), (25, false), (26, false)], [], [], [], [], [], [(0, false), (1, false), (4, false), (11, false), (12, false)], [], [], [], [], [], [(1, false), (2, false), (9, false), (10, false), (11, false)], [(0, false), (1, false), (4, false), (11, false), (12, false), (13, false)], [], [], [], [], [], []]
def glTab (g : Nat) : Option (List V) := match g with | 0 => some [.str ⟨#[112, 114, 111, 99]⟩, .str ⟨#[118, 97, 114]⟩, .str ⟨#[105, 102]⟩, .str ⟨#[101, 108, 115, 101]⟩, .str ⟨#[119, 104, 105, 108, 101]⟩, .str ⟨#[114, 101, 116, 117, 114, 110]⟩, .str ⟨#[112, 114, 105, 110, 116]⟩, .str ⟨#[114, 101, 97, 100]⟩, .str ⟨#[97, 115, 115, 101, 114, 116]⟩, .str ⟨#[105, 110, 116]⟩, .str ⟨#[98, 111, 111, 108]⟩, .str ⟨#[116, 114, 117, 101]⟩, .str ⟨#[102, 97, 108, 115, 101]⟩] | 1 => some [.str ⟨#[61, 61]⟩, .str ⟨#[33, 61]⟩, .str ⟨#[60, 61]⟩, .str ⟨#[38, 38]⟩, .str ⟨#[124, 124]⟩, .str ⟨#[40]⟩, .str ⟨#[41]⟩, .str ⟨#[123]⟩, .str ⟨#[125]⟩, .str ⟨#[91]⟩, .str ⟨#[93]⟩, .str ⟨#[44]⟩, .str ⟨#[59]⟩, .str ⟨#[61]⟩, .str ⟨#[60]⟩, .str ⟨#[33]⟩, .str ⟨#[43]⟩, .str ⟨#[45]⟩, .str ⟨#[42]⟩, .str ⟨#[47]⟩, .str ⟨#[37]⟩] | _ => none
noncomputable def Sp : Pg where
 P := Tryz.prog
 gl := glTab
 pz := fun e => ([2] : List Nat).contains e
 keep := fun f => keepTab.getD f []
 own := fun t => match t with | 74 => [0] | 81 => [0] | 111 => [2, 3, 4, 5, 6] | 211 => [0] | _ => []
 joins := fun f => match f with | 67 => [3, 4, 5, 6, 9] | 93 => [9, 17, 18] | 99 => [3, 4, 5, 6, 15, 16, 24, 25, 26, 27, 35, 36] | 101 => [3, 4, 5, 6, 20, 21, 33] | 122 => [2, 3] | 168 => [2, 3, 23, 25] | _ => []
 nat := fun f => match f with | 34 => some (natJoin 9) | _ => none
 pan := fun f => match f with | 42 => some 107 | 73 => some 107 | 74 => some 107 | 75 => some 107 | 76 => some 107 | 77 => some 107 | 78 => some 107 | 79 => some 107 | 80 => some 107 | 81 => some 107 | 82 => some 107 | 83 => some 107 | 137 => some 231 | 138 => some 231 | 164 => some 281 | 168 => some 231 | 170 => some 231 | 177 => some 281 | 179 => some 281 | 184 => some 231 | 185 => some 231 | 186 => some 231 | 187 => some 231 | 188 => some 231 | 190 => some 231 | 191 => some 281 | 193 => some 281 | 200 => some 231 | 202 => some 281 | 203 => some 281 | _ => none
 mutl := fun f => match f with | 19 => [4] | 20 => [4] | _ => []
 dfs := true
 unr := fun f h => match f, h with | 76, 4 => 3 | 22, 4 => 3 | _, _ => 0
 pre := fun f t => match f, t with | 74, 111 => some 2 | 72, 111 => some 2 | 83, 111 => some 2 | 77, 111 => some 2 | 82, 111 => some 2 | 73, 111 => some 2 | 76, 111 => some 2 | 79, 111 => some 2 | _, _ => none
 nbx := fun f => match f with | 75 => [9] | 78 => [9] | 80 => [9] | 81 => [9] | _ => []
 oa := fun f => match f with | 85 => [none, some [0, 1, 2, 3, 4]] | _ => []
 oo := fun f => match f with | 85 => some [0, 1, 2, 3, 4] | _ => none
 inl := fun f => match f with | 75 => true | 78 => true | 80 => true | 81 => true | _ => false
end Go.Proofs.YtmhnmelaodhemaaGreatDoor
namespace Go.Proofs.Ab
open Go Go.ChangeShapes Go.WideShapes Go.ChangeAt Go.WideMaps Go.WideElems Go.RowKit
theorem laid_strings {H : Type} {enc : TypeId × Value -> H} {P : Program} {W : World} {base : Nat} {spare : Nat -> Bool} {held : Bool} {name : String} {g t e n fuel : Nat} {cs : Array Value} {ls : List (List UInt8)} {p : List MemPlace} (hg : P.globalNamed name = some g)
  (hu : P.underlying t = some (.array n e)) (he : P.underlying e = some .string) (hc : P.cellsOf e = 1) (hv : W.var? P name = some cs)
  (hd : DataW.trod enc P W base spare held fuel t cs.toList = some (.agg (ls.map fun l => .lit (.string l)), p)) : ∀ j l, ls[j]? = some l -> W.cell? ⟨g, j, none⟩ = some (.string ⟨l.toArray⟩) := by
 intro j l hj
 obtain ⟨xs, m, _, hx, hl, hn, hel⟩ := DataW.trod_array hu hd
 simp only [Prod.mk.injEq, DataW.agg.injEq] at hx
 obtain ⟨hx, _⟩ := hx
 have hlen : ls.length = xs.length := by
  have := congrArg List.length hx
  simpa using this
 have hjl : j < ls.length := (List.getElem?_eq_some_iff.1 hj).1
 have hjx : j < xs.length := by omega
 have h1 := hel j (by omega)
 rw [List.getElem?_eq_getElem hjx, hc] at h1
 obtain ⟨s, h2, h3, _⟩ := DataW.trod_string he h1
 have h4 : (xs.map (·.1))[j]? = some (.lit (.string l)) := by
  rw [<- hx, List.getElem?_map, hj]; rfl
 rw [List.getElem?_map, List.getElem?_eq_getElem hjx, h3] at h4
 have h5 : s.data.toList = l := by simpa using h4
 have h6 : s = ⟨l.toArray⟩ := by
  cases s with
  | mk d => subst h5; simp
 have h7 := World.var?_cell hg hv j
 rw [h7]
 have h8 : cs.toList[j]? = some (.string s) := by
  have h9 : ((cs.toList.drop (j * 1)).take 1)[0]? = some (.string s) := by rw [h2]; rfl
  rw [List.getElem?_take, if_pos (by omega), List.getElem?_drop] at h9
  simpa using h9
 rw [<- h6]
 simpa using h8
theorem gl_strings {P : Program} {W : World} {g : Nat} {ls : List (List UInt8)} (h : ∀ j l, ls[j]? = some l -> W.cell? ⟨g, j, none⟩ = some (.string ⟨l.toArray⟩)) :
  ∀ j, j < (ls.map fun l => V.str ⟨l.toArray⟩).length -> ∃ x, W.cell? ⟨g, j, none⟩ = some x ∧ x.oneCell' = true ∧ PRep P W (Before W) ((ls.map fun l => V.str ⟨l.toArray⟩).getD j .undef) x := by
 intro j hj
 have hj' : j < ls.length := by simpa using hj
 refine ⟨_, h j ls[j] (List.getElem?_eq_getElem hj'), rfl, ?_⟩
 rw [List.getD_eq_getElem?_getD, List.getElem?_map, List.getElem?_eq_getElem hj']
 exact .str _
end Go.Proofs.Ab
namespace Go.Proofs.YtmhnmelaodhemaaGreatDoor
open Go Go.Shelf Go.Proofs Go.Proofs.Ab
def joinRen : Ren := ⟨fun | 156 => 34 | 165 => 63 | 166 => 64 | 169 => 65 | 240 => 108 | 241 => 109 | 276 => 157 | 277 => 158 | n => n, fun | 31 => 79 | 9 => 9 | 3 => 3 | 4 => 4 | 0 => 0 | 20 => 20 | 72 => 153 | 76 => 156 | 70 => 150 | 37 => 151 | 75 => 155 | 127 => 214 | 164 => 250 | 5 => 5 | 80 => 158 | n => n, fun n => n⟩
theorem joinLays : Lays.n156 Tryz.prog joinRen := { mixed := by kernel_rfl, f156 := Tryz.func34.trans (congrArg some (by kernel_rfl)), f165 := Tryz.func63.trans (congrArg some (by kernel_rfl)), f166 := Tryz.func64.trans (congrArg some (by kernel_rfl)), f169 := Tryz.func65.trans (congrArg some (by kernel_rfl)), f240 := Tryz.func108.trans (congrArg some (by kernel_rfl)), f241 := Tryz.func109.trans (congrArg some (by kernel_rfl)), f276 := Tryz.func157.trans (congrArg some (by kernel_rfl)), f277 := Tryz.func158.trans (congrArg some (by kernel_rfl)), t0 := Tryz.underlying0, a0 := Tryz.isAgg0, z0 := Tryz.sizeOf0, v0 := Tryz.zeroValue0, t3 := Tryz.underlying3, a3 := Tryz.isAgg3, z3 := Tryz.sizeOf3, v3 := Tryz.zeroValue3, t4 := Tryz.underlying4, a4 := Tryz.isAgg4, z4 := Tryz.sizeOf4, v4 := Tryz.zeroValue4, t9 := Tryz.underlying9, a9 := Tryz.isAgg9, z9 := Tryz.sizeOf9, v9 := Tryz.zeroValue9, t20 := Tryz.underlying20, a20 := Tryz.isAgg20, z20 := Tryz.sizeOf20, v20 := Tryz.zeroValue20, t31 := Tryz.underlying79, a31 := Tryz.isAgg79, z31 := Tryz.sizeOf79, v31 := Tryz.zeroValue79, t37 := Tryz.underlying151, a37 := Tryz.isAgg151, z37 := Tryz.sizeOf151, v37 := Tryz.zeroValue151, t70 := Tryz.underlying150, a70 := Tryz.isAgg150, z70 := Tryz.sizeOf150, v70 := Tryz.zeroValue150, t72 := Tryz.underlying153, a72 := Tryz.isAgg153, z72 := Tryz.sizeOf153, v72 := Tryz.zeroValue153, t75 := Tryz.underlying155, a75 := Tryz.isAgg155, z75 := Tryz.sizeOf155, v75 := Tryz.zeroValue155, t76 := Tryz.underlying156, a76 := Tryz.isAgg156, z76 := Tryz.sizeOf156, v76 := Tryz.zeroValue156, t127 := Tryz.underlying214, a127 := Tryz.isAgg214, z127 := Tryz.sizeOf214, v127 := Tryz.zeroValue214, t164 := Tryz.underlying250, a164 := Tryz.isAgg250, z164 := Tryz.sizeOf250, v164 := Tryz.zeroValue250 }
theorem joinExtra : Builder.Extra Tryz.prog joinRen := { sizeBuilder := by kernel_rfl, liesBuilder := by kernel_rfl, t5 := Tryz.underlying5, a5 := Tryz.isAgg5, z5 := Tryz.sizeOf5, v5 := Tryz.zeroValue5, infoByte := by kernel_rfl, cellsByte := by kernel_rfl, sizeByte := by kernel_rfl, neB5 := by decide }
theorem natJoin_at : NatOk Sp 34 (natJoin 9) := natJoin_ok (pg := Sp) ⟨_, Tryz.func34, by kernel_rfl, by kernel_rfl⟩ (by kernel_rfl) (fun a c sep w => Any.strings_Join_none joinLays joinExtra a c sep w) (fun bk o c xs sep w h1 h2 h3 h4 h5 => Any.strings_Join joinLays joinExtra bk o c xs sep w h1 h2 h3 h4 h5)
theorem nat_is (f : FuncId) : Sp.nat f = if f = 34 then some (natJoin 9) else none := by
 by_cases hf : f = 34
 ·subst hf; rfl
 ·rw [if_neg hf]
  show (match f with | 34 => some (natJoin 9) | _ => none) = none
  split
  ·exact absurd rfl hf
  ·rfl
theorem nat_ok : ∀ f g, Sp.nat f = some g -> NatOk Sp f g := by
 intro f g h
 rw [nat_is] at h
 split at h
 ·rename_i hf
  subst hf
  cases h; exact natJoin_at
 ·cases h
end Go.Proofs.YtmhnmelaodhemaaGreatDoor
namespace Go.Proofs.Ab
open Go
section
variable {R : Type}
@[simp] theorem onRet_ret (v : V) (bl : List Blk) (pn : Option (Option V)) (k : V -> Option R) : Res.onRet ⟨.ret v, bl, pn⟩ k = k v := rfl
@[simp] theorem bl_mk (o : Out) (bl : List Blk) (pn : Option (Option V)) : Res.bl ⟨o, bl, pn⟩ = bl := rfl
@[simp] theorem onOut_ret (v : V) (bl : List Blk) (pn : Option (Option V)) (k kp : V -> Option R) : Res.onOut ⟨.ret v, bl, pn⟩ k kp = k v := rfl
@[simp] theorem onOut_pan (v : V) (bl : List Blk) (pn : Option (Option V)) (k kp : V -> Option R) : Res.onOut ⟨.pan v, bl, pn⟩ k kp = kp v := rfl
@[simp] theorem onPn_none (o : Out) (bl : List Blk) (k0 : Option R) (k1 : V -> Option R) : Res.onPn ⟨o, bl, some none⟩ k0 k1 = k0 := rfl
@[simp] theorem onPn_some (o : Out) (bl : List Blk) (v : V) (k0 : Option R) (k1 : V -> Option R) : Res.onPn ⟨o, bl, some (some v)⟩ k0 k1 = k1 v := rfl
@[simp] theorem asBool_bool (b : Bool) (k : Bool -> Option R) : V.asBool (.bool b) k = k b := rfl
@[simp] theorem asStr_str (s : ByteArray) (k : ByteArray -> Option R) : V.asStr (.str s) k = k s := rfl
@[simp] theorem asInt_int (kd : IntKind) (n : Int) (k : Int -> Option R) : V.asInt (.int kd n) kd k = k n := by simp [V.asInt]
@[simp] theorem asSl_sl (t : Tok) (e : TypeId) (es : List (List V)) (k : List (List V) -> Option R) : V.asSl (.sl t e es) e k = k es := by simp [V.asSl]
@[simp] theorem asSlR_sl (p : Nat) (e : TypeId) (es : List (List V)) (k : List (List V) -> Option R) : V.asSlR (.sl (.row p) e es) p e k = k es := by simp [V.asSlR]
@[simp] theorem asIface_iface (t : TypeId) (v : V) (k : V -> Option R) : V.asIface (.iface t v) t k = k v := by simp [V.asIface]
@[simp] theorem asTup_tup (vs : List V) (n : Nat) (h : vs.length = n) (k : (Nat -> V) -> Option R) : V.asTup (.tup vs) n k = k (fun j => vs.getD j .undef) := by simp [V.asTup, h]
@[simp] theorem asAgg_agg (vs : List V) (n : Nat) (h : vs.length = n) (k : (Nat -> V) -> Option R) : V.asAgg (.agg vs) n k = k (fun j => vs.getD j .undef) := by simp [V.asAgg, h]
@[simp] theorem asTup_0 (k : (Nat -> V) -> Option R) : V.asTup (.tup []) 0 k = k (fun j => List.getD [] j .undef) := rfl
@[simp] theorem asAgg_0 (k : (Nat -> V) -> Option R) : V.asAgg (.agg []) 0 k = k (fun j => List.getD [] j .undef) := rfl
@[simp] theorem asCells_0 (t : TypeId) (k : (Nat -> V) -> Option R) : Blk.asCells (.cells t [] false) t 0 k = k (fun j => List.getD [] j .undef) := by simp [Blk.asCells]
@[simp] theorem asTup_1 (x0 : V) (k : (Nat -> V) -> Option R) : V.asTup (.tup [x0]) 1 k = k (fun j => List.getD [x0] j .undef) := rfl
@[simp] theorem asAgg_1 (x0 : V) (k : (Nat -> V) -> Option R) : V.asAgg (.agg [x0]) 1 k = k (fun j => List.getD [x0] j .undef) := rfl
@[simp] theorem asCells_1 (t : TypeId) (x0 : V) (k : (Nat -> V) -> Option R) : Blk.asCells (.cells t [x0] false) t 1 k = k (fun j => List.getD [x0] j .undef) := by simp [Blk.asCells]
@[simp] theorem asTup_2 (x0 x1 : V) (k : (Nat -> V) -> Option R) : V.asTup (.tup [x0, x1]) 2 k = k (fun j => List.getD [x0, x1] j .undef) := rfl
@[simp] theorem asAgg_2 (x0 x1 : V) (k : (Nat -> V) -> Option R) : V.asAgg (.agg [x0, x1]) 2 k = k (fun j => List.getD [x0, x1] j .undef) := rfl
@[simp] theorem asCells_2 (t : TypeId) (x0 x1 : V) (k : (Nat -> V) -> Option R) : Blk.asCells (.cells t [x0, x1] false) t 2 k = k (fun j => List.getD [x0, x1] j .undef) := by simp [Blk.asCells]
@[simp] theorem asTup_3 (x0 x1 x2 : V) (k : (Nat -> V) -> Option R) : V.asTup (.tup [x0, x1, x2]) 3 k = k (fun j => List.getD [x0, x1, x2] j .undef) := rfl
@[simp] theorem asAgg_3 (x0 x1 x2 : V) (k : (Nat -> V) -> Option R) : V.asAgg (.agg [x0, x1, x2]) 3 k = k (fun j => List.getD [x0, x1, x2] j .undef) := rfl
@[simp] theorem asCells_3 (t : TypeId) (x0 x1 x2 : V) (k : (Nat -> V) -> Option R) : Blk.asCells (.cells t [x0, x1, x2] false) t 3 k = k (fun j => List.getD [x0, x1, x2] j .undef) := by simp [Blk.asCells]
@[simp] theorem asTup_4 (x0 x1 x2 x3 : V) (k : (Nat -> V) -> Option R) : V.asTup (.tup [x0, x1, x2, x3]) 4 k = k (fun j => List.getD [x0, x1, x2, x3] j .undef) := rfl
@[simp] theorem asAgg_4 (x0 x1 x2 x3 : V) (k : (Nat -> V) -> Option R) : V.asAgg (.agg [x0, x1, x2, x3]) 4 k = k (fun j => List.getD [x0, x1, x2, x3] j .undef) := rfl
@[simp] theorem asCells_4 (t : TypeId) (x0 x1 x2 x3 : V) (k : (Nat -> V) -> Option R) : Blk.asCells (.cells t [x0, x1, x2, x3] false) t 4 k = k (fun j => List.getD [x0, x1, x2, x3] j .undef) := by simp [Blk.asCells]
@[simp] theorem asTup_5 (x0 x1 x2 x3 x4 : V) (k : (Nat -> V) -> Option R) : V.asTup (.tup [x0, x1, x2, x3, x4]) 5 k = k (fun j => List.getD [x0, x1, x2, x3, x4] j .undef) := rfl
@[simp] theorem asAgg_5 (x0 x1 x2 x3 x4 : V) (k : (Nat -> V) -> Option R) : V.asAgg (.agg [x0, x1, x2, x3, x4]) 5 k = k (fun j => List.getD [x0, x1, x2, x3, x4] j .undef) := rfl
@[simp] theorem asCells_5 (t : TypeId) (x0 x1 x2 x3 x4 : V) (k : (Nat -> V) -> Option R) : Blk.asCells (.cells t [x0, x1, x2, x3, x4] false) t 5 k = k (fun j => List.getD [x0, x1, x2, x3, x4] j .undef) := by simp [Blk.asCells]
@[simp] theorem asTup_6 (x0 x1 x2 x3 x4 x5 : V) (k : (Nat -> V) -> Option R) : V.asTup (.tup [x0, x1, x2, x3, x4, x5]) 6 k = k (fun j => List.getD [x0, x1, x2, x3, x4, x5] j .undef) := rfl
@[simp] theorem asAgg_6 (x0 x1 x2 x3 x4 x5 : V) (k : (Nat -> V) -> Option R) : V.asAgg (.agg [x0, x1, x2, x3, x4, x5]) 6 k = k (fun j => List.getD [x0, x1, x2, x3, x4, x5] j .undef) := rfl
@[simp] theorem asCells_6 (t : TypeId) (x0 x1 x2 x3 x4 x5 : V) (k : (Nat -> V) -> Option R) : Blk.asCells (.cells t [x0, x1, x2, x3, x4, x5] false) t 6 k = k (fun j => List.getD [x0, x1, x2, x3, x4, x5] j .undef) := by simp [Blk.asCells]
@[simp] theorem asTup_7 (x0 x1 x2 x3 x4 x5 x6 : V) (k : (Nat -> V) -> Option R) : V.asTup (.tup [x0, x1, x2, x3, x4, x5, x6]) 7 k = k (fun j => List.getD [x0, x1, x2, x3, x4, x5, x6] j .undef) := rfl
@[simp] theorem asAgg_7 (x0 x1 x2 x3 x4 x5 x6 : V) (k : (Nat -> V) -> Option R) : V.asAgg (.agg [x0, x1, x2, x3, x4, x5, x6]) 7 k = k (fun j => List.getD [x0, x1, x2, x3, x4, x5, x6] j .undef) := rfl
@[simp] theorem asCells_7 (t : TypeId) (x0 x1 x2 x3 x4 x5 x6 : V) (k : (Nat -> V) -> Option R) : Blk.asCells (.cells t [x0, x1, x2, x3, x4, x5, x6] false) t 7 k = k (fun j => List.getD [x0, x1, x2, x3, x4, x5, x6] j .undef) := by simp [Blk.asCells]
@[simp] theorem asArr_arr (i : Nat) (e : TypeId) (k : Option R) : V.asArr (.arr i e) i e k = k := by simp [V.asArr]
@[simp] theorem asCells_cells (t : TypeId) (cs : List V) (n : Nat) (h : cs.length = n) (k : (Nat -> V) -> Option R) : Blk.asCells (.cells t cs false) t n k = k (fun j => cs.getD j .undef) := by simp [Blk.asCells, h]
@[simp] theorem asVec_vec (t : TypeId) (es : List (List V)) (n : Nat) (h : es.length = n) (k : List (List V) -> Option R) : Blk.asVec (.vec t es false) t n k = k es := by simp [Blk.asVec, h]
end
theorem wrap_in {n : Int} (h0 : -9223372036854775808 <= n) (h1 : n <= 9223372036854775807) : IntKind.i64.wrap n = n := IntWalk.i64_in n ⟨h0, h1⟩
theorem wrap_nat {i : Nat} (h : i < 4611686018427387904) : IntKind.i64.wrap ((i : Int) + 1) = ((i + 1 : Nat) : Int) := by
 rw [wrap_in (by omega) (by omega)]; omega
theorem down {p : Nat -> Prop} {n : Nat} (h0 : p n) (hs : ∀ i, i < n -> p (i + 1) -> p i) : ∀ i, i <= n -> p i := by
 intro i hi
 obtain ⟨k, rfl⟩ : ∃ k, n = i + k := ⟨n - i, by omega⟩
 induction k generalizing i with
 | zero => exact h0
 | succ k ih =>
  refine hs i (by omega) (ih (i + 1) (by rw [show i + 1 + k = i + (k + 1) by omega]; exact h0) (fun j hj => hs j (by omega)) (by omega))
def allF (f : Nat -> Bool) (n i : Nat) : Bool := (List.range' i (n - i)).all f
theorem allF_end (f : Nat -> Bool) (n : Nat) : allF f n n = true := by simp [allF]
theorem allF_step {f : Nat -> Bool} {n i : Nat} (h : i < n) : allF f n i = (f i && allF f n (i + 1)) := by
 unfold allF
 rw [show n - i = (n - (i + 1)) + 1 by omega, List.range'_succ, List.all_cons]
theorem allF_iff {f : Nat -> Bool} {n i : Nat} : allF f n i = true ↔ ∀ j, i <= j -> j < n -> f j = true := by
 unfold allF
 rw [List.all_eq_true]
 constructor
 ·intro h j h1 h2; exact h j (by rw [List.mem_range'_1]; omega)
 ·intro h j hj; rw [List.mem_range'_1] at hj; exact h j hj.1 (by omega)
end Go.Proofs.Ab
namespace Go.Proofs.Px
open Go Go.Proofs.Ab
def letter (c : Int) : Bool := (decide (65 <= c) && decide (c <= 90)) || (decide (97 <= c) && decide (c <= 122))
def digit (c : Int) : Bool := decide (48 <= c) && decide (c <= 57)
def inner (c : Int) : Bool := letter c || digit c || c == 95
def keys : List ByteArray := [⟨#[112, 114, 111, 99]⟩, ⟨#[118, 97, 114]⟩, ⟨#[105, 102]⟩, ⟨#[101, 108, 115, 101]⟩, ⟨#[119, 104, 105, 108, 101]⟩, ⟨#[114, 101, 116, 117, 114, 110]⟩, ⟨#[112, 114, 105, 110, 116]⟩, ⟨#[114, 101, 97, 100]⟩, ⟨#[97, 115, 115, 101, 114, 116]⟩, ⟨#[105, 110, 116]⟩, ⟨#[98, 111, 111, 108]⟩, ⟨#[116, 114, 117, 101]⟩, ⟨#[102, 97, 108, 115, 101]⟩]
def isIn (s : ByteArray) (l : List ByteArray) : Bool := l.any fun k => decide (k = s)
def isKey (s : ByteArray) : Bool := isIn s keys
def isName (s : ByteArray) : Bool := decide (0 < s.size) && decide (s.size <= 40) && letter (byteAt s 0) && !isKey s && allF (fun i => inner (byteAt s i)) s.size 0
theorem isIn_step {s : ByteArray} {l : List ByteArray} {i : Nat} (h : i < l.length) : isIn s (l.drop i) = (decide (l[i] = s) || isIn s (l.drop (i + 1))) := by
 unfold isIn
 rw [List.drop_eq_getElem_cons h, List.any_cons]
theorem empty_iff (s : ByteArray) : s = ⟨#[]⟩ ↔ s.size = 0 := by
 constructor
 ·rintro rfl; rfl
 ·intro h
  cases s with
  | mk d =>
   have : d = #[] := Array.size_eq_zero_iff.1 h
   rw [this]
end Go.Proofs.Px
namespace Go.Proofs.Px
open Go Go.Proofs.Ab
def B (l : List UInt8) : ByteArray := ⟨l.toArray⟩
theorem B_of (s : ByteArray) : s = B s.data.toList := by cases s; simp [B]
@[simp] theorem B_size (l : List UInt8) : (B l).size = l.length := by simp [B, ByteArray.size]
theorem B_inj {a b : List UInt8} : B a = B b ↔ a = b := by
 constructor
 ·intro h
  have : (B a).data.toList = (B b).data.toList := by rw [h]
  simpa [B] using this
 ·rintro rfl; rfl
@[simp] theorem B_dec (a b : List UInt8) : decide (B a = B b) = decide (a = b) := by
 by_cases h : a = b
 ·simp [h]
 ·simp [h, B_inj]
@[simp] theorem B_byte (l : List UInt8) (i : Nat) : byteAt (B l) i = ((l.getD i 0).toNat : Int) := by simp [byteAt, B]
@[simp] theorem B_extract (l : List UInt8) (i j : Nat) : (B l).extract i j = B ((l.drop i).take (j - i)) := by
 have h : ((B l).extract i j).data = (B ((l.drop i).take (j - i))).data := by
  rw [ByteArray.data_extract]
  apply Array.ext'
  simp [B, List.extract]
 cases h1 : (B l).extract i j
 cases h2 : B ((l.drop i).take (j - i))
 rw [h1, h2] at h
 simp at h
 rw [h]
@[simp] theorem B_append (a b : List UInt8) : B a ++ B b = B (a ++ b) := by
 have h : (B a ++ B b).data = (B (a ++ b)).data := by
  rw [ByteArray.data_append]
  simp [B]
 cases h1 : B a ++ B b
 cases h2 : B (a ++ b)
 rw [h1, h2] at h
 simp at h
 rw [h]
@[simp] theorem B_nil : (ByteArray.mk #[]) = B [] := rfl
def bv (l : List UInt8) : List (List V) := l.map fun b => [.int .u8 (b.toNat : Int)]
@[simp] theorem ofBytes_B (l : List UInt8) : ofBytes (B l) = bv l := by simp [ofBytes, B, bv]
@[simp] theorem bytesOk_bv (l : List UInt8) : bytesOk (bv l) = true := by
 induction l with
 | nil => rfl
 | cons a l ih => exact ih
@[simp] theorem toBytes_bv (l : List UInt8) : toBytes (bv l) = l := by
 induction l with
 | nil => rfl
 | cons a l ih =>
  show UInt8.ofNat (Int.toNat (a.toNat : Int)) :: toBytes (bv l) = a :: l
  rw [ih]; simp
@[simp] theorem bv_length (l : List UInt8) : (bv l).length = l.length := by simp [bv]
@[simp] theorem bv_append (a b : List UInt8) : bv a ++ bv b = bv (a ++ b) := by simp [bv]
theorem drop_cons {l : List UInt8} {i : Nat} (h : i < l.length) : l.drop i = l.getD i 0 :: l.drop (i + 1) := by
 rw [List.drop_eq_getElem_cons h, List.getD_eq_getElem?_getD, List.getElem?_eq_getElem h]; rfl
theorem byte_eq (a : UInt8) (n : Nat) (hn : n < 256) : ((a.toNat : Int) == (n : Int)) = (a == UInt8.ofNat n) := by
 have h : a = UInt8.ofNat n ↔ a.toNat = n := by
  constructor
  ·rintro rfl; simp; omega
  ·intro h; apply UInt8.toNat_inj.1; simp; omega
 by_cases h1 : a = UInt8.ofNat n
 ·rw [beq_iff_eq.2 h1]
  have := h.1 h1
  simp [this]
 ·have h2 : ¬ a.toNat = n := fun h3 => h1 (h.2 h3)
  have h3 : ¬ ((a.toNat : Int) = (n : Int)) := by omega
  rw [beq_eq_false_iff_ne.2 h1, beq_eq_false_iff_ne.2 h3]
end Go.Proofs.Px
namespace Go.Proofs.Px
open Go Go.Proofs.Ab Go.ChangeShapes Go.WideShapes Go.ChangeAt Go.WideMaps Go.WideElems Go.RowKit
def ZTok (z : Bool) (tok : Tok) (es : List (List V)) : Prop := if z = true then (tok = .nil ∧ es = []) ∨ tok = .nn else tok = .no
inductive Fits (P : Program) (pz : TypeId -> Bool) : TypeId -> List V -> Prop where
 | int {t : TypeId} {k : IntKind} {n : Int} {cs : List V} (h : P.underlying t = some (.int k)) (hw : (Lit.int k n).wf = true) (e : cs = [.int k n]) : Fits P pz t cs
 | bool {t : TypeId} {b : Bool} {cs : List V} (h : P.underlying t = some .bool) (e : cs = [.bool b]) : Fits P pz t cs
 | str {t : TypeId} {s : ByteArray} {cs : List V} (h : P.underlying t = some .string) (hw : s.size <= 140737488351232) (e : cs = [.str s]) : Fits P pz t cs
 | sl {t el : TypeId} {tok : Tok} {es : List (List V)} {cs : List V} (h : P.underlying t = some (.slice el)) (ht : ZTok (pz el) tok es) (hl : es.length * P.bytesOf el <= 140737488351232) (hm : es.length <= maxLen) (he : ∀ i, i < es.length -> Fits P pz el (es.getD i [])) (e : cs = [.sl tok el es]) : Fits P pz t cs
 | st {t : TypeId} {fs : Array Field} {ps : List (List V)} {cs : List V} (h : P.underlying t = some (.struct fs)) (hl : ps.length = fs.size) (he : ∀ (i : Nat) (f : Field), fs[i]? = some f -> Fits P pz f.type (ps.getD i [])) (e : cs = ps.flatten) : Fits P pz t cs
def Rep (P : Program) (W : World) (vs : List V) (cs : List Value) : Prop :=
 vs.length = cs.length ∧ ∀ j, j < cs.length -> PRep P W (Before W) (vs.getD j .undef) (cs.getD j Go.undef) ∧ (cs.getD j Go.undef).oneCell' = true
theorem Rep.one {P : Program} {W : World} {v : V} {x : Value} (h : PRep P W (Before W) v x) (ho : x.oneCell' = true) : Rep P W [v] [x] := by
 refine ⟨rfl, fun j hj => ?_⟩
 obtain rfl : j = 0 := by simp at hj; exact hj
 exact ⟨h, ho⟩
theorem Rep.app {P : Program} {W : World} {vs us : List V} {cs ds : List Value} (h : Rep P W vs cs) (g : Rep P W us ds) : Rep P W (vs ++ us) (cs ++ ds) := by
 refine ⟨by simp [h.1, g.1], fun j hj => ?_⟩
 rw [List.getD_eq_getElem?_getD, List.getD_eq_getElem?_getD, List.getElem?_append, List.getElem?_append, h.1]
 split
 ·rename_i hlt
  simpa [List.getD_eq_getElem?_getD] using h.2 j hlt
 ·rename_i hge
  have := g.2 (j - cs.length) (by rw [List.length_append] at hj; omega)
  simpa [List.getD_eq_getElem?_getD] using this
theorem Rep.nil {P : Program} {W : World} : Rep P W [] [] := ⟨rfl, fun j hj => by cases hj⟩
end Go.Proofs.Px
namespace Go.Proofs.YtmhnmelaodhemaaGreatDoor
open Go Go.Proofs.Ab Go.Proofs.Px
inductive Ex where
 | mk (kind : Int) (name : List UInt8) (num : Int) (l : List Ex)
instance : Inhabited Ex := ⟨.mk 0 [] 0 []⟩
def Ex.kind : Ex -> Int | .mk k _ _ _ => k
def Ex.name : Ex -> List UInt8 | .mk _ n _ _ => n
def Ex.num : Ex -> Int | .mk _ _ m _ => m
def Ex.l : Ex -> List Ex | .mk _ _ _ l => l
mutual
def Ex.v : Ex -> List V
 | .mk k n m l => [.int .i64 k, .str (B n), .int .i64 m, .sl .no T_api_Expr (Ex.vs l)]
def Ex.vs : List Ex -> List (List V)
 | [] => []
 | x :: l => Ex.v x :: Ex.vs l
end
theorem Ex.vs_map : ∀ l : List Ex, Ex.vs l = l.map Ex.v
 | [] => by rw [Ex.vs]; rfl
 | x :: l => by rw [Ex.vs, Ex.vs_map l]; rfl
theorem Ex.v_mk (k : Int) (n : List UInt8) (m : Int) (l : List Ex) : Ex.v (.mk k n m l) = [.int .i64 k, .str (B n), .int .i64 m, .sl .no T_api_Expr (l.map Ex.v)] := by rw [Ex.v, Ex.vs_map]
theorem Ex.v_is (x : Ex) : x.v = [.int .i64 x.kind, .str (B x.name), .int .i64 x.num, .sl .no T_api_Expr (x.l.map Ex.v)] := by cases x; exact Ex.v_mk ..
mutual
theorem Ex.ind {p : Ex -> Prop} (h : ∀ k n m l, (∀ x ∈ l, p x) -> p (.mk k n m l)) : ∀ x, p x
 | .mk k n m l => h k n m l (Ex.inds h l)
theorem Ex.inds {p : Ex -> Prop} (h : ∀ k n m l, (∀ x ∈ l, p x) -> p (.mk k n m l)) : ∀ (l : List Ex) (x : Ex), x ∈ l -> p x
 | [] => nofun
 | y :: l => fun x hx => (List.mem_cons.1 hx).elim (fun e => e ▸ Ex.ind h y) (Ex.inds h l x)
end
inductive ExOk : Ex -> Prop where
 | mk {k : Int} {n : List UInt8} {m : Int} {l : List Ex} (hk : (Lit.int .i64 k).wf = true) (hn : n.length <= 140737488351232) (hm : (Lit.int .i64 m).wf = true) (hl : l.length <= 140737488351232) (h : ∀ x ∈ l, ExOk x) : ExOk (.mk k n m l)
theorem ExOk.inv {k : Int} {n : List UInt8} {m : Int} {l : List Ex} (h : ExOk (.mk k n m l)) : (Lit.int .i64 k).wf = true ∧ n.length <= 140737488351232 ∧ (Lit.int .i64 m).wf = true ∧ l.length <= 140737488351232 ∧ ∀ x ∈ l, ExOk x := by
 cases h with
 | mk hk hn hm hl h => exact ⟨hk, hn, hm, hl, h⟩
mutual
def Ex.size : Ex -> Nat
 | .mk _ n _ l => 1 + n.length / 8 + Ex.sizes l
def Ex.sizes : List Ex -> Nat
 | [] => 0
 | x :: l => Ex.size x + Ex.sizes l
end
@[simp] theorem Ex.v_0 (x : Ex) : x.v.getD 0 .undef = .int .i64 x.kind := by rw [Ex.v_is]; rfl
@[simp] theorem Ex.v_1 (x : Ex) : x.v.getD 1 .undef = .str (B x.name) := by rw [Ex.v_is]; rfl
@[simp] theorem Ex.v_2 (x : Ex) : x.v.getD 2 .undef = .int .i64 x.num := by rw [Ex.v_is]; rfl
@[simp] theorem Ex.v_3 (x : Ex) : x.v.getD 3 .undef = .sl .no T_api_Expr (x.l.map Ex.v) := by rw [Ex.v_is]; rfl
@[simp] theorem Ex.kind_mk (k : Int) (s : List UInt8) (m : Int) (l : List Ex) : (Ex.mk k s m l).kind = k := rfl
@[simp] theorem Ex.name_mk (k : Int) (s : List UInt8) (m : Int) (l : List Ex) : (Ex.mk k s m l).name = s := rfl
@[simp] theorem Ex.num_mk (k : Int) (s : List UInt8) (m : Int) (l : List Ex) : (Ex.mk k s m l).num = m := rfl
@[simp] theorem Ex.l_mk (k : Int) (s : List UInt8) (m : Int) (l : List Ex) : (Ex.mk k s m l).l = l := rfl
@[simp] theorem Ex.v_list (x : Ex) : [V.int .i64 x.kind, V.str (B x.name), V.int .i64 x.num, V.sl .no T_api_Expr (x.l.map Ex.v)] = x.v := by rw [Ex.v_is]
@[simp] theorem asAgg_ex (x : Ex) (k : (Nat -> V) -> Option Res) : V.asAgg (.agg x.v) 4 k = k (fun j => x.v.getD j .undef) := asAgg_agg _ _ (by rw [Ex.v_is]; rfl) k
@[simp] theorem Ex.q0 (x : Ex) : x.v[0]?.getD V.undef = .int .i64 x.kind := by rw [Ex.v_is]; rfl
@[simp] theorem Ex.q1 (x : Ex) : x.v[1]?.getD V.undef = .str (B x.name) := by rw [Ex.v_is]; rfl
@[simp] theorem Ex.q2 (x : Ex) : x.v[2]?.getD V.undef = .int .i64 x.num := by rw [Ex.v_is]; rfl
@[simp] theorem Ex.q3 (x : Ex) : x.v[3]?.getD V.undef = .sl .no T_api_Expr (x.l.map Ex.v) := by rw [Ex.v_is]; rfl
end Go.Proofs.YtmhnmelaodhemaaGreatDoor
namespace Go.Proofs.Px
open Go Go.Proofs.Ab
def lt (c : UInt8) : Bool := letter (c.toNat : Int)
def dg (c : UInt8) : Bool := digit (c.toNat : Int)
def inn (c : UInt8) : Bool := inner (c.toNat : Int)
def sk : Bool -> List UInt8 -> List UInt8
 | _, [] => []
 | rm, c :: r => if c = 10 then sk false r else if rm then sk true r else if c = 32 then sk false r else if c = 35 then sk true r else c :: r
theorem sk_le : ∀ (rm : Bool) (l : List UInt8), (sk rm l).length <= l.length
 | _, [] => Nat.le_refl _
 | rm, c :: r => by
  have h1 := sk_le false r
  have h2 := sk_le true r
  unfold sk
  split
  ·simp; omega
  ·split
   ·simp; omega
   ·split
    ·simp; omega
    ·split
     ·simp; omega
     ·simp
theorem sk_drop : ∀ (rm : Bool) (l : List UInt8), sk rm l = l.drop (l.length - (sk rm l).length)
 | _, [] => rfl
 | rm, c :: r => by
  have key : ∀ rm', sk rm' r = (c :: r).drop ((c :: r).length - (sk rm' r).length) := fun rm' => by
   have h1 := sk_le rm' r
   have h2 := sk_drop rm' r
   rw [show (c :: r).length - (sk rm' r).length = (r.length - (sk rm' r).length) + 1 by simp; omega, List.drop_succ_cons, <- h2]
  unfold sk
  split
  ·exact key false
  ·split
   ·exact key true
   ·split
    ·exact key false
    ·split
     ·exact key true
     ·simp
def word (l : List UInt8) : List UInt8 := l.takeWhile inn
def signs : List (List UInt8) := [[61, 61], [33, 61], [60, 61], [38, 38], [124, 124], [40], [41], [123], [125], [91], [93], [44], [59], [61], [60], [33], [43], [45], [42], [47], [37]]
def signIn (l : List UInt8) : List (List UInt8) -> List UInt8
 | [] => []
 | x :: r => if l.take x.length = x then x else signIn l r
def sign (l : List UInt8) : List UInt8 := signIn l signs
def valF (u : Nat) : List UInt8 -> Nat
 | [] => u
 | c :: r => valF (u * 10 + (c.toNat - 48)) r
def parseGo (u : Nat) : List UInt8 -> Int × Int
 | [] => if u = 9223372036854775808 then (0, 10) else ((u : Int), 0)
 | c :: r => if dg c ∧ u * 10 + (c.toNat - 48) <= 9223372036854775808 then parseGo (u * 10 + (c.toNat - 48)) r else (0, 10)
def parse (w : List UInt8) : Int × Int := if w.getD 0 0 ≠ 48 ∨ w.length = 1 then parseGo 0 w else (0, 10)
structure Tk where
 kind : Int
 text : List UInt8
 num : Int
 at_ : Int
def Tk.v (t : Tk) : List V := [.int .i64 t.kind, .str (B t.text), .int .i64 t.num, .int .i64 t.at_]
def keysL : List (List UInt8) := [[112, 114, 111, 99], [118, 97, 114], [105, 102], [101, 108, 115, 101], [119, 104, 105, 108, 101], [114, 101, 116, 117, 114, 110], [112, 114, 105, 110, 116], [114, 101, 97, 100], [97, 115, 115, 101, 114, 116], [105, 110, 116], [98, 111, 111, 108], [116, 114, 117, 101], [102, 97, 108, 115, 101]]
theorem isKey_B (l : List UInt8) : isKey (B l) = keysL.any fun k => decide (k = l) := by
 have : keys = keysL.map B := rfl
 unfold isKey isIn
 rw [this, List.any_map]
 congr 1
 funext k
 exact B_dec k l
def isKeyL (l : List UInt8) : Bool := keysL.any fun k => decide (k = l)
def next (r : List UInt8) (at_ : Int) : Tk × Nat × Bool :=
 match r with
 | [] => (⟨0, [], 0, at_⟩, 0, true)
 | c :: _ =>
  if lt c then (⟨if isKeyL (word r) then 3 else 1, word r, 0, at_⟩, (word r).length, decide ((word r).length <= 40))
  else if dg c then (⟨2, [], (parse (word r)).1, at_⟩, (word r).length, decide ((parse (word r)).2 = 0))
  else (⟨4, sign r, 0, at_⟩, (sign r).length, !decide (sign r = []))
def scanGo : Nat -> Nat -> List Tk -> List UInt8 -> List Tk × Int × Int
 | 0, _, _, _ => ([], 0, 0)
 | f + 1, n, out, r =>
  let r1 := sk false r
  let a : Int := ((n - r1.length : Nat) : Int)
  let x := next r1 a
  if x.2.2 = false then ([], a, 20) else if out.length = 4000 then ([], a, 2) else if x.1.kind = 0 then (out ++ [x.1], 0, 0) else scanGo f n (out ++ [x.1]) (r1.drop x.2.1)
theorem scanGo_succ (f n : Nat) (out : List Tk) (r : List UInt8) : scanGo (f + 1) n out r =
  if (next (sk false r) ((n - (sk false r).length : Nat) : Int)).2.2 = false then ([], ((n - (sk false r).length : Nat) : Int), 20) else if out.length = 4000 then ([], ((n - (sk false r).length : Nat) : Int), 2) else
   if (next (sk false r) ((n - (sk false r).length : Nat) : Int)).1.kind = 0 then (out ++ [(next (sk false r) ((n - (sk false r).length : Nat) : Int)).1], 0, 0) else
    scanGo f n (out ++ [(next (sk false r) ((n - (sk false r).length : Nat) : Int)).1]) ((sk false r).drop (next (sk false r) ((n - (sk false r).length : Nat) : Int)).2.1) := rfl
def scan (l : List UInt8) : List Tk × Int × Int := if l.length > 16384 then ([], 0, 2) else scanGo (l.length + 1) l.length [] l
theorem one_most {i : Nat} {x : List V} (h : i <= 1000000000000) : i + List.length [x] <= most := by
 show i + 1 <= 1099511627776
 omega
def dgt (u : Nat) : UInt8 := UInt8.ofNat (48 + u % 10)
theorem dgt_nat (u : Nat) : (dgt u).toNat = 48 + u % 10 := by
 unfold dgt
 rw [UInt8.toNat_ofNat']; omega
def decGo : Nat -> Nat -> List UInt8 -> List UInt8
 | 0, _, acc => acc
 | f + 1, u, acc => if u / 10 = 0 then dgt u :: acc else decGo f (u / 10) (dgt u :: acc)
def dec (u : Nat) : List UInt8 := decGo 20 u []
def decs (n : Int) : List UInt8 := if n < 0 then 45 :: dec n.natAbs else dec n.natAbs
theorem decGo_more (f : Nat) : ∀ (g u : Nat) (acc : List UInt8), u < 10 ^ f -> f <= g -> 0 < f -> decGo g u acc = decGo f u acc := by
 induction f with
 | zero => intro _ _ _ _ _ h; omega
 | succ f ih =>
  intro g u acc h hg _
  obtain ⟨g, rfl⟩ : ∃ k, g = k + 1 := ⟨g - 1, by omega⟩
  unfold decGo
  by_cases h0 : u / 10 = 0
  ·rw [if_pos h0, if_pos h0]
  ·rw [if_neg h0, if_neg h0]
   have h1 : u / 10 < 10 ^ f := by
    rw [Nat.pow_succ] at h
    omega
   refine ih g _ _ h1 (by omega) ?_
   rcases Nat.eq_zero_or_pos f with rfl | h2
   ·simp at h1; omega
   ·exact h2
theorem dec_of (f u : Nat) (h : u < 10 ^ f) (hf : 0 < f) (hf2 : f <= 20) : dec u = decGo f u [] := decGo_more f 20 u [] h hf2 hf
theorem decGo_len : ∀ (f u : Nat) (acc : List UInt8), (decGo f u acc).length <= f + acc.length
 | 0, _, acc => by simp [decGo]
 | f + 1, u, acc => by
  unfold decGo
  split
  ·simp; omega
  ·have := decGo_len f (u / 10) (dgt u :: acc)
   simp at this; omega
theorem dec_len20 (u : Nat) : (dec u).length <= 20 := by
 have := decGo_len 20 u []
 exact this
theorem decGo_digits : ∀ (f u : Nat) (acc : List UInt8), (∀ c ∈ acc, 48 <= c.toNat ∧ c.toNat <= 57) -> ∀ c ∈ decGo f u acc, 48 <= c.toNat ∧ c.toNat <= 57
 | 0, u, acc, h => h
 | f + 1, u, acc, h => by
  have h1 : ∀ c ∈ dgt u :: acc, 48 <= c.toNat ∧ c.toNat <= 57 := by
   intro c hc
   rcases List.mem_cons.1 hc with rfl | hc
   ·rw [dgt_nat]; omega
   ·exact h c hc
  unfold decGo
  split
  ·exact h1
  ·exact decGo_digits f (u / 10) _ h1
theorem dec_digits (u : Nat) : ∀ c ∈ dec u, 48 <= c.toNat ∧ c.toNat <= 57 := decGo_digits 20 u [] (fun c h => by cases h)
def worth (u : Nat) (l : List UInt8) : Nat := l.foldl (fun a c => a * 10 + (c.toNat - 48)) u
theorem worth_cons (u : Nat) (c : UInt8) (l : List UInt8) : worth u (c :: l) = worth (u * 10 + (c.toNat - 48)) l := by
 unfold worth
 exact List.foldl_cons ..
theorem decGo_worth (f : Nat) : ∀ (u : Nat) (acc : List UInt8), u < 10 ^ f -> 0 < f -> worth 0 (decGo f u acc) = worth u acc := by
 induction f with
 | zero => intro _ _ _ h; omega
 | succ f ih =>
  intro u acc h _
  have hd : (dgt u).toNat - 48 = u % 10 := by rw [dgt_nat]; omega
  unfold decGo
  by_cases h0 : u / 10 = 0
  ·rw [if_pos h0, worth_cons, hd, show 0 * 10 + u % 10 = u by omega]
  ·rw [if_neg h0]
   have h1 : u / 10 < 10 ^ f := by
    rw [Nat.pow_succ] at h
    omega
   rw [ih (u / 10) _ h1 (by
    rcases Nat.eq_zero_or_pos f with rfl | h2
    ·simp at h1; omega
    ·exact h2), worth_cons, hd, show u / 10 * 10 + u % 10 = u by omega]
theorem worth_nil (u : Nat) : worth u [] = u := by
 unfold worth
 exact List.foldl_nil
theorem dec_worth (u : Nat) (h : u < 10 ^ 20) : worth 0 (dec u) = u := by
 unfold dec
 rw [decGo_worth 20 u [] h (Nat.zero_lt_succ _), worth_nil]
theorem decGo_ne : ∀ (f u : Nat) (acc : List UInt8), 0 < f -> decGo f u acc ≠ []
 | 0, _, _, h => by omega
 | f + 1, u, acc, _ => by
  unfold decGo
  split
  ·simp
  ·rcases Nat.eq_zero_or_pos f with rfl | h
   ·simp [decGo]
   ·exact decGo_ne f _ _ h
theorem decGo_head (f : Nat) : ∀ (u : Nat) (acc : List UInt8), u < 10 ^ f -> 0 < f -> 0 < u -> (decGo f u acc).getD 0 0 ≠ 48 := by
 induction f with
 | zero => intro _ _ _ h; omega
 | succ f ih =>
  intro u acc h _ hu
  unfold decGo
  by_cases h0 : u / 10 = 0
  ·rw [if_pos h0]
   intro h2
   have h3 : (dgt u).toNat = (48 : UInt8).toNat := congrArg UInt8.toNat h2
   rw [dgt_nat] at h3
   have : (48 : UInt8).toNat = 48 := rfl
   omega
  ·rw [if_neg h0]
   have h1 : u / 10 < 10 ^ f := by
    rw [Nat.pow_succ] at h
    omega
   refine ih (u / 10) _ h1 ?_ (by omega)
   rcases Nat.eq_zero_or_pos f with rfl | h2
   ·simp at h1; omega
   ·exact h2
theorem i64_bounds {n : Int} (h : (Lit.int .i64 n).wf = true) : -9223372036854775808 <= n ∧ n <= 9223372036854775807 := by
 simpa [Lit.wf, IntKind.min, IntKind.max, IntKind.signed, IntKind.bits] using h
structure TkOk (t : Tk) : Prop where
 text : t.text.length <= 140737488351232
 kind : (Lit.int .i64 t.kind).wf = true
 num : (Lit.int .i64 t.num).wf = true
 at_ : (Lit.int .i64 t.at_).wf = true
theorem any_same {α : Type} {A C : List α} (f : α -> Bool) (h1 : ∀ k ∈ A, k ∈ C) (h2 : ∀ k ∈ C, k ∈ A) : A.any f = C.any f := by
 rw [Bool.eq_iff_iff, List.any_eq_true, List.any_eq_true]
 exact ⟨fun ⟨x, h, h'⟩ => ⟨x, h1 x h, h'⟩, fun ⟨x, h, h'⟩ => ⟨x, h2 x h, h'⟩⟩
def isSign (l : List UInt8) : Bool := signs.contains l
def refSigns : List (List UInt8) := [[40], [41], [123], [125], [91], [93], [44], [59], [61], [61, 61], [33, 61], [60], [60, 61], [38, 38], [124, 124], [33], [43], [45], [42], [47], [37]]
theorem refSigns_is (l : List UInt8) : isIn (B l) (refSigns.map B) = isSign l := by
 unfold isIn isSign
 rw [List.any_map, List.contains_eq_any_beq]
 have h : ((fun k => decide (k = B l)) ∘ B) = fun x => l == x := by
  funext k
  show decide (B k = B l) = (l == k)
  rw [B_dec]
  by_cases hk : k = l
  ·subst hk; simp
  ·rw [decide_eq_false hk]; exact (beq_eq_false_iff_ne.2 fun h => hk h.symm).symm
 rw [h]
 exact any_same _ (by decide) (by decide)
theorem keysL_is (l : List UInt8) : isIn (B l) keys = isKeyL l := isKey_B l
theorem signIn_or (r : List UInt8) : ∀ l, signIn r l = [] ∨ signIn r l ∈ l
 | [] => .inl rfl
 | x :: l => by
  unfold signIn
  split
  ·exact .inr List.mem_cons_self
  ·exact (signIn_or r l).imp id (List.mem_cons_of_mem _)
theorem sign_self (l : List UInt8) : (!decide (l = []) && decide (sign l = l)) = isSign l := by
 have h1 : signs.all (fun x => !decide (x = []) && decide (sign x = x)) = true := by decide
 by_cases h : l ∈ signs
 ·rw [List.all_eq_true.1 h1 l h]
  exact (List.contains_iff_mem.2 h).symm
 ·have h2 : isSign l = false := by
   unfold isSign
   rw [<- Bool.not_eq_true, List.contains_iff_mem]; exact h
  rw [h2]
  by_cases h3 : l = []
  ·rw [decide_eq_true h3]; rfl
  ·by_cases h4 : sign l = l
   ·rcases signIn_or l signs with h5 | h5
    ·exact absurd (h4.symm.trans h5) h3
    ·unfold sign at h4
     rw [h4] at h5
     exact absurd h5 h
   ·rw [decide_eq_false h4, Bool.and_false]
theorem word_all : ∀ {l : List UInt8} (h : ∀ c ∈ l, inn c = true), word l = l
 | [], _ => rfl
 | c :: l, h => by
  have := word_all (l := l) fun d hd => h d (List.mem_cons_of_mem _ hd)
  unfold word at *
  rw [List.takeWhile_cons, h c List.mem_cons_self, if_pos rfl, this]
theorem all_word {l : List UInt8} (h : (word l).length = l.length) : word l = l := by
 unfold word at *
 exact (List.takeWhile_prefix inn).eq_of_length h
theorem name_facts {l : List UInt8} (h : isName (B l) = true) : l ≠ [] ∧ l.length <= 40 ∧ lt (l.getD 0 0) = true ∧ isKeyL l = false ∧ word l = l := by
 unfold isName at h
 simp only [Bool.and_eq_true, decide_eq_true_eq, Bool.not_eq_true', B_size, B_byte] at h
 obtain ⟨⟨⟨⟨h1, h2⟩, h3⟩, h4⟩, h5⟩ := h
 refine ⟨fun h0 => (by subst h0; simp at h1), h2, h3, (isKey_B l).symm.trans h4, word_all fun c hc => ?_⟩
 obtain ⟨i, hi, rfl⟩ := List.getElem_of_mem hc
 have := allF_iff.1 h5 i (Nat.zero_le _) hi
 rw [List.getD_eq_getElem?_getD, List.getElem?_eq_getElem hi] at this
 exact this
theorem lt_dg {c : UInt8} (h : lt c = true) : dg c = false := by
 unfold lt letter at h
 unfold dg digit
 simp only [Bool.or_eq_true, Bool.and_eq_true, decide_eq_true_eq] at h
 rcases h with h | h
 ·rw [decide_eq_false (p := (c.toNat : Int) <= 57) (by omega), Bool.and_false]
 ·rw [decide_eq_false (p := (c.toNat : Int) <= 57) (by omega), Bool.and_false]
theorem key_facts {l : List UInt8} (h : isKeyL l = true) : l ≠ [] ∧ l.length <= 40 ∧ lt (l.getD 0 0) = true ∧ word l = l := by
 have h1 : keysL.all (fun x => !decide (x = []) && decide (x.length <= 40) && lt (x.getD 0 0) && decide (word x = x)) = true := by decide
 unfold isKeyL at h
 obtain ⟨k, hk, h2⟩ := List.any_eq_true.1 h
 obtain rfl := of_decide_eq_true h2
 have := List.all_eq_true.1 h1 k hk
 simp only [Bool.and_eq_true, decide_eq_true_eq, Bool.not_eq_true', decide_eq_false_iff_not] at this
 exact ⟨this.1.1.1, this.1.1.2, this.1.2, this.2⟩
theorem sign_facts {l : List UInt8} (h : isSign l = true) : word l = [] ∧ (l.length = 1 ∨ l.length = 2) ∧ isName (B l) = false ∧ isKeyL l = false := by
 have h1 : signs.all (fun x => decide (word x = []) && (decide (x.length = 1) || decide (x.length = 2)) && !isKeyL x) = true := by decide
 unfold isSign at h
 have := List.all_eq_true.1 h1 l (List.contains_iff_mem.1 h)
 simp only [Bool.and_eq_true, Bool.or_eq_true, decide_eq_true_eq, Bool.not_eq_true'] at this
 refine ⟨this.1.1, this.1.2, ?_, this.2⟩
 rw [<- Bool.not_eq_true]
 intro hn
 have h2 := name_facts hn
 rw [this.1.1] at h2
 exact h2.1 h2.2.2.2.2.symm
def wrOk (t : Tk) : Bool :=
 if t.kind = 1 then decide (t.num = 0) && isName (B t.text) else if t.kind = 3 then decide (t.num = 0) && isKeyL t.text else
  if t.kind = 4 then decide (t.num = 0) && isSign t.text else if t.kind = 2 then decide (t.text = []) && decide (0 <= t.num) else false
def wrT (t : Tk) : List UInt8 := if t.kind = 2 then decs t.num else t.text
def endT (t : Tk) : Bool := decide (t.kind = 0) && decide (t.text = []) && decide (t.num = 0)
def rightL : List Tk -> Bool
 | [] => false
 | [t] => endT t
 | t :: u :: l => wrOk t && rightL (u :: l)
end Go.Proofs.Px
namespace Go.Proofs.YtmhnmelaodhemaaGreatDoor
open Go Go.Proofs.Ab Go.Proofs.Px
def tk (l : List Tk) (k : Nat) : Tk := l.getD k ⟨0, [], 0, 0⟩
def isT (t : Tk) (s : List UInt8) : Bool := (decide (t.kind = 3) || decide (t.kind = 4)) && decide (t.text = s)
def opensT (t : Tk) : Bool := decide (t.kind = 1) || decide (t.kind = 2) || isT t [116, 114, 117, 101] || isT t [102, 97, 108, 115, 101] || isT t [40] || isT t [45] || isT t [33]
def levelT (s : List UInt8) : Int :=
 if s = [124, 124] then 1 else if s = [38, 38] then 2 else if s = [61, 61] then 3 else if s = [33, 61] then 3 else if s = [60] then 3 else if s = [60, 61] then 3
 else if s = [43] then 4 else if s = [45] then 4 else if s = [42] then 5 else if s = [47] then 5 else if s = [37] then 5 else 0
def signT (t : Tk) : Int := if t.kind = 4 then levelT t.text else 0
abbrev Rd := Except (Int × Int) (Ex × Nat)
def partR (l : List Tk) (d : Int) (k : Nat) (r : Rd) : Rd := if opensT (tk l k) = false then .error ((tk l k).at_, 30) else if 60 < d then .error ((tk l k).at_, 31) else r
def wantR (l : List Tk) (s : List UInt8) (r : Rd) (f : Ex -> Ex) : Rd := match r with
 | .error e => .error e
 | .ok (x, k) => if isT (tk l k) s then .ok (f x, k + 1) else .error ((tk l k).at_, 30)
mutual
def oneW (l : List Tk) (d : Int) (k : Nat) : Rd :=
 if hk : k < l.length then
  if isT (tk l k) [45] = true ∨ isT (tk l k) [33] = true then
   partR l (d + 1) (k + 1) (match oneW l (d + 1) (k + 1) with | .error e => .error e | .ok (x, j) => .ok (.mk 5 (tk l k).text 0 [x], j))
  else if isT (tk l k) [40] = true then wantR l [41] (partR l (d + 1) (k + 1) (tightW l 1 (d + 1) (k + 1))) id
  else if isT (tk l k) [116, 114, 117, 101] = true then .ok (.mk 2 [] 1 [], k + 1)
  else if isT (tk l k) [102, 97, 108, 115, 101] = true then .ok (.mk 2 [] 0 [], k + 1)
  else if (tk l k).kind = 2 then .ok (.mk 1 [] (tk l k).num [], k + 1)
  else if (tk l k).kind ≠ 1 then .error ((tk l k).at_, 30)
  else if isT (tk l (k + 1)) [91] = true then wantR l [93] (partR l (d + 1) (k + 2) (tightW l 1 (d + 1) (k + 2))) (fun x => .mk 4 (tk l k).text 0 [x])
  else .ok (.mk 3 (tk l k).text 0 [], k + 1)
 else .error (0, 0)
termination_by (l.length - k, 0)
def tightW (l : List Tk) (n d : Int) (k : Nat) : Rd :=
 match oneW l d k with
 | .error e => .error e
 | .ok (x, j) => if h : k < j ∧ k < l.length then loopW l n d 5 x j else .error (0, 0)
termination_by (l.length - k, 1)
def loopW (l : List Tk) (n d most : Int) (x : Ex) (k : Nat) : Rd :=
 if hk : k < l.length then
  if signT (tk l k) = 0 ∨ signT (tk l k) < n ∨ most < signT (tk l k) then .ok (x, k)
  else match tightW l (signT (tk l k) + 1) d (k + 1) with
   | .error e => .error e
   | .ok (y, j) => if h : k < j then loopW l n d (if signT (tk l k) = 3 then 2 else signT (tk l k)) (.mk 6 (tk l k).text 0 [x, y]) j else .error (0, 0)
 else .error (0, 0)
termination_by (l.length - k, 2)
decreasing_by all_goals (simp_wf; first | omega | (apply Prod.Lex.left; omega) | (apply Prod.Lex.right; omega))
end
structure Ended (l : List Tk) : Prop where
 last : ∀ k, k < l.length -> ((tk l k).kind = 0 ↔ k + 1 = l.length)
theorem isT_kind {t : Tk} {s : List UInt8} (h : isT t s = true) : t.kind = 3 ∨ t.kind = 4 := by
 unfold isT at h
 simp only [Bool.and_eq_true, Bool.or_eq_true, decide_eq_true_eq] at h
 exact h.1
theorem Ended.next {l : List Tk} (hl : Ended l) {k : Nat} (hk : k < l.length) (h : (tk l k).kind ≠ 0) : k + 1 < l.length := by
 have := mt (hl.last k hk).2 h
 omega
theorem Ended.isT {l : List Tk} (hl : Ended l) {k : Nat} {s : List UInt8} (hk : k < l.length) (h : isT (tk l k) s = true) : k + 1 < l.length :=
 hl.next hk (by rcases isT_kind h with h | h <;> omega)
theorem partR_ok {l : List Tk} {d : Int} {k : Nat} {r : Rd} {x : Ex × Nat} (h : partR l d k r = .ok x) : r = .ok x := by
 unfold partR at h
 split at h
 ·cases h
 ·split at h
  ·cases h
  ·exact h
theorem wantR_ok {l : List Tk} {s : List UInt8} {r : Rd} {f : Ex -> Ex} {x : Ex × Nat} (h : wantR l s r f = .ok x) : ∃ y k, r = .ok (y, k) ∧ isT (tk l k) s = true ∧ x = (f y, k + 1) := by
 unfold wantR at h
 split at h
 ·cases h
 ·rename_i y k
  split at h
  ·rename_i c; exact ⟨y, k, rfl, c, (Except.ok.inj h).symm⟩
  ·cases h
theorem goes {l : List Tk} (hl : Ended l) : ∀ m k : Nat, l.length - k <= m -> k < l.length ->
  (∀ d x j, oneW l d k = .ok (x, j) -> k < j ∧ j < l.length) ∧ (∀ n d x j, tightW l n d k = .ok (x, j) -> k < j ∧ j < l.length) ∧ (∀ n d p y x j, loopW l n d p y k = .ok (x, j) -> k <= j ∧ j < l.length) := by
 intro m
 induction m with
 | zero => intro k h1 h2; omega
 | succ m ih =>
  intro k hm hk
  have one : ∀ d x j, oneW l d k = .ok (x, j) -> k < j ∧ j < l.length := by
   intro d x j h
   rw [oneW, dif_pos hk] at h
   split at h
   ·rename_i c
    have hk1 : k + 1 < l.length := by rcases c with c | c <;> exact hl.isT hk c
    have h := partR_ok h
    split at h
    ·cases h
    ·rename_i y i hy
     have := (ih (k + 1) (by omega) hk1).1 _ _ _ hy
     cases h; omega
   split at h
   ·rename_i c
    have hk1 := hl.isT hk c
    obtain ⟨y, i, h1, h2, h3⟩ := wantR_ok h
    have := (ih (k + 1) (by omega) hk1).2.1 _ _ _ _ (partR_ok h1)
    have := hl.isT this.2 h2
    cases h3; omega
   split at h
   ·rename_i c; have := hl.isT hk c; cases h; omega
   split at h
   ·rename_i c; have := hl.isT hk c; cases h; omega
   split at h
   ·rename_i c; have := hl.next hk (by omega); cases h; omega
   split at h
   ·cases h
   have hk1 : k + 1 < l.length := hl.next hk (by omega)
   split at h
   ·rename_i c
    have hk2 := hl.isT hk1 c
    obtain ⟨y, i, h1, h2, h3⟩ := wantR_ok h
    have := (ih (k + 2) (by omega) hk2).2.1 _ _ _ _ (partR_ok h1)
    have := hl.isT this.2 h2
    cases h3; omega
   ·cases h; omega
  have loop : ∀ n d p y x j, loopW l n d p y k = .ok (x, j) -> k <= j ∧ j < l.length := by
   intro n d p y x j h
   rw [loopW, dif_pos hk] at h
   split at h
   ·cases h; omega
   ·rename_i c
    have hk1 : k + 1 < l.length := hl.next hk (by
     intro h0; apply c; left; unfold signT; rw [if_neg (by omega)])
    split at h
    ·cases h
    ·rename_i z i hz
     have h1 := (ih (k + 1) (by omega) hk1).2.1 _ _ _ _ hz
     split at h
     ·have := (ih i (by omega) h1.2).2.2 _ _ _ _ _ _ h
      omega
     ·cases h
  refine ⟨one, fun n d x j h => ?_, loop⟩
  rw [tightW] at h
  split at h
  ·cases h
  ·rename_i y i hy
   have h1 := one _ _ _ hy
   split at h
   ·have := (ih i (by omega) h1.2).2.2 _ _ _ _ _ _ h
    omega
   ·cases h
theorem one_goes {l : List Tk} (hl : Ended l) {k : Nat} (hk : k < l.length) {d : Int} {x : Ex} {j : Nat} (h : oneW l d k = .ok (x, j)) : k < j ∧ j < l.length := (goes hl _ k (Nat.le_refl _) hk).1 _ _ _ h
theorem tight_goes {l : List Tk} (hl : Ended l) {k : Nat} (hk : k < l.length) {n d : Int} {x : Ex} {j : Nat} (h : tightW l n d k = .ok (x, j)) : k < j ∧ j < l.length := (goes hl _ k (Nat.le_refl _) hk).2.1 _ _ _ _ h
def levW (l : List Tk) (n d : Int) (x : Ex) (k : Nat) : Rd :=
 if hk : k < l.length then
  if signT (tk l k) ≠ n then .ok (x, k)
  else match tightW l (n + 1) d (k + 1) with
   | .error e => .error e
   | .ok (y, j) => if n = 3 then .ok (.mk 6 (tk l k).text 0 [x, y], j) else if h : k < j then levW l n d (.mk 6 (tk l k).text 0 [x, y]) j else .error (0, 0)
 else .error (0, 0)
termination_by l.length - k
def thenR (r : Rd) (f : Ex -> Nat -> Rd) : Rd := match r with | .error e => .error e | .ok (x, k) => f x k
theorem loop_lev {l : List Tk} (hl : Ended l) (n d : Int) (hn : 1 <= n) : ∀ m k : Nat, l.length - k <= m -> k < l.length -> ∀ (p : Int) (x : Ex), n <= p -> loopW l n d p x k = thenR (loopW l (n + 1) d p x k) (fun y j => levW l n d y j) := by
 intro m
 induction m with
 | zero => intro k h1 h2; omega
 | succ m ih =>
  intro k hm hk p x hp
  rw [loopW, loopW, dif_pos hk, dif_pos hk]
  by_cases c : signT (tk l k) = 0 ∨ signT (tk l k) < n ∨ p < signT (tk l k)
  ·rw [if_pos c, if_pos (by omega)]
   show _ = levW l n d x k
   rw [levW, dif_pos hk, if_pos (by omega)]
  ·rw [if_neg c]
   have hk1 : k + 1 < l.length := hl.next hk (by
    intro h0; apply c; left; unfold signT; rw [if_neg (by omega)])
   by_cases ct : signT (tk l k) = n
   ·rw [if_pos (show signT (tk l k) = 0 ∨ signT (tk l k) < n + 1 ∨ p < signT (tk l k) by omega)]
    show _ = levW l n d x k
    rw [levW, dif_pos hk, ct, if_neg (show ¬ n ≠ n from fun h => h rfl)]
    cases hy : tightW l (n + 1) d (k + 1) with
    | error e => rfl
    | ok r =>
     obtain ⟨y, j⟩ := r
     have hj := tight_goes hl hk1 hy
     simp only
     rw [dif_pos (show k < j by omega)]
     by_cases h3 : n = 3
     ·rw [if_pos h3, if_pos h3, loopW, dif_pos hj.2, if_pos (by omega)]
     ·rw [if_neg h3, if_neg h3, dif_pos (show k < j by omega), ih j (by omega) hj.2 n _ (Int.le_refl _)]
      rw [loopW, dif_pos hj.2, if_pos (by omega)]; rfl
   ·rw [if_neg (show ¬ (signT (tk l k) = 0 ∨ signT (tk l k) < n + 1 ∨ p < signT (tk l k)) by omega)]
    cases hy : tightW l (signT (tk l k) + 1) d (k + 1) with
    | error e => rfl
    | ok r =>
     obtain ⟨y, j⟩ := r
     have hj := tight_goes hl hk1 hy
     simp only
     rw [dif_pos (show k < j by omega), dif_pos (show k < j by omega)]
     exact ih j (by omega) hj.2 (if signT (tk l k) = 3 then 2 else signT (tk l k)) _ (by split <;> omega)
theorem tight_lev {l : List Tk} (hl : Ended l) {k : Nat} (hk : k < l.length) (n d : Int) (hn : 1 <= n) (hn5 : n <= 5) : tightW l n d k = thenR (tightW l (n + 1) d k) (fun y j => levW l n d y j) := by
 rw [tightW, tightW]
 cases hy : oneW l d k with
 | error e => rfl
 | ok r =>
  obtain ⟨x, j⟩ := r
  have hj := one_goes hl hk hy
  simp only
  rw [dif_pos ⟨hj.1, hk⟩, dif_pos ⟨hj.1, hk⟩]
  exact loop_lev hl n d hn _ j (Nat.le_refl _) hj.2 5 x hn5
theorem level_le (s : List UInt8) : 0 <= levelT s ∧ levelT s <= 5 := by
 unfold levelT
 repeat' (split; · omega)
 omega
theorem signT_le (t : Tk) : 0 <= signT t ∧ signT t <= 5 := by
 unfold signT
 split
 ·exact level_le _
 ·omega
theorem tight_one {l : List Tk} (hl : Ended l) {k : Nat} (hk : k < l.length) (d : Int) : tightW l 6 d k = oneW l d k := by
 rw [tightW]
 cases hy : oneW l d k with
 | error e => rfl
 | ok r =>
  obtain ⟨x, j⟩ := r
  have hj := one_goes hl hk hy
  have := signT_le (tk l j)
  simp only
  rw [dif_pos ⟨hj.1, hk⟩, loopW, dif_pos hj.2, if_pos (by omega)]
end Go.Proofs.YtmhnmelaodhemaaGreatDoor
namespace Go.Proofs.Px
open Go Go.Proofs.Ab
@[simp] theorem int_beq (a b : Int) : (a == b) = decide (a = b) := by by_cases h : a = b <;> simp [h]
@[simp] theorem int_bne (a b : Int) : (a != b) = !decide (a = b) := by by_cases h : a = b <;> simp [bne, h]
@[simp] theorem nat_neg_not (n : Nat) : (((n : Nat) : Int) < 0) = False := by simp
@[simp] theorem mk_B (l : List UInt8) : ByteArray.mk l.toArray = B l := rfl
@[simp] theorem B_eq (a b : List UInt8) : (B a = B b) = (a = b) := propext B_inj
def tkz (z : Bool) : Tok := if z then .nil else .nn
@[simp] theorem tkz_true : tkz true = .nil := rfl
@[simp] theorem tkz_false : tkz false = .nn := rfl
@[simp] theorem tokOf_tkz (z : Bool) (es : List (List V)) : tokOf true (tkz z) es = tkz z := by cases z <;> rfl
@[simp] theorem tokOf_nil (es : List (List V)) : tokOf true .nil es = .nil := rfl
@[simp] theorem tokOf_nn (es : List (List V)) : tokOf true .nn es = .nn := rfl
@[simp] theorem asSlN_nil {R : Type} (e : TypeId) (es : List (List V)) (k : Bool -> List (List V) -> Option R) : V.asSlN (.sl .nil e es) e k = k true es := by simp [V.asSlN]
@[simp] theorem asSlN_nn {R : Type} (e : TypeId) (es : List (List V)) (k : Bool -> List (List V) -> Option R) : V.asSlN (.sl .nn e es) e k = k false es := by simp [V.asSlN]
@[simp] theorem asSlN_tkz {R : Type} (z : Bool) (e : TypeId) (es : List (List V)) (k : Bool -> List (List V) -> Option R) : V.asSlN (.sl (tkz z) e es) e k = k z es := by cases z <;> simp
def sv (l : List (List UInt8)) : List (List V) := l.map fun s => [.str (B s)]
def iv (l : List Int) : List (List V) := l.map fun n => [.int .i64 n]
@[simp] theorem sv_len (l : List (List UInt8)) : (sv l).length = l.length := by simp [sv]
@[simp] theorem iv_len (l : List Int) : (iv l).length = l.length := by simp [iv]
@[simp] theorem sv_nil : sv [] = [] := rfl
@[simp] theorem iv_nil : iv [] = [] := rfl
theorem sv_at (l : List (List UInt8)) (i : Nat) (h : i < l.length) : List.getD (List.getD (sv l) i []) 0 V.undef = .str (B l[i]) := by
 unfold sv
 rw [List.getD_eq_getElem?_getD (l := List.map _ _), List.getElem?_map, List.getElem?_eq_getElem h]; rfl
theorem map_at {α : Type} (f : α -> List V) (l : List α) (i : Nat) (h : i < l.length) : List.getD (l.map f) i [] = f l[i] := by
 rw [List.getD_eq_getElem?_getD, List.getElem?_map, List.getElem?_eq_getElem h]; rfl
@[simp] theorem iv_app (a b : List Int) : iv a ++ iv b = iv (a ++ b) := by simp [iv]
@[simp] theorem sv_app (a b : List (List UInt8)) : sv a ++ sv b = sv (a ++ b) := by simp [sv]
theorem in_row {i n : Nat} (h : i < n) : (0 : Int) <= (i : Int) ∧ (i : Int) < ((n : Nat) : Int) := by omega
end Go.Proofs.Px
namespace Go.Proofs.YtmhnmelaodhemaaGreatDoor
open Go Go.Proofs.Ab Go.Proofs.Px
structure Pai where
 procA : List UInt8
 procB : List UInt8
 varA : List UInt8
 varB : List UInt8
 deriving DecidableEq
def Pai.v (x : Pai) : List V := [.str (B x.procA), .str (B x.procB), .str (B x.varA), .str (B x.varB)]
theorem Pai.v_mk (procA : List UInt8) (procB : List UInt8) (varA : List UInt8) (varB : List UInt8) : Pai.v ⟨procA, procB, varA, varB⟩ = [.str (B procA), .str (B procB), .str (B varA), .str (B varB)] := rfl
@[simp] theorem Pai.asAgg_v (x : Pai) (k : (Nat -> V) -> Option Res) : V.asAgg (.agg x.v) 4 k = k (fun j => x.v.getD j .undef) := asAgg_agg _ _ rfl k
@[simp] theorem Pai.v_0 (x : Pai) : x.v.getD 0 .undef = .str (B x.procA) := rfl
@[simp] theorem Pai.q_0 (x : Pai) : x.v[0]?.getD V.undef = .str (B x.procA) := rfl
@[simp] theorem Pai.v_1 (x : Pai) : x.v.getD 1 .undef = .str (B x.procB) := rfl
@[simp] theorem Pai.q_1 (x : Pai) : x.v[1]?.getD V.undef = .str (B x.procB) := rfl
@[simp] theorem Pai.v_2 (x : Pai) : x.v.getD 2 .undef = .str (B x.varA) := rfl
@[simp] theorem Pai.q_2 (x : Pai) : x.v[2]?.getD V.undef = .str (B x.varA) := rfl
@[simp] theorem Pai.v_3 (x : Pai) : x.v.getD 3 .undef = .str (B x.varB) := rfl
@[simp] theorem Pai.q_3 (x : Pai) : x.v[3]?.getD V.undef = .str (B x.varB) := rfl
structure PaiOk (x : Pai) : Prop where
 procA : x.procA.length <= 140737488351232
 procB : x.procB.length <= 140737488351232
 varA : x.varA.length <= 140737488351232
 varB : x.varB.length <= 140737488351232
structure Kp where
 side : Int
 prc : List UInt8
 vr : List UInt8
 deriving DecidableEq
def Kp.v (x : Kp) : List V := [.int .i64 x.side, .str (B x.prc), .str (B x.vr)]
theorem Kp.v_mk (side : Int) (prc : List UInt8) (vr : List UInt8) : Kp.v ⟨side, prc, vr⟩ = [.int .i64 side, .str (B prc), .str (B vr)] := rfl
@[simp] theorem Kp.asAgg_v (x : Kp) (k : (Nat -> V) -> Option Res) : V.asAgg (.agg x.v) 3 k = k (fun j => x.v.getD j .undef) := asAgg_agg _ _ rfl k
@[simp] theorem Kp.v_0 (x : Kp) : x.v.getD 0 .undef = .int .i64 x.side := rfl
@[simp] theorem Kp.q_0 (x : Kp) : x.v[0]?.getD V.undef = .int .i64 x.side := rfl
@[simp] theorem Kp.v_1 (x : Kp) : x.v.getD 1 .undef = .str (B x.prc) := rfl
@[simp] theorem Kp.q_1 (x : Kp) : x.v[1]?.getD V.undef = .str (B x.prc) := rfl
@[simp] theorem Kp.v_2 (x : Kp) : x.v.getD 2 .undef = .str (B x.vr) := rfl
@[simp] theorem Kp.q_2 (x : Kp) : x.v[2]?.getD V.undef = .str (B x.vr) := rfl
structure KpOk (x : Kp) : Prop where
 side : (Lit.int .i64 x.side).wf = true
 prc : x.prc.length <= 140737488351232
 vr : x.vr.length <= 140737488351232
structure Bk where
 side : Int
 prc : List UInt8
 mark : Int
 whn : List Ex
def Bk.v (x : Bk) : List V := [.int .i64 x.side, .str (B x.prc), .int .i64 x.mark, .sl .no T_api_Expr (x.whn.map Ex.v)]
theorem Bk.v_mk (side : Int) (prc : List UInt8) (mark : Int) (whn : List Ex) : Bk.v ⟨side, prc, mark, whn⟩ = [.int .i64 side, .str (B prc), .int .i64 mark, .sl .no T_api_Expr (whn.map Ex.v)] := rfl
@[simp] theorem Bk.asAgg_v (x : Bk) (k : (Nat -> V) -> Option Res) : V.asAgg (.agg x.v) 4 k = k (fun j => x.v.getD j .undef) := asAgg_agg _ _ rfl k
@[simp] theorem Bk.v_0 (x : Bk) : x.v.getD 0 .undef = .int .i64 x.side := rfl
@[simp] theorem Bk.q_0 (x : Bk) : x.v[0]?.getD V.undef = .int .i64 x.side := rfl
@[simp] theorem Bk.v_1 (x : Bk) : x.v.getD 1 .undef = .str (B x.prc) := rfl
@[simp] theorem Bk.q_1 (x : Bk) : x.v[1]?.getD V.undef = .str (B x.prc) := rfl
@[simp] theorem Bk.v_2 (x : Bk) : x.v.getD 2 .undef = .int .i64 x.mark := rfl
@[simp] theorem Bk.q_2 (x : Bk) : x.v[2]?.getD V.undef = .int .i64 x.mark := rfl
@[simp] theorem Bk.v_3 (x : Bk) : x.v.getD 3 .undef = .sl .no T_api_Expr (x.whn.map Ex.v) := rfl
@[simp] theorem Bk.q_3 (x : Bk) : x.v[3]?.getD V.undef = .sl .no T_api_Expr (x.whn.map Ex.v) := rfl
structure BkOk (x : Bk) : Prop where
 side : (Lit.int .i64 x.side).wf = true
 prc : x.prc.length <= 140737488351232
 mark : (Lit.int .i64 x.mark).wf = true
 whn : x.whn.length <= 140737488351232 ∧ ∀ y ∈ x.whn, ExOk y
structure Wt where
 side : Int
 prc : List UInt8
 vr : List UInt8
 deriving DecidableEq
def Wt.v (x : Wt) : List V := [.int .i64 x.side, .str (B x.prc), .str (B x.vr)]
theorem Wt.v_mk (side : Int) (prc : List UInt8) (vr : List UInt8) : Wt.v ⟨side, prc, vr⟩ = [.int .i64 side, .str (B prc), .str (B vr)] := rfl
@[simp] theorem Wt.asAgg_v (x : Wt) (k : (Nat -> V) -> Option Res) : V.asAgg (.agg x.v) 3 k = k (fun j => x.v.getD j .undef) := asAgg_agg _ _ rfl k
@[simp] theorem Wt.v_0 (x : Wt) : x.v.getD 0 .undef = .int .i64 x.side := rfl
@[simp] theorem Wt.q_0 (x : Wt) : x.v[0]?.getD V.undef = .int .i64 x.side := rfl
@[simp] theorem Wt.v_1 (x : Wt) : x.v.getD 1 .undef = .str (B x.prc) := rfl
@[simp] theorem Wt.q_1 (x : Wt) : x.v[1]?.getD V.undef = .str (B x.prc) := rfl
@[simp] theorem Wt.v_2 (x : Wt) : x.v.getD 2 .undef = .str (B x.vr) := rfl
@[simp] theorem Wt.q_2 (x : Wt) : x.v[2]?.getD V.undef = .str (B x.vr) := rfl
structure WtOk (x : Wt) : Prop where
 side : (Lit.int .i64 x.side).wf = true
 prc : x.prc.length <= 140737488351232
 vr : x.vr.length <= 140737488351232
structure Fl where
 pairs : List Pai
 sames : List Pai
 keeps : List Kp
 breaks : List Bk
 watches : List Wt
def Fl.v (x : Fl) : List V := [.sl .no T_api_Pair (x.pairs.map Pai.v), .sl .no T_api_Pair (x.sames.map Pai.v), .sl .no T_parallaxref12_Keep (x.keeps.map Kp.v), .sl .no T_parallaxref12_Break (x.breaks.map Bk.v), .sl .no T_parallaxref12_Watch (x.watches.map Wt.v)]
theorem Fl.v_mk (pairs : List Pai) (sames : List Pai) (keeps : List Kp) (breaks : List Bk) (watches : List Wt) : Fl.v ⟨pairs, sames, keeps, breaks, watches⟩ = [.sl .no T_api_Pair (pairs.map Pai.v), .sl .no T_api_Pair (sames.map Pai.v), .sl .no T_parallaxref12_Keep (keeps.map Kp.v), .sl .no T_parallaxref12_Break (breaks.map Bk.v), .sl .no T_parallaxref12_Watch (watches.map Wt.v)] := rfl
@[simp] theorem Fl.asAgg_v (x : Fl) (k : (Nat -> V) -> Option Res) : V.asAgg (.agg x.v) 5 k = k (fun j => x.v.getD j .undef) := asAgg_agg _ _ rfl k
@[simp] theorem Fl.v_0 (x : Fl) : x.v.getD 0 .undef = .sl .no T_api_Pair (x.pairs.map Pai.v) := rfl
@[simp] theorem Fl.q_0 (x : Fl) : x.v[0]?.getD V.undef = .sl .no T_api_Pair (x.pairs.map Pai.v) := rfl
@[simp] theorem Fl.v_1 (x : Fl) : x.v.getD 1 .undef = .sl .no T_api_Pair (x.sames.map Pai.v) := rfl
@[simp] theorem Fl.q_1 (x : Fl) : x.v[1]?.getD V.undef = .sl .no T_api_Pair (x.sames.map Pai.v) := rfl
@[simp] theorem Fl.v_2 (x : Fl) : x.v.getD 2 .undef = .sl .no T_parallaxref12_Keep (x.keeps.map Kp.v) := rfl
@[simp] theorem Fl.q_2 (x : Fl) : x.v[2]?.getD V.undef = .sl .no T_parallaxref12_Keep (x.keeps.map Kp.v) := rfl
@[simp] theorem Fl.v_3 (x : Fl) : x.v.getD 3 .undef = .sl .no T_parallaxref12_Break (x.breaks.map Bk.v) := rfl
@[simp] theorem Fl.q_3 (x : Fl) : x.v[3]?.getD V.undef = .sl .no T_parallaxref12_Break (x.breaks.map Bk.v) := rfl
@[simp] theorem Fl.v_4 (x : Fl) : x.v.getD 4 .undef = .sl .no T_parallaxref12_Watch (x.watches.map Wt.v) := rfl
@[simp] theorem Fl.q_4 (x : Fl) : x.v[4]?.getD V.undef = .sl .no T_parallaxref12_Watch (x.watches.map Wt.v) := rfl
structure FlOk (x : Fl) : Prop where
 pairs : x.pairs.length <= 140737488351232 ∧ ∀ y ∈ x.pairs, PaiOk y
 sames : x.sames.length <= 140737488351232 ∧ ∀ y ∈ x.sames, PaiOk y
 keeps : x.keeps.length <= 140737488351232 ∧ ∀ y ∈ x.keeps, KpOk y
 breaks : x.breaks.length <= 140737488351232 ∧ ∀ y ∈ x.breaks, BkOk y
 watches : x.watches.length <= 140737488351232 ∧ ∀ y ∈ x.watches, WtOk y
theorem Pai.bytes : decide (Program.bytesOf Sp.P T_api_Pair >= 1) = true := by kernel_rfl
theorem Kp.bytes : decide (Program.bytesOf Sp.P T_parallaxref12_Keep >= 1) = true := by kernel_rfl
theorem Bk.bytes : decide (Program.bytesOf Sp.P T_parallaxref12_Break >= 1) = true := by kernel_rfl
theorem Wt.bytes : decide (Program.bytesOf Sp.P T_parallaxref12_Watch >= 1) = true := by kernel_rfl
def isW (t : Tk) (s : List UInt8) : Bool := decide (t.kind = 1) && decide (t.text = s)
def isS (t : Tk) (s : List UInt8) : Bool := decide (t.kind = 4) && decide (t.text = s)
abbrev Rf (α : Type) := Except (Int × Int) (α × Nat)
def andR {α β : Type} (r : Rf α) (f : α -> Nat -> Rf β) : Rf β := match r with | .error e => .error e | .ok (x, k) => f x k
def wrongR {α : Type} (l : List Tk) (k : Nat) : Rf α := .error ((tk l k).at_, 30)
def nameR (l : List Tk) (k : Nat) : Rf (List UInt8) := if (tk l k).kind = 1 then .ok ((tk l k).text, k + 1) else wrongR l k
def signR (l : List Tk) (s : List UInt8) (k : Nat) : Rf Unit := if isS (tk l k) s then .ok ((), k + 1) else wrongR l k
def sideR (l : List Tk) (k : Nat) : Rf Int := if isW (tk l k) [108, 101, 102, 116] then .ok (0, k + 1) else if isW (tk l k) [114, 105, 103, 104, 116] then .ok (1, k + 1) else wrongR l k
def intR (l : List Tk) (k : Nat) : Rf Int := if (tk l k).kind = 2 then .ok ((tk l k).num, k + 1) else wrongR l k
def halfR (l : List Tk) (k : Nat) : Rf (List UInt8 × List UInt8) :=
 andR (nameR l k) fun p k => andR (signR l [40] k) fun _ k => andR (nameR l k) fun v k => andR (signR l [41] k) fun _ k => .ok ((p, v), k)
def sameR (l : List Tk) (k : Nat) : Rf Pai := andR (halfR l k) fun x k => andR (halfR l k) fun y k => .ok (⟨x.1, y.1, x.2, y.2⟩, k)
def whenR (l : List Tk) (k : Nat) : Rf (List Ex) :=
 if isW (tk l k) [119, 104, 101, 110] then andR (partR l 1 (k + 1) (tightW l 1 1 (k + 1))) fun x k => .ok ([x], k) else .ok ([], k)
def stopR (l : List Tk) (k : Nat) : Rf Bk := andR (sideR l k) fun s k => andR (nameR l k) fun p k => andR (intR l k) fun n k => andR (whenR l k) fun w k => .ok (⟨s, p, n, w⟩, k)
def keepR (l : List Tk) (k : Nat) : Rf (Int × List UInt8 × List UInt8) := andR (sideR l k) fun s k => andR (nameR l k) fun p k => andR (nameR l k) fun v k => .ok ((s, p, v), k)
def fullR {α : Type} (l : List Tk) (n most k : Nat) (r : Rf α) : Rf α := if most <= n then .error ((tk l k).at_, 2) else r
def itemR (l : List Tk) (f : Fl) (k : Nat) : Rf Fl :=
 if isW (tk l k) [112, 97, 105, 114] then fullR l f.pairs.length 40 k (andR (nameR l (k + 1)) fun a k => andR (nameR l k) fun b k => .ok ({ f with pairs := f.pairs ++ [⟨a, b, [], []⟩] }, k))
 else if isW (tk l k) [115, 97, 109, 101] then fullR l f.sames.length 40 k (andR (sameR l (k + 1)) fun p k => .ok ({ f with sames := f.sames ++ [p] }, k))
 else if isW (tk l k) [107, 101, 101, 112] then fullR l f.keeps.length 40 k (andR (keepR l (k + 1)) fun x k => .ok ({ f with keeps := f.keeps ++ [⟨x.1, x.2.1, x.2.2⟩] }, k))
 else if isW (tk l k) [98, 114, 101, 97, 107] then fullR l f.breaks.length 40 k (andR (stopR l (k + 1)) fun b k => .ok ({ f with breaks := f.breaks ++ [b] }, k))
 else if isW (tk l k) [119, 97, 116, 99, 104] then fullR l f.watches.length 40 k (andR (keepR l (k + 1)) fun x k => .ok ({ f with watches := f.watches ++ [⟨x.1, x.2.1, x.2.2⟩] }, k))
 else wrongR l k
def lineR (l : List Tk) (f : Fl) (k : Nat) : Rf Fl := andR (itemR l f k) fun f k => andR (signR l [59] k) fun _ k => .ok (f, k)
def fileR (l : List Tk) : Nat -> Fl -> Nat -> Except (Int × Int) Fl
 | 0, _, _ => .error (0, 0)
 | n + 1, f, k => if (tk l k).kind = 0 then .ok f else match lineR l f k with | .error e => .error e | .ok (g, j) => fileR l n g j
def emptyF : Fl := ⟨[], [], [], [], []⟩
def toldF (r : Except (Int × Int) Fl) : Fl × Int × Int := match r with | .error e => (emptyF, e.1, e.2) | .ok f => (f, 0, 0)
def parseF (s : List UInt8) : Fl × Int × Int :=
 if (scan s).2.2 ≠ 0 then (emptyF, (scan s).2.1, (scan s).2.2)
 else toldF (fileR (scan s).1 ((scan s).1.length + 1) emptyF 0)
theorem andR_ok {α β : Type} {r : Rf α} {f : α -> Nat -> Rf β} {y : β × Nat} (h : andR r f = .ok y) : ∃ x k, r = .ok (x, k) ∧ f x k = .ok y := by
 unfold andR at h
 split at h
 ·cases h
 ·rename_i x k; exact ⟨x, k, rfl, h⟩
structure Step (l : List Tk) (k j : Nat) : Prop where
 lt : k < j
 end_ : j < l.length
variable {l : List Tk}
theorem nameR_step (hl : Ended l) {k : Nat} (hk : k < l.length) {x : List UInt8} {j : Nat} (h : nameR l k = .ok (x, j)) : Step l k j ∧ (tk l k).kind = 1 ∧ x = (tk l k).text ∧ j = k + 1 := by
 unfold nameR at h
 split at h
 ·rename_i c
  have := hl.next hk (by omega)
  cases h; exact ⟨⟨by omega, this⟩, c, rfl, rfl⟩
 ·cases h
theorem signR_step (hl : Ended l) {k : Nat} (hk : k < l.length) {s : List UInt8} {x : Unit} {j : Nat} (h : signR l s k = .ok (x, j)) : Step l k j ∧ isS (tk l k) s = true ∧ j = k + 1 := by
 unfold signR at h
 split at h
 ·rename_i c
  have hk4 : (tk l k).kind = 4 := by
   unfold isS at c
   simp only [Bool.and_eq_true, decide_eq_true_eq] at c
   exact c.1
  have := hl.next hk (by omega)
  cases h; exact ⟨⟨by omega, this⟩, c, rfl⟩
 ·cases h
theorem isW_kind {t : Tk} {s : List UInt8} (h : isW t s = true) : t.kind = 1 ∧ t.text = s := by
 unfold isW at h
 simpa only [Bool.and_eq_true, decide_eq_true_eq] using h
theorem isS_kind {t : Tk} {s : List UInt8} (h : isS t s = true) : t.kind = 4 ∧ t.text = s := by
 unfold isS at h
 simpa only [Bool.and_eq_true, decide_eq_true_eq] using h
theorem sideR_step (hl : Ended l) {k : Nat} (hk : k < l.length) {x : Int} {j : Nat} (h : sideR l k = .ok (x, j)) : Step l k j ∧ (tk l k).kind = 1 ∧ (x = 0 ∨ x = 1) ∧ j = k + 1 := by
 unfold sideR at h
 split at h
 ·rename_i c
  have := hl.next hk (by rw [(isW_kind c).1]; decide)
  cases h; exact ⟨⟨by omega, this⟩, (isW_kind c).1, .inl rfl, rfl⟩
 split at h
 ·rename_i c
  have := hl.next hk (by rw [(isW_kind c).1]; decide)
  cases h; exact ⟨⟨by omega, this⟩, (isW_kind c).1, .inr rfl, rfl⟩
 ·cases h
theorem intR_step (hl : Ended l) {k : Nat} (hk : k < l.length) {x : Int} {j : Nat} (h : intR l k = .ok (x, j)) : Step l k j ∧ (tk l k).kind = 2 ∧ x = (tk l k).num ∧ j = k + 1 := by
 unfold intR at h
 split at h
 ·rename_i c
  have := hl.next hk (by omega)
  cases h; exact ⟨⟨by omega, this⟩, c, rfl, rfl⟩
 ·cases h
end Go.Proofs.YtmhnmelaodhemaaGreatDoor
namespace Go.Proofs.YtmhnmelaodhemaaGreatDoor
open Go Go.Proofs.Ab Go.Proofs.Px
theorem tok_g {l : List Tk} {k : Nat} (h : k < l.length) : (l.map Tk.v).getD k [] = (tk l k).v := by
 unfold tk
 rw [List.getD_eq_getElem?_getD, List.getD_eq_getElem?_getD, List.getElem?_map, List.getElem?_eq_getElem h]; rfl
theorem tkv_0 (t : Tk) : t.v.getD 0 .undef = .int .i64 t.kind := rfl
theorem tkv_1 (t : Tk) : t.v.getD 1 .undef = .str (B t.text) := rfl
theorem tkv_2 (t : Tk) : t.v.getD 2 .undef = .int .i64 t.num := rfl
theorem tkv_3 (t : Tk) : t.v.getD 3 .undef = .int .i64 t.at_ := rfl
theorem row_in {l : List Tk} {k : Nat} (h : k < l.length) : (0 : Int) <= (k : Int) ∧ (k : Int) < (((l.map Tk.v).length : Nat) : Int) := ⟨by omega, by rw [List.length_map]; omega⟩
theorem wr1 {k : Nat} (h : k < 1099511627776) : IntKind.i64.wrap ((k : Int) + 1) = ((k + 1 : Nat) : Int) := by rw [wrap_in (by omega) (by omega)]; omega
theorem lx : (∀ (x : Ex) (k : (Nat -> V) -> Option Res), V.asAgg (.agg x.v) 4 k = k (fun j => x.v.getD j .undef)) ∧ (∀ x : Ex, x.v.getD 0 .undef = .int .i64 x.kind) ∧ (∀ x : Ex, x.v.getD 1 .undef = .str (B x.name)) ∧ (∀ x : Ex, x.v.getD 2 .undef = .int .i64 x.num) ∧
 (∀ x : Ex, x.v.getD 3 .undef = .sl .no T_api_Expr (x.l.map Ex.v)) ∧ (∀ x : Ex, [V.int .i64 x.kind, V.str (B x.name), V.int .i64 x.num, V.sl .no T_api_Expr (x.l.map Ex.v)] = x.v) := ⟨asAgg_ex, Ex.v_0, Ex.v_1, Ex.v_2, Ex.v_3, Ex.v_list⟩
end Go.Proofs.YtmhnmelaodhemaaGreatDoor
namespace Go.Proofs.YtmhnmelaodhemaaGreatDoor
open Go Go.Proofs.Ab
namespace decl_reader_fail
theorem eq (m0_0 : List (List V)) (m0_1 a1 : Int) : den Sp id [V.ref 0 0, V.int .i64 a1] [Blk.cells T_decl_reader [V.sl .no T_api_Token m0_0, V.int .i64 m0_1] false] none =
  (if (((0 : Int) <= m0_1) ∧ (m0_1 < (m0_0.length : Int))) then (V.asInt (List.getD (List.getD m0_0 (Int.toNat m0_1) []) 3 V.undef) .i64 (fun n4 => some ⟨Out.pan (V.iface T_decl_given (V.agg [V.int .i64 n4, V.int .i64 a1])), [Blk.cells T_decl_reader [V.sl .no T_api_Token m0_0, V.int .i64 m0_1] false], none⟩)) else none) := (den_eq ..).trans (by kernel_rfl)
end decl_reader_fail
namespace decl_reader_word
theorem eq (m0_0 : List (List V)) (m0_1 : Int) (a1 : ByteArray) : den Sp id [V.ref 0 0, V.str a1] [Blk.cells T_decl_reader [V.sl .no T_api_Token m0_0, V.int .i64 m0_1] false] none =
  (if (((0 : Int) <= m0_1) ∧ (m0_1 < (m0_0.length : Int))) then (V.asInt (List.getD (List.getD m0_0 (Int.toNat m0_1) []) 0 V.undef) .i64 (fun n5 => bif (n5 == (1 : Int)) then (if (((0 : Int) <= m0_1) ∧ (m0_1 < (m0_0.length : Int))) then (V.asStr (List.getD (List.getD m0_0 (Int.toNat m0_1) []) 1 V.undef) (fun s6 => some ⟨Out.ret (V.bool (decide (s6 = a1))), [Blk.cells T_decl_reader [V.sl .no T_api_Token m0_0, V.int .i64 m0_1] false], none⟩)) else none) else (some ⟨Out.ret (V.bool false), [Blk.cells T_decl_reader [V.sl .no T_api_Token m0_0, V.int .i64 m0_1] false], none⟩))) else none) := (den_eq ..).trans (by kernel_rfl)
end decl_reader_word
namespace decl_reader_full
theorem eq (m0_0 : List (List V)) (m0_1 a1 a2 a3 : Int) : den Sp id [V.ref 0 0, V.int .i64 a1, V.int .i64 a2, V.int .i64 a3] [Blk.cells T_decl_reader [V.sl .no T_api_Token m0_0, V.int .i64 m0_1] false] none =
  (bif (decide (a2 >= a3)) then (if (((0 : Int) <= a1) ∧ (a1 < (m0_0.length : Int))) then (V.asInt (List.getD (List.getD m0_0 (Int.toNat a1) []) 3 V.undef) .i64 (fun n7 => some ⟨Out.pan (V.iface T_decl_given (V.agg [V.int .i64 n7, V.int .i64 (2 : Int)])), [Blk.cells T_decl_reader [V.sl .no T_api_Token m0_0, V.int .i64 m0_1] false], none⟩)) else none) else (some ⟨Out.ret (V.tup []), [Blk.cells T_decl_reader [V.sl .no T_api_Token m0_0, V.int .i64 m0_1] false], none⟩)) := (den_eq ..).trans (by kernel_rfl)
end decl_reader_full
namespace decl_reader_name
theorem eq (m0_0 : List (List V)) (m0_1 : Int) : den Sp id [V.ref 0 0] [Blk.cells T_decl_reader [V.sl .no T_api_Token m0_0, V.int .i64 m0_1] false] none =
  (if (((0 : Int) <= m0_1) ∧ (m0_1 < (m0_0.length : Int))) then (V.asInt (List.getD (List.getD m0_0 (Int.toNat m0_1) []) 0 V.undef) .i64 (fun n4 => V.asStr (List.getD (List.getD m0_0 (Int.toNat m0_1) []) 1 V.undef) (fun s5 => V.asInt (List.getD (List.getD m0_0 (Int.toNat m0_1) []) 2 V.undef) .i64 (fun n6 => V.asInt (List.getD (List.getD m0_0 (Int.toNat m0_1) []) 3 V.undef) .i64 (fun n7 => bif (n4 != (1 : Int)) then (den Sp decl_reader_fail.id [V.ref 0 0, V.int .i64 (30 : Int)] [Blk.cells T_decl_reader [V.sl .no T_api_Token m0_0, V.int .i64 m0_1] false] none).bind (fun r10 => Blk.asCells (List.getD (Res.bl r10) 0 (Blk.cells T_n0 [] true)) T_decl_reader 2 (fun rd11 => V.asSl (rd11 0) T_api_Token (fun es12 => V.asInt (rd11 1) .i64 (fun n13 => Res.onOut r10 (fun v14 => V.asTup v14 0 (fun rd15 => some ⟨Out.ret (V.str s5), [Blk.cells T_decl_reader [V.sl .no T_api_Token es12, V.int .i64 (IntKind.wrap .i64 (n13 + (1 : Int)))] false], none⟩)) (fun v14 => V.asIface v14 T_decl_given (fun w15 => V.asAgg w15 2 (fun rd16 => V.asInt (rd16 0) .i64 (fun n17 => V.asInt (rd16 1) .i64 (fun n18 => some ⟨Out.pan (V.iface T_decl_given (V.agg [V.int .i64 n17, V.int .i64 n18])), [Blk.cells T_decl_reader [V.sl .no T_api_Token es12, V.int .i64 n13] false], none⟩))))))))) else (some ⟨Out.ret (V.str s5), [Blk.cells T_decl_reader [V.sl .no T_api_Token m0_0, V.int .i64 (IntKind.wrap .i64 (m0_1 + (1 : Int)))] false], none⟩)))))) else none) := (den_eq ..).trans (by kernel_rfl)
end decl_reader_name
namespace decl_reader_side
theorem eq (m0_0 : List (List V)) (m0_1 : Int) : den Sp id [V.ref 0 0] [Blk.cells T_decl_reader [V.sl .no T_api_Token m0_0, V.int .i64 m0_1] false] none =
  (den Sp decl_reader_word.id [V.ref 0 0, V.str (ByteArray.mk #[108, 101, 102, 116])] [Blk.cells T_decl_reader [V.sl .no T_api_Token m0_0, V.int .i64 m0_1] false] none).bind (fun r5 => Blk.asCells (List.getD (Res.bl r5) 0 (Blk.cells T_n0 [] true)) T_decl_reader 2 (fun rd6 => V.asSl (rd6 0) T_api_Token (fun es7 => V.asInt (rd6 1) .i64 (fun n8 => Res.onRet r5 (fun v9 => V.asBool v9 (fun b10 => bif b10 then (some ⟨Out.ret (V.int .i64 (0 : Int)), [Blk.cells T_decl_reader [V.sl .no T_api_Token es7, V.int .i64 (IntKind.wrap .i64 (n8 + (1 : Int)))] false], none⟩) else (den Sp decl_reader_word.id [V.ref 0 0, V.str (ByteArray.mk #[114, 105, 103, 104, 116])] [Blk.cells T_decl_reader [V.sl .no T_api_Token es7, V.int .i64 n8] false] none).bind (fun r12 => Blk.asCells (List.getD (Res.bl r12) 0 (Blk.cells T_n0 [] true)) T_decl_reader 2 (fun rd13 => V.asSl (rd13 0) T_api_Token (fun es14 => V.asInt (rd13 1) .i64 (fun n15 => Res.onRet r12 (fun v16 => V.asBool v16 (fun b17 => bif b17 then (some ⟨Out.ret (V.int .i64 (1 : Int)), [Blk.cells T_decl_reader [V.sl .no T_api_Token es14, V.int .i64 (IntKind.wrap .i64 (n15 + (1 : Int)))] false], none⟩) else (den Sp decl_reader_fail.id [V.ref 0 0, V.int .i64 (30 : Int)] [Blk.cells T_decl_reader [V.sl .no T_api_Token es14, V.int .i64 n15] false] none).bind (fun r19 => Blk.asCells (List.getD (Res.bl r19) 0 (Blk.cells T_n0 [] true)) T_decl_reader 2 (fun rd20 => V.asSl (rd20 0) T_api_Token (fun es21 => V.asInt (rd20 1) .i64 (fun n22 => Res.onOut r19 (fun v23 => V.asTup v23 0 (fun rd24 => some ⟨Out.ret (V.int .i64 (0 : Int)), [Blk.cells T_decl_reader [V.sl .no T_api_Token es21, V.int .i64 (IntKind.wrap .i64 (n22 + (1 : Int)))] false], none⟩)) (fun v23 => V.asIface v23 T_decl_given (fun w24 => V.asAgg w24 2 (fun rd25 => V.asInt (rd25 0) .i64 (fun n26 => V.asInt (rd25 1) .i64 (fun n27 => some ⟨Out.pan (V.iface T_decl_given (V.agg [V.int .i64 n26, V.int .i64 n27])), [Blk.cells T_decl_reader [V.sl .no T_api_Token es21, V.int .i64 n22] false], none⟩))))))))))))))))))))) := (den_eq ..).trans (by kernel_rfl)
end decl_reader_side
namespace decl_reader_sign
theorem eq (m0_0 : List (List V)) (m0_1 : Int) (a1 : ByteArray) : den Sp id [V.ref 0 0, V.str a1] [Blk.cells T_decl_reader [V.sl .no T_api_Token m0_0, V.int .i64 m0_1] false] none =
  (if (((0 : Int) <= m0_1) ∧ (m0_1 < (m0_0.length : Int))) then (V.asInt (List.getD (List.getD m0_0 (Int.toNat m0_1) []) 0 V.undef) .i64 (fun n4 => V.asStr (List.getD (List.getD m0_0 (Int.toNat m0_1) []) 1 V.undef) (fun s5 => V.asInt (List.getD (List.getD m0_0 (Int.toNat m0_1) []) 2 V.undef) .i64 (fun n6 => V.asInt (List.getD (List.getD m0_0 (Int.toNat m0_1) []) 3 V.undef) .i64 (fun n7 => bif (n4 != (4 : Int)) then (den Sp decl_reader_fail.id [V.ref 0 0, V.int .i64 (30 : Int)] [Blk.cells T_decl_reader [V.sl .no T_api_Token m0_0, V.int .i64 m0_1] false] none).bind (fun r10 => Blk.asCells (List.getD (Res.bl r10) 0 (Blk.cells T_n0 [] true)) T_decl_reader 2 (fun rd11 => V.asSl (rd11 0) T_api_Token (fun es12 => V.asInt (rd11 1) .i64 (fun n13 => Res.onOut r10 (fun v14 => V.asTup v14 0 (fun rd15 => some ⟨Out.ret (V.tup []), [Blk.cells T_decl_reader [V.sl .no T_api_Token es12, V.int .i64 (IntKind.wrap .i64 (n13 + (1 : Int)))] false], none⟩)) (fun v14 => V.asIface v14 T_decl_given (fun w15 => V.asAgg w15 2 (fun rd16 => V.asInt (rd16 0) .i64 (fun n17 => V.asInt (rd16 1) .i64 (fun n18 => some ⟨Out.pan (V.iface T_decl_given (V.agg [V.int .i64 n17, V.int .i64 n18])), [Blk.cells T_decl_reader [V.sl .no T_api_Token es12, V.int .i64 n13] false], none⟩))))))))) else (bif (!(decide (s5 = a1))) then (den Sp decl_reader_fail.id [V.ref 0 0, V.int .i64 (30 : Int)] [Blk.cells T_decl_reader [V.sl .no T_api_Token m0_0, V.int .i64 m0_1] false] none).bind (fun r10 => Blk.asCells (List.getD (Res.bl r10) 0 (Blk.cells T_n0 [] true)) T_decl_reader 2 (fun rd11 => V.asSl (rd11 0) T_api_Token (fun es12 => V.asInt (rd11 1) .i64 (fun n13 => Res.onOut r10 (fun v14 => V.asTup v14 0 (fun rd15 => some ⟨Out.ret (V.tup []), [Blk.cells T_decl_reader [V.sl .no T_api_Token es12, V.int .i64 (IntKind.wrap .i64 (n13 + (1 : Int)))] false], none⟩)) (fun v14 => V.asIface v14 T_decl_given (fun w15 => V.asAgg w15 2 (fun rd16 => V.asInt (rd16 0) .i64 (fun n17 => V.asInt (rd16 1) .i64 (fun n18 => some ⟨Out.pan (V.iface T_decl_given (V.agg [V.int .i64 n17, V.int .i64 n18])), [Blk.cells T_decl_reader [V.sl .no T_api_Token es12, V.int .i64 n13] false], none⟩))))))))) else (some ⟨Out.ret (V.tup []), [Blk.cells T_decl_reader [V.sl .no T_api_Token m0_0, V.int .i64 (IntKind.wrap .i64 (m0_1 + (1 : Int)))] false], none⟩))))))) else none) := (den_eq ..).trans (by kernel_rfl)
end decl_reader_sign
namespace decl_reader_same
theorem eq (m0_0 : List (List V)) (m0_1 : Int) : den Sp id [V.ref 0 0] [Blk.cells T_decl_reader [V.sl .no T_api_Token m0_0, V.int .i64 m0_1] false] none =
  (den Sp decl_reader_name.id [V.ref 0 0] [Blk.cells T_decl_reader [V.sl .no T_api_Token m0_0, V.int .i64 m0_1] false] none).bind (fun r8 => Blk.asCells (List.getD (Res.bl r8) 0 (Blk.cells T_n0 [] true)) T_decl_reader 2 (fun rd9 => V.asSl (rd9 0) T_api_Token (fun es10 => V.asInt (rd9 1) .i64 (fun n11 => Res.onOut r8 (fun v12 => V.asStr v12 (fun s13 => (den Sp decl_reader_sign.id [V.ref 0 0, V.str (ByteArray.mk #[40])] [Blk.cells T_decl_reader [V.sl .no T_api_Token es10, V.int .i64 n11] false] none).bind (fun r15 => Blk.asCells (List.getD (Res.bl r15) 0 (Blk.cells T_n0 [] true)) T_decl_reader 2 (fun rd16 => V.asSl (rd16 0) T_api_Token (fun es17 => V.asInt (rd16 1) .i64 (fun n18 => Res.onOut r15 (fun v19 => V.asTup v19 0 (fun rd20 => (den Sp decl_reader_name.id [V.ref 0 0] [Blk.cells T_decl_reader [V.sl .no T_api_Token es17, V.int .i64 n18] false] none).bind (fun r22 => Blk.asCells (List.getD (Res.bl r22) 0 (Blk.cells T_n0 [] true)) T_decl_reader 2 (fun rd23 => V.asSl (rd23 0) T_api_Token (fun es24 => V.asInt (rd23 1) .i64 (fun n25 => Res.onOut r22 (fun v26 => V.asStr v26 (fun s27 => (den Sp decl_reader_sign.id [V.ref 0 0, V.str (ByteArray.mk #[41])] [Blk.cells T_decl_reader [V.sl .no T_api_Token es24, V.int .i64 n25] false] none).bind (fun r29 => Blk.asCells (List.getD (Res.bl r29) 0 (Blk.cells T_n0 [] true)) T_decl_reader 2 (fun rd30 => V.asSl (rd30 0) T_api_Token (fun es31 => V.asInt (rd30 1) .i64 (fun n32 => Res.onOut r29 (fun v33 => V.asTup v33 0 (fun rd34 => (den Sp decl_reader_name.id [V.ref 0 0] [Blk.cells T_decl_reader [V.sl .no T_api_Token es31, V.int .i64 n32] false] none).bind (fun r39 => Blk.asCells (List.getD (Res.bl r39) 0 (Blk.cells T_n0 [] true)) T_decl_reader 2 (fun rd40 => V.asSl (rd40 0) T_api_Token (fun es41 => V.asInt (rd40 1) .i64 (fun n42 => Res.onOut r39 (fun v43 => V.asStr v43 (fun s44 => (den Sp decl_reader_sign.id [V.ref 0 0, V.str (ByteArray.mk #[40])] [Blk.cells T_decl_reader [V.sl .no T_api_Token es41, V.int .i64 n42] false] none).bind (fun r46 => Blk.asCells (List.getD (Res.bl r46) 0 (Blk.cells T_n0 [] true)) T_decl_reader 2 (fun rd47 => V.asSl (rd47 0) T_api_Token (fun es48 => V.asInt (rd47 1) .i64 (fun n49 => Res.onOut r46 (fun v50 => V.asTup v50 0 (fun rd51 => (den Sp decl_reader_name.id [V.ref 0 0] [Blk.cells T_decl_reader [V.sl .no T_api_Token es48, V.int .i64 n49] false] none).bind (fun r53 => Blk.asCells (List.getD (Res.bl r53) 0 (Blk.cells T_n0 [] true)) T_decl_reader 2 (fun rd54 => V.asSl (rd54 0) T_api_Token (fun es55 => V.asInt (rd54 1) .i64 (fun n56 => Res.onOut r53 (fun v57 => V.asStr v57 (fun s58 => (den Sp decl_reader_sign.id [V.ref 0 0, V.str (ByteArray.mk #[41])] [Blk.cells T_decl_reader [V.sl .no T_api_Token es55, V.int .i64 n56] false] none).bind (fun r60 => Blk.asCells (List.getD (Res.bl r60) 0 (Blk.cells T_n0 [] true)) T_decl_reader 2 (fun rd61 => V.asSl (rd61 0) T_api_Token (fun es62 => V.asInt (rd61 1) .i64 (fun n63 => Res.onOut r60 (fun v64 => V.asTup v64 0 (fun rd65 => some ⟨Out.ret (V.agg [V.str s13, V.str s44, V.str s27, V.str s58]), [Blk.cells T_decl_reader [V.sl .no T_api_Token es62, V.int .i64 n63] false], none⟩)) (fun v64 => V.asIface v64 T_decl_given (fun w65 => V.asAgg w65 2 (fun rd66 => V.asInt (rd66 0) .i64 (fun n67 => V.asInt (rd66 1) .i64 (fun n68 => some ⟨Out.pan (V.iface T_decl_given (V.agg [V.int .i64 n67, V.int .i64 n68])), [Blk.cells T_decl_reader [V.sl .no T_api_Token es62, V.int .i64 n63] false], none⟩))))))))))) (fun v57 => V.asIface v57 T_decl_given (fun w58 => V.asAgg w58 2 (fun rd59 => V.asInt (rd59 0) .i64 (fun n60 => V.asInt (rd59 1) .i64 (fun n61 => some ⟨Out.pan (V.iface T_decl_given (V.agg [V.int .i64 n60, V.int .i64 n61])), [Blk.cells T_decl_reader [V.sl .no T_api_Token es55, V.int .i64 n56] false], none⟩))))))))))) (fun v50 => V.asIface v50 T_decl_given (fun w51 => V.asAgg w51 2 (fun rd52 => V.asInt (rd52 0) .i64 (fun n53 => V.asInt (rd52 1) .i64 (fun n54 => some ⟨Out.pan (V.iface T_decl_given (V.agg [V.int .i64 n53, V.int .i64 n54])), [Blk.cells T_decl_reader [V.sl .no T_api_Token es48, V.int .i64 n49] false], none⟩))))))))))) (fun v43 => V.asIface v43 T_decl_given (fun w44 => V.asAgg w44 2 (fun rd45 => V.asInt (rd45 0) .i64 (fun n46 => V.asInt (rd45 1) .i64 (fun n47 => some ⟨Out.pan (V.iface T_decl_given (V.agg [V.int .i64 n46, V.int .i64 n47])), [Blk.cells T_decl_reader [V.sl .no T_api_Token es41, V.int .i64 n42] false], none⟩))))))))))) (fun v33 => V.asIface v33 T_decl_given (fun w34 => V.asAgg w34 2 (fun rd35 => V.asInt (rd35 0) .i64 (fun n36 => V.asInt (rd35 1) .i64 (fun n37 => some ⟨Out.pan (V.iface T_decl_given (V.agg [V.int .i64 n36, V.int .i64 n37])), [Blk.cells T_decl_reader [V.sl .no T_api_Token es31, V.int .i64 n32] false], none⟩))))))))))) (fun v26 => V.asIface v26 T_decl_given (fun w27 => V.asAgg w27 2 (fun rd28 => V.asInt (rd28 0) .i64 (fun n29 => V.asInt (rd28 1) .i64 (fun n30 => some ⟨Out.pan (V.iface T_decl_given (V.agg [V.int .i64 n29, V.int .i64 n30])), [Blk.cells T_decl_reader [V.sl .no T_api_Token es24, V.int .i64 n25] false], none⟩))))))))))) (fun v19 => V.asIface v19 T_decl_given (fun w20 => V.asAgg w20 2 (fun rd21 => V.asInt (rd21 0) .i64 (fun n22 => V.asInt (rd21 1) .i64 (fun n23 => some ⟨Out.pan (V.iface T_decl_given (V.agg [V.int .i64 n22, V.int .i64 n23])), [Blk.cells T_decl_reader [V.sl .no T_api_Token es17, V.int .i64 n18] false], none⟩))))))))))) (fun v12 => V.asIface v12 T_decl_given (fun w13 => V.asAgg w13 2 (fun rd14 => V.asInt (rd14 0) .i64 (fun n15 => V.asInt (rd14 1) .i64 (fun n16 => some ⟨Out.pan (V.iface T_decl_given (V.agg [V.int .i64 n15, V.int .i64 n16])), [Blk.cells T_decl_reader [V.sl .no T_api_Token es10, V.int .i64 n11] false], none⟩))))))))) := (den_eq ..).trans (by kernel_rfl)
end decl_reader_same
namespace decl_reader_stop
theorem eq (m0_0 : List (List V)) (m0_1 : Int) : den Sp id [V.ref 0 0] [Blk.cells T_decl_reader [V.sl .no T_api_Token m0_0, V.int .i64 m0_1] false] none =
  (den Sp decl_reader_side.id [V.ref 0 0] [Blk.cells T_decl_reader [V.sl .no T_api_Token m0_0, V.int .i64 m0_1] false] none).bind (fun r4 => Blk.asCells (List.getD (Res.bl r4) 0 (Blk.cells T_n0 [] true)) T_decl_reader 2 (fun rd5 => V.asSl (rd5 0) T_api_Token (fun es6 => V.asInt (rd5 1) .i64 (fun n7 => Res.onOut r4 (fun v8 => V.asInt v8 .i64 (fun n9 => (den Sp decl_reader_name.id [V.ref 0 0] [Blk.cells T_decl_reader [V.sl .no T_api_Token es6, V.int .i64 n7] false] none).bind (fun r10 => Blk.asCells (List.getD (Res.bl r10) 0 (Blk.cells T_n0 [] true)) T_decl_reader 2 (fun rd11 => V.asSl (rd11 0) T_api_Token (fun es12 => V.asInt (rd11 1) .i64 (fun n13 => Res.onOut r10 (fun v14 => V.asStr v14 (fun s15 => if (((0 : Int) <= n13) ∧ (n13 < (es12.length : Int))) then (V.asInt (List.getD (List.getD es12 (Int.toNat n13) []) 0 V.undef) .i64 (fun n17 => V.asStr (List.getD (List.getD es12 (Int.toNat n13) []) 1 V.undef) (fun s18 => V.asInt (List.getD (List.getD es12 (Int.toNat n13) []) 2 V.undef) .i64 (fun n19 => V.asInt (List.getD (List.getD es12 (Int.toNat n13) []) 3 V.undef) .i64 (fun n20 => bif (n17 != (2 : Int)) then (den Sp decl_reader_fail.id [V.ref 0 0, V.int .i64 (30 : Int)] [Blk.cells T_decl_reader [V.sl .no T_api_Token es12, V.int .i64 n13] false] none).bind (fun r23 => Blk.asCells (List.getD (Res.bl r23) 0 (Blk.cells T_n0 [] true)) T_decl_reader 2 (fun rd24 => V.asSl (rd24 0) T_api_Token (fun es25 => V.asInt (rd24 1) .i64 (fun n26 => Res.onOut r23 (fun v27 => V.asTup v27 0 (fun rd28 => (den Sp decl_reader_word.id [V.ref 0 0, V.str (ByteArray.mk #[119, 104, 101, 110])] [Blk.cells T_decl_reader [V.sl .no T_api_Token es25, V.int .i64 (IntKind.wrap .i64 (n26 + (1 : Int)))] false] none).bind (fun r32 => Blk.asCells (List.getD (Res.bl r32) 0 (Blk.cells T_n0 [] true)) T_decl_reader 2 (fun rd33 => V.asSl (rd33 0) T_api_Token (fun es34 => V.asInt (rd33 1) .i64 (fun n35 => Res.onRet r32 (fun v36 => V.asBool v36 (fun b37 => bif b37 then (den Sp syntax_ReadExpr.id [V.sl .no T_api_Token es34, V.int .i64 (IntKind.wrap .i64 (n35 + (1 : Int)))] [] none).bind (fun r40 => Res.onRet r40 (fun v41 => V.asTup v41 4 (fun rd42 => V.asAgg (rd42 0) 4 (fun rd43 => V.asInt (rd43 0) .i64 (fun n44 => V.asStr (rd43 1) (fun s45 => V.asInt (rd43 2) .i64 (fun n46 => V.asSl (rd43 3) T_api_Expr (fun es47 => V.asInt (rd42 1) .i64 (fun n48 => V.asInt (rd42 2) .i64 (fun n49 => V.asInt (rd42 3) .i64 (fun n50 => bif (n50 != (0 : Int)) then (some ⟨Out.pan (V.iface T_decl_given (V.agg [V.int .i64 n49, V.int .i64 n50])), [Blk.cells T_decl_reader [V.sl .no T_api_Token es34, V.int .i64 (IntKind.wrap .i64 (n35 + (1 : Int)))] false], none⟩) else (some ⟨Out.ret (V.agg [V.int .i64 n9, V.str s15, V.int .i64 n19, V.sl .no T_api_Expr [[V.int .i64 n44, V.str s45, V.int .i64 n46, V.sl .no T_api_Expr es47]]]), [Blk.cells T_decl_reader [V.sl .no T_api_Token es34, V.int .i64 n48] false], none⟩)))))))))))) else (some ⟨Out.ret (V.agg [V.int .i64 n9, V.str s15, V.int .i64 n19, V.sl .no T_api_Expr []]), [Blk.cells T_decl_reader [V.sl .no T_api_Token es34, V.int .i64 n35] false], none⟩))))))))) (fun v27 => V.asIface v27 T_decl_given (fun w28 => V.asAgg w28 2 (fun rd29 => V.asInt (rd29 0) .i64 (fun n30 => V.asInt (rd29 1) .i64 (fun n31 => some ⟨Out.pan (V.iface T_decl_given (V.agg [V.int .i64 n30, V.int .i64 n31])), [Blk.cells T_decl_reader [V.sl .no T_api_Token es25, V.int .i64 n26] false], none⟩))))))))) else (den Sp decl_reader_word.id [V.ref 0 0, V.str (ByteArray.mk #[119, 104, 101, 110])] [Blk.cells T_decl_reader [V.sl .no T_api_Token es12, V.int .i64 (IntKind.wrap .i64 (n13 + (1 : Int)))] false] none).bind (fun r25 => Blk.asCells (List.getD (Res.bl r25) 0 (Blk.cells T_n0 [] true)) T_decl_reader 2 (fun rd26 => V.asSl (rd26 0) T_api_Token (fun es27 => V.asInt (rd26 1) .i64 (fun n28 => Res.onRet r25 (fun v29 => V.asBool v29 (fun b30 => bif b30 then (den Sp syntax_ReadExpr.id [V.sl .no T_api_Token es27, V.int .i64 (IntKind.wrap .i64 (n28 + (1 : Int)))] [] none).bind (fun r33 => Res.onRet r33 (fun v34 => V.asTup v34 4 (fun rd35 => V.asAgg (rd35 0) 4 (fun rd36 => V.asInt (rd36 0) .i64 (fun n37 => V.asStr (rd36 1) (fun s38 => V.asInt (rd36 2) .i64 (fun n39 => V.asSl (rd36 3) T_api_Expr (fun es40 => V.asInt (rd35 1) .i64 (fun n41 => V.asInt (rd35 2) .i64 (fun n42 => V.asInt (rd35 3) .i64 (fun n43 => bif (n43 != (0 : Int)) then (some ⟨Out.pan (V.iface T_decl_given (V.agg [V.int .i64 n42, V.int .i64 n43])), [Blk.cells T_decl_reader [V.sl .no T_api_Token es27, V.int .i64 (IntKind.wrap .i64 (n28 + (1 : Int)))] false], none⟩) else (some ⟨Out.ret (V.agg [V.int .i64 n9, V.str s15, V.int .i64 n19, V.sl .no T_api_Expr [[V.int .i64 n37, V.str s38, V.int .i64 n39, V.sl .no T_api_Expr es40]]]), [Blk.cells T_decl_reader [V.sl .no T_api_Token es27, V.int .i64 n41] false], none⟩)))))))))))) else (some ⟨Out.ret (V.agg [V.int .i64 n9, V.str s15, V.int .i64 n19, V.sl .no T_api_Expr []]), [Blk.cells T_decl_reader [V.sl .no T_api_Token es27, V.int .i64 n28] false], none⟩)))))))))))) else none)) (fun v14 => V.asIface v14 T_decl_given (fun w15 => V.asAgg w15 2 (fun rd16 => V.asInt (rd16 0) .i64 (fun n17 => V.asInt (rd16 1) .i64 (fun n18 => some ⟨Out.pan (V.iface T_decl_given (V.agg [V.int .i64 n17, V.int .i64 n18])), [Blk.cells T_decl_reader [V.sl .no T_api_Token es12, V.int .i64 n13] false], none⟩))))))))))) (fun v8 => V.asIface v8 T_decl_given (fun w9 => V.asAgg w9 2 (fun rd10 => V.asInt (rd10 0) .i64 (fun n11 => V.asInt (rd10 1) .i64 (fun n12 => some ⟨Out.pan (V.iface T_decl_given (V.agg [V.int .i64 n11, V.int .i64 n12])), [Blk.cells T_decl_reader [V.sl .no T_api_Token es6, V.int .i64 n7] false], none⟩))))))))) := (den_eq ..).trans (by kernel_rfl)
end decl_reader_stop
end Go.Proofs.YtmhnmelaodhemaaGreatDoor
namespace Go.Proofs.YtmhnmelaodhemaaGreatDoor
open Go Go.Proofs.Ab Go.Proofs.Px
def rd2 (l : List Tk) (k : Nat) : Blk := .cells T_decl_reader [.sl .no T_api_Token (l.map Tk.v), .int .i64 k] false
def givenD (e : Int × Int) : V := .iface T_decl_given (.agg [.int .i64 e.1, .int .i64 e.2])
def RdD {α : Type} (l : List Tk) (v : α -> V) (r : Rf α) (o : Option Res) : Prop := match r with
 | .ok (x, j) => o = some ⟨.ret (v x), [rd2 l j], none⟩
 | .error e => ∃ j : Nat, o = some ⟨.pan (givenD e), [rd2 l j], none⟩
section
variable {l : List Tk} (hl : Ended l) (hn : l.length <= 100000)
include hl hn
theorem fail_d {k : Nat} (hk : k < l.length) (e : Int) : den Sp decl_reader_fail.id [.ref 0 0, .int .i64 e] [rd2 l k] none = some ⟨.pan (givenD ((tk l k).at_, e)), [rd2 l k], none⟩ := by
 unfold rd2 givenD
 rw [decl_reader_fail.eq, if_pos (row_in hk), Int.toNat_natCast, tok_g hk, tkv_3, asInt_int]
theorem word_d {k : Nat} (hk : k < l.length) (s : List UInt8) : den Sp decl_reader_word.id [.ref 0 0, .str (B s)] [rd2 l k] none = some ⟨.ret (.bool (isW (tk l k) s)), [rd2 l k], none⟩ := by
 unfold rd2 isW
 rw [decl_reader_word.eq]
 simp only [if_pos (row_in hk), Int.toNat_natCast, tok_g hk, tkv_0, tkv_1, asInt_int, asStr_str]
 by_cases c : (tk l k).kind = 1
 ·rw [c]; simp
 ·have : ((tk l k).kind == 1) = false := beq_eq_false_iff_ne.2 c
  rw [this]; simp [c]
theorem full_d {k : Nat} (j : Nat) (hk : j < l.length) (n most : Nat) : RdD l (fun _ : Unit => .tup []) (if most <= n then .error ((tk l j).at_, 2) else .ok ((), k)) (den Sp decl_reader_full.id [.ref 0 0, .int .i64 j, .int .i64 n, .int .i64 most] [rd2 l k] none) := by
 unfold RdD rd2 givenD
 rw [decl_reader_full.eq]
 by_cases c : most <= n
 ·have : decide ((n : Int) >= (most : Int)) = true := decide_eq_true (by omega)
  rw [if_pos c, this, cond_true]
  simp only
  refine ⟨k, ?_⟩
  simp only [if_pos (row_in hk), Int.toNat_natCast, tok_g hk, tkv_3, asInt_int]
 ·have : decide ((n : Int) >= (most : Int)) = false := decide_eq_false (by omega)
  rw [if_neg c, this, cond_false]
theorem name_d {k : Nat} (hk : k < l.length) : RdD l (fun s => .str (B s)) (nameR l k) (den Sp decl_reader_name.id [.ref 0 0] [rd2 l k] none) := by
 have hf := fail_d hl hn hk 30
 unfold RdD nameR wrongR rd2 givenD at *
 rw [decl_reader_name.eq]
 simp only [if_pos (row_in hk), Int.toNat_natCast, tok_g hk, tkv_0, tkv_1, tkv_2, tkv_3, asInt_int, asStr_str, wr1 (show k < 1099511627776 by omega)]
 by_cases c : (tk l k).kind = 1
 ·rw [c]; simp
 ·have : ((tk l k).kind != 1) = true := by simpa using c
  rw [this, if_neg c]
  refine ⟨k, ?_⟩
  simp [hf]
theorem sign_d {k : Nat} (hk : k < l.length) (s : List UInt8) : RdD l (fun _ => .tup []) (signR l s k) (den Sp decl_reader_sign.id [.ref 0 0, .str (B s)] [rd2 l k] none) := by
 have hf := fail_d hl hn hk 30
 unfold RdD signR wrongR rd2 givenD isS at *
 rw [decl_reader_sign.eq]
 simp only [if_pos (row_in hk), Int.toNat_natCast, tok_g hk, tkv_0, tkv_1, tkv_2, tkv_3, asInt_int, asStr_str, wr1 (show k < 1099511627776 by omega)]
 by_cases c : (tk l k).kind = 4
 ·by_cases c2 : (tk l k).text = s
  ·rw [c, c2]; simp
  ·have h1 : (decide ((tk l k).kind = 4) && decide ((tk l k).text = s)) = false := by simp [c2]
   rw [h1, c, if_neg (by simp)]
   refine ⟨k, ?_⟩
   simp [hf, c2]
 ·have h1 : (decide ((tk l k).kind = 4) && decide ((tk l k).text = s)) = false := by simp [c]
  have : ((tk l k).kind != 4) = true := by simpa using c
  rw [h1, this, if_neg (by simp)]
  refine ⟨k, ?_⟩
  simp [hf]
theorem side_d {k : Nat} (hk : k < l.length) : RdD l (fun n => .int .i64 n) (sideR l k) (den Sp decl_reader_side.id [.ref 0 0] [rd2 l k] none) := by
 have hf := fail_d hl hn hk 30
 have h1 := word_d hl hn hk [108, 101, 102, 116]
 have h2 := word_d hl hn hk [114, 105, 103, 104, 116]
 unfold RdD sideR wrongR rd2 givenD at *
 rw [decl_reader_side.eq]
 have w := wr1 (show k < 1099511627776 by omega)
 cases c1 : isW (tk l k) [108, 101, 102, 116] with
 | true =>
  rw [c1] at h1
  simp [h1, w]
 | false =>
  rw [c1] at h1
  cases c2 : isW (tk l k) [114, 105, 103, 104, 116] with
  | true =>
   rw [c2] at h2
   simp [h1, h2, w]
  | false =>
   rw [c2] at h2
   refine ⟨k, ?_⟩
   simp [h1, h2, hf]
theorem same_d {k : Nat} (hk : k < l.length) : RdD l (fun p : Pai => .agg p.v) (sameR l k) (den Sp decl_reader_same.id [.ref 0 0] [rd2 l k] none) := by
 have hN := fun (k : Nat) (hk : k < l.length) => name_d hl hn hk
 have hS1 := fun (k : Nat) (hk : k < l.length) => sign_d hl hn hk [40]
 have hS2 := fun (k : Nat) (hk : k < l.length) => sign_d hl hn hk [41]
 unfold sameR halfR
 unfold RdD rd2 givenD at *
 rw [decl_reader_same.eq]
 have h1 := hN k hk
 cases c1 : nameR l k with
 | error e => rw [c1] at h1; obtain ⟨j, h1⟩ := h1; exact ⟨j, by simp [h1]⟩
 | ok r1 =>
 obtain ⟨x1, k1⟩ := r1
 rw [c1] at h1
 have s1 := (nameR_step hl hk c1).1.end_
 have h2 := hS1 k1 s1
 simp only [andR]
 cases c2 : signR l [40] k1 with
 | error e => rw [c2] at h2; obtain ⟨j, h2⟩ := h2; exact ⟨j, by simp [h1, h2]⟩
 | ok r2 =>
 obtain ⟨_, k2⟩ := r2
 rw [c2] at h2
 have s2 := (signR_step hl s1 c2).1.end_
 have h3 := hN k2 s2
 simp only [andR]
 cases c3 : nameR l k2 with
 | error e => rw [c3] at h3; obtain ⟨j, h3⟩ := h3; exact ⟨j, by simp [h1, h2, h3]⟩
 | ok r3 =>
 obtain ⟨x3, k3⟩ := r3
 rw [c3] at h3
 have s3 := (nameR_step hl s2 c3).1.end_
 have h4 := hS2 k3 s3
 simp only [andR]
 cases c4 : signR l [41] k3 with
 | error e => rw [c4] at h4; obtain ⟨j, h4⟩ := h4; exact ⟨j, by simp [h1, h2, h3, h4]⟩
 | ok r4 =>
 obtain ⟨_, k4⟩ := r4
 rw [c4] at h4
 have s4 := (signR_step hl s3 c4).1.end_
 have h5 := hN k4 s4
 simp only [andR]
 cases c5 : nameR l k4 with
 | error e => rw [c5] at h5; obtain ⟨j, h5⟩ := h5; exact ⟨j, by simp [h1, h2, h3, h4, h5]⟩
 | ok r5 =>
 obtain ⟨x5, k5⟩ := r5
 rw [c5] at h5
 have s5 := (nameR_step hl s4 c5).1.end_
 have h6 := hS1 k5 s5
 simp only [andR]
 cases c6 : signR l [40] k5 with
 | error e => rw [c6] at h6; obtain ⟨j, h6⟩ := h6; exact ⟨j, by simp [h1, h2, h3, h4, h5, h6]⟩
 | ok r6 =>
 obtain ⟨_, k6⟩ := r6
 rw [c6] at h6
 have s6 := (signR_step hl s5 c6).1.end_
 have h7 := hN k6 s6
 simp only [andR]
 cases c7 : nameR l k6 with
 | error e => rw [c7] at h7; obtain ⟨j, h7⟩ := h7; exact ⟨j, by simp [h1, h2, h3, h4, h5, h6, h7]⟩
 | ok r7 =>
 obtain ⟨x7, k7⟩ := r7
 rw [c7] at h7
 have s7 := (nameR_step hl s6 c7).1.end_
 have h8 := hS2 k7 s7
 simp only [andR]
 cases c8 : signR l [41] k7 with
 | error e => rw [c8] at h8; obtain ⟨j, h8⟩ := h8; exact ⟨j, by simp [h1, h2, h3, h4, h5, h6, h7, h8]⟩
 | ok r8 =>
 obtain ⟨_, k8⟩ := r8
 rw [c8] at h8
 simp [h1, h2, h3, h4, h5, h6, h7, h8, Pai.v]
end
def readE (l : List Tk) (k : Nat) : Option Res := match partR l 1 k (tightW l 1 1 k) with
 | .ok (x, j) => some ⟨.ret (.tup [.agg x.v, .int .i64 j, .int .i64 0, .int .i64 0]), [], none⟩
 | .error e => some ⟨.ret (.tup [.agg (Ex.v (.mk 0 [] 0 [])), .int .i64 0, .int .i64 e.1, .int .i64 e.2]), [], none⟩
def ReadsE (f : Nat) (l : List Tk) : Prop := ∀ k, k < l.length -> den Sp f [.sl .no T_api_Token (l.map Tk.v), .int .i64 (k : Int)] [] none = readE l k
end Go.Proofs.YtmhnmelaodhemaaGreatDoor
