/- Own texts under the law SynBrackets, merged, without what it does not lean on: part 4 of 6 (the abstract machine and its proof; residual forms; contracts; the plain law). -/
import Derived.Test.YtennkhdlpbggkaaDoorSynBracketsPackC
import Derived.LoopN
import Derived.Scope
import Derived.Below
import Derived.Lib.Join
import Derived.Test.YtennkhdlpbggkaaDoorProg
import Derived.ProofKit
import Derived.LaidMore
import Derived.OpenShut
import Derived.WalkKit
import Derived.ShutString
import Derived.ChangeOld
import Derived.SizedLaws
import Derived.OrdersHeld
import Derived.Deep.AppendSrc
import Derived.IntWalk
import Derived.Laws.Bits64
set_option linter.unusedVariables false
set_option linter.unusedSimpArgs false
set_option linter.unusedSectionVars false
set_option maxRecDepth 100000
namespace Go.Proofs.Ab
open Go
structure SameF (env : Env) (st : St) (s : FS) : Prop where
 e : ∀ t, env.get t = s.e t
 g : ∀ id, getB st.bl id = s.g id
 u : st.used = s.u
 d : st.dead = s.d
def FS.of (env : Env) (st : St) : FS
 | .slot t => .v (env.get t)
 | .blk id => .b (getB st.bl id)
 | .rows => .r st.used st.dead
theorem SameF.of (env : Env) (st : St) : SameF env st (FS.of env st) := ⟨fun _ => rfl, fun _ => rfl, rfl, rfl⟩
section
variable {p0 : Option (Option V)} {df0 : List (FuncId × List V)} {pg : Pg} {D : DSem} {f : FuncId} {c0 c : Cx} {own0 own : Own} {nt : Nat} {ops : Array Oper} {l : List (Oper × Eff)} {s0 s : FS} {Q : Exit -> Act -> World -> Prop} {env : Env} {st : St} {r : Res} {k : K} {a : Act}
theorem At.toF (h : At pg p0 c0 own0 nt c own env st a) (hs : SameF env st s) : FAt pg st.df c0 own0 nt c own s a := by
 have hg : getB st.bl = s.g := funext hs.g
 have hl : Live st = s.live := by unfold Live FS.live; rw [hs.u, hs.d]
 refine ⟨by rw [<- hg, <- hl]; exact h.inv.inv, fun t r hr => by rw [<- hs.u]; exact h.inv.domr t r hr, fun t => by rw [<- hs.e]; exact h.env t, h.size, h.defs, h.after, h.blk, h.out⟩
theorem FAt.toA (h : FAt pg df0 c0 own0 nt c own s a) (hs : SameF env st s) (hd : st.df = df0) (hp : st.pn = p0) : At pg p0 c0 own0 nt c own env st a := by
 have hg : getB st.bl = s.g := funext hs.g
 have hl : Live st = s.live := by unfold Live FS.live; rw [hs.u, hs.d]
 refine ⟨⟨by rw [hg, hl]; exact h.inv, fun t r hr => by rw [hs.u]; exact h.domr t r hr⟩, fun t => by rw [hs.e]; exact h.env t, h.size, (by rw [hd]; exact h.defs), hp, h.after, h.blk, h.out⟩
theorem envF_get (env : Env) : ∀ {l : List Tmp} {t : Tmp}, t ∈ l -> (envF env l).get t = env.get t
 | [], t, h => by cases h
 | a :: l, t, h => by
  show (bif Nat.beq a t then env.get a else (envF env l).get t) = env.get t
  by_cases ha : a = t
  ·subst ha; rw [Nat.beq_refl]; rfl
  ·rw [nbeq ha, cond_false]
   exact envF_get env ((List.mem_cons.1 h).resolve_left fun e => ha e.symm)
theorem putE_get {nt : Nat} {d : Option Tmp} {v : V} {env' : Env} (h : putE nt env d v = some env') : (∀ t, env'.get t = if d = some t then v else env.get t) ∧ ∀ t, d = some t -> t < nt := by
 unfold putE at h
 split at h
 ·cases h; exact ⟨fun t => by simp, fun t h => by cases h⟩
 ·rename_i d0
  obtain ⟨h1, h2⟩ := condL_some h
  cases h2
  have hlt : d0 < nt := by simpa [Nat.blt_eq] using h1
  refine ⟨fun t => ?_, fun t ht => by cases ht; exact hlt⟩
  show (bif Nat.beq d0 t then v else env.get t) = _
  by_cases hd : d0 = t
  ·subst hd; simp
  ·rw [nbeq hd]; simp [hd]
theorem map_bind {α β : Type} (o : Option α) (g : α -> β) : o.map g = o.bind fun x => some (g x) := by cases o <;> rfl
theorem appendS_bare {R : Type} (e : TypeId) (v x : V) (d : Tmp) (st : St) (df : List (FuncId × List V)) (pn : Option (Option V)) (k : V -> St -> Option R) :
  appendS pg e v x d { st with df := df, pn := pn } k = appendS pg e v x d st fun v s => k v { s with df := df, pn := pn } := by
 unfold appendS
 split <;> rfl
theorem callK_bare {R : Type} (f : FuncId) (vs : List V) (nt : Tmp) (st : St) (df : List (FuncId × List V)) (pn p : Option (Option V)) (k : V -> St -> Res -> Option R) (kp : V -> St -> Option R) :
  callK pg D f vs nt { st with df := df, pn := pn } p k kp = callK pg D f vs nt st p (fun v s r => k v { s with df := df, pn := pn } r) fun v s => kp v { s with df := df, pn := pn } := by
 unfold callK
 split <;> rfl
theorem opI_bare {R : Type} {f : FuncId} {o : Oper} {env : Env} {st : St} (df : List (FuncId × List V)) (pn : Option (Option V)) (k kp : V -> St -> Option R) :
  opI pg f env o { st with df := df, pn := pn } k kp = opI pg f env o st (fun v s => k v { s with df := df, pn := pn }) (fun v s => kp v { s with df := df, pn := pn }) := by
 unfold opI
 congr 1
theorem evIOps_bare {R : Type} {f : FuncId} {nt : Nat} (df : List (FuncId × List V)) (pn : Option (Option V)) : ∀ (l : List Oper) (env : Env) (st : St) (k : Ex -> Env -> St -> Option R),
  evIOps pg f nt l env { st with df := df, pn := pn } k = evIOps pg f nt l env st fun ex env s => k ex env { s with df := df, pn := pn }
 | [], env, st, k => rfl
 | o :: l, env, st, k => by
  unfold evIOps
  split
  ·rw [opI_bare]
   congr 1
   funext v s
   split
   ·exact evIOps_bare df pn l _ _ _
   ·rfl
  ·rfl
theorem evI_bare {R : Type} {f : FuncId} {nt : Nat} (df : List (FuncId × List V)) (pn : Option (Option V)) : ∀ (c : Code) (env : Env) (st : St) (k : Ex -> Env -> St -> Option R),
  evI pg f nt c env { st with df := df, pn := pn } k = evI pg f nt c env st fun ex env s => k ex env { s with df := df, pn := pn } := by
 intro c
 induction c with
 | seq a b iha ihb =>
  intro env st k
  unfold evI
  rw [iha]
  congr 1
  funext ex env s
  cases ex with
  | normal => exact ihb _ _ _
  | _ => rfl
 | cond c a b iha ihb =>
  intro env st k
  unfold evI
  split
  ·rw [iha, ihb]
  ·rfl
 | scope c ih => intro env st k; unfold evI; exact ih _ _ _
 | region id ops draw => intro env st k; unfold evI; rw [evIOps_bare]
 | _ => intro env st k; rfl
theorem inlK_bare {R : Type} {f : FuncId} {fn : Func} {vs : List V} {st : St} (df : List (FuncId × List V)) (pn : Option (Option V)) (k kp : V -> St -> Option R) :
  inlK pg f fn vs { st with df := df, pn := pn } k kp = inlK pg f fn vs st (fun v s => k v { s with df := df, pn := pn }) fun v s => kp v { s with df := df, pn := pn } := by
 unfold inlK
 rw [evI_bare]
 congr 2
theorem step1_bare {f : FuncId} {o : Oper} {env : Env} {st : St} (df : List (FuncId × List V)) (pn : Option (Option V)) (h1 : isRow o = true) (h2 : notDrawn o = false) :
  step1 pg D f env o { st with df := df, pn := pn } = (step1 pg D f env o st).map fun q => match q with | .val v s => .val v { s with df := df, pn := pn } | .pan v s => .pan v { s with df := df, pn := pn } := by
 unfold isRow at h1
 unfold notDrawn at h2
 have app : ∀ (e : TypeId) (v x : V) (d : Tmp), appendS pg e v x d { st with df := df, pn := pn } (fun v s => some (Step.val v s)) = (appendS pg e v x d st fun v s => some (Step.val v s)).map fun q => match q with | .val v s => .val v { s with df := df, pn := pn } | .pan v s => .pan v { s with df := df, pn := pn } := by
  intro e v x d
  rw [appendS_bare, map_bind, appendS_bind]
  rfl
 unfold step1 opS
 split at h1
 ·rename_i x ho
  rw [ho]
  dsimp only
  split <;> rfl
 ·rename_i args ts ho
  rw [ho]
  dsimp only
  split
  ·split
   ·rename_i e _
    cases (Nat.beq _ _ || (match pg.P.underlying _ with | some .string => true | _ => false)) with
    | true => exact app ..
    | false => rfl
   ·rfl
  ·rfl
 ·rename_i cl args ts ho
  rw [ho]
  dsimp only
  split
  ·split
   ·cases Nat.beq args.size _ with
    | true =>
     rw [cond_true, cond_true]
     cases pg.inl _ with
     | true =>
      rw [cond_true, cond_true, inlK_bare, map_bind, inlK_bind]
      rfl
     | false =>
      rw [cond_false, cond_false, callK_bare, map_bind, callK_bind]
      rfl
    | false => rfl
   ·rfl
  ·rfl
 ·cases h1
theorem inl_dfs {f : FuncId} {fn : Func} {vs : List V} {st : St} {q : Step} (h : inlK pg f fn vs st (fun v s => some (Step.val v s)) (fun v s => some (Step.pan v s)) = some q) :
  (∀ v s, q = .val v s -> s.df = st.df ∧ s.pn = st.pn) ∧ ∀ v s, q = .pan v s -> s.df = st.df ∧ s.pn = st.pn := by
 have h1 : inlK pg f fn vs { st with df := st.df, pn := st.pn } (fun v s => some (Step.val v s)) (fun v s => some (Step.pan v s)) = some q := h
 rw [inlK_bare] at h1
 have h2 : (inlK pg f fn vs st (fun v s => some (Step.val v s)) (fun v s => some (Step.pan v s))).bind (fun q => match q with | .val v s => some (Step.val v { s with df := st.df, pn := st.pn }) | .pan v s => some (Step.pan v { s with df := st.df, pn := st.pn })) = some q := by
  rw [inlK_bind]; exact h1
 rw [h, Option.bind_some] at h2
 cases q with
 | val v s =>
  simp only [Option.some.injEq, Step.val.injEq] at h2
  refine ⟨fun v2 s2 he => ?_, fun v2 s2 he => (by cases he)⟩
  cases he
  rw [<- h2.2]; exact ⟨rfl, rfl⟩
 | pan v s =>
  simp only [Option.some.injEq, Step.pan.injEq] at h2
  refine ⟨fun v2 s2 he => (by cases he), fun v2 s2 he => ?_⟩
  cases he
  rw [<- h2.2]; exact ⟨rfl, rfl⟩
theorem inl_df {f : FuncId} {fn : Func} {vs : List V} {st st' : St} {v : V} (h : inlK pg f fn vs st (fun v s => some (Step.val v s)) (fun v s => some (Step.pan v s)) = some (.val v st')) : st'.df = st.df ∧ st'.pn = st.pn := (inl_dfs h).1 v st' rfl
theorem inl_dfp {f : FuncId} {fn : Func} {vs : List V} {st st' : St} {v : V} (h : inlK pg f fn vs st (fun v s => some (Step.val v s)) (fun v s => some (Step.pan v s)) = some (.pan v st')) : st'.df = st.df ∧ st'.pn = st.pn := (inl_dfs h).2 v st' rfl
theorem step1_df {f : FuncId} {o : Oper} {v : V} {st st' : St} (h1 : isRow o = true) (h2 : notDrawn o = false) (h : step1 pg D f env o st = some (.val v st')) : st'.df = st.df ∧ st'.pn = st.pn := by
 unfold step1 opS at h
 unfold isRow at h1
 unfold notDrawn at h2
 have app : ∀ {e s x d} {k : V -> St -> Option Step}, appendS pg e s x d st k = some (.val v st') -> (∀ v s, k v s = some (.val v s)) -> st'.df = st.df ∧ st'.pn = st.pn := by
  intro e s x d k h hk
  have go : ∀ {old es}, appGo pg e x d st k old es = some (.val v st') -> st'.df = st.df ∧ st'.pn = st.pn := by
   intro old es h
   unfold appGo at h
   obtain ⟨_, h1⟩ := condL_some h
   split at h1
   ·obtain ⟨_, h2⟩ := condL_some h1
    obtain ⟨_, h3⟩ := iteL_some h2
    rw [hk] at h3; cases h3; exact ⟨rfl, rfl⟩
   ·split at h1
    ·obtain ⟨_, h2⟩ := condL_some h1
     obtain ⟨_, h3⟩ := iteL_some h2
     rw [hk] at h3; cases h3; exact ⟨rfl, rfl⟩
    ·cases h1
   ·split at h1
    ·obtain ⟨_, h2⟩ := condR_some h1
     obtain ⟨_, h3⟩ := iteL_some h2
     rw [hk] at h3; cases h3; exact ⟨rfl, rfl⟩
    ·cases h1
   ·cases h1
  unfold appendS at h
  split at h
  ·obtain ⟨_, h1⟩ := condL_some h
   obtain ⟨_, h1⟩ := condR_some h1
   exact go h1
  ·obtain ⟨_, h1⟩ := condL_some h
   unfold appFr at h1
   obtain ⟨_, h2⟩ := condL_some h1
   split at h2
   ·obtain ⟨_, h3⟩ := condL_some h2
    obtain ⟨_, h4⟩ := iteL_some h3
    rw [hk] at h4; cases h4; exact ⟨rfl, rfl⟩
   ·cases h2
  ·obtain ⟨_, h1⟩ := condL_some h; exact go h1
  ·cases h
 split at h
 ·split at h
  ·cases h
  ·cases h
 ·split at h
  ·split at h
   ·obtain ⟨_, h3⟩ := condL_some h
    exact app h3 fun _ _ => rfl
   ·cases h
  ·cases h
 ·rename_i args ts ho; rw [ho] at h2; cases h2
 ·rename_i args ts ho; rw [ho] at h2; cases h2
 ·split at h
  ·split at h
   ·obtain ⟨_, h3⟩ := condL_some h
    rcases cond_some h3 with ⟨_, h3⟩ | ⟨_, h3⟩
    ·exact inl_df h3
    unfold callK at h3
    split at h3
    ·cases h3
    split at h3
    ·cases h3
    split at h3
    ·cases h3
    split at h3
    ·cases h3
    split at h3
    ·cases h3
    split at h3
    ·cases h3
    have key : ∀ {nt h bs} {xs : List (Nat × Nat × Option TypeId)} {ws i bl p} {k : List (Nat × Blk) -> Nat -> Option Step} {r}, backAll pg nt h bs i xs ws bl p k = some r -> ∃ bl' p', k bl' p' = some r := by
     intro nt h bs xs ws i bl p k r hb
     have h1 := backAll_bind (R := (List (Nat × Blk)) × Nat) (fun q => k q.1 q.2) pg nt h bs xs ws i bl p (fun l p => some (l, p))
     simp only [Option.bind_some] at h1
     rw [hb] at h1
     obtain ⟨q, _, h2⟩ := Option.bind_eq_some_iff.1 h1
     exact ⟨q.1, q.2, h2⟩
    split at h3
    ·obtain ⟨_, h4⟩ := condR_some h3
     obtain ⟨res, _, h5⟩ := Option.bind_eq_some_iff.1 h4
     obtain ⟨bl', p', h6⟩ := key h5
     obtain ⟨_, h7⟩ := condR_some h6
     obtain ⟨v1, _, h8⟩ := onRet_some h7
     obtain ⟨v2, p2, h9, _⟩ := decOwn_spec h8
     obtain ⟨_, h10⟩ := condR_some h9
     cases h10 <;> exact ⟨rfl, rfl⟩
    ·obtain ⟨_, h4⟩ := condR_some h3
     obtain ⟨res, _, h5⟩ := Option.bind_eq_some_iff.1 h4
     obtain ⟨bl', p', h6⟩ := key h5
     obtain ⟨_, h7⟩ := condR_some h6
     split at h7
     ·obtain ⟨v1, _, h8⟩ := onRet_some h7
      obtain ⟨v2, h9, _⟩ := decRes_vrep h8
      cases h9; exact ⟨rfl, rfl⟩
     ·rcases onOut_some h7 with ⟨v1, _, h8⟩ | ⟨v1, _, h8⟩
      ·obtain ⟨v2, h9, _⟩ := decRes_vrep h8
       cases h9; exact ⟨rfl, rfl⟩
      ·obtain ⟨w2, rfl, h9⟩ := asIface_some h8
       obtain ⟨w3, h10, _⟩ := decR_vrep h9
       cases h10
   ·cases h
  ·cases h
 ·rename_i args ts ho; rw [ho] at h2; cases h2
 ·have h3 : opB pg f env o st.bl (fun v bl' => some (Step.val v { st with bl := bl' })) = some (.val v st') := h
  rw [opB_step] at h3
  obtain ⟨q, _, h4⟩ := Option.bind_eq_some_iff.1 h3
  cases h4; exact ⟨rfl, rfl⟩
theorem step1_dfp {f : FuncId} {o : Oper} {v : V} {st st' : St} (h1 : isRow o = true) (h2 : notDrawn o = false) (h : step1 pg D f env o st = some (.pan v st')) : st'.df = st.df ∧ st'.pn = st.pn := by
 unfold step1 opS at h
 unfold isRow at h1
 unfold notDrawn at h2
 have app : ∀ {e s x d} {k : V -> St -> Option Step}, appendS pg e s x d st k = some (.pan v st') -> (∀ v s, k v s = some (.val v s)) -> st'.df = st.df ∧ st'.pn = st.pn := by
  intro e s x d k h hk
  have go : ∀ {old es}, appGo pg e x d st k old es = some (.pan v st') -> st'.df = st.df ∧ st'.pn = st.pn := by
   intro old es h
   unfold appGo at h
   obtain ⟨_, h1⟩ := condL_some h
   split at h1
   ·obtain ⟨_, h2⟩ := condL_some h1
    obtain ⟨_, h3⟩ := iteL_some h2
    rw [hk] at h3; cases h3
   ·split at h1
    ·obtain ⟨_, h2⟩ := condL_some h1
     obtain ⟨_, h3⟩ := iteL_some h2
     rw [hk] at h3; cases h3
    ·cases h1
   ·split at h1
    ·obtain ⟨_, h2⟩ := condR_some h1
     obtain ⟨_, h3⟩ := iteL_some h2
     rw [hk] at h3; cases h3
    ·cases h1
   ·cases h1
  unfold appendS at h
  split at h
  ·obtain ⟨_, h1⟩ := condL_some h
   obtain ⟨_, h1⟩ := condR_some h1
   exact go h1
  ·obtain ⟨_, h1⟩ := condL_some h
   unfold appFr at h1
   obtain ⟨_, h2⟩ := condL_some h1
   split at h2
   ·obtain ⟨_, h3⟩ := condL_some h2
    obtain ⟨_, h4⟩ := iteL_some h3
    rw [hk] at h4; cases h4
   ·cases h2
  ·obtain ⟨_, h1⟩ := condL_some h; exact go h1
  ·cases h
 split at h
 ·split at h
  ·cases h; exact ⟨rfl, rfl⟩
  ·cases h
 ·split at h
  ·split at h
   ·obtain ⟨_, h3⟩ := condL_some h
    exact app h3 fun _ _ => rfl
   ·cases h
  ·cases h
 ·rename_i args ts ho; rw [ho] at h2; cases h2
 ·rename_i args ts ho; rw [ho] at h2; cases h2
 ·split at h
  ·split at h
   ·obtain ⟨_, h3⟩ := condL_some h
    rcases cond_some h3 with ⟨_, h3⟩ | ⟨_, h3⟩
    ·exact inl_dfp h3
    unfold callK at h3
    split at h3
    ·cases h3
    split at h3
    ·cases h3
    split at h3
    ·cases h3
    split at h3
    ·cases h3
    split at h3
    ·cases h3
    split at h3
    ·cases h3
    have key : ∀ {nt h bs} {xs : List (Nat × Nat × Option TypeId)} {ws i bl p} {k : List (Nat × Blk) -> Nat -> Option Step} {r}, backAll pg nt h bs i xs ws bl p k = some r -> ∃ bl' p', k bl' p' = some r := by
     intro nt h bs xs ws i bl p k r hb
     have h1 := backAll_bind (R := (List (Nat × Blk)) × Nat) (fun q => k q.1 q.2) pg nt h bs xs ws i bl p (fun l p => some (l, p))
     simp only [Option.bind_some] at h1
     rw [hb] at h1
     obtain ⟨q, _, h2⟩ := Option.bind_eq_some_iff.1 h1
     exact ⟨q.1, q.2, h2⟩
    split at h3
    ·obtain ⟨_, h4⟩ := condR_some h3
     obtain ⟨res, _, h5⟩ := Option.bind_eq_some_iff.1 h4
     obtain ⟨bl', p', h6⟩ := key h5
     obtain ⟨_, h7⟩ := condR_some h6
     obtain ⟨v1, _, h8⟩ := onRet_some h7
     obtain ⟨v2, p2, h9, _⟩ := decOwn_spec h8
     obtain ⟨_, h10⟩ := condR_some h9
     cases h10 <;> exact ⟨rfl, rfl⟩
    ·obtain ⟨_, h4⟩ := condR_some h3
     obtain ⟨res, _, h5⟩ := Option.bind_eq_some_iff.1 h4
     obtain ⟨bl', p', h6⟩ := key h5
     obtain ⟨_, h7⟩ := condR_some h6
     split at h7
     ·obtain ⟨v1, _, h8⟩ := onRet_some h7
      obtain ⟨v2, h9, _⟩ := decRes_vrep h8
      cases h9
     ·rcases onOut_some h7 with ⟨v1, _, h8⟩ | ⟨v1, _, h8⟩
      ·obtain ⟨v2, h9, _⟩ := decRes_vrep h8
       cases h9
      ·obtain ⟨w2, rfl, h9⟩ := asIface_some h8
       obtain ⟨w3, h10, _⟩ := decR_vrep h9
       cases h10; exact ⟨rfl, rfl⟩
   ·cases h
  ·cases h
 ·rename_i args ts ho; rw [ho] at h2; cases h2
 ·have h3 : opB pg f env o st.bl (fun v bl' => some (Step.val v { st with bl := bl' })) = some (.pan v st') := h
  rw [opB_step] at h3
  obtain ⟨q, _, h4⟩ := Option.bind_eq_some_iff.1 h3
  cases h4
theorem preds_lt (htopo : okTopo 0 ops.toList = true) : ∀ (n j : Nat), j < n -> ∀ k, k ∈ (predsOf ops.toList).getD j [] -> k < j
 | 0, j, hj => by omega
 | n + 1, j, hj => fun k hk => by
  cases ho : ops[j]? with
  | none =>
   exfalso
   have hlen : ∀ (l : List Oper) (acc : List (List Nat)), (l.foldl (fun acc o => acc ++ [dedup ((o.after.toList.filter (Region.binds .any)).map fun e => e.on :: acc.getD e.on []).flatten]) acc).length = acc.length + l.length := by
    intro l
    induction l with
    | nil => intro acc; rfl
    | cons a l ih => intro acc; rw [List.foldl_cons, ih]; simp; omega
   have h1 : (predsOf ops.toList).length = ops.size := by unfold predsOf; rw [hlen]; simp
   have h2 : ops.size <= j := by simpa using ho
   rw [List.getD_eq_getElem?_getD, List.getElem?_eq_none (by omega)] at hk
   cases hk
  | some o =>
   have hoj : ops.toList[j]? = some o := by rw [Array.getElem?_toList]; exact ho
   obtain ⟨e, h1, h2, h3⟩ := preds_spec hoj hk
   have h4 := topo_spec htopo j o hoj e h1 h2
   rcases h3 with rfl | ⟨h5, h6⟩
   ·omega
   ·have := preds_lt htopo n e.on (by omega) k h6
    omega
def Md.at (md : Md) : Option Nat := match md with | none => none | some m => some m.1
structure Pre (pg : Pg) (D : DSem) (f : FuncId) (nt : Nat) (ops : Array Oper) (n0 : List Nat) (df0 : List (FuncId × List V)) (p0 : Option (Option V)) (s0 : FS) (pre : List (Oper × Eff)) (tr : List (Nat × Oper × Ft)) (md : Md) (env : Env) (st : St) : Prop where
 tr : ∀ (j : Nat) x, pre[j]? = some x -> alB (predsOf ops.toList) md.at j = true ∨ md.at = some j -> (j, x.1, x.2.ft) ∈ tr
 same : SameF env st (runL (alB (predsOf ops.toList) md.at) 0 pre s0)
 df : st.df = df0
 pn : st.pn = p0
 op : ∀ (j : Nat) x, pre[j]? = some x -> alB (predsOf ops.toList) md.at j = true -> OpF pg D f nt ops (runL (fun m => Nat.blt m j && alB (predsOf ops.toList) md.at m) 0 pre s0) x
 ind : ∀ (i j : Nat) x y, i < j -> pre[i]? = some x -> pre[j]? = some y -> alB (predsOf ops.toList) md.at i = true ∨ md.at = some i -> alB (predsOf ops.toList) md.at j = true ∨ md.at = some j -> i ∉ (predsOf ops.toList).getD j [] -> ApartW ops x y
 rc : ∀ (i j : Nat) x y, i < j -> pre[i]? = some x -> pre[j]? = some y -> alB (predsOf ops.toList) md.at i = true -> alB (predsOf ops.toList) md.at j = true -> i ∉ (predsOf ops.toList).getD j [] -> x.2.ft.apart y.2.ft = false -> Rc pg D f nt ops (alB (predsOf ops.toList) md.at) pre s0 i j x
 pan : ∀ m, md = some m -> ∃ x, pre[m.1]? = some x ∧ PanF pg D f ops (runL (fun j => Nat.blt j m.1 && alB (predsOf ops.toList) md.at j) 0 pre s0) x m.2.1 ∧
  (∀ id, getB m.2.2.bl id = (app x (runL (fun j => Nat.blt j m.1 && alB (predsOf ops.toList) md.at j) 0 pre s0)).g id) ∧ m.2.2.used = x.2.u ∧ m.2.2.dead = x.2.d ∧ m.2.2.df = df0 ∧ m.2.2.pn = p0
 far : ∀ m, md = some m -> ∀ (j : Nat) x, pre[j]? = some x -> alB (predsOf ops.toList) md.at j = true -> j ∉ (predsOf ops.toList).getD m.1 [] -> meets x.2.ft.wr n0 = false
section
variable {n0 : List Nat} {pre : List (Oper × Eff)} {tr : List (Nat × Oper × Ft)} {md : Md} {o : Oper} {E : Eff}
theorem snoc_get {x : Oper × Eff} {j : Nat} {y : Oper × Eff} (hj : (pre ++ [x])[j]? = some y) : (j < pre.length ∧ pre[j]? = some y) ∨ (j = pre.length ∧ y = x) := by
 rcases Nat.lt_or_ge j pre.length with hlt | hge
 ·rw [List.getElem?_append_left hlt] at hj; exact .inl ⟨hlt, hj⟩
 ·rw [List.getElem?_append_right hge] at hj
  have h0 : j - pre.length = 0 := by
   rcases Nat.eq_zero_or_pos (j - pre.length) with h0 | h0
   ·exact h0
   ·rw [List.getElem?_eq_none (by simp; omega)] at hj; cases hj
  rw [h0] at hj
  simp at hj
  exact .inr ⟨by omega, hj.symm⟩
theorem snoc_old {x y : Oper × Eff} {j : Nat} (hj : pre[j]? = some y) : (pre ++ [x])[j]? = some y := by
 rw [List.getElem?_append_left (List.getElem?_eq_some_iff.1 hj).1]; exact hj
theorem snoc_cut {q : Nat -> Bool} {x : Oper × Eff} {j : Nat} (hj : j <= pre.length) : runL (fun m => Nat.blt m j && q m) 0 (pre ++ [x]) s0 = runL (fun m => Nat.blt m j && q m) 0 pre s0 := by
 rw [runL_append]
 have : Nat.blt (0 + pre.length) j = false := by
  cases hb : Nat.blt (0 + pre.length) j with
  | false => rfl
  | true => rw [Nat.blt_eq] at hb; omega
 rw [this]; rfl
theorem snoc_all {q : Nat -> Bool} : runL (fun m => Nat.blt m pre.length && q m) 0 pre s0 = runL q 0 pre s0 := funext fun loc => runL_agree rfl fun m y hy hne => by
 exfalso
 apply hne
 have h1 := (List.getElem?_eq_some_iff.1 hy).1
 have h2 : Nat.blt (0 + m) pre.length = true := by rw [Nat.blt_eq]; omega
 rw [h2, Bool.true_and]
theorem okDraw_at (hok : okDraw ops ((predsOf ops.toList).getD pre.length []) o E.ft tr = true) {i : Nat} {x : Oper × Eff} (hx : (i, x.1, x.2.ft) ∈ tr) (hn : i ∉ (predsOf ops.toList).getD pre.length []) :
  ApartW ops x (o, E) ∧ (x.2.ft.apart E.ft = false -> between ops ((predsOf ops.toList).getD pre.length []) (i, x.1, x.2.ft) tr = true) := by
 unfold okDraw at hok
 have h5 := List.all_eq_true.1 hok _ hx
 have h6 : ((predsOf ops.toList).getD pre.length []).contains i = false := by
  cases hc : ((predsOf ops.toList).getD pre.length []).contains i with
  | false => rfl
  | true => exact absurd (List.contains_iff_mem.1 hc) hn
 dsimp only at h5
 rw [h6, Bool.false_or, Bool.and_eq_true, Bool.or_eq_true, Bool.and_eq_true] at h5
 refine ⟨⟨h5.1, h5.2.imp id fun h => ?_⟩, fun hf => ?_⟩
 ·have h7 := h.1
  unfold Ft.still at h7
  rw [Bool.and_eq_true, List.isEmpty_iff, Bool.not_eq_true'] at h7
  exact h7
 ·rcases h5.2 with h | h
  ·rw [hf] at h; cases h
  ·exact h.2
theorem runL_slot {q : Nat -> Bool} {d : Tmp} : ∀ {l : List (Oper × Eff)} {i0 j0 : Nat} {s : FS} {x : Oper × Eff}, l[j0]? = some x -> q (i0 + j0) = true -> x.1.dst = some d -> (∀ (m : Nat) z, j0 < m -> l[m]? = some z -> q (i0 + m) = true -> z.1.dst ≠ some d) -> (runL q i0 l s).e d = x.2.v
 | [], i0, j0, s, x, h, _, _, _ => by simp at h
 | y :: l, i0, 0, s, x, h, hq, hd, hm => by
  simp at h
  subst h
  unfold runL
  rw [Nat.add_zero] at hq
  rw [hq, cond_true]
  have h1 : (runL q (i0 + 1) l (app y s)) (.slot d) = (app y s) (.slot d) := runL_same fun m z hz hqm hw => hm (m + 1) z (by omega) (by simpa using hz) (by rw [show i0 + (m + 1) = i0 + 1 + m by omega]; exact hqm) hw
  rw [FS.e_eq h1, app_e, if_pos hd]
 | y :: l, i0, j0 + 1, s, x, h, hq, hd, hm => by
  unfold runL
  exact runL_slot (i0 := i0 + 1) (j0 := j0) (by simpa using h) (by rw [show i0 + 1 + j0 = i0 + (j0 + 1) by omega]; exact hq) hd fun m z hjm hz hqm => hm (m + 1) z (by omega) (by simpa using hz) (by rw [show i0 + (m + 1) = i0 + 1 + m by omega]; exact hqm)
theorem Pre.lt (hP : Pre pg D f nt ops n0 df0 p0 s0 pre tr md env st) {i : Nat} (hm : md.at = some i) : i < pre.length := by
 cases md with
 | none => cases hm
 | some m =>
  cases hm
  obtain ⟨x, h1, _⟩ := hP.pan m rfl
  exact (List.getElem?_eq_some_iff.1 h1).1
theorem Rc.snoc {q : Nat -> Bool} {i j : Nat} {x z : Oper × Eff} (h : Rc pg D f nt ops q pre s0 i j x) (hj : j < pre.length) : Rc pg D f nt ops q (pre ++ [z]) s0 i j x := by
 refine ⟨?_, fun k y hik hk hy => h.btw k y hik hk (by rw [List.getElem?_append_left (by omega)] at hy; exact hy)⟩
 rw [snoc_cut (by omega)]
 exact h.op
theorem Rc.as {q q' : Nat -> Bool} {i j : Nat} {x : Oper × Eff} (h : Rc pg D f nt ops q pre s0 i j x) (hq : ∀ k, k <= j -> q' k = q k) : Rc pg D f nt ops q' pre s0 i j x := by
 refine ⟨?_, fun k y hik hk hy hqk => h.btw k y hik hk hy (by rw [<- hq k (by omega)]; exact hqk)⟩
 have : runL (fun m => Nat.blt m (j + 1) && q' m) 0 pre s0 = runL (fun m => Nat.blt m (j + 1) && q m) 0 pre s0 := funext fun loc => runL_agree rfl fun m y hy hne => by
  exfalso
  apply hne
  rw [Nat.zero_add]
  cases hb : Nat.blt m (j + 1) with
  | false => rfl
  | true =>
   rw [Nat.blt_eq] at hb
   rw [hq m (by omega)]
 rw [this]
 exact h.op
theorem recheck_spec {env1 : Env} {st1 : St} (hP : Pre pg D f nt ops n0 df0 p0 s0 pre tr md env st) (hal : alB (predsOf ops.toList) md.at pre.length = true) (hok : okDraw ops ((predsOf ops.toList).getD pre.length []) o E.ft tr = true)
  (hs1 : SameF env1 st1 (app (o, E) (runL (alB (predsOf ops.toList) md.at) 0 pre s0))) (hre : recheck pg f ((predsOf ops.toList).getD pre.length []) env1 st1.bl E.ft ((pre.length, o, E.ft) :: tr) tr = true) :
  ∀ (i : Nat) x, pre[i]? = some x -> alB (predsOf ops.toList) md.at i = true -> i ∉ (predsOf ops.toList).getD pre.length [] -> x.2.ft.apart E.ft = false -> Rc pg D f nt ops (alB (predsOf ops.toList) md.at) (pre ++ [(o, E)]) s0 i pre.length x := by
 intro i x hx hi hn hap
 have hlt := (List.getElem?_eq_some_iff.1 hx).1
 have htr := hP.tr i x hx (.inl hi)
 obtain ⟨hA, hbt⟩ := okDraw_at hok htr hn
 have hbt := hbt hap
 obtain ⟨hwr, hrw⟩ : x.2.ft.wr = [] ∧ x.2.ft.row = false := by
  rcases hA.2 with h | h
  ·rw [show (o, E).2.ft = E.ft from rfl, hap] at h; cases h
  ·exact h
 have hag : again pg f env1 st1.bl (i, x.1, x.2.ft) ((pre.length, o, E.ft) :: tr) = true := by
  have h1 := List.all_eq_true.1 hre _ htr
  have h2 : ((predsOf ops.toList).getD pre.length []).contains i = false := by
   cases hc : ((predsOf ops.toList).getD pre.length []).contains i with
   | false => rfl
   | true => exact absurd (List.contains_iff_mem.1 hc) hn
  dsimp only at h1
  rw [h2, hap, Bool.false_or, Bool.false_or] at h1
  exact h1
 have hbtw : ∀ (m : Nat) z, i <= m -> m < pre.length -> pre[m]? = some z -> alB (predsOf ops.toList) md.at m = true -> (∀ t, z.1.dst = some t -> t ∉ x.1.looksAt ops) ∧ (m ∈ (predsOf ops.toList).getD pre.length [] ∨ meets z.2.ft.wr x.2.ft.rd = false) := by
  intro m z him hm hz ham
  have h1 := List.all_eq_true.1 hbt _ (hP.tr m z hz (.inl ham))
  dsimp only at h1
  have h2 : Nat.blt m i = false := by
   cases hb : Nat.blt m i with
   | false => rfl
   | true => rw [Nat.blt_eq] at hb; omega
  rw [h2, Bool.false_or, Bool.and_eq_true, Bool.or_eq_true, Bool.not_eq_true', Bool.not_eq_true'] at h1
  refine ⟨fun t ht hmem => ?_, h1.2.imp (fun h => List.contains_iff_mem.1 h) id⟩
  have h3 := h1.1
  unfold dstIn at h3
  rw [ht] at h3
  have h4 : (x.1.looksAt ops).contains t = true := List.contains_iff_mem.2 hmem
  exact absurd (h4.symm.trans h3) nofun
 have hold := hP.op i x hx hi
 have hon : x.2.on = true := by
  cases h : x.2.on with
  | true => rfl
  | false =>
   have h1 := (hold.skip h).2
   rw [h1, Ft.nil_apart] at hap; cases hap
 obtain ⟨hnd, hFt, _⟩ := hold.go hon
 have hstate : runL (fun m => Nat.blt m (pre.length + 1) && alB (predsOf ops.toList) md.at m) 0 (pre ++ [(o, E)]) s0 = app (o, E) (runL (alB (predsOf ops.toList) md.at) 0 pre s0) := by
  have h1 : runL (fun m => Nat.blt m (pre.length + 1) && alB (predsOf ops.toList) md.at m) 0 (pre ++ [(o, E)]) s0 = runL (alB (predsOf ops.toList) md.at) 0 (pre ++ [(o, E)]) s0 := funext fun loc => runL_agree rfl fun m y hy hne => by
   exfalso
   apply hne
   have h2 := (List.getElem?_eq_some_iff.1 hy).1
   have h3 : Nat.blt (0 + m) (pre.length + 1) = true := by rw [Nat.blt_eq]; simp at h2; omega
   rw [h3, Bool.true_and]
  rw [h1, runL_append, Nat.zero_add, hal]; rfl
 have hslot : ∀ t, t ∈ x.1.looksAt ops -> (runL (fun m => Nat.blt m i && alB (predsOf ops.toList) md.at m) 0 pre s0).e t = (app (o, E) (runL (alB (predsOf ops.toList) md.at) 0 pre s0)).e t := fun t ht => by
  rw [app_e, if_neg fun hd => hA.slot.2.2 t hd ht]
  refine FS.e_eq (runL_agree rfl fun m z hz hne hw => ?_)
  rw [Nat.zero_add] at hne
  have hm := (List.getElem?_eq_some_iff.1 hz).1
  rcases Nat.lt_or_ge m i with hmi | hmi
  ·have h1 : Nat.blt m i = true := by rw [Nat.blt_eq]; exact hmi
   rw [h1, Bool.true_and] at hne
   exact hne rfl
  ·have h1 : Nat.blt m i = false := by
    cases hb : Nat.blt m i with
    | false => rfl
    | true => rw [Nat.blt_eq] at hb; omega
   have ham : alB (predsOf ops.toList) md.at m = true := by
    cases h : alB (predsOf ops.toList) md.at m with
    | true => rfl
    | false => rw [h1, h] at hne; exact absurd rfl hne
   exact (hbtw m z hmi hm hz ham).1 t hw ht
 unfold again at hag
 dsimp only at hag
 split at hag
 ·cases hag
 ·rename_i d hd
  rw [Bool.and_eq_true] at hag
  obtain ⟨hlast, hag⟩ := hag
  split at hag
  ·rename_i v bl' hst
   rw [Bool.and_eq_true] at hag
   obtain ⟨hkeys, hv⟩ := hag
   have hv := beqV_eq hv
   have hd1 : env1.get d = x.2.v := by
    rw [hs1.e]
    have h1 : app (o, E) (runL (alB (predsOf ops.toList) md.at) 0 pre s0) = runL (alB (predsOf ops.toList) md.at) 0 (pre ++ [(o, E)]) s0 := by
     rw [runL_append, Nat.zero_add, hal]; rfl
    rw [h1]
    refine runL_slot (j0 := i) (snoc_old hx) (by rw [Nat.zero_add]; exact hi) hd fun m z him hz hqm hzd => ?_
    rw [Nat.zero_add] at hqm
    have hin : (m, z.1, z.2.ft) ∈ (pre.length, o, E.ft) :: tr := by
     rcases snoc_get hz with ⟨_, h3⟩ | ⟨rfl, rfl⟩
     ·exact List.mem_cons_of_mem _ (hP.tr m z h3 (.inl hqm))
     ·exact List.mem_cons_self ..
    have h2 := List.all_eq_true.1 hlast _ hin
    dsimp only at h2
    have h3 : Nat.blt i m = true := by rw [Nat.blt_eq]; exact him
    rw [h3, hzd] at h2
    simp at h2
   rw [hd1] at hv
   refine ⟨⟨⟨true, x.2.v, bl', [], [], x.2.ft⟩, rfl, hon.symm, rfl, ?_⟩, fun m z him hm hz ham hnp loc hrd hw => ?_⟩
   ·rw [hstate]
    refine ⟨?_, hold.dst, fun _ => ⟨hnd, ⟨hFt.row, hFt.rd, hFt.wr, hFt.made, fun id kk hk => ?_⟩, envF env1 (tmpsOf x.1), subB st1.bl (dedup (x.2.ft.rd ++ x.2.ft.wr)), fun t ht => ?_, fun id => ?_, fun hr => ?_, fun _ => ?_⟩, fun h => by cases h⟩
    ·have hg := hold.guard
     rw [hon] at hg
     unfold GuardF at hg ⊢
     cases hgd : x.1.guard with
     | none => rfl
     | some gw =>
      obtain ⟨g, want⟩ := gw
      rw [hgd] at hg
      obtain ⟨t, h1, h2⟩ := hg
      have ht := hslot t (by
       refine List.mem_append_right _ ?_
       rw [hgd]
       show t ∈ ((ops[g]?).bind (·.dst)).toList
       unfold dstOf at h1
       rw [Array.getElem?_toList] at h1
       cases ho : ops[g]? with
       | none => rw [ho] at h1; cases h1
       | some o' =>
        rw [ho] at h1
        have h1' : o'.dst = some t := h1
        simp [h1'])
      exact ⟨t, h1, by rw [<- ht]; exact h2⟩
    ·have := keys_of hkeys hk
     rw [mem_dedup, List.mem_append] at this
     exact this
    ·rw [envF_get env1 ht, hs1.e]
    ·rw [getB_subB, hs1.g]
     have : id ∈ dedup (x.2.ft.rd ++ x.2.ft.wr) ↔ (id ∈ x.2.ft.rd ∨ id ∈ x.2.ft.wr) := by rw [mem_dedup, List.mem_append]
     by_cases h3 : id ∈ x.2.ft.rd ∨ id ∈ x.2.ft.wr
     ·rw [if_pos (this.2 h3), if_pos h3]
     ·rw [if_neg fun h => h3 (this.1 h), if_neg h3]
    ·have h1 := hFt.row
     rw [hrw] at h1
     rw [hr] at h1; cases h1
    ·show stepB pg f _ x.1 _ = some (x.2.v, bl')
     rw [hv]; exact hst
   ·rw [List.getElem?_append_left hm] at hz
    obtain ⟨h1, h2⟩ := hbtw m z him hm hz ham
    cases loc with
    | slot t => exact h1 t hw hrd
    | blk id =>
     have h3 := h2.resolve_left hnp
     rcases hrd with hrd | hrd
     ·exact meets_false h3 hw hrd
     ·rw [hwr] at hrd; cases hrd
    | rows => rw [show RdF ops x .rows = (x.2.ft.row = true) from rfl, hrw] at hrd; cases hrd
  ·cases hag
theorem Pre.push {env1 : Env} {st1 : St} (hP : Pre pg D f nt ops n0 df0 p0 s0 pre tr md env st) (hal : alB (predsOf ops.toList) md.at pre.length = true) (hO : OpF pg D f nt ops (runL (alB (predsOf ops.toList) md.at) 0 pre s0) (o, E))
  (hok : okDraw ops ((predsOf ops.toList).getD pre.length []) o E.ft tr = true) (hmd : md.at ≠ none -> meets E.ft.wr n0 = false) (hs1 : SameF env1 st1 (app (o, E) (runL (alB (predsOf ops.toList) md.at) 0 pre s0))) (hd : st1.df = df0) (hp : st1.pn = p0)
  (hrc : ∀ (i : Nat) x, pre[i]? = some x -> alB (predsOf ops.toList) md.at i = true -> i ∉ (predsOf ops.toList).getD pre.length [] -> x.2.ft.apart E.ft = false -> Rc pg D f nt ops (alB (predsOf ops.toList) md.at) (pre ++ [(o, E)]) s0 i pre.length x) :
  Pre pg D f nt ops n0 df0 p0 s0 (pre ++ [(o, E)]) ((pre.length, o, E.ft) :: tr) md env1 st1 := by
 refine ⟨fun j x hj ha => ?_, ?_, hd, hp, fun j x hj ha => ?_, fun i1 j1 x y hij hx hy hi1 hj1 hn => ?_, fun i1 j1 x y hij hx hy hi1 hj1 hn hap => ?_, fun m hm => ?_, fun m hm j x hj ha hn => ?_⟩
 ·rcases snoc_get hj with ⟨_, h3⟩ | ⟨rfl, rfl⟩
  ·exact List.mem_cons_of_mem _ (hP.tr j x h3 ha)
  ·exact List.mem_cons_self ..
 ·rw [runL_append, Nat.zero_add, hal]; exact hs1
 ·rcases snoc_get hj with ⟨hlt, h3⟩ | ⟨rfl, rfl⟩
  ·rw [snoc_cut (by omega)]; exact hP.op j x h3 ha
  ·rw [snoc_cut (Nat.le_refl _), snoc_all]; exact hO
 ·rcases snoc_get hy with ⟨hlt, h3⟩ | ⟨rfl, rfl⟩
  ·rcases snoc_get hx with ⟨_, h4⟩ | ⟨h4, _⟩
   ·exact hP.ind i1 j1 x y hij h4 h3 hi1 hj1 hn
   ·omega
  ·rcases snoc_get hx with ⟨_, h4⟩ | ⟨h4, _⟩
   ·exact (okDraw_at hok (hP.tr i1 x h4 hi1) hn).1
   ·omega
 ·rcases snoc_get hy with ⟨hlt, h3⟩ | ⟨rfl, rfl⟩
  ·rcases snoc_get hx with ⟨_, h4⟩ | ⟨h4, _⟩
   ·exact (hP.rc i1 j1 x y hij h4 h3 hi1 hj1 hn hap).snoc hlt
   ·omega
  ·rcases snoc_get hx with ⟨_, h4⟩ | ⟨h4, _⟩
   ·exact hrc i1 x h4 hi1 hn hap
   ·omega
 ·obtain ⟨x, h1, h2, h3⟩ := hP.pan m hm
  have hlt := (List.getElem?_eq_some_iff.1 h1).1
  refine ⟨x, snoc_old h1, ?_⟩
  rw [snoc_cut (by omega)]
  exact ⟨h2, h3⟩
 ·rcases snoc_get hj with ⟨hlt, h3⟩ | ⟨rfl, rfl⟩
  ·exact hP.far m hm j x h3 ha hn
  ·exact hmd (by rw [hm]; nofun)
theorem Pre.pass (hP : Pre pg D f nt ops n0 df0 p0 s0 pre tr md env st) (hal : alB (predsOf ops.toList) md.at pre.length = false) :
  Pre pg D f nt ops n0 df0 p0 s0 (pre ++ [(o, E)]) tr md env st := by
 have hne : md.at ≠ some pre.length := fun h => absurd (hP.lt h) (by omega)
 have nal : ∀ {P : Prop}, alB (predsOf ops.toList) md.at pre.length = true ∨ md.at = some pre.length -> P := fun h => by
  rcases h with h | h
  ·rw [hal] at h; cases h
  ·exact absurd h hne
 refine ⟨fun j x hj ha => ?_, ?_, hP.df, hP.pn, fun j x hj ha => ?_, fun i1 j1 x y hij hx hy hi1 hj1 hn => ?_, fun i1 j1 x y hij hx hy hi1 hj1 hn hap => ?_, fun m hm => ?_, fun m hm j x hj ha hn => ?_⟩
 ·rcases snoc_get hj with ⟨_, h3⟩ | ⟨rfl, rfl⟩
  ·exact hP.tr j x h3 ha
  ·exact nal ha
 ·rw [runL_append, Nat.zero_add, hal]; exact hP.same
 ·rcases snoc_get hj with ⟨hlt, h3⟩ | ⟨rfl, rfl⟩
  ·rw [snoc_cut (by omega)]; exact hP.op j x h3 ha
  ·exact nal (.inl ha)
 ·rcases snoc_get hy with ⟨hlt, h3⟩ | ⟨rfl, rfl⟩
  ·rcases snoc_get hx with ⟨_, h4⟩ | ⟨h4, _⟩
   ·exact hP.ind i1 j1 x y hij h4 h3 hi1 hj1 hn
   ·omega
  ·exact nal hj1
 ·rcases snoc_get hy with ⟨hlt, h3⟩ | ⟨rfl, rfl⟩
  ·rcases snoc_get hx with ⟨_, h4⟩ | ⟨h4, _⟩
   ·exact (hP.rc i1 j1 x y hij h4 h3 hi1 hj1 hn hap).snoc hlt
   ·omega
  ·exact nal (.inl hj1)
 ·obtain ⟨x, h1, h2, h3⟩ := hP.pan m hm
  have hlt := (List.getElem?_eq_some_iff.1 h1).1
  refine ⟨x, snoc_old h1, ?_⟩
  rw [snoc_cut (by omega)]
  exact ⟨h2, h3⟩
 ·rcases snoc_get hj with ⟨hlt, h3⟩ | ⟨rfl, rfl⟩
  ·exact hP.far m hm j x h3 ha hn
  ·exact nal (.inl ha)
theorem Pre.die {v : V} {st' : St} (htopo : okTopo 0 ops.toList = true) (hP : Pre pg D f nt ops n0 df0 p0 s0 pre tr none env st) (hO : PanF pg D f ops (runL (fun _ => true) 0 pre s0) (o, E) v)
  (hok : okDraw ops ((predsOf ops.toList).getD pre.length []) o E.ft tr = true) (hpan : okPan (predsOf ops.toList) n0 pre.length tr = true) (hs1 : ∀ id, getB st'.bl id = (app (o, E) (runL (fun _ => true) 0 pre s0)).g id)
  (hu : st'.used = E.u) (hdd : st'.dead = E.d) (hd : st'.df = df0) (hp : st'.pn = p0) :
  Pre pg D f nt ops n0 df0 p0 s0 (pre ++ [(o, E)]) ((pre.length, o, E.ft) :: tr) (some (pre.length, v, st')) env st := by
 have hal : ∀ j, j < pre.length -> alB (predsOf ops.toList) (some pre.length) j = true := fun j hj => by
  have h1 : ((predsOf ops.toList).getD j []).contains pre.length = false := by
   cases hc : ((predsOf ops.toList).getD j []).contains pre.length with
   | false => rfl
   | true =>
    have := preds_lt htopo (j + 1) j (by omega) _ (List.contains_iff_mem.1 hc)
    omega
  show (!(j == pre.length) && !((predsOf ops.toList).getD j []).contains pre.length) = true
  rw [h1]
  have : j ≠ pre.length := by omega
  simp [this]
 have hsame : ∀ {i : Nat}, i <= pre.length -> runL (fun m => Nat.blt m i && alB (predsOf ops.toList) (some pre.length) m) 0 pre s0 = runL (fun m => Nat.blt m i && alB (predsOf ops.toList) none m) 0 pre s0 := fun {i} hi => funext fun loc => runL_agree rfl fun m y hy hne => by
  exfalso
  apply hne
  have h1 := (List.getElem?_eq_some_iff.1 hy).1
  rw [hal (0 + m) (by omega)]; rfl
 have hall : runL (fun m => Nat.blt m pre.length && alB (predsOf ops.toList) (some pre.length) m) 0 pre s0 = runL (fun _ => true) 0 pre s0 := by
  rw [hsame (Nat.le_refl _), snoc_all]; rfl
 have hself : alB (predsOf ops.toList) (some pre.length) pre.length = false := alB_self
 refine ⟨fun j x hj ha => ?_, ?_, hP.df, hP.pn, fun j x hj ha => ?_, fun i1 j1 x y hij hx hy hi1 hj1 hn => ?_, fun i1 j1 x y hij hx hy hi1 hj1 hn hap => ?_, fun m hm => ?_, fun m hm j x hj ha hn => ?_⟩
 ·rcases snoc_get hj with ⟨_, h3⟩ | ⟨rfl, rfl⟩
  ·exact List.mem_cons_of_mem _ (hP.tr j x h3 (.inl rfl))
  ·exact List.mem_cons_self ..
 ·show SameF env st (runL (alB (predsOf ops.toList) (some pre.length)) 0 (pre ++ [(o, E)]) s0)
  rw [runL_append, Nat.zero_add, hself]
  have : runL (alB (predsOf ops.toList) (some pre.length)) 0 pre s0 = runL (fun _ => true) 0 pre s0 := by rw [<- snoc_all (pre := pre) (q := alB (predsOf ops.toList) (some pre.length)), hall]
  rw [this]; exact hP.same
 ·rcases snoc_get hj with ⟨hlt, h3⟩ | ⟨rfl, rfl⟩
  ·rw [snoc_cut (by omega)]
   show OpF pg D f nt ops (runL (fun m => Nat.blt m j && alB (predsOf ops.toList) (some pre.length) m) 0 pre s0) x
   rw [hsame (by omega)]; exact hP.op j x h3 rfl
  ·have ha' : alB (predsOf ops.toList) (some pre.length) pre.length = true := ha
   rw [hself] at ha'; cases ha'
 ·rcases snoc_get hy with ⟨hlt, h3⟩ | ⟨rfl, rfl⟩
  ·rcases snoc_get hx with ⟨_, h4⟩ | ⟨h4, _⟩
   ·exact hP.ind i1 j1 x y hij h4 h3 (.inl rfl) (.inl rfl) hn
   ·omega
  ·rcases snoc_get hx with ⟨_, h4⟩ | ⟨h4, _⟩
   ·exact (okDraw_at hok (hP.tr i1 x h4 (.inl rfl)) hn).1
   ·omega
 ·rcases snoc_get hy with ⟨hlt, h3⟩ | ⟨rfl, rfl⟩
  ·rcases snoc_get hx with ⟨_, h4⟩ | ⟨h4, _⟩
   ·refine ((hP.rc i1 j1 x y hij h4 h3 rfl rfl hn hap).as (q' := alB (predsOf ops.toList) (some pre.length)) fun k hk => ?_).snoc hlt
    rw [hal k (by omega)]; rfl
   ·omega
  ·have hj1' : alB (predsOf ops.toList) (some pre.length) pre.length = true := hj1
   rw [hself] at hj1'; cases hj1'
 ·cases hm
  refine ⟨(o, E), by simp, ?_⟩
  rw [snoc_cut (Nat.le_refl _)]
  show PanF pg D f ops (runL (fun m => Nat.blt m pre.length && alB (predsOf ops.toList) (some pre.length) m) 0 pre s0) _ _ ∧ (∀ id, _ = (app (o, E) (runL (fun m => Nat.blt m pre.length && alB (predsOf ops.toList) (some pre.length) m) 0 pre s0)).g id) ∧ _
  rw [hall]
  exact ⟨hO, hs1, hu, hdd, hd, hp⟩
 ·cases hm
  rcases snoc_get hj with ⟨hlt, h3⟩ | ⟨rfl, rfl⟩
  ·have h5 := List.all_eq_true.1 hpan _ (hP.tr j x h3 (.inl rfl))
   have h6 : ((predsOf ops.toList).getD pre.length []).contains j = false := by
    cases hc : ((predsOf ops.toList).getD pre.length []).contains j with
    | false => rfl
    | true => exact absurd (List.contains_iff_mem.1 hc) hn
   dsimp only at h5
   rw [h6, Bool.false_or, Bool.not_eq_true'] at h5
   exact h5
  ·have ha' : alB (predsOf ops.toList) (some pre.length) pre.length = true := ha
   rw [hself] at ha'; cases ha'
theorem evDraw_run (htopo : okTopo 0 ops.toList = true) : ∀ (rest : List Oper) (i : Nat) (env : Env) (st : St) (tr : List (Nat × Oper × Ft)) (md : Md) (pre : List (Oper × Eff)), evDraw pg D f nt ops (predsOf ops.toList) n0 i rest env st tr md k = some r ->
  pre.length = i -> Pre pg D f nt ops n0 df0 p0 s0 pre tr md env st ->
  ∃ l env' st' tr' md', l.map (·.1) = pre.map (·.1) ++ rest ∧ Pre pg D f nt ops n0 df0 p0 s0 l tr' md' env' st' ∧
   match md' with | none => k .normal env' st' = some r | some m => ∃ y, canon pg f n0 (undefE ops env', m.2.2) = some y ∧ k (.pan m.2.1) y.1 y.2 = some r
 | [], i, env, st, tr, md, pre, h, hl, hP => by
  refine ⟨pre, env, st, tr, md, by simp, hP, ?_⟩
  unfold evDraw at h
  cases md with
  | none => exact h
  | some m =>
   dsimp only at h
   split at h
   ·exact ⟨_, ‹_›, h⟩
   ·cases h
 | o :: rest, i, env, st, tr, md, pre, h, hl, hP => by
  subst hl
  have next : ∀ {E : Eff} {env1 : Env} {st1 : St} {tr1 : List (Nat × Oper × Ft)} {md1 : Md}, evDraw pg D f nt ops (predsOf ops.toList) n0 (pre.length + 1) rest env1 st1 tr1 md1 k = some r -> Pre pg D f nt ops n0 df0 p0 s0 (pre ++ [(o, E)]) tr1 md1 env1 st1 ->
    ∃ l env' st' tr' md', l.map (·.1) = pre.map (·.1) ++ (o :: rest) ∧ Pre pg D f nt ops n0 df0 p0 s0 l tr' md' env' st' ∧
     match md' with | none => k .normal env' st' = some r | some m => ∃ y, canon pg f n0 (undefE ops env', m.2.2) = some y ∧ k (.pan m.2.1) y.1 y.2 = some r := by
   intro E env1 st1 tr1 md1 hrest hP1
   obtain ⟨l, env', st', tr', md', g1, g2⟩ := evDraw_run htopo rest (pre.length + 1) env1 st1 tr1 md1 (pre ++ [(o, E)]) hrest (by simp) hP1
   exact ⟨l, env', st', tr', md', by rw [g1]; simp, g2⟩
  have hs := hP.same
  unfold evDraw at h
  rcases cond_some h with ⟨hw, h⟩ | ⟨hw, h⟩
  ·refine next (E := ⟨false, .hole, [], [], [], ⟨[], [], false⟩⟩) h (hP.pass ?_)
   cases md with
   | none => cases hw
   | some m =>
    show (!(pre.length == m.1) && !((predsOf ops.toList).getD pre.length []).contains m.1) = false
    have hw' : ((predsOf ops.toList).getD pre.length []).contains m.1 = true := hw
    rw [hw']; simp
  have hal : alB (predsOf ops.toList) md.at pre.length = true := by
   cases md with
   | none => rfl
   | some m =>
    have hw' : ((predsOf ops.toList).getD pre.length []).contains m.1 = false := hw
    have hlt := hP.lt (i := m.1) rfl
    show (!(pre.length == m.1) && !((predsOf ops.toList).getD pre.length []).contains m.1) = true
    rw [hw']
    have : pre.length ≠ m.1 := by omega
    simp [this]
  have skip : ∀ {env2 : Env}, (∀ t, env2.get t = env.get t) -> GuardF ops (runL (alB (predsOf ops.toList) md.at) 0 pre s0) o false ->
    (bif !okDraw ops ((predsOf ops.toList).getD pre.length []) o ⟨[], [], false⟩ tr || notDrawn o then none else
     (match putE nt env2 o.dst .hole with | some env' => evDraw pg D f nt ops (predsOf ops.toList) n0 (pre.length + 1) rest env' st ((pre.length, o, ⟨[], [], false⟩) :: tr) md k | none => none)) = some r ->
    ∃ l env' st' tr' md', l.map (·.1) = pre.map (·.1) ++ (o :: rest) ∧ Pre pg D f nt ops n0 df0 p0 s0 l tr' md' env' st' ∧
     match md' with | none => k .normal env' st' = some r | some m => ∃ y, canon pg f n0 (undefE ops env', m.2.2) = some y ∧ k (.pan m.2.1) y.1 y.2 = some r := by
   intro env2 he hg hh
   obtain ⟨hc, hh2⟩ := condR_some hh
   simp only [Bool.or_eq_false_iff, Bool.not_eq_false'] at hc
   split at hh2
   ·rename_i env1 hp
    obtain ⟨h3, h4⟩ := putE_get hp
    refine next hh2 (hP.push (E := ⟨false, .hole, [], [], [], ⟨[], [], false⟩⟩) hal ⟨hg, h4, (fun hon => by cases hon), fun _ => ⟨rfl, rfl⟩⟩ hc.1 (fun _ => rfl) ⟨fun t => ?_, fun id => ?_, ?_, ?_⟩ hP.df hP.pn fun i x _ _ _ hap => by rw [Ft.apart_nil] at hap; cases hap)
    ·rw [h3, app_e, he, hs.e]
    ·rw [app_g]; simpa using hs.g id
    ·rw [app_u]; simpa using hs.u
    ·rw [app_d]; simpa using hs.d
   ·cases hh2
  have go : ∀ {env2 : Env}, (∀ t, env2.get t = env.get t) -> GuardF ops (runL (alB (predsOf ops.toList) md.at) 0 pre s0) o true ->
    goDraw pg D f (envF env2 (tmpsOf o)) o (footOf (envF env2 (tmpsOf o)) st.bl o) (fun ft => okDraw ops ((predsOf ops.toList).getD pre.length []) o ft tr && md.ok n0 o ft) st (fun ft v st' => match putE nt env2 o.dst v with
     | some env' => bif recheck pg f ((predsOf ops.toList).getD pre.length []) env' st'.bl ft ((pre.length, o, ft) :: tr) tr then evDraw pg D f nt ops (predsOf ops.toList) n0 (pre.length + 1) rest env' st' ((pre.length, o, ft) :: tr) md k else none
     | none => none)
     (fun ft v st' => bif okPan (predsOf ops.toList) n0 pre.length tr then (match pur pg [] pdeep v with
     | some v' => evDraw pg D f nt ops (predsOf ops.toList) n0 (pre.length + 1) rest env2 st ((pre.length, o, ft) :: tr) (some (pre.length, v', st')) k
     | none => none) else none) = some r ->
    ∃ l env' st' tr' md', l.map (·.1) = pre.map (·.1) ++ (o :: rest) ∧ Pre pg D f nt ops n0 df0 p0 s0 l tr' md' env' st' ∧
     match md' with | none => k .normal env' st' = some r | some m => ∃ y, canon pg f n0 (undefE ops env', m.2.2) = some y ∧ k (.pan m.2.1) y.1 y.2 = some r := by
   intro env2 he hg hh
   generalize hft : footOf (envF env2 (tmpsOf o)) st.bl o = ft at hh
   have hrow : ft.row = isRow o := by rw [<- hft]; exact footOf_row
   unfold goDraw at hh
   obtain ⟨hc, hh2⟩ := condR_some hh
   simp only [Bool.or_eq_false_iff, Bool.not_eq_false', Bool.and_eq_true] at hc
   obtain ⟨⟨hok, hmok⟩, hnd⟩ := hc
   have hmok' : md.at ≠ none -> isRow o = false ∧ meets ft.wr n0 = false := fun hne => by
    cases md with
    | none => exact absurd rfl hne
    | some m =>
     have h1 : (!isRow o && !meets ft.wr n0) = true := hmok
     rw [Bool.and_eq_true, Bool.not_eq_true', Bool.not_eq_true'] at h1
     exact h1
   have hB : ∀ id, getB (subB st.bl (dedup (ft.rd ++ ft.wr))) id = if id ∈ ft.rd ∨ id ∈ ft.wr then (runL (alB (predsOf ops.toList) md.at) 0 pre s0).g id else none := fun id => by
    rw [getB_subB, hs.g]
    have : id ∈ dedup (ft.rd ++ ft.wr) ↔ (id ∈ ft.rd ∨ id ∈ ft.wr) := by rw [mem_dedup, List.mem_append]
    by_cases h3 : id ∈ ft.rd ∨ id ∈ ft.wr
    ·rw [if_pos (this.2 h3), if_pos h3]
    ·rw [if_neg fun h => h3 (this.1 h), if_neg h3]
   have henv : ∀ t, t ∈ tmpsOf o -> Env.get (envF env2 (tmpsOf o)) t = (runL (alB (predsOf ops.toList) md.at) 0 pre s0).e t := fun t ht => by rw [envF_get env2 ht, he, hs.e]
   have hkeys : ∀ {bl' : List (Nat × Blk)}, (bl'.all fun p => (dedup (ft.rd ++ ft.wr)).contains p.1) = true -> ∀ id kk, getB bl' id = some kk -> id ∈ ft.rd ∨ id ∈ ft.wr := fun hb id kk hk => by
    have := keys_of hb hk
    rw [mem_dedup, List.mem_append] at this
    exact this
   have hFt : ∀ {v : V} {bl' : List (Nat × Blk)} {u d : List Nat}, (bl'.all fun p => (dedup (ft.rd ++ ft.wr)).contains p.1) = true -> FtOk o ⟨true, v, bl', u, d, ft⟩ := fun hb =>
    ⟨hrow, fun hrd => by rw [<- hft]; exact footOf_rd hrd, fun hrd => by rw [<- hft]; exact footOf_wr hrd, fun ha d hd => by rw [<- hft]; exact footOf_mk ha hd, hkeys hb⟩
   rcases cond_some hh2 with ⟨hr, hh3⟩ | ⟨hr, hh3⟩
   ·have hmd : md = none := by
     cases md with
     | none => rfl
     | some m => have := (hmok' nofun).1; rw [hr] at this; cases this
    rw [opS_step] at hh3
    obtain ⟨q, hq, hh4⟩ := Option.bind_eq_some_iff.1 hh3
    cases q with
    | pan v st' =>
     subst hmd
     obtain ⟨hb, hh5⟩ := condL_some (hh4 : (bif (st'.bl.all fun p => (dedup (ft.rd ++ ft.wr)).contains p.1) then _ else none) = some r)
     obtain ⟨hpan, hh6⟩ := condL_some hh5
     split at hh6
     ·rename_i v' hv'
      obtain ⟨h5, h6⟩ := step1_dfp hr hnd hq
      have hq' : step1 pg D f (envF env2 (tmpsOf o)) o ⟨subB st.bl (dedup (ft.rd ++ ft.wr)), (runL (fun _ => true) 0 pre s0).u, (runL (fun _ => true) 0 pre s0).d, [], none⟩ = some (.pan v ⟨st'.bl, st'.used, st'.dead, [], none⟩) := by
       have hsu := hs.u
       have hsd := hs.d
       have h8 := step1_bare (pg := pg) (D := D) (f := f) (o := o) (env := envF env2 (tmpsOf o)) (st := { st with bl := subB st.bl (dedup (ft.rd ++ ft.wr)) }) [] none hr hnd
       rw [hq] at h8
       show step1 pg D f (envF env2 (tmpsOf o)) o ⟨subB st.bl (dedup (ft.rd ++ ft.wr)), (runL (alB (predsOf ops.toList) (Md.at none)) 0 pre s0).u, (runL (alB (predsOf ops.toList) (Md.at none)) 0 pre s0).d, [], none⟩ = _
       rw [<- hsu, <- hsd]
       exact h8
      have hdie := Pre.die (o := o) (E := ⟨true, .undef, st'.bl, st'.used, st'.dead, ft⟩) (v := v') (st' := { st' with bl := overB st.bl st'.bl ft.wr }) htopo hP
       ⟨hg, hnd, hr, hFt hb, v, _, _, hv', henv, hB, hq'⟩ hok hpan (fun id => by
        rw [app_g]
        show getB (overB st.bl st'.bl ft.wr) id = _
        rw [getB_overB, hs.g] <;> rfl) rfl rfl (h5.trans hP.df) (h6.trans hP.pn)
      refine next hh6 ⟨hdie.tr, ⟨fun t => (he t).trans (hdie.same.e t), hdie.same.g, hdie.same.u, hdie.same.d⟩, hdie.df, hdie.pn, hdie.op, hdie.ind, hdie.rc, hdie.pan, hdie.far⟩
     ·cases hh6
    | val v st' =>
     obtain ⟨hb, hh5⟩ := condL_some (hh4 : (bif (st'.bl.all fun p => (dedup (ft.rd ++ ft.wr)).contains p.1) then _ else none) = some r)
     dsimp only at hh5
     split at hh5
     ·rename_i env1 hp
      obtain ⟨h3, h4⟩ := putE_get hp
      obtain ⟨h5, h6⟩ := step1_df hr hnd hq
      have hq' : step1 pg D f (envF env2 (tmpsOf o)) o ⟨subB st.bl (dedup (ft.rd ++ ft.wr)), (runL (alB (predsOf ops.toList) md.at) 0 pre s0).u, (runL (alB (predsOf ops.toList) md.at) 0 pre s0).d, [], none⟩ = some (.val v ⟨st'.bl, st'.used, st'.dead, [], none⟩) := by
       rw [<- hs.u, <- hs.d]
       have h8 := step1_bare (pg := pg) (D := D) (f := f) (o := o) (env := envF env2 (tmpsOf o)) (st := { st with bl := subB st.bl (dedup (ft.rd ++ ft.wr)) }) [] none hr hnd
       rw [hq] at h8
       exact h8
      obtain ⟨hre, hh6⟩ := condL_some hh5
      have hs1 : SameF env1 { st' with bl := overB st.bl st'.bl ft.wr } (app (o, ⟨true, v, st'.bl, st'.used, st'.dead, ft⟩) (runL (alB (predsOf ops.toList) md.at) 0 pre s0)) := by
       refine ⟨fun t => ?_, fun id => ?_, ?_, ?_⟩
       ·rw [h3, app_e, he, hs.e]
       ·rw [app_g]
        show getB (overB st.bl st'.bl ft.wr) id = _
        rw [getB_overB, hs.g] <;> rfl
       ·rw [app_u, if_pos (by rw [hrow]; exact hr)]
       ·rw [app_d, if_pos (by rw [hrow]; exact hr)]
      exact next hh6 (hP.push (E := ⟨true, v, st'.bl, st'.used, st'.dead, ft⟩) hal ⟨hg, h4, fun _ => ⟨hnd, hFt hb, _, _, henv, hB, fun _ => hq', (fun hnr => by rw [hr] at hnr; cases hnr)⟩, (fun hon => by cases hon)⟩ hok (fun hne => (hmok' hne).2)
       hs1 (h5.trans hP.df) (h6.trans hP.pn) (recheck_spec hP hal hok hs1 hre))
     ·cases hh5
   ·rw [opB_step] at hh3
    obtain ⟨q, hq, hh4⟩ := Option.bind_eq_some_iff.1 hh3
    obtain ⟨v, bl'⟩ := q
    obtain ⟨hb, hh5⟩ := condL_some (hh4 : (bif (bl'.all fun p => (dedup (ft.rd ++ ft.wr)).contains p.1) then _ else none) = some r)
    dsimp only at hh5
    split at hh5
    ·rename_i env1 hp
     obtain ⟨h3, h4⟩ := putE_get hp
     obtain ⟨hre, hh6⟩ := condL_some hh5
     have hs1 : SameF env1 { st with bl := overB st.bl bl' ft.wr } (app (o, ⟨true, v, bl', [], [], ft⟩) (runL (alB (predsOf ops.toList) md.at) 0 pre s0)) := by
      refine ⟨fun t => ?_, fun id => ?_, ?_, ?_⟩
      ·rw [h3, app_e, he, hs.e]
      ·rw [app_g]
       show getB (overB st.bl bl' ft.wr) id = _
       rw [getB_overB, hs.g] <;> rfl
      ·rw [app_u, if_neg (by rw [hrow, hr]; nofun)]; exact hs.u
      ·rw [app_d, if_neg (by rw [hrow, hr]; nofun)]; exact hs.d
     exact next hh6 (hP.push (E := ⟨true, v, bl', [], [], ft⟩) hal ⟨hg, h4, fun _ => ⟨hnd, hFt hb, _, _, henv, hB, (fun hnr => by rw [hr] at hnr; cases hnr), fun _ => hq⟩, (fun hon => by cases hon)⟩ hok (fun hne => (hmok' hne).2)
      hs1 hP.df hP.pn (recheck_spec hP hal hok hs1 hre))
    ·cases hh5
  dsimp only at h
  split at h
  ·rename_i hg
   exact go (fun _ => rfl) (by unfold GuardF; rw [hg]) h
  ·rename_i g want hg
   split at h
   ·cases h
   ·rename_i t ht
    have hget : ∀ b, env.get t = .bool b -> ∀ t', Env.get ((t, .bool b) :: env) t' = env.get t' := fun b hb t' => by
     show (bif Nat.beq t t' then V.bool b else env.get t') = _
     by_cases htt : t = t'
     ·subst htt; rw [Nat.beq_refl, hb]; rfl
     ·rw [nbeq htt]; rfl
    have hG : ∀ (b : Bool), env.get t = .bool b -> ∀ on, on = (b == want) -> GuardF ops (runL (alB (predsOf ops.toList) md.at) 0 pre s0) o on := fun b hb on hon => by
     unfold GuardF
     rw [hg]
     exact ⟨t, ht, .inl ⟨b, by rw [<- hs.e]; exact hb, hon⟩⟩
    split at h
    ·rename_i b hb
     cases b <;> cases want
     ·exact go (hget _ hb) (hG _ hb _ rfl) h
     ·exact skip (hget _ hb) (hG _ hb _ rfl) h
     ·exact skip (hget _ hb) (hG _ hb _ rfl) h
     ·exact go (hget _ hb) (hG _ hb _ rfl) h
    ·rename_i hb
     refine skip (fun _ => rfl) ?_ h
     unfold GuardF
     rw [hg]
     exact ⟨t, ht, .inr ⟨by rw [<- hs.e]; exact hb, rfl⟩⟩
    ·cases h
end
theorem getB_keys {bl : List (Nat × Blk)} {id : Nat} {b : Blk} (h : getB bl id = some b) : id ∈ keysOf bl := by
 induction bl with
 | nil => cases h
 | cons p l ih =>
  obtain ⟨i, b'⟩ := p
  unfold getB at h
  by_cases hi : i = id
  ·subst hi; exact List.mem_cons_self ..
  ·rw [nbeq hi] at h
   exact List.mem_cons_of_mem _ (ih h)
theorem DefRep.cut {P : Program} {n0 : List Nat} {rows : Nat -> Option (Value × TypeId × Nat)} {l : List (FuncId × List V)} {ds : List Deferred} (h : DefRep P c l ds) (hn : (l.all fun p => capIn n0 p.2) = true) : DefRep P (c.cut n0 rows) l ds := by
 induction h with
 | nil => exact .nil
 | cons hl h _ ih =>
  rw [List.all_cons, Bool.and_eq_true] at hn
  refine .cons hl (fun j hj => ?_) (ih hn.2)
  obtain ⟨id, off, h1, h2⟩ := capIn_at hn.1 hj
  have h3 := h j hj
  rw [h1] at h3 ⊢
  obtain ⟨b, o, n, h4, h5⟩ := h3.ref_inv
  rw [h5]
  exact .ref off (show (if n0.contains id then c.blk id else none) = some (b, o, n) by rw [if_pos h2]; exact h4)
theorem At.canon {n0 : List Nat} {y : Env × St} (hA : At pg p0 c0 own0 nt c own env st a) (h : canon pg f n0 (env, st) = some y) (hn : ∀ i r, c0.blk i = some r -> i ∈ n0) : ∃ c1 own1, c1.w = c.w ∧ c1.prot = c.prot ∧ At pg p0 c0 own0 nt c1 own1 y.1 y.2 a := by
 obtain ⟨env', st'⟩ := y
 obtain ⟨c1, own1, h1, h2, h3, h4, h5, h6, h7, h8, h9, ⟨rows, h10⟩, h11⟩ := canon_sound hA.inv hA.env h
 refine ⟨c1, own1, h1, h2, h3, h4, hA.size, (by rw [h6, h10]; exact hA.defs.cut h11), h7.trans hA.pn, hA.after.trans ⟨?_, fun b x _ hn => h5 b x hn, fun b x hp => ⟨by rw [h2]; exact hp, by rw [h1]⟩, fun b x hp => .inl (by rw [<- h2]; exact hp), h9, fun id r ho => absurd ho (hA.out id)⟩, fun i r hr => h8 i r (hn i r hr) (hA.blk i r hr), fun id => by rw [h9]; exact hA.out id⟩
 rw [h1]; exact Frame.refl _ _
theorem At.keys (hA : At pg p0 c0 own0 nt c own env st a) : ∀ i r, c0.blk i = some r -> i ∈ keysOf st.bl := fun i r hr => by
 rcases hA.inv.inv.dom i r (hA.blk i r hr) with ⟨b, hb⟩ | ho
 ·exact getB_keys hb
 ·exact absurd ho (hA.out i)
theorem takeB_congr {bl bl' : List (Nat × Blk)} : ∀ {n0 : List Nat}, (∀ id, id ∈ n0 -> getB bl id = getB bl' id) -> takeB bl n0 = takeB bl' n0
 | [], _ => rfl
 | id :: n0, h => by
  unfold takeB
  rw [h id (List.mem_cons_self ..), takeB_congr fun i hi => h i (List.mem_cons_of_mem _ hi)]
theorem canon_congr {n0 : List Nat} {st st' : St} {y : Env × St} (hb : ∀ id, id ∈ n0 -> getB st.bl id = getB st'.bl id) (hdd : st.dead = st'.dead) (hdf : st.df = st'.df) (hpn : st.pn = st'.pn) (h : canon pg f n0 (env, st) = some y) : canon pg f n0 (env, st') = some y := by
 obtain ⟨bl, u, d, df, pn⟩ := st
 obtain ⟨bl', u', d', df', pn'⟩ := st'
 dsimp only at hb hdd hdf hpn
 subst hdd; subst hdf; subst hpn
 unfold canon at h ⊢
 dsimp only at h ⊢
 rw [<- takeB_congr hb]
 exact h
theorem undefE_get {env : Env} {t : Tmp} : (undefE ops env).get t = .undef ∨ ((undefE ops env).get t = env.get t ∧ ∀ o, o ∈ ops.toList -> o.dst ≠ some t) := by
 unfold undefE
 have gen : ∀ (l : List Oper), Env.get ((l.filterMap (·.dst)).map (fun t => (t, V.undef)) ++ env) t = .undef ∨ (Env.get ((l.filterMap (·.dst)).map (fun t => (t, V.undef)) ++ env) t = env.get t ∧ ∀ o, o ∈ l -> o.dst ≠ some t) := by
  intro l
  induction l with
  | nil => exact .inr ⟨rfl, fun o h => by cases h⟩
  | cons o l ih =>
   cases hd : o.dst with
   | none =>
    rw [List.filterMap_cons, hd]
    rcases ih with h | ⟨h1, h2⟩
    ·exact .inl h
    ·exact .inr ⟨h1, fun o' ho' => by
      rcases List.mem_cons.1 ho' with rfl | ho'
      ·rw [hd]; nofun
      ·exact h2 o' ho'⟩
   | some d =>
    rw [List.filterMap_cons, hd]
    by_cases hdt : d = t
    ·subst hdt
     left
     show (bif Nat.beq d d then V.undef else _) = _
     rw [Nat.beq_refl]; rfl
    ·have e : Env.get (((d, V.undef) :: (l.filterMap (·.dst)).map (fun t => (t, V.undef))) ++ env) t = Env.get ((l.filterMap (·.dst)).map (fun t => (t, V.undef)) ++ env) t := by
      show (bif Nat.beq d t then V.undef else _) = _
      rw [nbeq hdt]; rfl
     show Env.get (((d, V.undef) :: (l.filterMap (·.dst)).map (fun t => (t, V.undef))) ++ env) t = .undef ∨ _
     rcases ih with h | ⟨h1, h2⟩
     ·exact .inl (e.trans h)
     ·exact .inr ⟨e.trans h1, fun o' ho' => by
       rcases List.mem_cons.1 ho' with rfl | ho'
       ·rw [hd]; intro h; cases h; exact hdt rfl
       ·exact h2 o' ho'⟩
 exact gen ops.toList
def FS.fin (s : FS) : Prop := ∃ bl, ∀ id, getB bl id = s.g id
theorem FS.fin_app {s : FS} {x : Oper × Eff} (h : s.fin) : (app x s).fin := by
 obtain ⟨bl, h⟩ := h
 exact ⟨overB bl x.2.bl x.2.ft.wr, fun id => by rw [app_g, getB_overB, h] <;> rfl⟩
theorem FS.fin_run {p : Nat -> Bool} : ∀ {l : List (Oper × Eff)} {i : Nat} {s : FS}, s.fin -> (runL p i l s).fin
 | [], i, s, h => h
 | x :: l, i, s, h => by
  unfold runL
  cases p i with
  | true => exact FS.fin_run (FS.fin_app h)
  | false => exact FS.fin_run h
theorem evReg_sound {id : Nat} {draw : Bool} (hD : DSound pg D) (hmix : pg.P.follows .mixedOrders = true) (hk : KOk pg p0 r c0 own0 nt k Q) (h : evReg pg D f nt ops draw env st k = some r) (hA : At pg p0 c0 own0 nt c own env st a) :
  (Code.region id ops draw).wp pg.P Q a c.w := by
 unfold evReg at h
 cases draw with
 | false => exact wp_region_list (evOps_sound hD hk _ _ _ _ _ _ h hA)
 | true =>
  obtain ⟨htopo, h1⟩ := condL_some h
  obtain ⟨l, env', st', tr', md', g1, g2, g3⟩ := evDraw_run (s0 := FS.of env st) htopo ops.toList 0 env st [] none [] h1 rfl
   ⟨fun j x h => by simp at h, SameF.of env st, rfl, hA.pn, fun j x h => by simp at h, fun i j x y _ h => by simp at h, fun i j x y _ h => by simp at h, (fun m hm => by cases hm), (fun m hm => by cases hm)⟩
  have hsame : l.map (·.1) = ops.toList := by simpa using g1
  have hR : RunT pg D f nt ops l (FS.of env st) md'.at := ⟨hsame, g2.op, g2.ind, g2.rc⟩
  refine wp_region_any hmix ?_
  have hF := hA.toF (SameF.of env st)
  have hF' : FAt pg st.df c0 own0 nt c.drw own (FS.of env st) a :=
   ⟨hF.inv.drw, hF.domr, fun t => (hF.env t).mono (Ext.drw c), hF.size, hF.defs.mono (Ext.drw c), hF.after.trans (After.drw c own), hF.blk, hF.out⟩
  refine any_sound (df0 := st.df) (c0 := c0) (own0 := own0) (c := c.drw) (own := own) hD hR htopo (fun hmd c1 own1 a1 hF1 => ?_) (fun i0 hmd => ?_) ops.size _ a (by simp) (cnt_le _ _) (fun j hj => ?_) (fun j o hj hL => ?_) ?_
  ·cases md' with
   | some m => cases hmd
   | none => exact hk .normal env' st' c1 own1 a1 g3 (hF1.toA g2.same g2.df g2.pn)
  ·cases md' with
   | none => cases hmd
   | some m =>
    cases hmd
    obtain ⟨y, g4, g5⟩ := g3
    obtain ⟨x, g6, g7, g8, g9, g10, g11, g12⟩ := g2.pan m rfl
    refine ⟨x, m.2.1, g6, g7, fun L c1 own1 a1 c2 own2 z hF1 hal hpr hI2 hd2 ha2 hx2 hz => ?_⟩
    have hrow : x.2.ft.row = true := by rw [g7.ft.row]; exact g7.row
    have hagree : ∀ id, id ∈ keysOf st.bl -> (runL L 0 l (FS.of env st)).g id = (runL (fun j => Nat.blt j m.1 && alB (predsOf ops.toList) (Md.at (some m)) j) 0 l (FS.of env st)).g id := fun id hid => FS.g_eq (runL_agree rfl fun j y hy hne hw => by
     rw [Nat.zero_add] at hne
     have hnm : ∀ {y : Oper × Eff}, l[j]? = some y -> alB (predsOf ops.toList) (Md.at (some m)) j = true -> j ∉ (predsOf ops.toList).getD m.1 [] -> id ∈ y.2.ft.wr -> False := fun hy ha hn hw => meets_false (g2.far m rfl j _ hy ha hn) hw hid
     cases hL : L j with
     | true =>
      have ha := hal j hL
      rw [hL, ha, Bool.and_true] at hne
      have hnl : ¬ j < m.1 := fun h => hne (by symm; rw [Nat.blt_eq]; exact h)
      exact hnm hy ha (fun hp => hnl (preds_lt htopo (m.1 + 1) m.1 (by omega) _ hp)) hw
     | false =>
      rw [hL] at hne
      cases ha : alB (predsOf ops.toList) (Md.at (some m)) j with
      | false => rw [ha, Bool.and_false] at hne; exact absurd rfl hne
      | true => exact hnm hy ha (fun hp => by rw [hpr j hp] at hL; cases hL) hw)
    obtain ⟨bl, hbl⟩ : (app x (runL L 0 l (FS.of env st))).fin := FS.fin_app (FS.fin_run ⟨st.bl, fun id => rfl⟩)
    have hbf : getB bl = (app x (runL L 0 l (FS.of env st))).g := funext hbl
    have hlive : Live ⟨bl, m.2.2.used, m.2.2.dead, m.2.2.df, m.2.2.pn⟩ = (app x (runL L 0 l (FS.of env st))).live := by
     unfold Live FS.live
     rw [app_u, app_d, if_pos hrow, if_pos hrow, g9, g10]
    have hA2 : At pg p0 c0 own0 nt c2 own2 (undefE ops env') ⟨bl, m.2.2.used, m.2.2.dead, m.2.2.df, m.2.2.pn⟩ a1 := by
     refine ⟨⟨by show Inv pg c2 own2 (getB bl) _; rw [hbf, hlive]; exact hI2, fun t r hr => ?_⟩, fun t => ?_, hF1.size, ?_, g12, hF1.after.trans ha2, fun i r hr => hx2.blk _ _ (hF1.blk i r hr), fun id => by rw [ha2.far.1]; exact hF1.out id⟩
     ·have := hd2 t r hr
      rw [app_u, if_pos hrow] at this
      show m.2.2.used.contains t = true
      rw [g9]; exact this
     ·rcases undefE_get (ops := ops) (env := env') (t := t) with h | ⟨h, hnd⟩
      ·rw [h]; exact .undef _
      ·rw [h]
       have e1 : env'.get t = (runL L 0 l (FS.of env st)).e t := by
        rw [g2.same.e]
        refine FS.e_eq (runL_agree rfl fun j y hy _ hw => ?_)
        exact hnd y.1 (by rw [<- hsame]; exact List.mem_map_of_mem (List.mem_of_getElem? hy)) hw
       rw [e1]
       exact (hF1.env t).mono hx2
     ·show DefRep pg.P c2 m.2.2.df a1.defers
      rw [g11]; exact hF1.defs.mono hx2
    have hcan : canon pg f (keysOf st.bl) (undefE ops env', ⟨bl, m.2.2.used, m.2.2.dead, m.2.2.df, m.2.2.pn⟩) = some y := canon_congr (st := m.2.2) (fun id hid => by
     show getB m.2.2.bl id = getB bl id
     rw [g8, hbl, app_g, app_g, hagree id hid]) rfl rfl rfl g4
    obtain ⟨c3, own3, h3, h4, hA3⟩ := hA2.canon hcan hA.keys
    have := hk (.pan m.2.1) y.1 y.2 c3 own3 a1 g5 hA3 z (.pure (by rw [h3, h4]; exact hz))
    rw [h3] at this
    exact this
  ·have : (Array.replicate ops.size false).getD j false = false := by
    simp [Array.getD_eq_getD_getElem?, Array.getElem?_replicate]
    split <;> rfl
   rw [this] at hj; cases hj
  ·have : (Array.replicate ops.size false).getD j false = false := by
    simp [Array.getD_eq_getD_getElem?, Array.getElem?_replicate]
    split <;> rfl
   have hL' : (Array.replicate ops.size false).getD j false = true := hL
   rw [this] at hL'; cases hL'
  ·have : runL (fun j => (Array.replicate ops.size false).getD j false) 0 l (FS.of env st) = FS.of env st := funext fun loc => runL_same fun j x hj hp => by
    have h2 : (Array.replicate ops.size false).getD (0 + j) false = false := by
     simp [Array.getD_eq_getD_getElem?, Array.getElem?_replicate]
     split <;> rfl
    rw [h2] at hp; cases hp
   rw [this]; exact hF'
end
end Go.Proofs.Ab
namespace Go.Proofs.Ab
open Go
section
variable {p0 : Option (Option V)} {df0 : List (FuncId × List V)} {pg : Pg} {D : DSem} {f : FuncId} {c0 c : Cx} {own0 own : Own} {nt : Nat} {ops : Array Oper} {Q : Exit -> Act -> World -> Prop} {env : Env} {st : St} {r : Res} {k : K} {a : Act}
theorem lfp_some {X R : Type} {Φ : (X -> Option R) -> X -> Option R} {x : X} {r : R} (h : lfp Φ x = some r) : ∃ n, iter Φ n x = some r := by
 unfold lfp at h
 split at h
 ·rename_i hex
  cases h
  exact Classical.choose_spec hex
 ·cases h
theorem At.setC {o : Operand} {b : Bool} (hA : At pg p0 c0 own0 nt c own env st a) (h : evO pg env 0 o = .bool b) : At pg p0 c0 own0 nt c own (setC env o b) st a := by
 cases o with
 | tmp t => exact hA.known h
 | _ => exact hA
theorem ev_sound (hD : DSound pg D) (hmix : pg.P.follows .mixedOrders = true) : ∀ (code : Code) {k : K} {Q : Exit -> Act -> World -> Prop} {env : Env} {st : St} {c : Cx} {own : Own} {a : Act}, KOk pg p0 r c0 own0 nt k Q -> ev pg D f nt code env st k = some r ->
  At pg p0 c0 own0 nt c own env st a -> code.wp pg.P Q a c.w := by
 intro code
 induction code with
 | skip => intro k Q env st c own a hk h hA; exact wp_skip (hk .normal env st c own a h hA)
 | label l => intro k Q env st c own a hk h hA; exact wp_label (hk .normal env st c own a h hA)
 | region id ops draw =>
  intro k Q env st c own a hk h hA
  unfold ev at h
  rcases cond_some h with ⟨hj, h1⟩ | ⟨hj, h1⟩
  ·split at h1
   ·rename_i x hx
    obtain ⟨c1, own1, hw, _, hA1⟩ := hA.canon hx hA.keys
    rw [<- hw]
    rw [JR_eq] at h1
    exact evReg_sound hD hmix hk h1 hA1
   ·cases h1
  ·exact evReg_sound hD hmix hk h1 hA
 | seq x y ihx ihy =>
  intro k Q env st c own a hk h hA
  unfold ev at h
  refine wp_seq (ihx (k := kSeq (ev pg D f nt y) k) (fun ex env st c own a h hA => ?_) h hA)
  cases ex with
  | normal => exact ihy hk h hA
  | exit id => exact hk (.exit id) env st c own a h hA
  | ret => exact hk .ret env st c own a h hA
  | pan v => exact hk (.pan v) env st c own a h hA
 | cond o x y ihx ihy =>
  intro k Q env st c own a hk h hA
  unfold ev at h
  split at h
  ·rename_i b hb
   have hv := hA.env.eval hA.inv.inv 0 o
   rw [hb] at hv
   refine wp_cond hv.bool_inv ?_
   cases b with
   | true => exact ihx hk h (hA.setC hb)
   | false => exact ihy hk h (hA.setC hb)
  ·cases h
 | block id x ih =>
  intro k Q env st c own a hk h hA
  unfold ev at h
  refine wp_block (ih (k := kBlk id k) (fun ex env st c own a h hA => ?_) h hA)
  cases ex with
  | normal => exact hk .normal env st c own a h hA
  | exit id' =>
   show (if id' = id then Q .normal a c.w else Q (.exit id') a c.w)
   rcases cond_some (h : (bif Nat.beq id' id then k .normal env st else k (.exit id') env st) = some r) with ⟨hi, h1⟩ | ⟨hi, h1⟩
   ·rw [if_pos (by simpa using hi)]
    exact hk .normal env st c own a h1 hA
   ·rw [if_neg (by intro he; subst he; simp at hi)]
    exact hk (.exit id') env st c own a h1 hA
  | ret => exact hk .ret env st c own a h hA
  | pan v => exact hk (.pan v) env st c own a h hA
 | loop x ih =>
  intro k Q env st c own a hk h hA
  unfold ev at h
  split at h
  ·rename_i y hy
   have hn := hA.keys
   obtain ⟨c1, own1, hw, _, hA1⟩ := hA.canon hy hn
   obtain ⟨n, hit⟩ : ∃ n, iter (fun rec x_1 => ev pg D f nt x x_1.1 x_1.2 (kLoop (canon pg f (keysOf st.bl)) rec k)) n y = some r := by
    rcases cond_some h with ⟨_, h⟩ | ⟨_, h⟩
    ·exact lfp_some h
    ·exact ⟨_, h⟩
   have key : ∀ (n : Nat) (y : Env × St) (c1 : Cx) (own1 : Own) (a : Act), At pg p0 c0 own0 nt c1 own1 y.1 y.2 a ->
     iter (fun rec x_1 => ev pg D f nt x x_1.1 x_1.2 (kLoop (canon pg f (keysOf st.bl)) rec k)) n y = some r -> Code.rounds pg.P x Q n a c1.w := by
    intro n
    induction n with
    | zero => intro y c1 own1 a hA1 hit; cases hit
    | succ n ihn =>
     intro y c1 own1 a hA1 hit
     rw [rounds_succ]
     refine ih (k := kLoop (canon pg f (keysOf st.bl)) (iter (fun rec x_1 => ev pg D f nt x x_1.1 x_1.2 (kLoop (canon pg f (keysOf st.bl)) rec k)) n) k) (fun ex env1 st1 c2 own2 a2 h2 hA2 => ?_) hit hA1
     cases ex with
     | normal =>
      dsimp only [kLoop] at h2
      split at h2
      ·rename_i z hz
       obtain ⟨c3, own3, hw3, _, hA3⟩ := hA2.canon hz hn
       show Code.rounds pg.P x Q n a2 c2.w
       rw [<- hw3]
       exact ihn z c3 own3 a2 hA3 h2
      ·cases h2
     | exit id => exact hk (.exit id) env1 st1 c2 own2 a2 h2 hA2
     | ret => exact hk .ret env1 st1 c2 own2 a2 h2 hA2
     | pan v => exact hk (.pan v) env1 st1 c2 own2 a2 h2 hA2
   rw [<- hw]
   exact wp_loop_rounds n (key n y c1 own1 a hA1 hit)
  ·cases h
 | rangeFunc f p x y ihx ihy => intro k Q env st c own a hk h hA; unfold ev at h; cases h
 | exit id => intro k Q env st c own a hk h hA; exact wp_exit (hk (.exit id) env st c own a h hA)
 | scope x ih =>
  intro k Q env st c own a hk h hA
  unfold ev at h
  refine wp_scope_straight (ih (k := k) (fun ex env st c own a h hA => ?_) h hA)
  cases ex with
  | normal => exact hk .normal env st c own a h hA
  | exit id => exact hk (.exit id) env st c own a h hA
  | ret => exact hk .ret env st c own a h hA
  | pan v => exact hk (.pan v) env st c own a h hA
 | goto l => intro k Q env st c own a hk h hA; unfold ev at h; cases h
 | ret => intro k Q env st c own a hk h hA; exact wp_ret (hk .ret env st c own a h hA)
 | refuse s => intro k Q env st c own a hk h hA; unfold ev at h; cases h
end
end Go.Proofs.Ab
namespace Go.Proofs.Ab
open Go
section
variable {p0 : Option (Option V)} {df0 : List (FuncId × List V)} {pg : Pg} {D : DSem} {f : FuncId} {c0 c : Cx} {own0 own : Own} {nt : Nat} {Q : Exit -> Act -> World -> Prop} {env : Env} {st : St} {r : Res} {k : K} {a : Act} {fn : Func} {live : Nat -> Prop}
theorem canCells_border {n0 dead ownl : List Nat} : ∀ {cs cs' : List V} {j0 : Nat} {gv gv' : Gv}, canCells pg true n0 dead ownl j0 cs gv = some (cs', gv') -> ∀ n, border (cs'.getD n .undef) = cs'.getD n .undef
 | [], cs', j0, gv, gv', h, n => by cases h; simp [border]
 | v :: cs, cs', j0, gv, gv', h, n => by
  unfold canCells at h
  rcases cond_some h with ⟨ho, h1⟩ | ⟨ho, h1⟩
  ·split at h1
   ·rename_i v' g1 hgo
    split at h1
    ·rename_i cs1 g2 hrest
     cases h1
     cases n with
     | zero =>
      unfold giveOwn at hgo
      split at hgo
      ·rcases cond_some hgo with ⟨_, h2⟩ | ⟨_, h2⟩ <;> (cases h2; rfl)
      ·obtain ⟨_, h2⟩ := condR_some hgo; cases h2; rfl
      ·obtain ⟨_, h2⟩ := condR_some hgo; cases h2; rfl
      ·cases hgo
     | succ n => simpa using canCells_border hrest n
    ·cases h1
   ·cases h1
  ·split at h1
   ·rename_i cs1 g2 hrest
    cases h1
    cases n with
    | zero => exact border_idem _
    | succ n => simpa using canCells_border hrest n
   ·cases h1
theorem canBlks_border {n0 dead : List Nat} : ∀ {ks ks' : List Blk} {gv gv' : Gv}, canBlks pg true n0 dead ks gv = some (ks', gv') ->
  ∀ (i : Nat) (t : TypeId) (cs : List V) (fz : Bool) (j : Nat), ks'[i]? = some (.cells t cs fz) -> border (cs.getD j .undef) = cs.getD j .undef
 | [], ks', gv, gv', h, i, t, cs, fz, j, hi => by cases h; simp at hi
 | k0 :: ks, ks', gv, gv', h, i, t, cs, fz, j, hi => by
  unfold canBlks at h
  split at h
  ·rename_i k1 g1 hk
   split at h
   ·rename_i ks1 g2 hrest
    cases h
    cases i with
    | zero =>
     simp at hi
     subst hi
     unfold canBlk at hk
     split at hk
     ·split at hk
      ·rename_i cs' g' hc
       cases hk
       exact canCells_border hc j
      ·cases hk
     ·cases hk
     ·cases hk
    | succ i => exact canBlks_border hrest i t cs fz j (by simpa using hi)
   ·cases h
  ·cases h
theorem giveOwn_border {dead : List Nat} {gv gv' : Gv} {v v' : V} (h : giveOwn pg dead gv v = some (v', gv')) : border v' = v' ∧ cellsOf v' = [v'] := by
 unfold giveOwn at h
 split at h
 ·rcases cond_some h with ⟨_, h1⟩ | ⟨_, h1⟩ <;> (cases h1; exact ⟨rfl, rfl⟩)
 ·obtain ⟨_, h1⟩ := condR_some h
  cases h1; exact ⟨rfl, rfl⟩
 ·obtain ⟨_, h1⟩ := condR_some h
  cases h1; exact ⟨rfl, rfl⟩
 ·cases h
theorem ownVal_border {dead l : List Nat} {gv gv' : Gv} {v v' : V} (h : ownVal pg dead l gv v = some (v', gv')) : ∀ j, border ((cellsOf v').getD j .undef) = (cellsOf v').getD j .undef := by
 intro j
 unfold ownVal at h
 split at h
 ·split at h
  ·rename_i cs' g' hc
   cases h
   exact canCells_border hc j
  ·cases h
 ·obtain ⟨h1, h2⟩ := giveOwn_border h
  rw [h2]
  cases j with
  | zero => exact h1
  | succ j => rfl
theorem leave_sound {o : Option (List Nat)} {m : Nat} {mk : V -> Out} {v : V} {x : Value} (hA : At pg p0 c0 own0 nt c own env st a) (hm : ∀ i r, i < m -> c0.blk i = some r -> True) (h : leave pg o m st mk v = some r) (hv : VRep pg.P c v x) :
  ∃ c1 own1 v', r.pn = st.pn ∧ c1.w = c.w ∧ r.out = mk v' ∧ RetRep pg o c1 v' x ∧ After c0 own0 c1 own1 ∧ (∀ i r, i < m -> c0.blk i = some r -> c1.blk i = some r) ∧ Inv pg c1 own1 (fun i => r.bl[i]?) (fun p => ∃ r, c1.row p = some r) ∧
   ∀ (i : Nat) (t : TypeId) (cs : List V) (fz : Bool) (j : Nat), r.bl[i]? = some (.cells t cs fz) -> border (cs.getD j .undef) = cs.getD j .undef := by
 unfold leave at h
 split at h
 ·rename_i v' bl hp
  split at h
  ·rename_i bs hb
   split at h
   ·rename_i bl' gv hc
    obtain ⟨c1, own1, hw1, hI1, ha1, hx1, hb1, hr1, hvl, hvr, hkeep⟩ := purAll_sound hA.inv.inv hp
    have hpr := hvr 0 x (by simp) (by simpa using hv)
    obtain ⟨hbl, hbg⟩ := takeB_some hb
    have hbl' : bs.length = m := by simpa using hbl
    split at h
    ·cases h
     obtain ⟨tags, recs, hG, hl2, hm2, hI2⟩ := canBlks_inv hI1 (fun t r h1 h2 => ⟨hA.inv.domr t r (by rw [<- hr1]; exact h1), h2⟩) (by omega) (fun i kk hi => by
      have hlt := (List.getElem?_eq_some_iff.1 hi).1
      obtain ⟨k2, h3, h4⟩ := hbg i i (List.getElem?_range (by omega))
      rw [hi] at h4
      cases h4
      exact h3) (fun i r hi _ => by omega) hc
     refine ⟨c1.cut (List.range m) (fun p => recs[p]?), own1.retag (List.range m) tags, v', rfl, hw1, rfl, (show PRep pg.P c1.w c1.prot v' x from hpr), ?_, fun i r hi hr => ?_, ?_, canBlks_border hc⟩
     ·have hfar : Far c1 (c1.cut (List.range m) (fun p => recs[p]?)) := ⟨rfl, fun id r ho _ => by
       exfalso
       have : c1.out id := ho
       rw [ha1.far.1] at this
       exact hA.out id this⟩
      exact hA.after.trans (ha1.trans ⟨Frame.refl _ _, fun b x _ hn => Own.retag_none hn, fun b x hp => ⟨hp, rfl⟩, fun b x hp => .inl hp, hfar⟩)
     ·show (if (List.range m).contains i then c1.blk i else none) = some r
      rw [if_pos (by simpa using hi), hb1]
      exact hA.blk i r hr
     ·refine hI2.less fun p hp => ?_
      obtain ⟨q, hq⟩ := hp
      rw [<- hG.rl]
      exact (List.getElem?_eq_some_iff.1 (show recs[p]? = some q from hq)).1
    ·rename_i l
     split at h
     ·rename_i v2 gv2 ho
      cases h
      have hv1 : VRep pg.P c1 v x := hv.mono hx1
      obtain ⟨tags, recs, hG, hQ, hl2, hm2, hI2⟩ := canBlks_more (gv2 := gv2) (Q := fun recs => ∀ rows, Told recs rows -> VRep pg.P (c1.cut [] rows) v2 x) hI1 (fun t r h1 h2 => ⟨hA.inv.domr t r (by rw [<- hr1]; exact h1), h2⟩) (by omega) (fun i kk hi => by
       have hlt := (List.getElem?_eq_some_iff.1 hi).1
       obtain ⟨k2, h3, h4⟩ := hbg i i (List.getElem?_range (by omega))
       rw [hi] at h4
       cases h4
       exact h3) (fun i r hi _ => by omega) hc (fun tags recs hG0 => ownVal_sound (fun t r h1 h2 => ⟨hA.inv.domr t r (by rw [<- hr1]; exact h1), h2⟩) ho hG0 hv1)
      have hE : Ext (c1.cut [] (fun p => recs[p]?)) (c1.cut (List.range m) (fun p => recs[p]?)) := ⟨fun b x h => ⟨h, rfl⟩, fun id r h => by
       have h' : (if List.contains [] id then c1.blk id else none) = some r := h
       simp at h', fun t r h => h⟩
      refine ⟨c1.cut (List.range m) (fun p => recs[p]?), own1.retag (List.range m) tags, v2, rfl, hw1, rfl, (show VRep pg.P (c1.cut (List.range m) (fun p => recs[p]?)) v2 x ∧ _ from ⟨(hQ (fun p => recs[p]?) fun p q h => h).mono hE, ownVal_border ho⟩), ?_, fun i r hi hr => ?_, ?_, canBlks_border hc⟩
      ·have hfar : Far c1 (c1.cut (List.range m) (fun p => recs[p]?)) := ⟨rfl, fun id r ho _ => by
        exfalso
        have : c1.out id := ho
        rw [ha1.far.1] at this
        exact hA.out id this⟩
       exact hA.after.trans (ha1.trans ⟨Frame.refl _ _, fun b x _ hn => Own.retag_none hn, fun b x hp => ⟨hp, rfl⟩, fun b x hp => .inl hp, hfar⟩)
      ·show (if (List.range m).contains i then c1.blk i else none) = some r
       rw [if_pos (by simpa using hi), hb1]
       exact hA.blk i r hr
      ·refine hI2.less fun p hp => ?_
       obtain ⟨q, hq⟩ := hp
       rw [<- hG.rl]
       exact (List.getElem?_eq_some_iff.1 (show recs[p]? = some q from hq)).1
     ·cases h
   ·cases h
  ·cases h
 ·cases h
theorem resVals_sound (hA : At pg p0 c0 own0 nt c own env st a) : ∀ {l : List ResultVar} {kk : List V -> Option Res}, resVals pg env st l kk = some r ->
  ∃ vs xs, kk vs = some r ∧ vs.length = l.length ∧ (l.mapM fun | .tmp t => pure (a.tmps.getD t Go.undef) | .cell b t => do loadVar t (<- asAddr (a.tmps.getD b Go.undef)) : Sem (List Value)).run pg.P c.w = .ok xs c.w ∧ xs.length = l.length ∧
   ∀ j, j < l.length -> VRep pg.P c (vs.getD j .undef) (xs.getD j Go.undef)
 | [], kk, h => ⟨[], [], h, rfl, by simp, rfl, fun j hj => absurd hj (Nat.not_lt_zero _)⟩
 | .tmp t :: l, kk, h => by
  unfold resVals at h
  obtain ⟨vs, xs, h1, h2, h3, h4, h5⟩ := resVals_sound hA h
  refine ⟨_ :: vs, a.tmps.getD t Go.undef :: xs, h1, by simp [h2], ?_, by simp [h4], fun j hj => ?_⟩
  ·rw [List.mapM_cons]
   simp only [Sem.run_bind, Sem.run_pure, Result.andThen_ok, h3]
  ·cases j with
   | zero => exact hA.env t
   | succ j => simpa using h5 j (by simpa using hj)
 | .cell b t :: l, kk, h => by
  unfold resVals at h
  obtain ⟨v, x, h1, h2, h3⟩ := loadS_sound hA.inv.inv h (hA.env b)
  obtain ⟨vs, xs, h4, h5, h6, h7, h8⟩ := resVals_sound hA h1
  have hload : (do loadVar t (<- asAddr (a.tmps.getD b Go.undef)) : Sem Value).run pg.P c.w = .ok x c.w := by
   have h9 := h2
   unfold Instr.loadAt at h9
   cases hq : a.tmps.getD b Go.undef with
   | pointer p =>
    rw [hq] at h9
    cases p with
    | some ad => exact h9
    | none => exfalso; simp [Instr.sureAddr, stuck] at h9
   | _ => rw [hq] at h9; exfalso; simp [Instr.sureAddr, stuck] at h9
  refine ⟨_ :: vs, x :: xs, h4, by simp [h5], ?_, by simp [h7], fun j hj => ?_⟩
  ·rw [List.mapM_cons]
   simp only [Sem.run_bind] at hload
   simp only [Sem.run_bind, Sem.run_pure, hload, Result.andThen_ok, h6]
  ·cases j with
   | zero => exact h3
   | succ j => simpa using h8 j (by simpa using hj)
theorem fin_ret {o : Option (List Nat)} {m : Nat} (hA : At pg p0 c0 own0 nt c own env st a) (h : kFin.fin pg o fn m env none st = some r) : ∃ v, (results fn a.tmps).run pg.P c.w = .ok v c.w ∧ Ends pg o c0 own0 m r (.returned v) c.w ∧ r.pn = p0 := by
 obtain ⟨vs, xs, h1, h2, h3, h4, h5⟩ := resVals_sound hA (l := fn.results.toList) h
 have hrun : (results fn a.tmps).run pg.P c.w = .ok (if hh : xs.toArray.size = 1 then xs.toArray[0] else .tuple xs.toArray) c.w := by
  unfold results
  rw [Array.mapM_eq_mapM_toList]
  simp only [Sem.run_bind, Sem.run_map]
  erw [h3]
  rfl
 refine ⟨_, hrun, ?_⟩
 have hv : VRep pg.P c (match vs with | [v] => v | vs => .tup vs) (if hh : xs.toArray.size = 1 then xs.toArray[0] else .tuple xs.toArray) := by
  by_cases hone : xs.length = 1
  ·obtain ⟨x, rfl⟩ := List.length_eq_one_iff.1 hone
   obtain ⟨v, rfl⟩ := List.length_eq_one_iff.1 (h2.trans (h4.symm.trans hone))
   have := h5 0 (by omega)
   simpa using this
  ·have hne : ∀ v, vs ≠ [v] := fun v hv => hone (by rw [h4, <- h2, hv]; rfl)
   have hsz : ¬ xs.toArray.size = 1 := by simpa using hone
   rw [dif_neg hsz]
   have hm : (match vs with | [v] => v | vs => .tup vs) = V.tup vs := by
    split
    ·rename_i v; exact absurd rfl (hne v)
    ·rfl
   rw [hm]
   exact .tup (by simp; omega) fun j hj => by simpa [List.getD, Array.getD_eq_getD_getElem?] using h5 j (by omega)
 obtain ⟨c1, own1, v', g0, g1, g2, g3, g4, g5, g6, g7⟩ := leave_sound hA (fun _ _ _ _ => trivial) h1 hv
 refine ⟨⟨c1, own1, g1, g4, g5, g6, g7, ?_⟩, g0.trans hA.pn⟩
 rw [g2]
 exact g3
theorem fin_pan {o : Option (List Nat)} {m : Nat} {v : V} {x : Value} (hA : At pg p0 c0 own0 nt c own env st a) (h : kFin.fin pg o fn m env (some v) st = some r) (hx : VRep pg.P c v x) : Ends pg o c0 own0 m r (.panicked [{ v := x, recovered := false }]) c.w ∧ r.pn = p0 := by
 have h'' : leave pg none m st .pan v = some r := h
 obtain ⟨c1, own1, v', g0, g1, g2, g3, g4, g5, g6, g7⟩ := leave_sound hA (fun _ _ _ _ => trivial) h'' hx
 refine ⟨⟨c1, own1, g1, g4, g5, g6, g7, ?_⟩, g0.trans hA.pn⟩
 rw [g2]
 exact ⟨x, rfl, g3⟩
def EndsP (pg : Pg) (o : Option (List Nat)) (p0 : Option (Option V)) (c : Cx) (own : Own) (n : Nat) (res : Res) (e : Ending) (w' : World) : Prop := Ends pg o c own n res e w' ∧ res.pn = p0
theorem runDef_sound (hD : DSoundD pg D) {o : Option (List Nat)} {m : Nat} : ∀ (l : List (FuncId × List V)) (ds : List Deferred) (cur : Option V) (u : FrameMode) (st : St) (c : Cx) (own : Own), DefRep pg.P c l ds -> ModeOk pg c cur u ->
  (∀ a', a'.tmps = a.tmps -> a'.defers = [] -> At pg p0 c0 own0 nt c own env st a') -> st.df = [] -> runDef pg D cur l st (kFin.fin pg o fn m env) = some r -> Leaves pg.P fn a.tmps (EndsP pg o p0 c0 own0 m r) ds u c.w
 | [], ds, cur, u, st, c, own, hd, hu, hA, hdf, h => by
  cases hd
  have hA' := hA { a with defers := [] } rfl rfl
  cases cur with
  | none =>
   cases hu
   obtain ⟨v, h1, h2⟩ := fin_ret hA' h
   exact ⟨v, h1, h2⟩
  | some v =>
   obtain ⟨x, rfl, hx⟩ := hu
   exact fin_pan hA' h (.pure hx)
 | (f, cap) :: l, ds, cur, u, st, c, own, hd, hu, hA, hdf, h => by
  cases hd with
  | @cons _ _ xs _ ds hl hcap hr =>
   have hA0 := hA { a with defers := [] } rfl rfl
   have h' : callK pg D f cap 100000 st (some cur) (fun _ st' res => res.onPn (runDef pg D none l st' (kFin.fin pg o fn m env)) (fun _ => runDef pg D cur l st' (kFin.fin pg o fn m env))) (fun _ _ => none) = some r := h
   obtain ⟨hbod, hcall⟩ := callD_sound hD hA0.inv hu h' hl hcap
   have hnr : u ≠ .run := by
    cases cur with
    | none => cases hu; nofun
    | some v => obtain ⟨x, rfl, _⟩ := hu; nofun
   refine leaves_cons (args := xs) hnr ?_ (hcall.mono fun e u' w' hE => ?_)
   ·show (callFunc f (#[] ++ xs)).run pg.P c.w = _
    rw [callFunc_enter hbod]
    simp
   ·obtain ⟨res, ⟨c', own', st', rfl, hS, ha, hx, e1, e2, hout⟩, hmode⟩ := hE
    have next : ∀ a', a'.tmps = a.tmps -> a'.defers = [] -> At pg p0 c0 own0 nt c' own' env st' a' := fun a' h1 h2 => by
     have := (hA a' h1 h2).stay hS ha hx e1 e2
     exact this
    cases e with
    | panicked ch => obtain ⟨v, x, h1, _⟩ := hout; cases h1
    | outgrown => exact hout.elim
    | returned x =>
     obtain ⟨v, hk0, _⟩ := hout
     have hk : res.onPn (runDef pg D none l st' (kFin.fin pg o fn m env)) (fun _ => runDef pg D cur l st' (kFin.fin pg o fn m env)) = some r := hk0
     show Leaves pg.P fn a.tmps _ ds (settle u') c'.w
     rcases hmode with ⟨h1, rfl⟩ | ⟨h1, h2⟩
     ·unfold Res.onPn at hk
      rw [h1] at hk
      cases cur with
      | none =>
       cases hu
       exact runDef_sound hD l ds none .returning st' c' own' (hr.mono hx) rfl next (e1.trans hdf) hk
      | some v =>
       obtain ⟨y, rfl, hy⟩ := hu
       exact runDef_sound hD l ds (some v) _ st' c' own' (hr.mono hx) ⟨y, rfl, hy.mono hx.prot⟩ next (e1.trans hdf) hk
     ·unfold Res.onPn at hk
      rw [h1] at hk
      rw [h2]
      exact runDef_sound hD l ds none .returning st' c' own' (hr.mono hx) rfl next (e1.trans hdf) hk
theorem kFin_sound (hD : DSoundD pg D) {o : Option (List Nat)} {m : Nat} : KOk pg p0 r c0 own0 nt (kFin pg D o fn m) (bodyPostD pg.P fn (EndsP pg o p0 c0 own0 m r)) := by
 intro ex env st c own a h hA
 have bare : ∀ a', a'.tmps = a.tmps -> a'.defers = [] -> At pg p0 c0 own0 nt c own env { st with df := [] } a' := fun a' h1 h2 =>
  ⟨⟨hA.inv.inv, hA.inv.domr⟩, fun t => by rw [h1]; exact hA.env t, by rw [h1]; exact hA.size, by rw [h2]; exact .nil, hA.pn, hA.after, hA.blk, hA.out⟩
 cases ex with
 | normal =>
  have h' : runDef pg D none st.df { st with df := [] } (kFin.fin pg o fn m env) = some r := h
  exact runDef_sound hD st.df a.defers none .returning _ c own hA.defs rfl bare rfl h'
 | ret =>
  have h' : runDef pg D none st.df { st with df := [] } (kFin.fin pg o fn m env) = some r := h
  exact runDef_sound hD st.df a.defers none .returning _ c own hA.defs rfl bare rfl h'
 | exit id => cases h
 | pan v =>
  intro x hx
  show Leaves pg.P fn a.tmps _ a.defers _ c.w
  unfold kFin at h
  dsimp only at h
  split at h
  ·rename_i hdf
   have hd := hA.defs
   rw [hdf] at hd
   cases hq : a.defers with
   | nil => exact fin_pan hA h hx
   | cons d ds => rw [hq] at hd; cases hd
  ·rename_i d l hdf
   split at h
   ·rename_i v' bl hp
    obtain ⟨c1, own1, hw1, hI1, ha1, hx1, hb1, hr1, hvl, hvr, hkeep⟩ := purAll_sound hA.inv.inv hp
    have hpr := hvr 0 x (by simp) (by simpa using hx)
    have hpr' : PRep pg.P c1.w c1.prot v' x := hpr
    rw [<- hw1]
    rw [<- hdf] at h
    refine runDef_sound (nt := nt) hD st.df a.defers (some v') _ { st with df := [], bl := bl } c1 own1 (hA.defs.mono hx1) ⟨x, rfl, hpr'⟩ (fun a' h1 h2 => ?_) rfl h
    have hS1 : SInv pg c1 own1 { st with df := [], bl := bl } := ⟨hI1, fun t r h3 => hA.inv.domr t r (by rw [<- hr1]; exact h3)⟩
    exact ⟨hS1, fun t => by rw [h1]; exact (hA.env t).mono hx1, by rw [h1]; exact hA.size, by rw [h2]; exact .nil, hA.pn, hA.after.trans ha1, fun i r hr => by rw [hb1]; exact hA.blk i r hr, fun id => by rw [ha1.far.1]; exact hA.out id⟩
   ·cases h
end
end Go.Proofs.Ab
namespace Go.Proofs.Ab
open Go
section
variable {pg : Pg} {D : DSem}
def NatOk (pg : Pg) (f : FuncId) (g : List V -> List Blk -> Option Res) : Prop :=
 ∀ vs bl res, g vs bl = some res -> Bodied pg.P f ∧ ∀ (c : Cx) (own : Own) (xs : Array Value),
  Inv pg c own (fun i => bl[i]?) (fun p => p < rowsOf pg bl + ownN (pg.oa f)) -> (∀ p r, c.row p = some r -> p < rowsOf pg bl + ownN (pg.oa f)) -> (∀ id, ¬ c.out id) -> vs.length = xs.size -> (∀ j, j < vs.length -> VRep pg.P c (vs.getD j .undef) (xs.getD j Go.undef)) ->
  Calls pg.P f xs c.w (Ends pg (pg.oo f) c own bl.length res)
structure PgOk (pg : Pg) : Prop where
 mix : pg.P.follows .mixedOrders = true
 nat : ∀ f g, pg.nat f = some g -> NatOk pg f g
theorem getB_range (bl : List Blk) (i : Nat) : getB ((List.range bl.length).zip bl) i = bl[i]? := by
 cases h : getB ((List.range bl.length).zip bl) i with
 | some b =>
  obtain ⟨j, h1, h2⟩ := getB_zip h
  have hj : j < bl.length := (List.getElem?_eq_some_iff.1 h2).1
  rw [List.getElem?_range hj] at h1
  cases h1
  exact h2.symm
 | none =>
  cases h2 : bl[i]? with
  | none => rfl
  | some b =>
   have hi : i < bl.length := (List.getElem?_eq_some_iff.1 h2).1
   obtain ⟨k, hk⟩ := getB_zip_of (ids := List.range bl.length) (bs := bl) (id := i) (by simp) (by simpa using hi)
   rw [h] at hk; cases hk
theorem args0_get : ∀ (vs : List V) (n t : Nat), (args0 n vs).get t = if n <= t ∧ t < n + vs.length then vs.getD (t - n) .undef else .undef
 | [], n, t => by
  have : ¬ (n <= t ∧ t < n + ([] : List V).length) := by rw [List.length_nil]; omega
  rw [if_neg this]; rfl
 | v :: vs, n, t => by
  show (bif Nat.beq n t then v else (args0 (n + 1) vs).get t) = _
  by_cases h : n = t
  ·subst h
   rw [Nat.beq_refl, cond_true, if_pos (by simp)]
   simp
  ·rw [nbeq h, cond_false, args0_get vs (n + 1) t]
   by_cases h1 : n + 1 <= t ∧ t < n + 1 + vs.length
   ·rw [if_pos h1, if_pos (by simp; omega)]
    have : t - n = (t - (n + 1)) + 1 := by omega
    rw [this]; simp
   ·rw [if_neg h1, if_neg (by simp; omega)]
theorem args0_env {c : Cx} {vs : List V} {xs : Array Value} {n : Nat} (hl : vs.length = xs.size) (hlen : vs.length <= n) (hx : ∀ j, j < vs.length -> VRep pg.P c (vs.getD j .undef) (xs.getD j Go.undef)) :
  EnvRep pg.P c (args0 0 vs) { tmps := xs ++ Array.replicate (n - xs.size) Go.undef, defers := [] } := fun t => by
 rw [args0_get]
 by_cases ht : 0 <= t ∧ t < 0 + vs.length
 ·rw [if_pos ht]
  have htl : t < vs.length := by omega
  have h2 : (xs ++ Array.replicate (n - xs.size) Go.undef).getD t Go.undef = xs.getD t Go.undef := by
   have h3 : t < xs.size := by omega
   have h4 : t < xs.size + (n - xs.size) := by omega
   simp [Array.getD, h3, h4, Array.getElem_append]
  show VRep pg.P c _ ((xs ++ Array.replicate (n - xs.size) Go.undef).getD t Go.undef)
  rw [h2]
  exact hx t htl
 ·rw [if_neg ht]; exact .undef _
theorem At.enter {f : FuncId} {c : Cx} {own : Own} {vs : List V} {bl : List Blk} {xs : Array Value} {n : Nat} (p0 : Option (Option V)) (hI : Inv pg c own (fun i => bl[i]?) (fun p => p < rowsOf pg bl + ownN (pg.oa f))) (hdom : ∀ p r, c.row p = some r -> p < rowsOf pg bl + ownN (pg.oa f)) (hout : ∀ id, ¬ c.out id)
  (hl : vs.length = xs.size) (hlen : vs.length <= n) (hx : ∀ j, j < vs.length -> VRep pg.P c (vs.getD j .undef) (xs.getD j Go.undef)) :
  At pg p0 c own n c own (args0 0 vs) { bl := (List.range bl.length).zip bl, used := List.range (rowsOf pg bl + ownN (pg.oa f)), dead := [], df := [], pn := p0 } { tmps := xs ++ Array.replicate (n - xs.size) Go.undef, defers := [] } := by
 have hg : getB ((List.range bl.length).zip bl) = fun i => bl[i]? := funext (getB_range bl)
 refine ⟨⟨?_, fun t r hr => by simpa using hdom t r hr⟩, args0_env hl hlen hx, by simp; omega, .nil, rfl, After.refl _ _, fun _ _ h => h, hout⟩
 rw [hg]
 exact hI.less fun p hp => by simpa using hp.1
theorem nblt {a b : Nat} (h : Nat.blt a b = false) : b <= a := by
 rcases Nat.lt_or_ge a b with hlt | hge
 ·have h9 : Nat.blt a b = true := by rw [Nat.blt_eq]; exact hlt
  rw [h9] at h; cases h
 ·exact hge
theorem evF_sound (hD : DSound pg D) (hDD : DSoundD pg D) (hP : PgOk pg) : DSound pg fun f vs bl pn => evF pg D f vs bl pn := by
 intro f vs bl res h
 dsimp only at h
 unfold evF at h
 cases hg : pg.nat f with
 | some g =>
  rw [hg] at h
  exact hP.nat f g hg vs bl res h
 | none =>
 rw [hg] at h
 dsimp only at h
 split at h
 ·rename_i fn hfn
  obtain ⟨hc, h1⟩ := condR_some h
  simp only [Bool.or_eq_false_iff] at hc
  obtain ⟨⟨hb, hname⟩, hlen⟩ := hc
  refine ⟨⟨fn, hfn, hb, hname⟩, fun c own xs hI hdom hout hl hx => ?_⟩
  cases hbody : fn.body with
  | none => rw [hbody] at hb; cases hb
  | some code =>
   have hbo : bodyOf fn = code := by unfold bodyOf; rw [hbody]
   rw [hbo] at h1
   have hw := calls_of_wp_defers hfn hbody (args := xs) (R := EndsP pg (pg.oo f) none c own bl.length res) (ev_sound hD hP.mix code (kFin_sound hDD) h1 (At.enter none hI hdom hout hl (nblt hlen) hx))
   exact hw.mono fun e w' hE => hE.1
 ·cases h
theorem upon_S {P : Program} {ops : Array Oper} {rest : List Nat} {a : Act} {cs : List Go.Frame} {w : World} {o : Oper} {Q : Exit -> Act -> List Go.Frame -> World -> Prop} (h : o.wp P a w (fun a' w' => wpOpsS P ops Q rest a' cs w') (fun e a' w' => Q e a' cs w')) :
  match (execOp a.eval o).run P w with
  | .ok .recover w' =>
   (match recoverD cs with
   | some (v, cs') => wpOpsS P ops Q rest (a.put o.dst v) cs' w'
   | none => wpOpsS P ops Q rest (a.put o.dst .nilIface) cs w')
  | r => o.upon P a (fun a' w' => wpOpsS P ops Q rest a' cs w') (fun e a' w' => Q e a' cs w') r := by
 unfold Oper.wp at h
 generalize (execOp a.eval o).run P w = r at h ⊢
 split
 ·exact (h : False).elim
 ·exact h
section
variable {p0 : Option (Option V)} {c0 : Cx} {own0 : Own} {nt : Nat} {f : FuncId} {k : K} {r : Res} {cs : List Go.Frame} {QS : Exit -> Act -> List Go.Frame -> World -> Prop} {ops : Array Oper}
theorem evOpsS_sound (hD : DSound pg D) (hk : KOk pg p0 r c0 own0 nt k (fun e a w => QS e a cs w)) : ∀ (rest : List Oper) (i : Nat) (env : Env) (st : St) (c : Cx) (own : Own) (a : Act), (∀ j, rest[j]? = ops[i + j]?) -> evOps pg D f nt ops.toList rest env st k = some r ->
  At pg p0 c0 own0 nt c own env st a -> wpOpsS pg.P ops QS (List.range' i rest.length) a cs c.w
 | [], i, env, st, c, own, a, hi, h, hA => hk .normal env st c own a h hA
 | o :: rest, i, env, st, c, own, a, hi, h, hA => by
  have h0 : ops[i]? = some o := by simpa using (hi 0).symm
  have hi' : ∀ j, rest[j]? = ops[i + 1 + j]? := fun j => by have := hi (j + 1); simpa [Nat.add_assoc, Nat.add_comm 1 j] using this
  show wpOpsS pg.P ops QS (i :: List.range' (i + 1) rest.length) a cs c.w
  unfold wpOpsS
  rw [h0]
  dsimp only
  have go : ∀ {env : Env}, opS pg D f env o st (fun v st' => match putE nt env o.dst v with | some env' => evOps pg D f nt ops.toList rest env' st' k | none => none) (fun v st' => k (.pan v) env st') = some r ->
    At pg p0 c0 own0 nt c own env st a -> (match (execOp a.eval o).run pg.P c.w with
     | .ok .recover w' =>
      (match recoverD cs with
      | some (v, cs') => wpOpsS pg.P ops QS (List.range' (i + 1) rest.length) (a.put o.dst v) cs' w'
      | none => wpOpsS pg.P ops QS (List.range' (i + 1) rest.length) (a.put o.dst .nilIface) cs w')
     | r => o.upon pg.P a (fun a' w' => wpOpsS pg.P ops QS (List.range' (i + 1) rest.length) a' cs w') (fun e a' w' => QS e a' cs w') r) := by
   intro env h hA
   refine upon_S ?_
   by_cases hdf : ∃ c, o.op = .defer c
   ·obtain ⟨cl, ho⟩ := hdf
    obtain ⟨fv, f2, cap, xs, h1, hrun, h3, h4⟩ := opS_defer hA ho h
    unfold Oper.wp
    rw [hrun]
    split at h1
    ·rename_i env' hp
     refine evOpsS_sound hD hk rest (i + 1) env' _ c own _ hi' h1 ?_
     exact ⟨⟨hA.inv.inv, hA.inv.domr⟩, EnvRep.put (a := { a with defers := { target := .fn (.func f2) xs, args := #[] } :: a.defers }) hA.env hA.size hp (.undef _), (put_size _ o.dst _).trans hA.size, (by rw [put_defers]; exact .cons h3 h4 hA.defs), hA.pn, hA.after, hA.blk, hA.out⟩
    ·cases h1
   refine opS_sound hD (fun c hc => hdf ⟨c, hc⟩) hA.inv (fun _ d _ => hA.out _) h (fun x _ t => hA.env.eval hA.inv.inv t x) (fun v st' c' own' x h1 hv hS ha hx e1 e2 => ?_) (fun v st' c' own' x h1 hv hS ha hx e1 e2 => ?_)
   ·split at h1
    ·rename_i env' hp
     exact evOpsS_sound hD hk rest (i + 1) _ _ _ _ _ hi' h1 (hA.step hS ha hx e1 e2 hp hv)
    ·cases h1
   ·exact hk (.pan v) env st' c' own' a h1 (hA.stay hS ha hx e1 e2) x hv
  have skip : ∀ {env : Env}, (match putE nt env o.dst .hole with | some env' => evOps pg D f nt ops.toList rest env' st k | none => none) = some r -> At pg p0 c0 own0 nt c own env st a -> wpOpsS pg.P ops QS (List.range' (i + 1) rest.length) (a.put o.dst Go.undef) cs c.w := by
   intro env h hA
   split at h
   ·rename_i env' hp
    exact evOpsS_sound hD hk rest (i + 1) _ _ _ _ _ hi' h (hA.step hA.inv (After.refl _ _) (Ext.refl _) rfl rfl hp .hole)
   ·cases h
  unfold evOps at h
  dsimp only at h
  split at h
  ·rename_i hg
   rw [if_pos (by unfold Region.wanted; rw [hg])]
   exact go h hA
  ·rename_i g want hg
   split at h
   ·cases h
   ·rename_i t ht
    split at h
    ·rename_i b hb
     have hx := hA.env t
     rw [hb] at hx
     have hw := wanted_of (P := pg.P) (a := a) hg ht (x := some b) hx.bool_inv
     have hA' := hA.known hb
     rw [hw]
     cases b <;> cases want
     ·rw [if_pos (by rfl)]; exact go h hA'
     ·rw [if_neg (by nofun)]; exact skip h hA'
     ·rw [if_neg (by nofun)]; exact skip h hA'
     ·rw [if_pos (by rfl)]; exact go h hA'
    ·rename_i hb
     have hx := hA.env t
     rw [hb] at hx
     have hw := wanted_of (P := pg.P) (a := a) hg ht (x := none) hx.hole_inv
     rw [hw, if_neg (by nofun)]
     exact skip h hA
    ·cases h
end
theorem kFinD_sound (hD : DSoundD pg D) {o : Option (List Nat)} {p0 : Option (Option V)} {r : Res} {c0 : Cx} {own0 : Own} {nt : Nat} {fn : Func} {m : Nat} : KOk pg p0 r c0 own0 nt (kFinD pg D o fn m) (bodyPost pg.P fn (EndsP pg o p0 c0 own0 m r)) := by
 intro ex env st c own a h hA
 unfold kFinD at h
 split at h
 ·rename_i hdf
  have hd := hA.defs
  rw [hdf] at hd
  have hq : a.defers = [] := by cases hq : a.defers with | nil => rfl | cons d ds => rw [hq] at hd; cases hd
  have h1 := kFin_sound hD (r := r) (c0 := c0) (own0 := own0) (nt := nt) (p0 := p0) ex env st c own a h hA
  cases ex with
  | normal =>
   have h2 : Leaves pg.P fn a.tmps (EndsP pg o p0 c0 own0 m r) a.defers .returning c.w := h1
   rw [hq] at h2
   exact ⟨hq, h2⟩
  | ret =>
   have h2 : Leaves pg.P fn a.tmps (EndsP pg o p0 c0 own0 m r) a.defers .returning c.w := h1
   rw [hq] at h2
   exact ⟨hq, h2⟩
  | exit id => exact h1.elim
  | pan v =>
   intro x hx
   have h2 : Leaves pg.P fn a.tmps (EndsP pg o p0 c0 own0 m r) a.defers (.panicking [{ v := x, recovered := false }]) c.w := h1 x hx
   rw [hq] at h2
   exact ⟨hq, h2⟩
 ·cases h
theorem KOk.mono {p0 : Option (Option V)} {r : Res} {c0 : Cx} {own0 : Own} {nt : Nat} {k : K} {Q Q' : Exit -> Act -> World -> Prop} (h : KOk pg p0 r c0 own0 nt k Q) (hq : ∀ e a w, Q e a w -> Q' e a w) : KOk pg p0 r c0 own0 nt k Q' := by
 intro ex env st c own a h1 hA
 have h2 := h ex env st c own a h1 hA
 cases ex with
 | normal => exact hq _ _ _ h2
 | exit id => exact hq _ _ _ h2
 | ret => exact hq _ _ _ h2
 | pan v => exact fun x hx => hq _ _ _ (h2 x hx)
theorem recHead_some {code : Code} {o : Oper} {ops : Array Oper} {rest : Code} (h : recHead code = some (o, ops, rest)) : ∃ id os, code = .seq (.region id ops false) rest ∧ ops.toList = o :: os ∧ o.guard = none ∧ ∃ ts, o.op = .call { callee := .builtin .recover, args := #[], argTypes := ts } := by
 unfold recHead at h
 split at h
 ·rename_i id ops' rest'
  split at h
  ·rename_i o' os hos
   split at h
   ·rename_i args ts ho hg
    obtain ⟨hz, h1⟩ := condL_some h
    cases h1
    have ha : args = #[] := Array.size_eq_zero_iff.1 (Nat.eq_of_beq_eq_true hz)
    subst ha
    exact ⟨id, os, rfl, hos, hg, ts, ho⟩
   ·cases h
  ·cases h
 ·cases h
theorem evF_soundD (hD : DSound pg D) (hDD : DSoundD pg D) (hP : PgOk pg) : DSoundD pg fun f vs bl pn => evF pg D f vs bl pn := by
 intro f vs bl cur res h
 dsimp only at h
 unfold evF at h
 cases hg : pg.nat f with
 | some g => rw [hg] at h; cases h
 | none =>
 rw [hg] at h
 dsimp only at h
 split at h
 ·rename_i fn hfn
  obtain ⟨hc, h1⟩ := condR_some h
  simp only [Bool.or_eq_false_iff] at hc
  obtain ⟨⟨hb, hname⟩, hlen⟩ := hc
  refine ⟨⟨fn, hfn, hb, hname⟩, fun c own xs u hI hdom hout hl hx hu => ?_⟩
  cases hbody : fn.body with
  | none => rw [hbody] at hb; cases hb
  | some code =>
   have hbo : bodyOf fn = code := by unfold bodyOf; rw [hbody]
   rw [hbo] at h1
   split at h1
   ·rename_i o ops rest hrec
    obtain ⟨id, os, rfl, hops, hg, ts, ho⟩ := recHead_some hrec
    split at h1
    ·rename_i env hp
     have hA0 := At.enter (some none) hI hdom hout hl (nblt hlen) hx
     rw [hops, List.drop_one, List.tail_cons] at h1
     refine callsD_of_wpS hfn hbody fun c₀ cs hc0 => ?_
     have hc0' : ({ c₀ with mode := u } : Go.Frame) = c₀ := by subst hc0; rfl
     refine wpS_seq (wpS_region ?_)
     have hsz : List.range ops.size = 0 :: List.range' 1 os.length := by
      have : ops.size = os.length + 1 := by rw [<- Array.length_toList, hops]; rfl
      rw [this, List.range_eq_range']; rfl
     rw [hsz]
     have ho0 : ops[0]? = some o := by rw [<- Array.getElem?_toList, hops]; rfl
     unfold wpOpsS
     rw [ho0]
     dsimp only
     rw [if_pos (by unfold Region.wanted; rw [hg])]
     generalize ha0 : ({ tmps := xs ++ Array.replicate (fn.ntmps - xs.size) Go.undef, defers := [] } : Act) = a0 at hA0 ⊢
     have hrun : (execOp a0.eval o).run pg.P c.w = .ok .recover c.w := by
      simp [execOp, ho, resolve, invoke, builtin]
     rw [hrun]
     dsimp only
     have go : ∀ (u1 : FrameMode) (x : Value) (v : V), settle u1 = .returning -> VRep pg.P c v x -> putE fn.ntmps (args0 0 vs) o.dst v = some env ->
       wpOpsS pg.P ops (Exit.thenS (rest.wpS pg.P (bodyPostS pg.P fn c₀ cs (fun e u' w' => Ends pg (pg.oo f) c own bl.length res e w' ∧ ((res.pn = some cur ∧ u' = u) ∨ (res.pn = some none ∧ settle u' = .returning))))) (bodyPostS pg.P fn c₀ cs (fun e u' w' => Ends pg (pg.oo f) c own bl.length res e w' ∧ ((res.pn = some cur ∧ u' = u) ∨ (res.pn = some none ∧ settle u' = .returning))))) (List.range' 1 os.length) (a0.put o.dst x) ({ c₀ with mode := u1 } :: cs) c.w := by
      intro u1 x v hset hv hp'
      have hfin : KOk pg (some none) res c own fn.ntmps (kFinD pg D (pg.oo f) fn bl.length) (fun e a w => bodyPostS pg.P fn c₀ cs (fun e u' w' => Ends pg (pg.oo f) c own bl.length res e w' ∧ ((res.pn = some cur ∧ u' = u) ∨ (res.pn = some none ∧ settle u' = .returning))) e a ({ c₀ with mode := u1 } :: cs) w) :=
       (kFinD_sound hDD).mono fun e a w hq => by
        cases e with
        | normal => obtain ⟨g1, v, g2, g3⟩ := hq; exact ⟨g1, u1, rfl, v, g2, g3.1, .inr ⟨g3.2, hset⟩⟩
        | ret => obtain ⟨g1, v, g2, g3⟩ := hq; exact ⟨g1, u1, rfl, v, g2, g3.1, .inr ⟨g3.2, hset⟩⟩
        | panic ch => obtain ⟨g1, g3⟩ := hq; exact ⟨g1, u1, rfl, g3.1, .inr ⟨g3.2, hset⟩⟩
        | outgrown => exact ⟨u1, hq.1, .inr ⟨hq.2, hset⟩⟩
        | exit i => exact hq
        | goto l => exact hq
      rw [<- hops] at h1
      refine evOpsS_sound (c0 := c) (own0 := own) (nt := fn.ntmps) (p0 := some none) (r := res) (k := kSeq (ev pg D f fn.ntmps rest) (kFinD pg D (pg.oo f) fn bl.length)) hD (fun ex env st c1 own1 a h hA => ?_) os 1 env _ c own _ (fun j => ?_) h1 (hA0.step hA0.inv (After.refl _ _) (Ext.refl _) rfl rfl hp' hv)
      ·cases ex with
       | normal => exact wpS_of_wp (ev_sound hD hP.mix rest hfin h hA)
       | exit i => exact hfin (.exit i) env st c1 own1 a h hA
       | ret => exact hfin .ret env st c1 own1 a h hA
       | pan v => exact hfin (.pan v) env st c1 own1 a h hA
      ·rw [<- Array.getElem?_toList, hops, Nat.add_comm]; rfl
     cases cur with
     | none =>
      have hu' : u = .returning := hu
      have hrec : recoverD (c₀ :: cs) = none := by
       have hm : c₀.mode = .returning := hc0.trans hu'
       unfold recoverD
       dsimp only
       split
       ·rename_i he; rw [hm] at he; cases he
       ·rfl
      rw [hrec]
      dsimp only
      have := go u .nilIface .nili (by rw [hu']; rfl) (.pure .nili) hp
      rw [hc0'] at this
      exact this
     | some v =>
      obtain ⟨x, hu', hx'⟩ := hu
      have hrec : recoverD (c₀ :: cs) = some (x, { c₀ with mode := .panicking [{ v := x, recovered := true }] } :: cs) := by
       have hm : c₀.mode = .panicking [{ v := x, recovered := false }] := hc0.trans hu'
       unfold recoverD
       dsimp only
       split
       ·rename_i he; rw [hm] at he; cases he; rfl
       ·rename_i he; exact absurd hm (he _ _)
      rw [hrec]
      dsimp only
      exact go (.panicking [{ v := x, recovered := true }]) x v rfl (.pure hx') hp
    ·cases h1
   ·
    have hw := callsD_of_wp (u := u) hfn hbody (args := xs) (R := EndsP pg (pg.oo f) (some cur) c own bl.length res) (ev_sound hD hP.mix code (kFinD_sound hDD) h1 (At.enter (some cur) hI hdom hout hl (nblt hlen) hx))
    exact hw.mono fun e u' w' hE => ⟨hE.2.1, .inl ⟨hE.2.2, hE.1⟩⟩
 ·cases h
theorem call_sound' (hP : PgOk pg) : ∀ n, DSound pg (call pg n) ∧ DSoundD pg (call pg n)
 | 0 => ⟨(fun f vs bl res h => by cases h), (fun f vs bl cur res h => by cases h)⟩
 | n + 1 => ⟨evF_sound (call_sound' hP n).1 (call_sound' hP n).2 hP, evF_soundD (call_sound' hP n).1 (call_sound' hP n).2 hP⟩
theorem den_sound (hP : PgOk pg) : DSound pg (den pg) := by
 intro f vs bl res h
 unfold den at h
 split at h
 ·rename_i hex
  cases h
  obtain ⟨n, hn⟩ := Classical.choose_spec hex
  exact (call_sound' hP n).1 f vs bl _ hn
 ·cases h
end
end Go.Proofs.Ab
namespace Go.Proofs.Ab
open Go Go.RowKit
def Before (W : World) : Nat -> Nat -> Prop := fun b _ => b < W.heap.size
theorem cell_lt {W : World} {b x : Nat} {y : Value} (h : W.cell? ⟨b, x, none⟩ = some y) : b < W.heap.size := by
 unfold World.cell? at h
 cases hb : W.heap[b]? with
 | none => simp [hb] at h
 | some o => exact (Array.getElem?_eq_some_iff.1 hb).1
theorem Frame.below {own : Own} {w w' : World} (h : Frame own w w') (ho : ∀ b x, own b x = none) : Below w.heap.size w w' := by
 refine ⟨h.os, h.tape, h.output, h.size, fun k hk => ?_⟩
 obtain ⟨o, hb⟩ : ∃ o, w.heap[k]? = some o := ⟨_, Array.getElem?_eq_getElem hk⟩
 rcases h.blk k o hb with h1 | ⟨a, a', e, fr, rfl, h1, h2, h3⟩ | ⟨es, n, es', n', _, _, h1⟩
 ·rw [h1, hb]
 ·have : a' = a := Array.ext_getElem? fun i => h3 i (ho k i)
  subst this
  rw [h1, hb]
 ·exact absurd (ho k 0) h1
theorem law_calls {pg : Pg} (hP : PgOk pg) {f : FuncId} {vs : List V} {v : V} {bl' : List Blk} {pn' : Option (Option V)} (h : den pg f vs [] none = some ⟨.ret v, bl', pn'⟩) {W : World}
  (hgl : ∀ i cs, pg.gl i = some cs -> ∀ j, j < cs.length -> ∃ x, W.cell? ⟨i, j, none⟩ = some x ∧ x.oneCell' = true ∧ PRep pg.P W (Before W) (cs.getD j .undef) x) {xs : Array Value} (hl : vs.length = xs.size)
  (hx : ∀ j, j < vs.length -> PRep pg.P W (Before W) (vs.getD j .undef) (xs.getD j Go.undef)) (hoa : pg.oa f = [] := by rfl) (hoo : pg.oo f = none := by rfl) :
  Calls pg.P f xs W fun e W' => Below W.heap.size W W' ∧ ∃ x prot, e = .returned x ∧ PRep pg.P W' prot v x := by
 let c : Cx := ⟨W, fun _ => none, fun _ => none, Before W, fun _ => False⟩
 have hrows : rowsOf pg [] = 0 := rfl
 have hI : Inv pg c (fun _ _ => none) (fun i => ([] : List Blk)[i]?) (fun p => p < rowsOf pg []) := by
  refine ⟨fun id k hk => by simp at hk, fun t ht => by rw [hrows] at ht; omega, fun b x hp => ⟨rfl, hp⟩, fun b x hn => absurd rfl hn, (fun id r hr => by cases hr), fun i cs hg => ?_⟩
  have hc := hgl i cs hg
  refine .ptr (fun j => if hj : j < cs.length then Classical.choose (hc j hj) else Go.undef) i 0 (fun j hj => ?_) (fun j hj => ?_)
  ·have hs := Classical.choose_spec (hc j hj)
   simp only [hj, dif_pos, Nat.zero_add]
   exact ⟨cell_lt hs.1, hs.1, hs.2.1⟩
  ·have hs := Classical.choose_spec (hc j hj)
   simp only [hj, dif_pos]
   exact hs.2.2
 obtain ⟨_, hcall⟩ := den_sound hP f vs [] _ h
 refine (hcall c (fun _ _ => none) xs (by rw [hoa]; exact hI) (fun p r hr => by cases hr) (fun _ h => h) hl fun j hj => .pure (hx j hj)).mono fun e W' hE => ?_
 obtain ⟨c', own', rfl, ha, _, _, _, hout⟩ := hE
 refine ⟨ha.frame.below fun _ _ => rfl, ?_⟩
 cases e with
 | returned x =>
  have h1 : RetRep pg (pg.oo f) c' v x := hout
  rw [hoo] at h1
  exact ⟨x, c'.prot, rfl, h1⟩
 | panicked ch => exact hout.elim
 | outgrown => exact hout.elim
theorem law_true {pg : Pg} (hP : PgOk pg) {f : FuncId} {vs : List V} {bl' : List Blk} {pn' : Option (Option V)} (h : den pg f vs [] none = some ⟨.ret (.bool true), bl', pn'⟩) {W : World}
  (hgl : ∀ i cs, pg.gl i = some cs -> ∀ j, j < cs.length -> ∃ x, W.cell? ⟨i, j, none⟩ = some x ∧ x.oneCell' = true ∧ PRep pg.P W (Before W) (cs.getD j .undef) x) {xs : Array Value} (hl : vs.length = xs.size)
  (hx : ∀ j, j < vs.length -> PRep pg.P W (Before W) (vs.getD j .undef) (xs.getD j Go.undef)) (hoa : pg.oa f = [] := by rfl) (hoo : pg.oo f = none := by rfl) :
  Calls pg.P f xs W fun e W' => e = .returned (.bool true) ∧ Below W.heap.size W W' :=
 (law_calls hP h hgl hl hx hoa hoo).mono fun e W' ⟨hb, x, prot, he, hp⟩ => by
  cases hp
  exact ⟨he, hb⟩
end Go.Proofs.Ab
namespace Go.Proofs.Ab
open Go
section
variable (pg : Pg)
theorem ev_mono {D D' : DSem} {f : FuncId} {nt : Nat} {c : Code} {k k' : K} (hD : ∀ f vs bl pn r, D f vs bl pn = some r -> D' f vs bl pn = some r) (hk : ∀ ex env st r, k ex env st = some r -> k' ex env st = some r) {env : Env} {st : St} {r : Res}
  (h : ev pg D f nt c env st k = some r) : ev pg D' f nt c env st k' = some r := by
 have hDs : LimD (fun j => if j = 0 then D else D') D' := fun f vs bl pn => by
  refine ⟨fun j r hj => ?_, fun r => ⟨fun h => ⟨1, h⟩, fun ⟨j, hj⟩ => ?_⟩⟩
  ·by_cases h0 : j = 0
   ·subst h0; simpa using hD _ _ _ _ _ (by simpa using hj)
   ·simpa [h0] using hj
  ·by_cases h0 : j = 0
   ·subst h0; exact hD _ _ _ _ _ (by simpa using hj)
   ·simpa [h0] using hj
 have hks : LimK (fun j => if j = 0 then k else k') k' := fun ex env st => by
  refine ⟨fun j r hj => ?_, fun r => ⟨fun h => ⟨1, h⟩, fun ⟨j, hj⟩ => ?_⟩⟩
  ·by_cases h0 : j = 0
   ·subst h0; simpa using hk _ _ _ _ (by simpa using hj)
   ·simpa [h0] using hj
  ·by_cases h0 : j = 0
   ·subst h0; exact hk _ _ _ _ (by simpa using hj)
   ·simpa [h0] using hj
 exact ((ev_lim pg f nt c hDs hks env st).to r).2 ⟨0, by simpa using h⟩
variable (N : Nat)
section
variable (D : DSem) (f : FuncId) (nt : Nat)
def evN : Code -> Env -> St -> K -> Option Res
 | .skip, env, st, k => k .normal env st
 | .label _, env, st, k => k .normal env st
 | .seq a b, env, st, k => evN a env st (kSeq (evN b) k)
 | .cond c a b, env, st, k => (match evO pg env 0 c with
  | .bool t => bif t then evN a (setC env c true) st k else evN b (setC env c false) st k
  | _ => none)
 | .block id c, env, st, k => evN c env st (kBlk id k)
 | .loop c, env, st, k => (match canon pg f (keysOf st.bl) (env, st) with
  | some x => iter (fun rec y => evN c y.1 y.2 (kLoop (canon pg f (keysOf st.bl)) rec k)) (bif Nat.beq (pg.unr f (headId c)) 0 then N else pg.unr f (headId c)) x
  | none => none)
 | .scope c, env, st, k => evN c env st k
 | .exit id, env, st, k => k (.exit id) env st
 | .ret, env, st, k => k .ret env st
 | .region id ops draw, env, st, k =>
  bif (pg.joins f).contains id then (match canon pg f (keysOf st.bl) (env, st) with
   | some x => evReg pg D f nt ops draw x.1 x.2 k
   | none => none)
  else evReg pg D f nt ops draw env st k
 | _, _, _, _ => none
theorem evN_le : ∀ (c : Code) {k : K} {env : Env} {st : St} {r : Res}, evN pg N D f nt c env st k = some r -> ev pg D f nt c env st k = some r := by
 intro c
 induction c with
 | skip => intro k env st r h; exact h
 | label l => intro k env st r h; exact h
 | seq a b iha ihb =>
  intro k env st r h
  show ev pg D f nt a env st (kSeq (ev pg D f nt b) k) = some r
  refine ev_mono pg (fun _ _ _ _ _ h => h) (k := kSeq (evN pg N D f nt b) k) (k' := kSeq (ev pg D f nt b) k) (fun ex env st r h => ?_) (iha h)
  cases ex with
  | normal => exact ihb h
  | _ => exact h
 | cond c a b iha ihb =>
  intro k env st r h
  simp only [evN] at h
  simp only [ev]
  split at h
  ·rename_i t ht
   rw [ht]
   cases t with
   | true => exact iha h
   | false => exact ihb h
  ·cases h
 | block id c ih => intro k env st r h; exact ih h
 | loop c ih =>
  intro k env st r h
  simp only [evN] at h
  simp only [ev]
  split at h
  ·rename_i x hx
   rw [hx]
   have key : ∀ m x r, iter (fun rec y => evN pg N D f nt c y.1 y.2 (kLoop (canon pg f (keysOf st.bl)) rec k)) m x = some r -> LP (ev pg D f nt c) (canon pg f (keysOf st.bl)) k x = some r := by
    intro m
    induction m with
    | zero => intro x r h; cases h
    | succ m ihm =>
     intro x r h
     rw [LP_eq]
     refine ev_mono pg (fun _ _ _ _ _ h => h) (k := kLoop (canon pg f (keysOf st.bl)) (iter (fun rec y => evN pg N D f nt c y.1 y.2 (kLoop (canon pg f (keysOf st.bl)) rec k)) m) k) (fun ex env st r' h => ?_) (ih h)
     cases ex with
     | normal =>
      dsimp only [kLp, kLoop] at h ⊢
      split at h
      ·rename_i y hy
       exact ihm y r' h
      ·cases h
     | _ => exact h
   dsimp only
   cases hu : Nat.beq (pg.unr f (headId c)) 0 with
   | true => rw [hu] at h; exact key N x r h
   | false =>
    rw [hu] at h
    have key2 : ∀ m x r, iter (fun rec y => evN pg N D f nt c y.1 y.2 (kLoop (canon pg f (keysOf st.bl)) rec k)) m x = some r -> iter (fun rec y => ev pg D f nt c y.1 y.2 (kLoop (canon pg f (keysOf st.bl)) rec k)) m x = some r := by
     intro m
     induction m with
     | zero => intro x r h; cases h
     | succ m ihm =>
      intro x r h
      refine ev_mono pg (fun _ _ _ _ _ h => h) (k := kLoop (canon pg f (keysOf st.bl)) (iter (fun rec y => evN pg N D f nt c y.1 y.2 (kLoop (canon pg f (keysOf st.bl)) rec k)) m) k) (fun ex env st r' h => ?_) (ih h)
      cases ex with
      | normal =>
       dsimp only [kLoop] at h ⊢
       split at h
       ·rename_i y hy
        exact ihm y r' h
       ·cases h
      | _ => exact h
    exact key2 _ x r h
  ·cases h
 | scope c ih => intro k env st r h; exact ih h
 | exit id => intro k env st r h; exact h
 | ret => intro k env st r h; exact h
 | region id ops draw =>
  intro k env st r h
  simp only [evN] at h
  simp only [ev, JR_eq]
  exact h
 | goto l => intro k env st r h; cases h
 | rangeFunc g ps a b iha ihb => intro k env st r h; cases h
 | refuse w => intro k env st r h; cases h
end
def evFN (D : DSem) (f : FuncId) (vs : List V) (bl : List Blk) (pn : Option (Option V)) : Option Res :=
 match pg.nat f with
 | some g => (match pn with | none => g vs bl | some _ => none)
 | none =>
 match pg.P.funcs[f]? with
 | some fn => bif fn.body.isNone || fn.name == "runtime.NumGoroutine" || Nat.blt fn.ntmps vs.length then none else
   (match pn with
   | none => evN pg N D f fn.ntmps (bodyOf fn) (args0 0 vs) { bl := (List.range bl.length).zip bl, used := List.range (rowsOf pg bl + ownN (pg.oa f)), dead := [], df := [], pn := none } (kFin pg D (pg.oo f) fn bl.length)
   | some cur => (match recHead (bodyOf fn) with
    | some (o, ops, rest) => (match putE fn.ntmps (args0 0 vs) o.dst (curV cur) with
     | some env => evOps pg D f fn.ntmps ops.toList (ops.toList.drop 1) env { bl := (List.range bl.length).zip bl, used := List.range (rowsOf pg bl + ownN (pg.oa f)), dead := [], df := [], pn := some none } (kSeq (evN pg N D f fn.ntmps rest) (kFinD pg D (pg.oo f) fn bl.length))
     | none => none)
    | none => evN pg N D f fn.ntmps (bodyOf fn) (args0 0 vs) { bl := (List.range bl.length).zip bl, used := List.range (rowsOf pg bl + ownN (pg.oa f)), dead := [], df := [], pn := some cur } (kFinD pg D (pg.oo f) fn bl.length)))
 | none => none
def callN : Nat -> DSem
 | 0 => fun _ _ _ _ => none
 | n + 1 => evFN pg N (callN n)
theorem kFin_mono {D D' : DSem} (hD : ∀ f vs bl pn r, D f vs bl pn = some r -> D' f vs bl pn = some r) {o : Option (List Nat)} {fn : Func} {m : Nat} {ex : Ex} {env : Env} {st : St} {r : Res} (h : kFin pg D o fn m ex env st = some r) : kFin pg D' o fn m ex env st = some r := by
 have hDs : LimD (fun j => if j = 0 then D else D') D' := fun f vs bl pn => by
  refine ⟨fun j r hj => ?_, fun r => ⟨fun h => ⟨1, h⟩, fun ⟨j, hj⟩ => ?_⟩⟩
  ·by_cases h0 : j = 0
   ·subst h0; simpa using hD _ _ _ _ _ (by simpa using hj)
   ·simpa [h0] using hj
  ·by_cases h0 : j = 0
   ·subst h0; exact hD _ _ _ _ _ (by simpa using hj)
   ·simpa [h0] using hj
 exact ((kFin_lim pg hDs o fn m ex env st).to r).2 ⟨0, by simpa using h⟩
theorem kFinD_mono {D D' : DSem} (hD : ∀ f vs bl pn r, D f vs bl pn = some r -> D' f vs bl pn = some r) {o : Option (List Nat)} {fn : Func} {m : Nat} {ex : Ex} {env : Env} {st : St} {r : Res} (h : kFinD pg D o fn m ex env st = some r) : kFinD pg D' o fn m ex env st = some r := by
 unfold kFinD at h ⊢
 split at h
 ·exact kFin_mono pg hD h
 ·cases h
theorem evOps_mono {D D' : DSem} {f : FuncId} {nt : Nat} {k k' : K} (hD : ∀ f vs bl pn r, D f vs bl pn = some r -> D' f vs bl pn = some r) (hk : ∀ ex env st r, k ex env st = some r -> k' ex env st = some r) {all os : List Oper} {env : Env} {st : St} {r : Res}
  (h : evOps pg D f nt all os env st k = some r) : evOps pg D' f nt all os env st k' = some r := by
 have hDs : LimD (fun j => if j = 0 then D else D') D' := fun f vs bl pn => by
  refine ⟨fun j r hj => ?_, fun r => ⟨fun h => ⟨1, h⟩, fun ⟨j, hj⟩ => ?_⟩⟩
  ·by_cases h0 : j = 0
   ·subst h0; simpa using hD _ _ _ _ _ (by simpa using hj)
   ·simpa [h0] using hj
  ·by_cases h0 : j = 0
   ·subst h0; exact hD _ _ _ _ _ (by simpa using hj)
   ·simpa [h0] using hj
 have hks : LimK (fun j => if j = 0 then k else k') k' := fun ex env st => by
  refine ⟨fun j r hj => ?_, fun r => ⟨fun h => ⟨1, h⟩, fun ⟨j, hj⟩ => ?_⟩⟩
  ·by_cases h0 : j = 0
   ·subst h0; simpa using hk _ _ _ _ (by simpa using hj)
   ·simpa [h0] using hj
  ·by_cases h0 : j = 0
   ·subst h0; exact hk _ _ _ _ (by simpa using hj)
   ·simpa [h0] using hj
 exact ((evOps_lim pg hDs hks f nt all os env st).to r).2 ⟨0, by simpa using h⟩
theorem callN_le : ∀ n {f : FuncId} {vs : List V} {bl : List Blk} {pn : Option (Option V)} {r : Res}, callN pg N n f vs bl pn = some r -> den pg f vs bl pn = some r
 | 0, f, vs, bl, pn, r, h => by cases h
 | n + 1, f, vs, bl, pn, r, h => by
  rw [den_eq]
  have h' : evFN pg N (callN pg N n) f vs bl pn = some r := h
  unfold evFN at h'
  unfold evF
  cases hg : pg.nat f with
  | some g =>
   rw [hg] at h'
   cases pn with
   | none => exact h'
   | some c => cases h'
  | none =>
  rw [hg] at h'
  dsimp only at h' ⊢
  split at h'
  ·rename_i fn hf
   rw [hf]
   dsimp only
   cases hc : (fn.body.isNone || fn.name == "runtime.NumGoroutine" || Nat.blt fn.ntmps vs.length) with
   | true => rw [hc] at h'; cases h'
   | false =>
    rw [hc] at h'
    rw [cond_false] at h' ⊢
    have up : ∀ f vs bl pn r, callN pg N n f vs bl pn = some r -> den pg f vs bl pn = some r := fun f vs bl pn r h => callN_le n h
    split at h'
    ·exact ev_mono pg (D := callN pg N n) (k := kFin pg (callN pg N n) (pg.oo f) fn bl.length) up (fun ex env st r h => kFin_mono pg up h) (evN_le pg N (callN pg N n) f fn.ntmps _ h')
    ·rename_i cur
     dsimp only
     split at h'
     ·rename_i o ops rest hrec
      rw [hrec]
      dsimp only
      split at h'
      ·rename_i env hp
       rw [hp]
       dsimp only
       refine evOps_mono pg up (k := kSeq (evN pg N (callN pg N n) f fn.ntmps rest) (kFinD pg (callN pg N n) (pg.oo f) fn bl.length)) (fun ex env st r h => ?_) h'
       cases ex with
       | normal => exact ev_mono pg (D := callN pg N n) (k := kFinD pg (callN pg N n) (pg.oo f) fn bl.length) up (fun ex env st r h => kFinD_mono pg up h) (evN_le pg N (callN pg N n) f fn.ntmps _ h)
       | exit i => exact kFinD_mono pg up h
       | ret => exact kFinD_mono pg up h
       | pan v => exact kFinD_mono pg up h
      ·cases h'
     ·rename_i hrec
      rw [hrec]
      dsimp only
      exact ev_mono pg (D := callN pg N n) (k := kFinD pg (callN pg N n) (pg.oo f) fn bl.length) up (fun ex env st r h => kFinD_mono pg up h) (evN_le pg N (callN pg N n) f fn.ntmps _ h')
  ·cases h'
end
end Go.Proofs.Ab
namespace Go.Proofs.Ab
open Go Go.RowKit
end Go.Proofs.Ab
namespace Go.Proofs.YtennkhdlpbggkaaDoor
open Go Go.Proofs.Ab
namespace law03_SynBrackets
abbrev id : FuncId := 4
end law03_SynBrackets
namespace law03_known
abbrev id : FuncId := 8
end law03_known
namespace syntax_Parse
abbrev id : FuncId := 9
end syntax_Parse
namespace syntax_Print
abbrev id : FuncId := 10
end syntax_Print
namespace syntax_Expr
abbrev id : FuncId := 13
end syntax_Expr
namespace ref01_Among
abbrev id : FuncId := 14
end ref01_Among
namespace ref03_SameExpr
abbrev id : FuncId := 15
end ref03_SameExpr
namespace syntax_PrintExpr
abbrev id : FuncId := 16
end syntax_PrintExpr
namespace lex_Scan
abbrev id : FuncId := 18
end lex_Scan
namespace syntax_Expr_1
abbrev id : FuncId := 25
end syntax_Expr_1
namespace syntax_caught
abbrev id : FuncId := 26
end syntax_caught
namespace syntax_reader_expr
abbrev id : FuncId := 27
end syntax_reader_expr
namespace syntax_tokens_wrong
abbrev id : FuncId := 28
end syntax_tokens_wrong
namespace ref03_SameExprs
abbrev id : FuncId := 29
end ref03_SameExprs
namespace lex_reader_blank
abbrev id : FuncId := 32
end lex_reader_blank
namespace lex_reader_next
abbrev id : FuncId := 33
end lex_reader_next
namespace syntax_tokens_deep
abbrev id : FuncId := 49
end syntax_tokens_deep
namespace syntax_reader_begins
abbrev id : FuncId := 50
end syntax_reader_begins
namespace syntax_reader_bin
abbrev id : FuncId := 51
end syntax_reader_bin
namespace lex_letter
abbrev id : FuncId := 57
end lex_letter
namespace lex_reader_word
abbrev id : FuncId := 58
end lex_reader_word
namespace lex_isKey
abbrev id : FuncId := 59
end lex_isKey
namespace lex_digit
abbrev id : FuncId := 60
end lex_digit
namespace num_Parse
abbrev id : FuncId := 61
end num_Parse
namespace lex_sign
abbrev id : FuncId := 62
end lex_sign
namespace syntax_tokens_need
abbrev id : FuncId := 65
end syntax_tokens_need
namespace syntax_tokens_name
abbrev id : FuncId := 66
end syntax_tokens_name
namespace syntax_tokens_has
abbrev id : FuncId := 67
end syntax_tokens_has
namespace syntax_tokens_is
abbrev id : FuncId := 76
end syntax_tokens_is
namespace syntax_reader_unary
abbrev id : FuncId := 77
end syntax_reader_unary
namespace syntax_reader_sign
abbrev id : FuncId := 78
end syntax_reader_sign
namespace syntax_level
abbrev id : FuncId := 79
end syntax_level
namespace lex_inner
abbrev id : FuncId := 81
end lex_inner
abbrev T_n0 : TypeId := 0
abbrev T_int : TypeId := 3
abbrev T_api_Errno : TypeId := 27
abbrev T_api_Expr : TypeId := 38
abbrev T_api_Proc : TypeId := 56
abbrev T_api_Token : TypeId := 61
abbrev T_api_Param : TypeId := 66
abbrev T_syntax_tokens : TypeId := 71
abbrev T_syntax_reader : TypeId := 74
abbrev T_lex_reader : TypeId := 81
abbrev T_api_Stmt : TypeId := 97
abbrev T_syntax_given : TypeId := 99
def keepTab : List (List (Nat × Bool)) := [[], [], [], [], [(0, false), (1, false), (5, false), (7, false), (8, false), (9, false), (10, false)], [(0, false), (1, false), (5, false), (6, false), (7, false), (8, false)], [(1, false), (5, false), (7, false), (8, false)], [], [], [], [(4, false), (10, false), (11, false), (12, false)], [(0, false), (5, true), (6, false)], [(2, false), (3, false), (5, false), (6, false), (7, false), (8, false)], [], [], [], [], [], [(5, false), (6, true)], [(2, false), (3, false), (4, false), (5, false)], [(0, false), (3, false), (17, false), (18, false), (19, false)], [], [(0, false), (3, false), (4, false)], [(0, false), (2, false), (4, false), (8, false)], [(0, false), (1, false), (5, false)], [], [], [], [], [(0, false), (1, false), (5, false)], [], [(1, false), (2, false), (5, false), (6, false), (7, false)], [(0, false)], [], [(0, false), (7, false), (8, false), (9, false)], [], [(0, false), (2, false), (3, false)], [], [], [], [(0, false), (2, false), (11, false), (12, false), (13, false)], [(3, true), (6, false), (7, false), (8, false)], [(0, false), (3, false)], [], [(0, false), (4, false), (5, false)], [(0, false), (1, false), (5, false)], [], [(0, false), (3, false)], [], [], [], [(0, false), (1, false), (2, false), (6, false), (7, false), (8, false)], [], [], [(0, false), (3, false), (4, false), (5, false)], [], [(0, false), (1, false), (5, false), (6, false), (7, false)], [], [(0, false), (3, false)], [(0, false), (5, false), (6, false)], [], [(4, false), (5, false), (6, false), (7, false), (8, false)], [(0, false), (3, false), (6, false), (7, false)], [], [], [], [], [], [(0, false), (1, false), (5, true)], [(0, false), (22, false), (23, false)], [(0, false), (2, false), (34, false), (35, false), (36, false)], [], [], [], [(0, false), (3, false), (4, false)], [], [], [(0, false), (1, false), (4, false), (11, false), (12, false)], [], [], [(1, false), (2, false), (5, false), (6, false)], [], [], [], [], [], [(0, false), (2, false), (11, false), (12, false), (13, false)], [], [], [(0, false), (5, false), (6, false)], [], [], [(0, false), (3, false), (4, false)], [(0, false), (1, false), (2, false), (7, true), (8, false)], [(0, false), (3, true), (4, false)], [(0, false), (3, true), (4, false)], [], [], [(0, false), (1, false), (5, true)]]
def glTab (g : Nat) : Option (List V) := match g with | 0 => some [.str ⟨#[112, 114, 111, 99]⟩, .str ⟨#[118, 97, 114]⟩, .str ⟨#[105, 102]⟩, .str ⟨#[101, 108, 115, 101]⟩, .str ⟨#[119, 104, 105, 108, 101]⟩, .str ⟨#[114, 101, 116, 117, 114, 110]⟩, .str ⟨#[112, 114, 105, 110, 116]⟩, .str ⟨#[114, 101, 97, 100]⟩, .str ⟨#[97, 115, 115, 101, 114, 116]⟩, .str ⟨#[105, 110, 116]⟩, .str ⟨#[98, 111, 111, 108]⟩, .str ⟨#[116, 114, 117, 101]⟩, .str ⟨#[102, 97, 108, 115, 101]⟩] | 1 => some [.str ⟨#[61, 61]⟩, .str ⟨#[33, 61]⟩, .str ⟨#[60, 61]⟩, .str ⟨#[38, 38]⟩, .str ⟨#[124, 124]⟩, .str ⟨#[40]⟩, .str ⟨#[41]⟩, .str ⟨#[123]⟩, .str ⟨#[125]⟩, .str ⟨#[91]⟩, .str ⟨#[93]⟩, .str ⟨#[44]⟩, .str ⟨#[59]⟩, .str ⟨#[61]⟩, .str ⟨#[60]⟩, .str ⟨#[33]⟩, .str ⟨#[43]⟩, .str ⟨#[45]⟩, .str ⟨#[42]⟩, .str ⟨#[47]⟩, .str ⟨#[37]⟩] | _ => none
noncomputable def Sp : Pg where
 P := Tryd.prog
 gl := glTab
 pz := fun e => ([2, 3] : List Nat).contains e
 keep := fun f => keepTab.getD f []
 own := fun t => match t with | 52 => [0] | 74 => [2] | _ => []
 joins := fun f => match f with  | _ => []
 nat := fun f => match f with | 64 => some (natHere 74 61) | _ => none
 pan := fun f => match f with | 27 => some 99 | 28 => some 99 | 36 => some 99 | 49 => some 99 | 51 => some 99 | 65 => some 99 | 66 => some 99 | 68 => some 99 | 77 => some 99 | 82 => some 99 | 90 => some 99 | 91 => some 99 | 96 => some 99 | 97 => some 99 | 98 => some 99 | _ => none
 mutl := fun f => match f with  | _ => []
 dfs := true
 pre := fun f t => match f, t with | 27, 74 => some 2 | 51, 74 => some 2 | 77, 74 => some 2 | 98, 74 => some 2 | 91, 74 => some 2 | 96, 74 => some 2 | 97, 74 => some 2 | 50, 74 => some 2 | 78, 74 => some 2 | 89, 74 => some 2 | _, _ => none
 dpe := fun e => match e with | 123 => some 3 | _ => none
end Go.Proofs.YtennkhdlpbggkaaDoor
namespace Go.Proofs.Ab
open Go Go.ChangeShapes Go.WideShapes Go.ChangeAt Go.WideMaps Go.WideElems Go.RowKit
theorem laid_strings {H : Type} {enc : TypeId × Value -> H} {P : Program} {W : World} {base : Nat} {spare : Nat -> Bool} {held : Bool} {name : String} {g t e n fuel : Nat} {cs : Array Value} {ls : List (List UInt8)} {p : List MemPlace} (hg : P.globalNamed name = some g)
  (hu : P.underlying t = some (.array n e)) (he : P.underlying e = some .string) (hc : P.cellsOf e = 1) (hv : W.var? P name = some cs)
  (hd : DataW.trod enc P W base spare held fuel t cs.toList = some (.agg (ls.map fun l => .lit (.string l)), p)) : ∀ j l, ls[j]? = some l -> W.cell? ⟨g, j, none⟩ = some (.string ⟨l.toArray⟩) := by
 intro j l hj
 obtain ⟨xs, m, _, hx, hl, hn, hel⟩ := DataW.trod_array hu hd
 simp only [Prod.mk.injEq, DataW.agg.injEq] at hx
 obtain ⟨hx, _⟩ := hx
 have hlen : ls.length = xs.length := by
  have := congrArg List.length hx
  simpa using this
 have hjl : j < ls.length := (List.getElem?_eq_some_iff.1 hj).1
 have hjx : j < xs.length := by omega
 have h1 := hel j (by omega)
 rw [List.getElem?_eq_getElem hjx, hc] at h1
 obtain ⟨s, h2, h3, _⟩ := DataW.trod_string he h1
 have h4 : (xs.map (·.1))[j]? = some (.lit (.string l)) := by
  rw [<- hx, List.getElem?_map, hj]; rfl
 rw [List.getElem?_map, List.getElem?_eq_getElem hjx, h3] at h4
 have h5 : s.data.toList = l := by simpa using h4
 have h6 : s = ⟨l.toArray⟩ := by
  cases s with
  | mk d => subst h5; simp
 have h7 := World.var?_cell hg hv j
 rw [h7]
 have h8 : cs.toList[j]? = some (.string s) := by
  have h9 : ((cs.toList.drop (j * 1)).take 1)[0]? = some (.string s) := by rw [h2]; rfl
  rw [List.getElem?_take, if_pos (by omega), List.getElem?_drop] at h9
  simpa using h9
 rw [<- h6]
 simpa using h8
theorem gl_strings {P : Program} {W : World} {g : Nat} {ls : List (List UInt8)} (h : ∀ j l, ls[j]? = some l -> W.cell? ⟨g, j, none⟩ = some (.string ⟨l.toArray⟩)) :
  ∀ j, j < (ls.map fun l => V.str ⟨l.toArray⟩).length -> ∃ x, W.cell? ⟨g, j, none⟩ = some x ∧ x.oneCell' = true ∧ PRep P W (Before W) ((ls.map fun l => V.str ⟨l.toArray⟩).getD j .undef) x := by
 intro j hj
 have hj' : j < ls.length := by simpa using hj
 refine ⟨_, h j ls[j] (List.getElem?_eq_getElem hj'), rfl, ?_⟩
 rw [List.getD_eq_getElem?_getD, List.getElem?_map, List.getElem?_eq_getElem hj']
 exact .str _
end Go.Proofs.Ab
namespace Go.Proofs.Ab
open Go
theorem inner_more {P : Program} {w : World} {own : Own} {t : Nat} {eI : TypeId} {hv : Value} {ns : List Int} {ib : Option Nat} (h : InnRep w own t eI hv ns ib) (a : Int) (hn : ns.length < most) {tL e : TypeId} (ht : P.underlying tL = some (.slice e)) (hsz : sz P e = 1) (hby : byt P e <= 128) {z : List V} (hz : zeroL P e = some z) (hzl : z.length = sz P e) :
  ∃ v2 w2 ib2 icap2 icur2 eT, (Builtin.append_ #[tL, tL] tL #[hv, .slice (some ⟨w.heap.size, 0, none⟩) 1 1]).run P (w.alloc (.cells #[.int .i64 a] e)) = .ok v2 w2 ∧ v2 = .slice (some ⟨ib2, 0, none⟩) (ns.length + 1) icap2 ∧
   w2.heap[ib2]? = some (.cells icur2 eT (0, 0)) ∧ ns.length + 1 <= icap2 ∧ icur2.size = icap2 ∧ (∀ (y : Nat) n, (ns ++ [a])[y]? = some n -> icur2[y]? = some (.int .i64 n)) ∧
   ((ib = some ib2 ∧ ∃ icur, w.heap[ib2]? = some (.cells icur eT (0, 0)) ∧ icur2.size = icur.size) ∨ ib2 = w.heap.size + 1) ∧ (∀ (b : Nat) o, b ≠ ib2 -> b < w.heap.size -> w.heap[b]? = some o -> w2.heap[b]? = some o) ∧
   w2.os = w.os ∧ w2.tape = w.tape ∧ w2.output = w.output ∧ w.heap.size < w2.heap.size ∧ ib2 < w2.heap.size := by
 obtain ⟨i, zv, hi, hz1, hz2, hz3⟩ := zeroL_some hz
 have hsi : i.size = 1 := by rw [<- hsz]; simp [sz, hi]
 have hbi : byt P e = i.bytes := by simp [byt, hi]
 have hn' : ns.length < 1099511627776 := hn
 generalize hw1 : w.alloc (.cells #[.int .i64 a] e) = w1
 have hs1 : w1.heap.size = w.heap.size + 1 := by rw [<- hw1]; simp
 have hold : ∀ (b : Nat) o, w.heap[b]? = some o -> w1.heap[b]? = some o := fun b o h => by
  rw [<- hw1]
  show (w.heap.push _)[b]? = some o
  rw [Array.getElem?_push_lt (Array.getElem?_eq_some_iff.1 h).1, <- Array.getElem?_eq_getElem]; exact h
 have hnew : w1.heap[w.heap.size]? = some (.cells #[.int .i64 a] e (0, 0)) := by rw [<- hw1]; exact heap_alloc_new w _
 have ho1 : w1.os = w.os ∧ w1.tape = w.tape ∧ w1.output = w.output := by rw [<- hw1]; exact ⟨rfl, rfl, rfl⟩
 have hs : Src P i.size tL (.slice (some ⟨w.heap.size, 0, none⟩) 1 1) 1 [.int .i64 a] w1 := by
  refine Src.ofSlice w1 ht _ _ _ _ (by rw [hsi]; rfl) (fun j u hj => ?_) (fun u hu => by
   rw [List.mem_singleton] at hu; rw [hu]; rfl)
  cases j with
  | succ j => cases hj
  | zero =>
   cases hj
   show w1.cell? ⟨w.heap.size, 0, none⟩ = _
   simp [World.cell?, hnew]
 have grows : ∀ (base : Option Addr) (cap : Nat) (olds : List Value), hv = .slice base ns.length cap -> olds.length = ns.length -> (Builtin.firstCells i.size ns.length (.slice base ns.length cap)).run P w1.drew = .ok olds.toArray w1.drew -> cap < ns.length + 1 -> (∀ (y : Nat) n, ns[y]? = some n -> olds[y]? = some (.int .i64 n)) ->
   ∃ v2 w2 ib2 icap2 icur2 eT, (Builtin.append_ #[tL, tL] tL #[hv, .slice (some ⟨w.heap.size, 0, none⟩) 1 1]).run P w1 = .ok v2 w2 ∧ v2 = .slice (some ⟨ib2, 0, none⟩) (ns.length + 1) icap2 ∧
   w2.heap[ib2]? = some (.cells icur2 eT (0, 0)) ∧ ns.length + 1 <= icap2 ∧ icur2.size = icap2 ∧ (∀ (y : Nat) n, (ns ++ [a])[y]? = some n -> icur2[y]? = some (.int .i64 n)) ∧
   ((ib = some ib2 ∧ ∃ icur, w.heap[ib2]? = some (.cells icur eT (0, 0)) ∧ icur2.size = icur.size) ∨ ib2 = w.heap.size + 1) ∧ (∀ (b : Nat) o, b ≠ ib2 -> b < w.heap.size -> w.heap[b]? = some o -> w2.heap[b]? = some o) ∧
   w2.os = w.os ∧ w2.tape = w.tape ∧ w2.output = w.output ∧ w.heap.size < w2.heap.size ∧ ib2 < w2.heap.size := by
  rintro base cap olds rfl hol hfirst hlt hcells
  have hbytes : (ns.length + 1) * i.bytes <= 140737488355328 := by
   have h1 : (ns.length + 1) * i.bytes <= (ns.length + 1) * 128 := Nat.mul_le_mul_left _ (by omega)
   omega
  have hrun := run_append_grow_src (P := P) w1 tL tL tL e i zv ht hi hz1 base ns.length cap olds hfirst (.slice (some ⟨w.heap.size, 0, none⟩) 1 1) 1 [.int .i64 a] hs hlt (by omega) (growslice_fits (by omega) hbytes)
  have hge := grownCap_ge w1 (ns.length + 1) cap e
  have hzz : zv.cells.size = 1 := by omega
  refine ⟨_, _, w1.heap.size, grownCap w1 (ns.length + 1) cap e, _, e, hrun, rfl, heap_alloc_new w1.drew _, hge, ?_, fun y n hy => ?_, .inr hs1, fun b o hb hbl hh => ?_, ho1.1, ho1.2.1, ho1.2.2, ?_, ?_⟩
  ·simp only [Array.size_append, List.size_toArray, List.length_append, List.length_cons, List.length_nil, size_zeroCells, hol, hzz, Nat.mul_one]
   omega
  ·have hyl := (List.getElem?_eq_some_iff.1 hy).1
   rw [List.length_append, List.length_singleton] at hyl
   rw [Array.getElem?_append_left (by simp [hol]; exact hyl), List.getElem?_toArray]
   rcases Nat.lt_or_ge y ns.length with hlt2 | hge2
   ·rw [List.getElem?_append_left hlt2] at hy
    rw [List.getElem?_append_left (by rw [hol]; exact hlt2)]
    exact hcells y n hy
   ·have hye : y = ns.length := by omega
    subst hye
    rw [List.getElem?_append_right (Nat.le_refl _), Nat.sub_self] at hy
    cases hy
    rw [List.getElem?_append_right (by rw [hol]; exact Nat.le_refl _), hol, Nat.sub_self]; rfl
  ·have h9 := hold b o hh
   show (w1.heap.push _)[b]? = some o
   rw [Array.getElem?_push_lt (Array.getElem?_eq_some_iff.1 h9).1, <- Array.getElem?_eq_getElem]; exact h9
  ·show _ < (w1.heap.push _).size
   simp; omega
  ·show _ < (w1.heap.push _).size
   simp
 cases ib with
 | none =>
  obtain ⟨rfl, rfl⟩ := h
  exact grows none 0 [] rfl rfl (run_firstCells_none _ _ _ _ _) (by simp) (fun y n h => by simp at h)
 | some ib =>
  obtain ⟨icap, icur, eT, rfl, h2, h3, h4, h5, h6⟩ := h
  have hib : ib < w.heap.size := (Array.getElem?_eq_some_iff.1 h2).1
  have h2' := hold _ _ h2
  rcases Nat.lt_or_ge icap (ns.length + 1) with hlt | hge
  ·refine grows (some ⟨ib, 0, none⟩) icap (icur.toList.take ns.length) rfl (by simp; omega) ?_ hlt (fun y n hy => ?_)
   ·refine run_firstCells_some _ _ _ _ _ _ _ (by simp [hsi]; omega) (fun j u hj => ?_)
    rw [Addr.add_lit]
    rw [List.getElem?_take] at hj
    split at hj
    ·show w1.cell? _ = _
     simp only [World.cell?, h2', Nat.zero_add]
     simpa using hj
    ·cases hj
   ·rw [List.getElem?_take, if_pos (List.getElem?_eq_some_iff.1 hy).1]
    simpa using h6 y n hy
  ·have hrun := run_append_room_src (P := P) w1 tL tL tL e i ht hi ib 0 ns.length icap (.slice (some ⟨w.heap.size, 0, none⟩) 1 1) 1 [.int .i64 a] hs hge
    (fun j hj => by
     have hj' : j < 1 := hj
     rw [hsi]
     simp [World.cell?, h2']; omega) (fun j hj => by simp [World.frozen?, h2'])
   obtain ⟨arr', q1, q2, q3, q4, q5, q6, q7, q8⟩ := setCells_heap (w := w1) [.int .i64 a] (0 + ns.length * i.size) w1 icur h2'
   have hlast := World.cell?_setCells_in ib [.int .i64 a] (0 + ns.length * i.size) w1 (fun k hk => by
    have hk' : k < 1 := hk
    rw [hsi]
    simp [World.cell?, h2']; omega) 0 (by simp)
   refine ⟨_, _, ib, icap, arr', eT, hrun, rfl, q1, hge, by omega, fun y n hy => ?_, .inl ⟨rfl, icur, h2, q2⟩, fun b o hb _ hh => by rw [q4 b hb]; exact hold b o hh, q6.trans ho1.1, q7.trans ho1.2.1, q8.trans ho1.2.2, by omega, by omega⟩
   have hyl := (List.getElem?_eq_some_iff.1 hy).1
   rw [List.length_append, List.length_singleton] at hyl
   rcases Nat.lt_or_ge y ns.length with hlt2 | hge2
   ·rw [List.getElem?_append_left hlt2] at hy
    rw [q3 y (.inl (by rw [hsi]; omega))]
    exact h6 y n hy
   ·have hye : y = ns.length := by omega
    subst hye
    rw [List.getElem?_append_right (Nat.le_refl _), Nat.sub_self] at hy
    cases hy
    rw [hsi] at hlast q1
    simp only [Nat.zero_add, Nat.mul_one, Nat.add_zero] at hlast q1
    simpa [World.cell?, q1] using hlast
theorem here_ends {pg : Pg} {c : Cx} {own : Own} {tR e : TypeId} {tok : Tok} {es : List (List V)} {k : Int} {ps ps' : List (List Int)} {x : Value} {eO eI eI' : TypeId} (hI : Inv pg c own (fun i => [Blk.cells tR [.sl tok e es, .int .i64 k, .fr 0 ps] false][i]?) (fun p => p < 1))
  (hdom : ∀ p r, c.row p = some r -> p < 1) (hout : ∀ id, ¬ c.out id) (hrow : c.row 0 = some (.tuple #[x, encP ps], eO, eI)) {w' : World} {nb : Option Nat} (hfr : Frame (own.mine 0) c.w w') (hnb : ∀ b, nb = some b -> c.w.heap.size <= b ∧ b < w'.heap.size)
  (hd : DeepRep w' (fun b y => if nb = some b then some (true, 0) else own b y) 0 x ps' eO eI') :
  Ends pg none c own 1 ⟨.ret (.tup []), [.cells tR [.sl .no e es, .int .i64 k, .fr 0 ps'] false], none⟩ (.returned (.tuple #[])) w' := by
 have hpn : ∀ b x, own b x = none -> own.mine 0 b x = none := fun b x h => Own.mine_ne (by rw [h]; nofun)
 have hold : ∀ b y, b < c.w.heap.size -> (if nb = some b then some (true, 0) else own b y) = own b y := fun b y hb => by
  rw [if_neg]
  intro h; have := (hnb b h).1; omega
 obtain ⟨b, o, h1, hB⟩ := hI.blk 0 _ rfl
 obtain ⟨hL, hO⟩ := hB.opn rfl
 have hlt := hL.lt
 have hcell : ∀ y, y < 3 -> w'.cell? ⟨b, o + y, none⟩ = c.w.cell? ⟨b, o + y, none⟩ := fun y hy => hfr.cell (Own.mine_ne (by rw [hO y hy]; nofun)) hlt
 let c' : Cx := { c with w := w', row := fun t => if t = 0 then some (.tuple #[x, encP ps'], eO, eI') else none }
 have hx : ∀ b x, c.prot b x -> c'.prot b x ∧ c'.w.cell? ⟨b, x, none⟩ = c.w.cell? ⟨b, x, none⟩ := fun b x h => ⟨h, hfr.cell (hpn _ _ (hI.np b x h).1) (hI.np b x h).2⟩
 refine ⟨c', fun b y => if nb = some b then some (true, 0) else own b y, rfl, ⟨⟨hfr.os, hfr.tape, hfr.output, hfr.size, fun b o h => ?_⟩, fun b y hb hn => by rw [hold b y hb]; exact hn, hx, fun _ _ h => .inl h, .of rfl rfl⟩, fun _ _ _ h => h,
  ⟨fun id k' hk => ?_, fun t ht => ?_, fun b x hp => ?_, fun b y hn => ?_, fun id r hr => ?_, fun i cs hg => (hI.gl i cs hg).mono hx⟩, fun i t cs fz j hi => ?_, .tup rfl (fun j hj => by cases hj)⟩
 ·rcases hfr.blk b o h with h1 | ⟨a, a', e, fr, h1, h2, h3, h4⟩ | ⟨es, n, es', n', h1, h2, h3⟩
  ·exact .inl h1
  ·exact .inr (.inl ⟨a, a', e, fr, h1, h2, h3, fun x hx => h4 x (hpn b x hx)⟩)
  ·exact .inr (.inr ⟨es, n, es', n', h1, h2, fun hx => h3 (hpn b 0 hx)⟩)
 ·cases id with
  | succ id => cases hk
  | zero =>
   cases hk
   refine ⟨b, o, h1, fun j hj => ?_, fun _ => ⟨hL.kept hfr fun y hy => Own.mine_ne (by rw [hO y hy]; nofun), fun y hy => by rw [hold b _ hlt]; exact hO y hy⟩, nofun⟩
   have hj3 : j < 3 := hj
   have h0 := hB.cells
   obtain ⟨z, g1, g2, g3⟩ := h0 j hj3
   refine ⟨z, (hcell j hj3).trans g1, ?_, ?_⟩
   ·intro _
    refine g2 ?_
    rcases j with _ | _ | _ | j
    ·nofun
    ·nofun
    ·nofun
    ·omega
   ·rcases j with _ | _ | _ | j
    ·have g4 : VRep pg.P c (.sl tok e es) z := g3
     exact .pure (g4.sl_inv.mono hx)
    ·have g4 : VRep pg.P c (.int .i64 k) z := g3
     obtain rfl := g4.int_inv
     exact .pure (.int _ _)
    ·have g4 : VRep pg.P c (.fr 0 ps) z := g3
     obtain ⟨eO2, eI2, g5, g6⟩ := g4.fr_inv
     rw [hrow] at g5
     have g7 : z = x := by
      injection g5 with g5
      injection g5 with g5 _
      injection g5 with g5
      have := congrArg (fun a : Array Value => a.toList.head?) g5
      simpa using this.symm
     subst g7
     exact .fr rfl g6
    ·omega
 ·obtain ⟨r, hr⟩ := ht
  by_cases h0 : t = 0
  ·subst h0
   exact .inr ⟨x, ps', eO, eI', rfl, hd⟩
  ·have hr2 : (if t = 0 then some (Value.tuple #[x, encP ps'], eO, eI') else none) = some r := hr
   rw [if_neg h0] at hr2; cases hr2
 ·obtain ⟨h2, h3⟩ := hI.np b x hp
  exact ⟨by rw [hold b x h3]; exact h2, Nat.lt_of_lt_of_le h3 hfr.size⟩
 ·by_cases h2 : nb = some b
  ·exact (hnb b h2).2
  ·have hn2 : (if nb = some b then some (true, 0) else own b y) ≠ none := hn
   rw [if_neg h2] at hn2
   exact Nat.lt_of_lt_of_le (hI.fresh b y hn2) hfr.size
 ·rcases hI.dom id r hr with ⟨k', hk⟩ | h
  ·cases id with
   | zero => exact .inl ⟨_, rfl⟩
   | succ id => cases hk
  ·exact .inr h
 ·cases i with
  | succ i => cases hi
  | zero =>
   cases hi
   rcases j with _ | _ | _ | j <;> rfl
section
variable {pg : Pg} {P : Program} {ρ : Operand -> Value} {o : Oper} {w : World}
theorem r_move {x : Operand} {v : Value} (ho : o.op = .move x) (hx : ρ x = v) : (execOp ρ o).run P w = .ok (.value v) w := by simp [execOp, ho, hx]
theorem r_assign {x : Operand} {v : Value} (ho : o.op = .assign x) (hx : ρ x = v) : (execOp ρ o).run P w = .ok (.value v) w := by simp [execOp, ho, hx]
theorem r_nil {x : Operand} {a : Addr} (ho : o.op = .nilCheck x) (hx : ρ x = .pointer (some a)) : (execOp ρ o).run P w = .ok (.value (.pointer (some a))) w := by
 simp only [execOp, ho]; rw [hx]; rfl
theorem r_field {t f n b o' : Nat} {x : Operand} (ho : o.op = .fieldAddr t x f) (hq : fieldK pg t f (fun off ft => bif Nat.beq (sz pg.P ft) 0 then none else some off) = some n) (hx : ρ x = .pointer (some ⟨b, o', none⟩)) :
  (execOp ρ o).run pg.P w = .ok (.value (.pointer (some ⟨b, o' + n, none⟩))) w := by
 obtain ⟨fs, fd, hu, hf, h1⟩ := fieldK_some hq
 obtain ⟨hs, h2⟩ := condR_some h1
 have hs : sz pg.P fd.type ≠ 0 := by intro e; rw [e] at hs; cases hs
 obtain ⟨i, hi⟩ := info_of_sz hs
 cases h2
 simp only [execOp, ho, hx]
 simp [Instr.fieldAt, run_underlying hu, hf, Instr.sureAddr, fieldPlace, run_sizeOf' hi, hs, Addr.add_lit]
theorem r_load {t : TypeId} {b o' : Nat} {x : Operand} {v : Value} (ho : o.op = .load t x) (hk : kn P t = true) (ha : isAg P t = false) (hx : ρ x = .pointer (some ⟨b, o', none⟩)) (hc : w.cell? ⟨b, o', none⟩ = some v) : (execOp ρ o).run P w = .ok (.value v) w := by
 have hr := run_loadVar_cells (w := w) (b := b) (o := o') (n := 1) (f := fun _ => v) hk (fun h => by rw [ha] at h; cases h) (fun _ => Nat.one_pos) (fun j hj => by
  have : j = 0 := by omega
  subst this; exact hc)
 rw [ha] at hr
 simp only [execOp, ho, hx]
 simp only [Instr.loadAt, Instr.sureAddr, Sem.run_bind, Sem.run_pure, Result.andThen_ok, hr]; rfl
theorem r_bin {op : BinOp} {t t2 : TypeId} {x y : Operand} {va vb v : V} {z' : Value} (ho : o.op = .binOp op t x y t2) (h : binK P op t (isC y) va vb some = some v) (c : Cx) (hx : VRep P c va (ρ x)) (hy : VRep P c vb (ρ y)) (hz : ∀ z, VRep P c v z -> z = z') (hw : c.w = w) :
  (execOp ρ o).run P w = .ok (.value z') w := by
 subst hw
 obtain ⟨v, z, h1, h2, h3⟩ := binK_sound h hx hy x y (fun hc => by cases y <;> first | exact ⟨_, rfl⟩ | cases hc)
 cases h1
 obtain rfl := hz z h3
 simp only [execOp, ho]
 rw [Sem.run_bind, h2]
 rfl
theorem r_index {t e : TypeId} {x ix : Operand} {b o' n cap q : Nat} {kd : IntKind} {i : Int} (ho : o.op = .indexAddr t x ix) (hu : P.underlying t = some (.slice e)) (hk : kn P e = true) (hx : ρ x = .slice (some ⟨b, o', none⟩) n cap) (hi : ρ ix = .int kd i) (h0 : 0 <= i) (h1 : i < n) (hq : o' + i.toNat * sz P e = q) :
  (execOp ρ o).run P w = .ok (.value (.pointer (some ⟨b, q, none⟩))) w := by
 subst hq
 obtain ⟨d, hd⟩ := kn_some hk
 simp only [execOp, ho, hx, hi]
 simp [Instr.indexAt, asIntOf, run_underlying hu, h0, h1, run_sizeOf_u hd, Addr.add_lit]
theorem r_len {x : Operand} {t e : TypeId} {b : Option Addr} {n cap : Nat} (ho : o.op = .call { callee := .builtin .len, args := #[x], argTypes := #[t] }) (hu : P.underlying t = some (.slice e)) (hx : ρ x = .slice b n cap) : (execOp ρ o).run P w = .ok (.value (.int .i64 n)) w := by
 simp only [execOp, ho, resolve, Sem.run_bind]
 simp only [Sem.run_pure, Result.andThen_ok, invoke]
 simp [hx, builtin, Builtin.len_, Builtin.lenOf, run_underlying hu, goInt]
theorem r_slice {t e : TypeId} {x : Operand} (ho : o.op = .buildSlice t 1 #[(0, x)]) (hu : P.underlying t = some (.slice e)) (hs : sz P e = 1) {z : List V} (hz : zeroL P e = some z) (hzl : z.length = sz P e) {n : Int} (hx : ρ x = .int .i64 n) :
  (execOp ρ o).run P w = .ok (.value (.slice (some ⟨w.heap.size, 0, none⟩) 1 1)) (w.alloc (.cells #[.int .i64 n] e)) := by
 obtain ⟨i, zv, hi, hz1, hz2, hz3⟩ := zeroL_some hz
 have hsi : i.size = 1 := by rw [<- hs]; simp [sz, hi]
 have hzz : zv.cells.size = 1 := by omega
 obtain ⟨z0, hz0⟩ : ∃ z0, zv.cells = #[z0] := by
  revert hzz
  generalize zv.cells = l
  obtain ⟨l⟩ := l
  intro hzz
  match l, hzz with
  | [z], _ => exact ⟨z, rfl⟩
 have hc : (Value.int .i64 n).cells = #[.int .i64 n] := rfl
 have hr : Array.range 1 = #[0] := by rfl
 simp only [execOp, ho]
 simp [Instr.buildSlice, run_underlying hu, sizeOf, typeInfo, hi, newRow, zeroValue, hz1, hsi, hx, Instr.fill, hz0, hc, hr]
theorem r_append {x y : Operand} {t : TypeId} {w' : World} {v : Value} (ho : o.op = .call { callee := .builtin .append, args := #[x, y], argTypes := #[t, t] }) (h : (Builtin.append_ #[t, t] o.type #[ρ x, ρ y]).run P w = .ok v w') : (execOp ρ o).run P w = .ok (.value v) w' := by
 simp only [execOp, ho, resolve, Sem.run_bind]
 simp only [Sem.run_pure, Result.andThen_ok, invoke]
 simp [builtin, h]
theorem r_store {t : TypeId} {x y : Operand} {b o' : Nat} {arr : Array Value} {e : TypeId} {v : Value} (ho : o.op = .store t x y) (hk : kn P t = true) (hs : sz P t = 1) (hx : ρ x = .pointer (some ⟨b, o', none⟩)) (hy : ρ y = v) (hv : v.cells = #[v]) (h1 : v.oneCell' = true) (hb : w.heap[b]? = some (.cells arr e (0, 0))) (ho' : o' < arr.size) :
  (execOp ρ o).run P w = .ok .skip (w.setCells b o' [v]) := by
 obtain ⟨d, hd⟩ := kn_some hk
 have hrun := run_storeCells_cells (P := P) b o' [v] 0 w (fun j hj => by
  have : j < 1 := hj
  simp [World.cell?, hb]; omega) (fun j hj => by simp [World.frozen?, hb]) (fun u hu => by rw [List.mem_singleton] at hu; rw [hu]; exact h1)
 rw [Nat.add_zero] at hrun
 have hst : (Instr.storeAt t (.pointer (some ⟨b, o', none⟩)) v).run P w = .ok () (w.setCells b o' [v]) := by
  simp only [Instr.storeAt, Instr.sureAddr, storeVar, Sem.run_bind, Sem.run_pure, Result.andThen_ok, run_sizeOf_u hd]
  have : ¬ ((#[v] : Array Value).size ≠ sz P t) := by rw [hs]; simp
  simp only [hv, if_neg this, Sem.run_bind, Sem.run_pure, Result.andThen_ok]
  exact hrun
 simp only [execOp, ho, hx, hy, Sem.run_bind, hst, Result.andThen_ok, Sem.run_pure]
end
def A (l : List Value) : Act := { tmps := l.toArray, defers := [] }
theorem A_put (l : List Value) (d : Nat) (v : Value) : (A l).put (some d) v = A (l.set d v) := by simp [A, Act.put]
def oAt (ops : Array Oper) (i : Nat) : Oper := match ops[i]? with | some o => o | none => { dst := none, op := .move (.tmp 0), type := 0, pos := "", after := #[], guard := none }
def Qh (R : World -> Prop) : Exit -> Act -> World -> Prop
 | .normal, a, w => a.defers = [] ∧ R w
 | _, _, _ => False
section
variable {P : Program} {ops : Array Oper} {R : World -> Prop} {S : World -> Prop} {l l' : List Value} {w w' : World} {v : Value}
theorem takeO (i d : Nat) {fuel : Nat} {listed : Array Bool} (hrun : ∀ w, S w -> (execOp (A l).eval (oAt ops i)).run P w = .ok (.value v) w) (hS : S w) (hl : l.set d v = l') (hi : ops[i]? = some (oAt ops i)) (hs : Region.noSelect ops = true) (hf : Region.free .any ops listed i = true)
  (hr : (Region.ready .any ops listed).contains i = true) (hg : (oAt ops i).guard = none) (hd : (oAt ops i).dst = some d) (h : wpAnyH P .any ops (Qh R) S fuel (listed.setIfInBounds i true) (A l') w) : wpAnyH P .any ops (Qh R) S (fuel + 1) listed (A l) w := by
 refine wpAnyH_take (v := v) hi hs hf hr (fun _ _ _ h => h) (.inl ⟨by unfold Region.wanted; rw [hg], hrun⟩) hS ?_
 rw [hd, A_put, hl]; exact h
theorem wpOp_do (i d : Nat) {K : Act -> World -> Prop} {Q : Exit -> Act -> World -> Prop} (hrun : (execOp (A l).eval (oAt ops i)).run P w = .ok (.value v) w') (hl : l.set d v = l') (hi : ops[i]? = some (oAt ops i)) (hg : (oAt ops i).guard = none) (hd : (oAt ops i).dst = some d) (h : K (A l') w') : wpOp P ops Q i K (A l) w := by
 unfold wpOp
 rw [hi]
 simp only [Region.wanted, hg, if_true]
 left
 unfold Oper.wp
 rw [hrun]
 show K ((A l).put (oAt ops i).dst v) w'
 rw [hd, A_put, hl]; exact h
theorem wpOp_skip (i : Nat) {K : Act -> World -> Prop} {Q : Exit -> Act -> World -> Prop} (hrun : (execOp (A l).eval (oAt ops i)).run P w = .ok .skip w') (hi : ops[i]? = some (oAt ops i)) (hg : (oAt ops i).guard = none) (hd : (oAt ops i).dst = none) (h : K (A l) w') : wpOp P ops Q i K (A l) w := by
 unfold wpOp
 rw [hi]
 simp only [Region.wanted, hg, if_true]
 left
 unfold Oper.wp
 rw [hrun]
 show K ((A l).put (oAt ops i).dst undef) w'
 rw [hd]; exact h
theorem wpOps_do (i d : Nat) {rest : List Nat} {Q : Exit -> Act -> World -> Prop} (hrun : (execOp (A l).eval (oAt ops i)).run P w = .ok (.value v) w) (hl : l.set d v = l') (hi : ops[i]? = some (oAt ops i)) (hg : (oAt ops i).guard = none) (hd : (oAt ops i).dst = some d) (h : wpOps P ops Q rest (A l') w) : wpOps P ops Q (i :: rest) (A l) w := by
 rw [wpOps_cons]
 exact wpOp_do i d hrun hl hi hg hd h
theorem one_of {i : Nat} {fuel : Nat} {listed : Array Bool} {a : Act} (hr : Region.ready .any ops listed = [i]) (h : wpOp P ops (Qh R) i (fun a' w' => S w' ∧ wpAnyH P .any ops (Qh R) S fuel (listed.setIfInBounds i true) a' w') a w) : wpAnyH P .any ops (Qh R) S (fuel + 1) listed a w :=
 wpAnyH_all hr (by nofun) (fun j hj => by rw [List.mem_singleton] at hj; rw [hj]; exact h)
end
end Go.Proofs.Ab
namespace Go.Proofs.YtennkhdlpbggkaaDoor
open Go Go.Proofs.Ab
noncomputable def hereFn : Go.Func := match Sp.P.funcs[(64 : Nat)]? with | some f => f | none => { name := "", origin := "", params := #[], resultTypes := #[], nfree := 0, ntmps := 0, results := #[], body := none, norace := false, file := "", endLine := 0, tmpNames := #[] }
def cA : Code -> Code | .seq a _ => a | c => c
def cB : Code -> Code | .seq _ b => b | c => c
def cT : Code -> Code | .cond _ a _ => a | c => c
def opsOf : Code -> Array Oper | .region _ ops _ => ops | _ => #[]
noncomputable def hereCode : Code := (hereFn.body).getD .skip
noncomputable def o0 : Array Oper := opsOf (cA hereCode)
noncomputable def o1 : Array Oper := opsOf (cA (cB hereCode))
noncomputable def o2 : Array Oper := opsOf (cT (cB (cB hereCode)))
theorem here_fn : Sp.P.funcs[(64 : Nat)]? = some hereFn := by kernel_rfl
theorem here_body : hereFn.body = some (.seq (.region 0 o0 false) (.seq (.region 1 o1 false) (.cond (.tmp 9) (.region 2 o2 true) .skip))) := by kernel_rfl
theorem here_ntmps : hereFn.ntmps = 40 := by kernel_rfl
theorem here_results : hereFn.results = #[] := by kernel_rfl
def cx0 (w : World) : Cx := { w := w, blk := fun _ => none, row := fun _ => none, prot := fun _ _ => False, out := fun _ => False }
theorem wrap_id {n : Int} (h0 : -9223372036854775808 <= n) (h1 : n <= 9223372036854775807) : IntKind.i64.wrap n = n := IntWalk.i64_in n ⟨h0, h1⟩
theorem here_walk {R : World -> Prop} {S : World -> Prop} {w w2 : World} {b o gb cap m bT oT nT cT : Nat} {k a : Int} {hv v2 : Value} {cur : Array Value} {eG : TypeId} {z : List V} (szI : sz Sp.P 123 = 1) (szT : sz Sp.P 61 = 4) (szN : sz Sp.P 3 = 1) (hz : zeroL Sp.P 3 = some z) (hzl : z.length = sz Sp.P 3)
  (hS : ∀ w', S w' -> w'.cell? ⟨b, o, none⟩ = some (.slice (some ⟨bT, oT, none⟩) nT cT) ∧ w'.cell? ⟨b, o + 1, none⟩ = some (.int .i64 k) ∧ w'.cell? ⟨b, o + 2, none⟩ = some (.slice (some ⟨gb, 0, none⟩) (m + 1) cap) ∧ w'.cell? ⟨bT, oT + k.toNat * 4 + 3, none⟩ = some (.int .i64 a))
  (hk : 0 <= k) (hk2 : k < nT) (hm : m < most) (hS0 : S w) (hv0 : w.cell? ⟨gb, m, none⟩ = some hv) (hv1 : (w.alloc (.cells #[.int .i64 a] 3)).cell? ⟨gb, m, none⟩ = some hv) (hS1 : S (w.alloc (.cells #[.int .i64 a] 3)))
  (hap : (Builtin.append_ #[123, 123] 123 #[hv, .slice (some ⟨w.heap.size, 0, none⟩) 1 1]).run Sp.P (w.alloc (.cells #[.int .i64 a] 3)) = .ok v2 w2) (hS2 : S w2) (hgb : w2.heap[gb]? = some (.cells cur eG (0, 0))) (hm2 : m < cur.size) (hv2c : v2.cells = #[v2]) (hv21 : v2.oneCell' = true)
  (hS3 : S (w2.setCells gb m [v2])) (hR : R (w2.setCells gb m [v2])) : wpAnyH Sp.P .any o2 (Qh R) S 31 (Array.replicate 31 false) (A [.pointer (some ⟨b, o, none⟩), Go.undef, .int .i64 ((m + 1 : Nat) : Int), .pointer (some ⟨b, o, none⟩), .pointer (some ⟨b, o, none⟩), .pointer (some ⟨b, o + 2, none⟩), .slice (some ⟨gb, 0, none⟩) (m + 1) cap, .int .i64 ((m + 1 : Nat) : Int), .int .i64 ((m + 1 : Nat) : Int), .bool true, Go.undef, Go.undef, Go.undef, Go.undef, Go.undef, Go.undef, Go.undef, Go.undef, Go.undef, Go.undef, Go.undef, Go.undef, Go.undef, Go.undef, Go.undef, Go.undef, Go.undef, Go.undef, Go.undef, Go.undef, Go.undef, Go.undef, Go.undef, Go.undef, Go.undef, Go.undef, Go.undef, Go.undef, Go.undef, Go.undef]) w := by
 have hm' : m < 1099511627776 := hm
 have hwr : IntKind.i64.wrap (((m + 1 : Nat) : Int) - 1) = (m : Int) := by rw [wrap_id (by omega) (by omega)]; omega
 refine takeO 0 10 (v := .pointer (some ⟨b, o, none⟩)) (l' := [.pointer (some ⟨b, o, none⟩), Go.undef, .int .i64 ((m + 1 : Nat) : Int), .pointer (some ⟨b, o, none⟩), .pointer (some ⟨b, o, none⟩), .pointer (some ⟨b, o + 2, none⟩), .slice (some ⟨gb, 0, none⟩) (m + 1) cap, .int .i64 ((m + 1 : Nat) : Int), .int .i64 ((m + 1 : Nat) : Int), .bool true, .pointer (some ⟨b, o, none⟩), Go.undef, Go.undef, Go.undef, Go.undef, Go.undef, Go.undef, Go.undef, Go.undef, Go.undef, Go.undef, Go.undef, Go.undef, Go.undef, Go.undef, Go.undef, Go.undef, Go.undef, Go.undef, Go.undef, Go.undef, Go.undef, Go.undef, Go.undef, Go.undef, Go.undef, Go.undef, Go.undef, Go.undef, Go.undef]) (fun w hw => r_move (x := .tmp 0) (by kernel_rfl) rfl) hS0 rfl (by kernel_rfl) (by kernel_rfl) (by kernel_rfl) (by kernel_rfl) (by kernel_rfl) (by kernel_rfl) ?_
 refine takeO 1 11 (v := .pointer (some ⟨b, o, none⟩)) (l' := [.pointer (some ⟨b, o, none⟩), Go.undef, .int .i64 ((m + 1 : Nat) : Int), .pointer (some ⟨b, o, none⟩), .pointer (some ⟨b, o, none⟩), .pointer (some ⟨b, o + 2, none⟩), .slice (some ⟨gb, 0, none⟩) (m + 1) cap, .int .i64 ((m + 1 : Nat) : Int), .int .i64 ((m + 1 : Nat) : Int), .bool true, .pointer (some ⟨b, o, none⟩), .pointer (some ⟨b, o, none⟩), Go.undef, Go.undef, Go.undef, Go.undef, Go.undef, Go.undef, Go.undef, Go.undef, Go.undef, Go.undef, Go.undef, Go.undef, Go.undef, Go.undef, Go.undef, Go.undef, Go.undef, Go.undef, Go.undef, Go.undef, Go.undef, Go.undef, Go.undef, Go.undef, Go.undef, Go.undef, Go.undef, Go.undef]) (fun w hw => r_nil (x := .tmp 10) (by kernel_rfl) rfl) hS0 rfl (by kernel_rfl) (by kernel_rfl) (by kernel_rfl) (by kernel_rfl) (by kernel_rfl) (by kernel_rfl) ?_
 refine takeO 2 12 (v := .pointer (some ⟨b, o + 2, none⟩)) (l' := [.pointer (some ⟨b, o, none⟩), Go.undef, .int .i64 ((m + 1 : Nat) : Int), .pointer (some ⟨b, o, none⟩), .pointer (some ⟨b, o, none⟩), .pointer (some ⟨b, o + 2, none⟩), .slice (some ⟨gb, 0, none⟩) (m + 1) cap, .int .i64 ((m + 1 : Nat) : Int), .int .i64 ((m + 1 : Nat) : Int), .bool true, .pointer (some ⟨b, o, none⟩), .pointer (some ⟨b, o, none⟩), .pointer (some ⟨b, o + 2, none⟩), Go.undef, Go.undef, Go.undef, Go.undef, Go.undef, Go.undef, Go.undef, Go.undef, Go.undef, Go.undef, Go.undef, Go.undef, Go.undef, Go.undef, Go.undef, Go.undef, Go.undef, Go.undef, Go.undef, Go.undef, Go.undef, Go.undef, Go.undef, Go.undef, Go.undef, Go.undef, Go.undef]) (fun w hw => r_field (pg := Sp) (t := 74) (f := 1) (x := .tmp 11) (n := 2) (by kernel_rfl) (by kernel_rfl) rfl) hS0 rfl (by kernel_rfl) (by kernel_rfl) (by kernel_rfl) (by kernel_rfl) (by kernel_rfl) (by kernel_rfl) ?_
 refine takeO 3 13 (v := .slice (some ⟨gb, 0, none⟩) (m + 1) cap) (l' := [.pointer (some ⟨b, o, none⟩), Go.undef, .int .i64 ((m + 1 : Nat) : Int), .pointer (some ⟨b, o, none⟩), .pointer (some ⟨b, o, none⟩), .pointer (some ⟨b, o + 2, none⟩), .slice (some ⟨gb, 0, none⟩) (m + 1) cap, .int .i64 ((m + 1 : Nat) : Int), .int .i64 ((m + 1 : Nat) : Int), .bool true, .pointer (some ⟨b, o, none⟩), .pointer (some ⟨b, o, none⟩), .pointer (some ⟨b, o + 2, none⟩), .slice (some ⟨gb, 0, none⟩) (m + 1) cap, Go.undef, Go.undef, Go.undef, Go.undef, Go.undef, Go.undef, Go.undef, Go.undef, Go.undef, Go.undef, Go.undef, Go.undef, Go.undef, Go.undef, Go.undef, Go.undef, Go.undef, Go.undef, Go.undef, Go.undef, Go.undef, Go.undef, Go.undef, Go.undef, Go.undef, Go.undef]) (fun w hw => r_load (t := 72) (x := .tmp 12) (by kernel_rfl) (by kernel_rfl) (by kernel_rfl) rfl (hS w hw).2.2.1) hS0 rfl (by kernel_rfl) (by kernel_rfl) (by kernel_rfl) (by kernel_rfl) (by kernel_rfl) (by kernel_rfl) ?_
 refine takeO 4 14 (v := .int .i64 ((m + 1 : Nat) : Int)) (l' := [.pointer (some ⟨b, o, none⟩), Go.undef, .int .i64 ((m + 1 : Nat) : Int), .pointer (some ⟨b, o, none⟩), .pointer (some ⟨b, o, none⟩), .pointer (some ⟨b, o + 2, none⟩), .slice (some ⟨gb, 0, none⟩) (m + 1) cap, .int .i64 ((m + 1 : Nat) : Int), .int .i64 ((m + 1 : Nat) : Int), .bool true, .pointer (some ⟨b, o, none⟩), .pointer (some ⟨b, o, none⟩), .pointer (some ⟨b, o + 2, none⟩), .slice (some ⟨gb, 0, none⟩) (m + 1) cap, .int .i64 ((m + 1 : Nat) : Int), Go.undef, Go.undef, Go.undef, Go.undef, Go.undef, Go.undef, Go.undef, Go.undef, Go.undef, Go.undef, Go.undef, Go.undef, Go.undef, Go.undef, Go.undef, Go.undef, Go.undef, Go.undef, Go.undef, Go.undef, Go.undef, Go.undef, Go.undef, Go.undef, Go.undef]) (fun w hw => r_move (x := .tmp 2) (by kernel_rfl) rfl) hS0 rfl (by kernel_rfl) (by kernel_rfl) (by kernel_rfl) (by kernel_rfl) (by kernel_rfl) (by kernel_rfl) ?_
 refine takeO 5 15 (v := .int .i64 (m : Int)) (l' := [.pointer (some ⟨b, o, none⟩), Go.undef, .int .i64 ((m + 1 : Nat) : Int), .pointer (some ⟨b, o, none⟩), .pointer (some ⟨b, o, none⟩), .pointer (some ⟨b, o + 2, none⟩), .slice (some ⟨gb, 0, none⟩) (m + 1) cap, .int .i64 ((m + 1 : Nat) : Int), .int .i64 ((m + 1 : Nat) : Int), .bool true, .pointer (some ⟨b, o, none⟩), .pointer (some ⟨b, o, none⟩), .pointer (some ⟨b, o + 2, none⟩), .slice (some ⟨gb, 0, none⟩) (m + 1) cap, .int .i64 ((m + 1 : Nat) : Int), .int .i64 (m : Int), Go.undef, Go.undef, Go.undef, Go.undef, Go.undef, Go.undef, Go.undef, Go.undef, Go.undef, Go.undef, Go.undef, Go.undef, Go.undef, Go.undef, Go.undef, Go.undef, Go.undef, Go.undef, Go.undef, Go.undef, Go.undef, Go.undef, Go.undef, Go.undef]) (fun w hw => r_bin (op := .sub) (t := 3) (t2 := 3) (x := .tmp 14) (y := .const (.int .i64 1)) (va := .int .i64 ((m + 1 : Nat) : Int)) (vb := .int .i64 1) (v := .int .i64 (IntKind.i64.wrap (((m + 1 : Nat) : Int) - 1))) (by kernel_rfl) rfl (cx0 w) (.pure (.int _ _)) (.pure (.int _ _)) (fun z hz => by rw [hz.int_inv, hwr]) rfl) hS0 rfl (by kernel_rfl) (by kernel_rfl) (by kernel_rfl) (by kernel_rfl) (by kernel_rfl) (by kernel_rfl) ?_
 refine takeO 6 16 (v := .pointer (some ⟨b, o, none⟩)) (l' := [.pointer (some ⟨b, o, none⟩), Go.undef, .int .i64 ((m + 1 : Nat) : Int), .pointer (some ⟨b, o, none⟩), .pointer (some ⟨b, o, none⟩), .pointer (some ⟨b, o + 2, none⟩), .slice (some ⟨gb, 0, none⟩) (m + 1) cap, .int .i64 ((m + 1 : Nat) : Int), .int .i64 ((m + 1 : Nat) : Int), .bool true, .pointer (some ⟨b, o, none⟩), .pointer (some ⟨b, o, none⟩), .pointer (some ⟨b, o + 2, none⟩), .slice (some ⟨gb, 0, none⟩) (m + 1) cap, .int .i64 ((m + 1 : Nat) : Int), .int .i64 (m : Int), .pointer (some ⟨b, o, none⟩), Go.undef, Go.undef, Go.undef, Go.undef, Go.undef, Go.undef, Go.undef, Go.undef, Go.undef, Go.undef, Go.undef, Go.undef, Go.undef, Go.undef, Go.undef, Go.undef, Go.undef, Go.undef, Go.undef, Go.undef, Go.undef, Go.undef, Go.undef]) (fun w hw => r_move (x := .tmp 0) (by kernel_rfl) rfl) hS0 rfl (by kernel_rfl) (by kernel_rfl) (by kernel_rfl) (by kernel_rfl) (by kernel_rfl) (by kernel_rfl) ?_
 refine takeO 7 17 (v := .pointer (some ⟨b, o, none⟩)) (l' := [.pointer (some ⟨b, o, none⟩), Go.undef, .int .i64 ((m + 1 : Nat) : Int), .pointer (some ⟨b, o, none⟩), .pointer (some ⟨b, o, none⟩), .pointer (some ⟨b, o + 2, none⟩), .slice (some ⟨gb, 0, none⟩) (m + 1) cap, .int .i64 ((m + 1 : Nat) : Int), .int .i64 ((m + 1 : Nat) : Int), .bool true, .pointer (some ⟨b, o, none⟩), .pointer (some ⟨b, o, none⟩), .pointer (some ⟨b, o + 2, none⟩), .slice (some ⟨gb, 0, none⟩) (m + 1) cap, .int .i64 ((m + 1 : Nat) : Int), .int .i64 (m : Int), .pointer (some ⟨b, o, none⟩), .pointer (some ⟨b, o, none⟩), Go.undef, Go.undef, Go.undef, Go.undef, Go.undef, Go.undef, Go.undef, Go.undef, Go.undef, Go.undef, Go.undef, Go.undef, Go.undef, Go.undef, Go.undef, Go.undef, Go.undef, Go.undef, Go.undef, Go.undef, Go.undef, Go.undef]) (fun w hw => r_nil (x := .tmp 16) (by kernel_rfl) rfl) hS0 rfl (by kernel_rfl) (by kernel_rfl) (by kernel_rfl) (by kernel_rfl) (by kernel_rfl) (by kernel_rfl) ?_
 refine takeO 8 18 (v := .pointer (some ⟨b, o + 2, none⟩)) (l' := [.pointer (some ⟨b, o, none⟩), Go.undef, .int .i64 ((m + 1 : Nat) : Int), .pointer (some ⟨b, o, none⟩), .pointer (some ⟨b, o, none⟩), .pointer (some ⟨b, o + 2, none⟩), .slice (some ⟨gb, 0, none⟩) (m + 1) cap, .int .i64 ((m + 1 : Nat) : Int), .int .i64 ((m + 1 : Nat) : Int), .bool true, .pointer (some ⟨b, o, none⟩), .pointer (some ⟨b, o, none⟩), .pointer (some ⟨b, o + 2, none⟩), .slice (some ⟨gb, 0, none⟩) (m + 1) cap, .int .i64 ((m + 1 : Nat) : Int), .int .i64 (m : Int), .pointer (some ⟨b, o, none⟩), .pointer (some ⟨b, o, none⟩), .pointer (some ⟨b, o + 2, none⟩), Go.undef, Go.undef, Go.undef, Go.undef, Go.undef, Go.undef, Go.undef, Go.undef, Go.undef, Go.undef, Go.undef, Go.undef, Go.undef, Go.undef, Go.undef, Go.undef, Go.undef, Go.undef, Go.undef, Go.undef, Go.undef]) (fun w hw => r_field (pg := Sp) (t := 74) (f := 1) (x := .tmp 17) (n := 2) (by kernel_rfl) (by kernel_rfl) rfl) hS0 rfl (by kernel_rfl) (by kernel_rfl) (by kernel_rfl) (by kernel_rfl) (by kernel_rfl) (by kernel_rfl) ?_
 refine takeO 9 19 (v := .slice (some ⟨gb, 0, none⟩) (m + 1) cap) (l' := [.pointer (some ⟨b, o, none⟩), Go.undef, .int .i64 ((m + 1 : Nat) : Int), .pointer (some ⟨b, o, none⟩), .pointer (some ⟨b, o, none⟩), .pointer (some ⟨b, o + 2, none⟩), .slice (some ⟨gb, 0, none⟩) (m + 1) cap, .int .i64 ((m + 1 : Nat) : Int), .int .i64 ((m + 1 : Nat) : Int), .bool true, .pointer (some ⟨b, o, none⟩), .pointer (some ⟨b, o, none⟩), .pointer (some ⟨b, o + 2, none⟩), .slice (some ⟨gb, 0, none⟩) (m + 1) cap, .int .i64 ((m + 1 : Nat) : Int), .int .i64 (m : Int), .pointer (some ⟨b, o, none⟩), .pointer (some ⟨b, o, none⟩), .pointer (some ⟨b, o + 2, none⟩), .slice (some ⟨gb, 0, none⟩) (m + 1) cap, Go.undef, Go.undef, Go.undef, Go.undef, Go.undef, Go.undef, Go.undef, Go.undef, Go.undef, Go.undef, Go.undef, Go.undef, Go.undef, Go.undef, Go.undef, Go.undef, Go.undef, Go.undef, Go.undef, Go.undef]) (fun w hw => r_load (t := 72) (x := .tmp 18) (by kernel_rfl) (by kernel_rfl) (by kernel_rfl) rfl (hS w hw).2.2.1) hS0 rfl (by kernel_rfl) (by kernel_rfl) (by kernel_rfl) (by kernel_rfl) (by kernel_rfl) (by kernel_rfl) ?_
 refine takeO 10 20 (v := .int .i64 ((m + 1 : Nat) : Int)) (l' := [.pointer (some ⟨b, o, none⟩), Go.undef, .int .i64 ((m + 1 : Nat) : Int), .pointer (some ⟨b, o, none⟩), .pointer (some ⟨b, o, none⟩), .pointer (some ⟨b, o + 2, none⟩), .slice (some ⟨gb, 0, none⟩) (m + 1) cap, .int .i64 ((m + 1 : Nat) : Int), .int .i64 ((m + 1 : Nat) : Int), .bool true, .pointer (some ⟨b, o, none⟩), .pointer (some ⟨b, o, none⟩), .pointer (some ⟨b, o + 2, none⟩), .slice (some ⟨gb, 0, none⟩) (m + 1) cap, .int .i64 ((m + 1 : Nat) : Int), .int .i64 (m : Int), .pointer (some ⟨b, o, none⟩), .pointer (some ⟨b, o, none⟩), .pointer (some ⟨b, o + 2, none⟩), .slice (some ⟨gb, 0, none⟩) (m + 1) cap, .int .i64 ((m + 1 : Nat) : Int), Go.undef, Go.undef, Go.undef, Go.undef, Go.undef, Go.undef, Go.undef, Go.undef, Go.undef, Go.undef, Go.undef, Go.undef, Go.undef, Go.undef, Go.undef, Go.undef, Go.undef, Go.undef, Go.undef]) (fun w hw => r_move (x := .tmp 2) (by kernel_rfl) rfl) hS0 rfl (by kernel_rfl) (by kernel_rfl) (by kernel_rfl) (by kernel_rfl) (by kernel_rfl) (by kernel_rfl) ?_
 refine takeO 11 21 (v := .int .i64 (m : Int)) (l' := [.pointer (some ⟨b, o, none⟩), Go.undef, .int .i64 ((m + 1 : Nat) : Int), .pointer (some ⟨b, o, none⟩), .pointer (some ⟨b, o, none⟩), .pointer (some ⟨b, o + 2, none⟩), .slice (some ⟨gb, 0, none⟩) (m + 1) cap, .int .i64 ((m + 1 : Nat) : Int), .int .i64 ((m + 1 : Nat) : Int), .bool true, .pointer (some ⟨b, o, none⟩), .pointer (some ⟨b, o, none⟩), .pointer (some ⟨b, o + 2, none⟩), .slice (some ⟨gb, 0, none⟩) (m + 1) cap, .int .i64 ((m + 1 : Nat) : Int), .int .i64 (m : Int), .pointer (some ⟨b, o, none⟩), .pointer (some ⟨b, o, none⟩), .pointer (some ⟨b, o + 2, none⟩), .slice (some ⟨gb, 0, none⟩) (m + 1) cap, .int .i64 ((m + 1 : Nat) : Int), .int .i64 (m : Int), Go.undef, Go.undef, Go.undef, Go.undef, Go.undef, Go.undef, Go.undef, Go.undef, Go.undef, Go.undef, Go.undef, Go.undef, Go.undef, Go.undef, Go.undef, Go.undef, Go.undef, Go.undef]) (fun w hw => r_bin (op := .sub) (t := 3) (t2 := 3) (x := .tmp 20) (y := .const (.int .i64 1)) (va := .int .i64 ((m + 1 : Nat) : Int)) (vb := .int .i64 1) (v := .int .i64 (IntKind.i64.wrap (((m + 1 : Nat) : Int) - 1))) (by kernel_rfl) rfl (cx0 w) (.pure (.int _ _)) (.pure (.int _ _)) (fun z hz => by rw [hz.int_inv, hwr]) rfl) hS0 rfl (by kernel_rfl) (by kernel_rfl) (by kernel_rfl) (by kernel_rfl) (by kernel_rfl) (by kernel_rfl) ?_
 refine takeO 12 22 (v := .pointer (some ⟨gb, m, none⟩)) (l' := [.pointer (some ⟨b, o, none⟩), Go.undef, .int .i64 ((m + 1 : Nat) : Int), .pointer (some ⟨b, o, none⟩), .pointer (some ⟨b, o, none⟩), .pointer (some ⟨b, o + 2, none⟩), .slice (some ⟨gb, 0, none⟩) (m + 1) cap, .int .i64 ((m + 1 : Nat) : Int), .int .i64 ((m + 1 : Nat) : Int), .bool true, .pointer (some ⟨b, o, none⟩), .pointer (some ⟨b, o, none⟩), .pointer (some ⟨b, o + 2, none⟩), .slice (some ⟨gb, 0, none⟩) (m + 1) cap, .int .i64 ((m + 1 : Nat) : Int), .int .i64 (m : Int), .pointer (some ⟨b, o, none⟩), .pointer (some ⟨b, o, none⟩), .pointer (some ⟨b, o + 2, none⟩), .slice (some ⟨gb, 0, none⟩) (m + 1) cap, .int .i64 ((m + 1 : Nat) : Int), .int .i64 (m : Int), .pointer (some ⟨gb, m, none⟩), Go.undef, Go.undef, Go.undef, Go.undef, Go.undef, Go.undef, Go.undef, Go.undef, Go.undef, Go.undef, Go.undef, Go.undef, Go.undef, Go.undef, Go.undef, Go.undef, Go.undef]) (fun w hw => r_index (t := 72) (e := 123) (x := .tmp 19) (ix := .tmp 21) (i := (m : Int)) (by kernel_rfl) (by kernel_rfl) (by kernel_rfl) rfl rfl (by omega) (by omega) (by rw [szI]; simp)) hS0 rfl (by kernel_rfl) (by kernel_rfl) (by kernel_rfl) (by kernel_rfl) (by kernel_rfl) (by kernel_rfl) ?_
 refine takeO 14 24 (v := .pointer (some ⟨b, o, none⟩)) (l' := [.pointer (some ⟨b, o, none⟩), Go.undef, .int .i64 ((m + 1 : Nat) : Int), .pointer (some ⟨b, o, none⟩), .pointer (some ⟨b, o, none⟩), .pointer (some ⟨b, o + 2, none⟩), .slice (some ⟨gb, 0, none⟩) (m + 1) cap, .int .i64 ((m + 1 : Nat) : Int), .int .i64 ((m + 1 : Nat) : Int), .bool true, .pointer (some ⟨b, o, none⟩), .pointer (some ⟨b, o, none⟩), .pointer (some ⟨b, o + 2, none⟩), .slice (some ⟨gb, 0, none⟩) (m + 1) cap, .int .i64 ((m + 1 : Nat) : Int), .int .i64 (m : Int), .pointer (some ⟨b, o, none⟩), .pointer (some ⟨b, o, none⟩), .pointer (some ⟨b, o + 2, none⟩), .slice (some ⟨gb, 0, none⟩) (m + 1) cap, .int .i64 ((m + 1 : Nat) : Int), .int .i64 (m : Int), .pointer (some ⟨gb, m, none⟩), Go.undef, .pointer (some ⟨b, o, none⟩), Go.undef, Go.undef, Go.undef, Go.undef, Go.undef, Go.undef, Go.undef, Go.undef, Go.undef, Go.undef, Go.undef, Go.undef, Go.undef, Go.undef, Go.undef]) (fun w hw => r_move (x := .tmp 0) (by kernel_rfl) rfl) hS0 rfl (by kernel_rfl) (by kernel_rfl) (by kernel_rfl) (by kernel_rfl) (by kernel_rfl) (by kernel_rfl) ?_
 refine takeO 15 25 (v := .pointer (some ⟨b, o, none⟩)) (l' := [.pointer (some ⟨b, o, none⟩), Go.undef, .int .i64 ((m + 1 : Nat) : Int), .pointer (some ⟨b, o, none⟩), .pointer (some ⟨b, o, none⟩), .pointer (some ⟨b, o + 2, none⟩), .slice (some ⟨gb, 0, none⟩) (m + 1) cap, .int .i64 ((m + 1 : Nat) : Int), .int .i64 ((m + 1 : Nat) : Int), .bool true, .pointer (some ⟨b, o, none⟩), .pointer (some ⟨b, o, none⟩), .pointer (some ⟨b, o + 2, none⟩), .slice (some ⟨gb, 0, none⟩) (m + 1) cap, .int .i64 ((m + 1 : Nat) : Int), .int .i64 (m : Int), .pointer (some ⟨b, o, none⟩), .pointer (some ⟨b, o, none⟩), .pointer (some ⟨b, o + 2, none⟩), .slice (some ⟨gb, 0, none⟩) (m + 1) cap, .int .i64 ((m + 1 : Nat) : Int), .int .i64 (m : Int), .pointer (some ⟨gb, m, none⟩), Go.undef, .pointer (some ⟨b, o, none⟩), .pointer (some ⟨b, o, none⟩), Go.undef, Go.undef, Go.undef, Go.undef, Go.undef, Go.undef, Go.undef, Go.undef, Go.undef, Go.undef, Go.undef, Go.undef, Go.undef, Go.undef]) (fun w hw => r_nil (x := .tmp 24) (by kernel_rfl) rfl) hS0 rfl (by kernel_rfl) (by kernel_rfl) (by kernel_rfl) (by kernel_rfl) (by kernel_rfl) (by kernel_rfl) ?_
 refine takeO 16 26 (v := .pointer (some ⟨b, o, none⟩)) (l' := [.pointer (some ⟨b, o, none⟩), Go.undef, .int .i64 ((m + 1 : Nat) : Int), .pointer (some ⟨b, o, none⟩), .pointer (some ⟨b, o, none⟩), .pointer (some ⟨b, o + 2, none⟩), .slice (some ⟨gb, 0, none⟩) (m + 1) cap, .int .i64 ((m + 1 : Nat) : Int), .int .i64 ((m + 1 : Nat) : Int), .bool true, .pointer (some ⟨b, o, none⟩), .pointer (some ⟨b, o, none⟩), .pointer (some ⟨b, o + 2, none⟩), .slice (some ⟨gb, 0, none⟩) (m + 1) cap, .int .i64 ((m + 1 : Nat) : Int), .int .i64 (m : Int), .pointer (some ⟨b, o, none⟩), .pointer (some ⟨b, o, none⟩), .pointer (some ⟨b, o + 2, none⟩), .slice (some ⟨gb, 0, none⟩) (m + 1) cap, .int .i64 ((m + 1 : Nat) : Int), .int .i64 (m : Int), .pointer (some ⟨gb, m, none⟩), Go.undef, .pointer (some ⟨b, o, none⟩), .pointer (some ⟨b, o, none⟩), .pointer (some ⟨b, o, none⟩), Go.undef, Go.undef, Go.undef, Go.undef, Go.undef, Go.undef, Go.undef, Go.undef, Go.undef, Go.undef, Go.undef, Go.undef, Go.undef]) (fun w hw => r_field (pg := Sp) (t := 74) (f := 0) (x := .tmp 25) (n := 0) (by kernel_rfl) (by kernel_rfl) rfl) hS0 rfl (by kernel_rfl) (by kernel_rfl) (by kernel_rfl) (by kernel_rfl) (by kernel_rfl) (by kernel_rfl) ?_
 refine takeO 17 27 (v := .pointer (some ⟨b, o, none⟩)) (l' := [.pointer (some ⟨b, o, none⟩), Go.undef, .int .i64 ((m + 1 : Nat) : Int), .pointer (some ⟨b, o, none⟩), .pointer (some ⟨b, o, none⟩), .pointer (some ⟨b, o + 2, none⟩), .slice (some ⟨gb, 0, none⟩) (m + 1) cap, .int .i64 ((m + 1 : Nat) : Int), .int .i64 ((m + 1 : Nat) : Int), .bool true, .pointer (some ⟨b, o, none⟩), .pointer (some ⟨b, o, none⟩), .pointer (some ⟨b, o + 2, none⟩), .slice (some ⟨gb, 0, none⟩) (m + 1) cap, .int .i64 ((m + 1 : Nat) : Int), .int .i64 (m : Int), .pointer (some ⟨b, o, none⟩), .pointer (some ⟨b, o, none⟩), .pointer (some ⟨b, o + 2, none⟩), .slice (some ⟨gb, 0, none⟩) (m + 1) cap, .int .i64 ((m + 1 : Nat) : Int), .int .i64 (m : Int), .pointer (some ⟨gb, m, none⟩), Go.undef, .pointer (some ⟨b, o, none⟩), .pointer (some ⟨b, o, none⟩), .pointer (some ⟨b, o, none⟩), .pointer (some ⟨b, o, none⟩), Go.undef, Go.undef, Go.undef, Go.undef, Go.undef, Go.undef, Go.undef, Go.undef, Go.undef, Go.undef, Go.undef, Go.undef]) (fun w hw => r_field (pg := Sp) (t := 71) (f := 0) (x := .tmp 26) (n := 0) (by kernel_rfl) (by kernel_rfl) rfl) hS0 rfl (by kernel_rfl) (by kernel_rfl) (by kernel_rfl) (by kernel_rfl) (by kernel_rfl) (by kernel_rfl) ?_
 refine takeO 18 28 (v := .slice (some ⟨bT, oT, none⟩) nT cT) (l' := [.pointer (some ⟨b, o, none⟩), Go.undef, .int .i64 ((m + 1 : Nat) : Int), .pointer (some ⟨b, o, none⟩), .pointer (some ⟨b, o, none⟩), .pointer (some ⟨b, o + 2, none⟩), .slice (some ⟨gb, 0, none⟩) (m + 1) cap, .int .i64 ((m + 1 : Nat) : Int), .int .i64 ((m + 1 : Nat) : Int), .bool true, .pointer (some ⟨b, o, none⟩), .pointer (some ⟨b, o, none⟩), .pointer (some ⟨b, o + 2, none⟩), .slice (some ⟨gb, 0, none⟩) (m + 1) cap, .int .i64 ((m + 1 : Nat) : Int), .int .i64 (m : Int), .pointer (some ⟨b, o, none⟩), .pointer (some ⟨b, o, none⟩), .pointer (some ⟨b, o + 2, none⟩), .slice (some ⟨gb, 0, none⟩) (m + 1) cap, .int .i64 ((m + 1 : Nat) : Int), .int .i64 (m : Int), .pointer (some ⟨gb, m, none⟩), Go.undef, .pointer (some ⟨b, o, none⟩), .pointer (some ⟨b, o, none⟩), .pointer (some ⟨b, o, none⟩), .pointer (some ⟨b, o, none⟩), .slice (some ⟨bT, oT, none⟩) nT cT, Go.undef, Go.undef, Go.undef, Go.undef, Go.undef, Go.undef, Go.undef, Go.undef, Go.undef, Go.undef, Go.undef]) (fun w hw => r_load (t := 32) (x := .tmp 27) (by kernel_rfl) (by kernel_rfl) (by kernel_rfl) rfl (hS w hw).1) hS0 rfl (by kernel_rfl) (by kernel_rfl) (by kernel_rfl) (by kernel_rfl) (by kernel_rfl) (by kernel_rfl) ?_
 refine takeO 19 29 (v := .pointer (some ⟨b, o, none⟩)) (l' := [.pointer (some ⟨b, o, none⟩), Go.undef, .int .i64 ((m + 1 : Nat) : Int), .pointer (some ⟨b, o, none⟩), .pointer (some ⟨b, o, none⟩), .pointer (some ⟨b, o + 2, none⟩), .slice (some ⟨gb, 0, none⟩) (m + 1) cap, .int .i64 ((m + 1 : Nat) : Int), .int .i64 ((m + 1 : Nat) : Int), .bool true, .pointer (some ⟨b, o, none⟩), .pointer (some ⟨b, o, none⟩), .pointer (some ⟨b, o + 2, none⟩), .slice (some ⟨gb, 0, none⟩) (m + 1) cap, .int .i64 ((m + 1 : Nat) : Int), .int .i64 (m : Int), .pointer (some ⟨b, o, none⟩), .pointer (some ⟨b, o, none⟩), .pointer (some ⟨b, o + 2, none⟩), .slice (some ⟨gb, 0, none⟩) (m + 1) cap, .int .i64 ((m + 1 : Nat) : Int), .int .i64 (m : Int), .pointer (some ⟨gb, m, none⟩), Go.undef, .pointer (some ⟨b, o, none⟩), .pointer (some ⟨b, o, none⟩), .pointer (some ⟨b, o, none⟩), .pointer (some ⟨b, o, none⟩), .slice (some ⟨bT, oT, none⟩) nT cT, .pointer (some ⟨b, o, none⟩), Go.undef, Go.undef, Go.undef, Go.undef, Go.undef, Go.undef, Go.undef, Go.undef, Go.undef, Go.undef]) (fun w hw => r_move (x := .tmp 0) (by kernel_rfl) rfl) hS0 rfl (by kernel_rfl) (by kernel_rfl) (by kernel_rfl) (by kernel_rfl) (by kernel_rfl) (by kernel_rfl) ?_
 refine takeO 20 30 (v := .pointer (some ⟨b, o, none⟩)) (l' := [.pointer (some ⟨b, o, none⟩), Go.undef, .int .i64 ((m + 1 : Nat) : Int), .pointer (some ⟨b, o, none⟩), .pointer (some ⟨b, o, none⟩), .pointer (some ⟨b, o + 2, none⟩), .slice (some ⟨gb, 0, none⟩) (m + 1) cap, .int .i64 ((m + 1 : Nat) : Int), .int .i64 ((m + 1 : Nat) : Int), .bool true, .pointer (some ⟨b, o, none⟩), .pointer (some ⟨b, o, none⟩), .pointer (some ⟨b, o + 2, none⟩), .slice (some ⟨gb, 0, none⟩) (m + 1) cap, .int .i64 ((m + 1 : Nat) : Int), .int .i64 (m : Int), .pointer (some ⟨b, o, none⟩), .pointer (some ⟨b, o, none⟩), .pointer (some ⟨b, o + 2, none⟩), .slice (some ⟨gb, 0, none⟩) (m + 1) cap, .int .i64 ((m + 1 : Nat) : Int), .int .i64 (m : Int), .pointer (some ⟨gb, m, none⟩), Go.undef, .pointer (some ⟨b, o, none⟩), .pointer (some ⟨b, o, none⟩), .pointer (some ⟨b, o, none⟩), .pointer (some ⟨b, o, none⟩), .slice (some ⟨bT, oT, none⟩) nT cT, .pointer (some ⟨b, o, none⟩), .pointer (some ⟨b, o, none⟩), Go.undef, Go.undef, Go.undef, Go.undef, Go.undef, Go.undef, Go.undef, Go.undef, Go.undef]) (fun w hw => r_nil (x := .tmp 29) (by kernel_rfl) rfl) hS0 rfl (by kernel_rfl) (by kernel_rfl) (by kernel_rfl) (by kernel_rfl) (by kernel_rfl) (by kernel_rfl) ?_
 refine takeO 21 31 (v := .pointer (some ⟨b, o, none⟩)) (l' := [.pointer (some ⟨b, o, none⟩), Go.undef, .int .i64 ((m + 1 : Nat) : Int), .pointer (some ⟨b, o, none⟩), .pointer (some ⟨b, o, none⟩), .pointer (some ⟨b, o + 2, none⟩), .slice (some ⟨gb, 0, none⟩) (m + 1) cap, .int .i64 ((m + 1 : Nat) : Int), .int .i64 ((m + 1 : Nat) : Int), .bool true, .pointer (some ⟨b, o, none⟩), .pointer (some ⟨b, o, none⟩), .pointer (some ⟨b, o + 2, none⟩), .slice (some ⟨gb, 0, none⟩) (m + 1) cap, .int .i64 ((m + 1 : Nat) : Int), .int .i64 (m : Int), .pointer (some ⟨b, o, none⟩), .pointer (some ⟨b, o, none⟩), .pointer (some ⟨b, o + 2, none⟩), .slice (some ⟨gb, 0, none⟩) (m + 1) cap, .int .i64 ((m + 1 : Nat) : Int), .int .i64 (m : Int), .pointer (some ⟨gb, m, none⟩), Go.undef, .pointer (some ⟨b, o, none⟩), .pointer (some ⟨b, o, none⟩), .pointer (some ⟨b, o, none⟩), .pointer (some ⟨b, o, none⟩), .slice (some ⟨bT, oT, none⟩) nT cT, .pointer (some ⟨b, o, none⟩), .pointer (some ⟨b, o, none⟩), .pointer (some ⟨b, o, none⟩), Go.undef, Go.undef, Go.undef, Go.undef, Go.undef, Go.undef, Go.undef, Go.undef]) (fun w hw => r_field (pg := Sp) (t := 74) (f := 0) (x := .tmp 30) (n := 0) (by kernel_rfl) (by kernel_rfl) rfl) hS0 rfl (by kernel_rfl) (by kernel_rfl) (by kernel_rfl) (by kernel_rfl) (by kernel_rfl) (by kernel_rfl) ?_
 refine takeO 22 32 (v := .pointer (some ⟨b, o + 1, none⟩)) (l' := [.pointer (some ⟨b, o, none⟩), Go.undef, .int .i64 ((m + 1 : Nat) : Int), .pointer (some ⟨b, o, none⟩), .pointer (some ⟨b, o, none⟩), .pointer (some ⟨b, o + 2, none⟩), .slice (some ⟨gb, 0, none⟩) (m + 1) cap, .int .i64 ((m + 1 : Nat) : Int), .int .i64 ((m + 1 : Nat) : Int), .bool true, .pointer (some ⟨b, o, none⟩), .pointer (some ⟨b, o, none⟩), .pointer (some ⟨b, o + 2, none⟩), .slice (some ⟨gb, 0, none⟩) (m + 1) cap, .int .i64 ((m + 1 : Nat) : Int), .int .i64 (m : Int), .pointer (some ⟨b, o, none⟩), .pointer (some ⟨b, o, none⟩), .pointer (some ⟨b, o + 2, none⟩), .slice (some ⟨gb, 0, none⟩) (m + 1) cap, .int .i64 ((m + 1 : Nat) : Int), .int .i64 (m : Int), .pointer (some ⟨gb, m, none⟩), Go.undef, .pointer (some ⟨b, o, none⟩), .pointer (some ⟨b, o, none⟩), .pointer (some ⟨b, o, none⟩), .pointer (some ⟨b, o, none⟩), .slice (some ⟨bT, oT, none⟩) nT cT, .pointer (some ⟨b, o, none⟩), .pointer (some ⟨b, o, none⟩), .pointer (some ⟨b, o, none⟩), .pointer (some ⟨b, o + 1, none⟩), Go.undef, Go.undef, Go.undef, Go.undef, Go.undef, Go.undef, Go.undef]) (fun w hw => r_field (pg := Sp) (t := 71) (f := 1) (x := .tmp 31) (n := 1) (by kernel_rfl) (by kernel_rfl) rfl) hS0 rfl (by kernel_rfl) (by kernel_rfl) (by kernel_rfl) (by kernel_rfl) (by kernel_rfl) (by kernel_rfl) ?_
 refine takeO 23 33 (v := .int .i64 k) (l' := [.pointer (some ⟨b, o, none⟩), Go.undef, .int .i64 ((m + 1 : Nat) : Int), .pointer (some ⟨b, o, none⟩), .pointer (some ⟨b, o, none⟩), .pointer (some ⟨b, o + 2, none⟩), .slice (some ⟨gb, 0, none⟩) (m + 1) cap, .int .i64 ((m + 1 : Nat) : Int), .int .i64 ((m + 1 : Nat) : Int), .bool true, .pointer (some ⟨b, o, none⟩), .pointer (some ⟨b, o, none⟩), .pointer (some ⟨b, o + 2, none⟩), .slice (some ⟨gb, 0, none⟩) (m + 1) cap, .int .i64 ((m + 1 : Nat) : Int), .int .i64 (m : Int), .pointer (some ⟨b, o, none⟩), .pointer (some ⟨b, o, none⟩), .pointer (some ⟨b, o + 2, none⟩), .slice (some ⟨gb, 0, none⟩) (m + 1) cap, .int .i64 ((m + 1 : Nat) : Int), .int .i64 (m : Int), .pointer (some ⟨gb, m, none⟩), Go.undef, .pointer (some ⟨b, o, none⟩), .pointer (some ⟨b, o, none⟩), .pointer (some ⟨b, o, none⟩), .pointer (some ⟨b, o, none⟩), .slice (some ⟨bT, oT, none⟩) nT cT, .pointer (some ⟨b, o, none⟩), .pointer (some ⟨b, o, none⟩), .pointer (some ⟨b, o, none⟩), .pointer (some ⟨b, o + 1, none⟩), .int .i64 k, Go.undef, Go.undef, Go.undef, Go.undef, Go.undef, Go.undef]) (fun w hw => r_load (t := 3) (x := .tmp 32) (by kernel_rfl) (by kernel_rfl) (by kernel_rfl) rfl (hS w hw).2.1) hS0 rfl (by kernel_rfl) (by kernel_rfl) (by kernel_rfl) (by kernel_rfl) (by kernel_rfl) (by kernel_rfl) ?_
 refine takeO 24 34 (v := .pointer (some ⟨bT, oT + k.toNat * 4, none⟩)) (l' := [.pointer (some ⟨b, o, none⟩), Go.undef, .int .i64 ((m + 1 : Nat) : Int), .pointer (some ⟨b, o, none⟩), .pointer (some ⟨b, o, none⟩), .pointer (some ⟨b, o + 2, none⟩), .slice (some ⟨gb, 0, none⟩) (m + 1) cap, .int .i64 ((m + 1 : Nat) : Int), .int .i64 ((m + 1 : Nat) : Int), .bool true, .pointer (some ⟨b, o, none⟩), .pointer (some ⟨b, o, none⟩), .pointer (some ⟨b, o + 2, none⟩), .slice (some ⟨gb, 0, none⟩) (m + 1) cap, .int .i64 ((m + 1 : Nat) : Int), .int .i64 (m : Int), .pointer (some ⟨b, o, none⟩), .pointer (some ⟨b, o, none⟩), .pointer (some ⟨b, o + 2, none⟩), .slice (some ⟨gb, 0, none⟩) (m + 1) cap, .int .i64 ((m + 1 : Nat) : Int), .int .i64 (m : Int), .pointer (some ⟨gb, m, none⟩), Go.undef, .pointer (some ⟨b, o, none⟩), .pointer (some ⟨b, o, none⟩), .pointer (some ⟨b, o, none⟩), .pointer (some ⟨b, o, none⟩), .slice (some ⟨bT, oT, none⟩) nT cT, .pointer (some ⟨b, o, none⟩), .pointer (some ⟨b, o, none⟩), .pointer (some ⟨b, o, none⟩), .pointer (some ⟨b, o + 1, none⟩), .int .i64 k, .pointer (some ⟨bT, oT + k.toNat * 4, none⟩), Go.undef, Go.undef, Go.undef, Go.undef, Go.undef]) (fun w hw => r_index (t := 32) (e := 61) (x := .tmp 28) (ix := .tmp 33) (i := k) (by kernel_rfl) (by kernel_rfl) (by kernel_rfl) rfl rfl hk hk2 (by rw [szT])) hS0 rfl (by kernel_rfl) (by kernel_rfl) (by kernel_rfl) (by kernel_rfl) (by kernel_rfl) (by kernel_rfl) ?_
 refine takeO 25 35 (v := .pointer (some ⟨bT, oT + k.toNat * 4 + 3, none⟩)) (l' := [.pointer (some ⟨b, o, none⟩), Go.undef, .int .i64 ((m + 1 : Nat) : Int), .pointer (some ⟨b, o, none⟩), .pointer (some ⟨b, o, none⟩), .pointer (some ⟨b, o + 2, none⟩), .slice (some ⟨gb, 0, none⟩) (m + 1) cap, .int .i64 ((m + 1 : Nat) : Int), .int .i64 ((m + 1 : Nat) : Int), .bool true, .pointer (some ⟨b, o, none⟩), .pointer (some ⟨b, o, none⟩), .pointer (some ⟨b, o + 2, none⟩), .slice (some ⟨gb, 0, none⟩) (m + 1) cap, .int .i64 ((m + 1 : Nat) : Int), .int .i64 (m : Int), .pointer (some ⟨b, o, none⟩), .pointer (some ⟨b, o, none⟩), .pointer (some ⟨b, o + 2, none⟩), .slice (some ⟨gb, 0, none⟩) (m + 1) cap, .int .i64 ((m + 1 : Nat) : Int), .int .i64 (m : Int), .pointer (some ⟨gb, m, none⟩), Go.undef, .pointer (some ⟨b, o, none⟩), .pointer (some ⟨b, o, none⟩), .pointer (some ⟨b, o, none⟩), .pointer (some ⟨b, o, none⟩), .slice (some ⟨bT, oT, none⟩) nT cT, .pointer (some ⟨b, o, none⟩), .pointer (some ⟨b, o, none⟩), .pointer (some ⟨b, o, none⟩), .pointer (some ⟨b, o + 1, none⟩), .int .i64 k, .pointer (some ⟨bT, oT + k.toNat * 4, none⟩), .pointer (some ⟨bT, oT + k.toNat * 4 + 3, none⟩), Go.undef, Go.undef, Go.undef, Go.undef]) (fun w hw => r_field (pg := Sp) (t := 61) (f := 3) (x := .tmp 34) (n := 3) (by kernel_rfl) (by kernel_rfl) rfl) hS0 rfl (by kernel_rfl) (by kernel_rfl) (by kernel_rfl) (by kernel_rfl) (by kernel_rfl) (by kernel_rfl) ?_
 refine takeO 26 36 (v := .int .i64 a) (l' := [.pointer (some ⟨b, o, none⟩), Go.undef, .int .i64 ((m + 1 : Nat) : Int), .pointer (some ⟨b, o, none⟩), .pointer (some ⟨b, o, none⟩), .pointer (some ⟨b, o + 2, none⟩), .slice (some ⟨gb, 0, none⟩) (m + 1) cap, .int .i64 ((m + 1 : Nat) : Int), .int .i64 ((m + 1 : Nat) : Int), .bool true, .pointer (some ⟨b, o, none⟩), .pointer (some ⟨b, o, none⟩), .pointer (some ⟨b, o + 2, none⟩), .slice (some ⟨gb, 0, none⟩) (m + 1) cap, .int .i64 ((m + 1 : Nat) : Int), .int .i64 (m : Int), .pointer (some ⟨b, o, none⟩), .pointer (some ⟨b, o, none⟩), .pointer (some ⟨b, o + 2, none⟩), .slice (some ⟨gb, 0, none⟩) (m + 1) cap, .int .i64 ((m + 1 : Nat) : Int), .int .i64 (m : Int), .pointer (some ⟨gb, m, none⟩), Go.undef, .pointer (some ⟨b, o, none⟩), .pointer (some ⟨b, o, none⟩), .pointer (some ⟨b, o, none⟩), .pointer (some ⟨b, o, none⟩), .slice (some ⟨bT, oT, none⟩) nT cT, .pointer (some ⟨b, o, none⟩), .pointer (some ⟨b, o, none⟩), .pointer (some ⟨b, o, none⟩), .pointer (some ⟨b, o + 1, none⟩), .int .i64 k, .pointer (some ⟨bT, oT + k.toNat * 4, none⟩), .pointer (some ⟨bT, oT + k.toNat * 4 + 3, none⟩), .int .i64 a, Go.undef, Go.undef, Go.undef]) (fun w hw => r_load (t := 3) (x := .tmp 35) (by kernel_rfl) (by kernel_rfl) (by kernel_rfl) rfl (hS w hw).2.2.2) hS0 rfl (by kernel_rfl) (by kernel_rfl) (by kernel_rfl) (by kernel_rfl) (by kernel_rfl) (by kernel_rfl) ?_
 have fin : ∀ listed : Array Bool, Region.ready .any o2 listed = [28] -> Region.ready .any o2 (listed.setIfInBounds 28 true) = [29] -> Region.ready .any o2 ((listed.setIfInBounds 28 true).setIfInBounds 29 true) = [30] -> Region.ready .any o2 (((listed.setIfInBounds 28 true).setIfInBounds 29 true).setIfInBounds 30 true) = [] ->
   wpAnyH Sp.P .any o2 (Qh R) S 3 listed (A [.pointer (some ⟨b, o, none⟩), Go.undef, .int .i64 ((m + 1 : Nat) : Int), .pointer (some ⟨b, o, none⟩), .pointer (some ⟨b, o, none⟩), .pointer (some ⟨b, o + 2, none⟩), .slice (some ⟨gb, 0, none⟩) (m + 1) cap, .int .i64 ((m + 1 : Nat) : Int), .int .i64 ((m + 1 : Nat) : Int), .bool true, .pointer (some ⟨b, o, none⟩), .pointer (some ⟨b, o, none⟩), .pointer (some ⟨b, o + 2, none⟩), .slice (some ⟨gb, 0, none⟩) (m + 1) cap, .int .i64 ((m + 1 : Nat) : Int), .int .i64 (m : Int), .pointer (some ⟨b, o, none⟩), .pointer (some ⟨b, o, none⟩), .pointer (some ⟨b, o + 2, none⟩), .slice (some ⟨gb, 0, none⟩) (m + 1) cap, .int .i64 ((m + 1 : Nat) : Int), .int .i64 (m : Int), .pointer (some ⟨gb, m, none⟩), hv, .pointer (some ⟨b, o, none⟩), .pointer (some ⟨b, o, none⟩), .pointer (some ⟨b, o, none⟩), .pointer (some ⟨b, o, none⟩), .slice (some ⟨bT, oT, none⟩) nT cT, .pointer (some ⟨b, o, none⟩), .pointer (some ⟨b, o, none⟩), .pointer (some ⟨b, o, none⟩), .pointer (some ⟨b, o + 1, none⟩), .int .i64 k, .pointer (some ⟨bT, oT + k.toNat * 4, none⟩), .pointer (some ⟨bT, oT + k.toNat * 4 + 3, none⟩), .int .i64 a, .slice (some ⟨w.heap.size, 0, none⟩) 1 1, Go.undef, Go.undef]) (w.alloc (.cells #[.int .i64 a] 3)) := by
  intro listed h1 h2 h3 h4
  refine one_of h1 (wpOp_do 28 38 (v := v2) (w' := w2) (l' := [.pointer (some ⟨b, o, none⟩), Go.undef, .int .i64 ((m + 1 : Nat) : Int), .pointer (some ⟨b, o, none⟩), .pointer (some ⟨b, o, none⟩), .pointer (some ⟨b, o + 2, none⟩), .slice (some ⟨gb, 0, none⟩) (m + 1) cap, .int .i64 ((m + 1 : Nat) : Int), .int .i64 ((m + 1 : Nat) : Int), .bool true, .pointer (some ⟨b, o, none⟩), .pointer (some ⟨b, o, none⟩), .pointer (some ⟨b, o + 2, none⟩), .slice (some ⟨gb, 0, none⟩) (m + 1) cap, .int .i64 ((m + 1 : Nat) : Int), .int .i64 (m : Int), .pointer (some ⟨b, o, none⟩), .pointer (some ⟨b, o, none⟩), .pointer (some ⟨b, o + 2, none⟩), .slice (some ⟨gb, 0, none⟩) (m + 1) cap, .int .i64 ((m + 1 : Nat) : Int), .int .i64 (m : Int), .pointer (some ⟨gb, m, none⟩), hv, .pointer (some ⟨b, o, none⟩), .pointer (some ⟨b, o, none⟩), .pointer (some ⟨b, o, none⟩), .pointer (some ⟨b, o, none⟩), .slice (some ⟨bT, oT, none⟩) nT cT, .pointer (some ⟨b, o, none⟩), .pointer (some ⟨b, o, none⟩), .pointer (some ⟨b, o, none⟩), .pointer (some ⟨b, o + 1, none⟩), .int .i64 k, .pointer (some ⟨bT, oT + k.toNat * 4, none⟩), .pointer (some ⟨bT, oT + k.toNat * 4 + 3, none⟩), .int .i64 a, .slice (some ⟨w.heap.size, 0, none⟩) 1 1, v2, Go.undef]) (r_append (x := .tmp 23) (y := .tmp 37) (t := 123) (by kernel_rfl) (by rw [show (oAt o2 28).type = 123 by kernel_rfl]; exact hap)) rfl (by kernel_rfl) (by kernel_rfl) (by kernel_rfl) ⟨hS2, ?_⟩)
  refine one_of h2 (wpOp_do 29 39 (v := .pointer (some ⟨gb, m, none⟩)) (w' := w2) (l' := [.pointer (some ⟨b, o, none⟩), Go.undef, .int .i64 ((m + 1 : Nat) : Int), .pointer (some ⟨b, o, none⟩), .pointer (some ⟨b, o, none⟩), .pointer (some ⟨b, o + 2, none⟩), .slice (some ⟨gb, 0, none⟩) (m + 1) cap, .int .i64 ((m + 1 : Nat) : Int), .int .i64 ((m + 1 : Nat) : Int), .bool true, .pointer (some ⟨b, o, none⟩), .pointer (some ⟨b, o, none⟩), .pointer (some ⟨b, o + 2, none⟩), .slice (some ⟨gb, 0, none⟩) (m + 1) cap, .int .i64 ((m + 1 : Nat) : Int), .int .i64 (m : Int), .pointer (some ⟨b, o, none⟩), .pointer (some ⟨b, o, none⟩), .pointer (some ⟨b, o + 2, none⟩), .slice (some ⟨gb, 0, none⟩) (m + 1) cap, .int .i64 ((m + 1 : Nat) : Int), .int .i64 (m : Int), .pointer (some ⟨gb, m, none⟩), hv, .pointer (some ⟨b, o, none⟩), .pointer (some ⟨b, o, none⟩), .pointer (some ⟨b, o, none⟩), .pointer (some ⟨b, o, none⟩), .slice (some ⟨bT, oT, none⟩) nT cT, .pointer (some ⟨b, o, none⟩), .pointer (some ⟨b, o, none⟩), .pointer (some ⟨b, o, none⟩), .pointer (some ⟨b, o + 1, none⟩), .int .i64 k, .pointer (some ⟨bT, oT + k.toNat * 4, none⟩), .pointer (some ⟨bT, oT + k.toNat * 4 + 3, none⟩), .int .i64 a, .slice (some ⟨w.heap.size, 0, none⟩) 1 1, v2, .pointer (some ⟨gb, m, none⟩)]) (r_index (t := 72) (e := 123) (x := .tmp 13) (ix := .tmp 15) (i := (m : Int)) (by kernel_rfl) (by kernel_rfl) (by kernel_rfl) rfl rfl (by omega) (by omega) (by rw [szI]; simp)) rfl (by kernel_rfl) (by kernel_rfl) (by kernel_rfl) ⟨hS2, ?_⟩)
  refine one_of h3 (wpOp_skip 30 (w' := w2.setCells gb m [v2]) (r_store (t := 123) (x := .tmp 39) (y := .tmp 38) (by kernel_rfl) (by kernel_rfl) szI rfl rfl hv2c hv21 hgb hm2) (by kernel_rfl) (by kernel_rfl) (by kernel_rfl) ⟨hS3, ?_⟩)
  exact wpAnyH_done h4 ⟨rfl, hR⟩ _
 refine wpAnyH_all (rs := [13, 27]) (by kernel_rfl) (by nofun) (fun i hi => ?_)
 have hi2 : i = 13 ∨ i = 27 := by simpa using hi
 rcases hi2 with rfl | rfl
 ·refine wpOp_do 13 23 (v := hv) (w' := w) (l' := [.pointer (some ⟨b, o, none⟩), Go.undef, .int .i64 ((m + 1 : Nat) : Int), .pointer (some ⟨b, o, none⟩), .pointer (some ⟨b, o, none⟩), .pointer (some ⟨b, o + 2, none⟩), .slice (some ⟨gb, 0, none⟩) (m + 1) cap, .int .i64 ((m + 1 : Nat) : Int), .int .i64 ((m + 1 : Nat) : Int), .bool true, .pointer (some ⟨b, o, none⟩), .pointer (some ⟨b, o, none⟩), .pointer (some ⟨b, o + 2, none⟩), .slice (some ⟨gb, 0, none⟩) (m + 1) cap, .int .i64 ((m + 1 : Nat) : Int), .int .i64 (m : Int), .pointer (some ⟨b, o, none⟩), .pointer (some ⟨b, o, none⟩), .pointer (some ⟨b, o + 2, none⟩), .slice (some ⟨gb, 0, none⟩) (m + 1) cap, .int .i64 ((m + 1 : Nat) : Int), .int .i64 (m : Int), .pointer (some ⟨gb, m, none⟩), hv, .pointer (some ⟨b, o, none⟩), .pointer (some ⟨b, o, none⟩), .pointer (some ⟨b, o, none⟩), .pointer (some ⟨b, o, none⟩), .slice (some ⟨bT, oT, none⟩) nT cT, .pointer (some ⟨b, o, none⟩), .pointer (some ⟨b, o, none⟩), .pointer (some ⟨b, o, none⟩), .pointer (some ⟨b, o + 1, none⟩), .int .i64 k, .pointer (some ⟨bT, oT + k.toNat * 4, none⟩), .pointer (some ⟨bT, oT + k.toNat * 4 + 3, none⟩), .int .i64 a, Go.undef, Go.undef, Go.undef]) (r_load (t := 123) (x := .tmp 22) (by kernel_rfl) (by kernel_rfl) (by kernel_rfl) rfl hv0) rfl (by kernel_rfl) (by kernel_rfl) (by kernel_rfl) ⟨hS0, ?_⟩
  refine one_of (by kernel_rfl) (wpOp_do 27 37 (v := .slice (some ⟨w.heap.size, 0, none⟩) 1 1) (w' := w.alloc (.cells #[.int .i64 a] 3)) (l' := [.pointer (some ⟨b, o, none⟩), Go.undef, .int .i64 ((m + 1 : Nat) : Int), .pointer (some ⟨b, o, none⟩), .pointer (some ⟨b, o, none⟩), .pointer (some ⟨b, o + 2, none⟩), .slice (some ⟨gb, 0, none⟩) (m + 1) cap, .int .i64 ((m + 1 : Nat) : Int), .int .i64 ((m + 1 : Nat) : Int), .bool true, .pointer (some ⟨b, o, none⟩), .pointer (some ⟨b, o, none⟩), .pointer (some ⟨b, o + 2, none⟩), .slice (some ⟨gb, 0, none⟩) (m + 1) cap, .int .i64 ((m + 1 : Nat) : Int), .int .i64 (m : Int), .pointer (some ⟨b, o, none⟩), .pointer (some ⟨b, o, none⟩), .pointer (some ⟨b, o + 2, none⟩), .slice (some ⟨gb, 0, none⟩) (m + 1) cap, .int .i64 ((m + 1 : Nat) : Int), .int .i64 (m : Int), .pointer (some ⟨gb, m, none⟩), hv, .pointer (some ⟨b, o, none⟩), .pointer (some ⟨b, o, none⟩), .pointer (some ⟨b, o, none⟩), .pointer (some ⟨b, o, none⟩), .slice (some ⟨bT, oT, none⟩) nT cT, .pointer (some ⟨b, o, none⟩), .pointer (some ⟨b, o, none⟩), .pointer (some ⟨b, o, none⟩), .pointer (some ⟨b, o + 1, none⟩), .int .i64 k, .pointer (some ⟨bT, oT + k.toNat * 4, none⟩), .pointer (some ⟨bT, oT + k.toNat * 4 + 3, none⟩), .int .i64 a, .slice (some ⟨w.heap.size, 0, none⟩) 1 1, Go.undef, Go.undef]) (r_slice (t := 123) (e := 3) (x := .tmp 36) (by kernel_rfl) (by kernel_rfl) szN hz hzl rfl) rfl (by kernel_rfl) (by kernel_rfl) (by kernel_rfl) ⟨hS1, ?_⟩)
  exact fin _ (by kernel_rfl) (by kernel_rfl) (by kernel_rfl) (by kernel_rfl)
 ·refine wpOp_do 27 37 (v := .slice (some ⟨w.heap.size, 0, none⟩) 1 1) (w' := w.alloc (.cells #[.int .i64 a] 3)) (l' := [.pointer (some ⟨b, o, none⟩), Go.undef, .int .i64 ((m + 1 : Nat) : Int), .pointer (some ⟨b, o, none⟩), .pointer (some ⟨b, o, none⟩), .pointer (some ⟨b, o + 2, none⟩), .slice (some ⟨gb, 0, none⟩) (m + 1) cap, .int .i64 ((m + 1 : Nat) : Int), .int .i64 ((m + 1 : Nat) : Int), .bool true, .pointer (some ⟨b, o, none⟩), .pointer (some ⟨b, o, none⟩), .pointer (some ⟨b, o + 2, none⟩), .slice (some ⟨gb, 0, none⟩) (m + 1) cap, .int .i64 ((m + 1 : Nat) : Int), .int .i64 (m : Int), .pointer (some ⟨b, o, none⟩), .pointer (some ⟨b, o, none⟩), .pointer (some ⟨b, o + 2, none⟩), .slice (some ⟨gb, 0, none⟩) (m + 1) cap, .int .i64 ((m + 1 : Nat) : Int), .int .i64 (m : Int), .pointer (some ⟨gb, m, none⟩), Go.undef, .pointer (some ⟨b, o, none⟩), .pointer (some ⟨b, o, none⟩), .pointer (some ⟨b, o, none⟩), .pointer (some ⟨b, o, none⟩), .slice (some ⟨bT, oT, none⟩) nT cT, .pointer (some ⟨b, o, none⟩), .pointer (some ⟨b, o, none⟩), .pointer (some ⟨b, o, none⟩), .pointer (some ⟨b, o + 1, none⟩), .int .i64 k, .pointer (some ⟨bT, oT + k.toNat * 4, none⟩), .pointer (some ⟨bT, oT + k.toNat * 4 + 3, none⟩), .int .i64 a, .slice (some ⟨w.heap.size, 0, none⟩) 1 1, Go.undef, Go.undef]) (r_slice (t := 123) (e := 3) (x := .tmp 36) (by kernel_rfl) (by kernel_rfl) szN hz hzl rfl) rfl (by kernel_rfl) (by kernel_rfl) (by kernel_rfl) ⟨hS1, ?_⟩
  refine one_of (by kernel_rfl) (wpOp_do 13 23 (v := hv) (w' := w.alloc (.cells #[.int .i64 a] 3)) (l' := [.pointer (some ⟨b, o, none⟩), Go.undef, .int .i64 ((m + 1 : Nat) : Int), .pointer (some ⟨b, o, none⟩), .pointer (some ⟨b, o, none⟩), .pointer (some ⟨b, o + 2, none⟩), .slice (some ⟨gb, 0, none⟩) (m + 1) cap, .int .i64 ((m + 1 : Nat) : Int), .int .i64 ((m + 1 : Nat) : Int), .bool true, .pointer (some ⟨b, o, none⟩), .pointer (some ⟨b, o, none⟩), .pointer (some ⟨b, o + 2, none⟩), .slice (some ⟨gb, 0, none⟩) (m + 1) cap, .int .i64 ((m + 1 : Nat) : Int), .int .i64 (m : Int), .pointer (some ⟨b, o, none⟩), .pointer (some ⟨b, o, none⟩), .pointer (some ⟨b, o + 2, none⟩), .slice (some ⟨gb, 0, none⟩) (m + 1) cap, .int .i64 ((m + 1 : Nat) : Int), .int .i64 (m : Int), .pointer (some ⟨gb, m, none⟩), hv, .pointer (some ⟨b, o, none⟩), .pointer (some ⟨b, o, none⟩), .pointer (some ⟨b, o, none⟩), .pointer (some ⟨b, o, none⟩), .slice (some ⟨bT, oT, none⟩) nT cT, .pointer (some ⟨b, o, none⟩), .pointer (some ⟨b, o, none⟩), .pointer (some ⟨b, o, none⟩), .pointer (some ⟨b, o + 1, none⟩), .int .i64 k, .pointer (some ⟨bT, oT + k.toNat * 4, none⟩), .pointer (some ⟨bT, oT + k.toNat * 4 + 3, none⟩), .int .i64 a, .slice (some ⟨w.heap.size, 0, none⟩) 1 1, Go.undef, Go.undef]) (r_load (t := 123) (x := .tmp 22) (by kernel_rfl) (by kernel_rfl) (by kernel_rfl) rfl hv1) rfl (by kernel_rfl) (by kernel_rfl) (by kernel_rfl) ⟨hS1, ?_⟩)
  exact fin _ (by kernel_rfl) (by kernel_rfl) (by kernel_rfl) (by kernel_rfl)
theorem here_walk0 {Q : Exit -> Act -> World -> Prop} {w : World} {b o n cap : Nat} {gx : Option Addr} (hx : w.cell? ⟨b, o + 2, none⟩ = some (.slice gx n cap)) (h : Q .normal (A [.pointer (some ⟨b, o, none⟩), Go.undef, .int .i64 (n : Int), .pointer (some ⟨b, o, none⟩), .pointer (some ⟨b, o, none⟩), .pointer (some ⟨b, o + 2, none⟩), .slice gx n cap, .int .i64 (n : Int), Go.undef, Go.undef, Go.undef, Go.undef, Go.undef, Go.undef, Go.undef, Go.undef, Go.undef, Go.undef, Go.undef, Go.undef, Go.undef, Go.undef, Go.undef, Go.undef, Go.undef, Go.undef, Go.undef, Go.undef, Go.undef, Go.undef, Go.undef, Go.undef, Go.undef, Go.undef, Go.undef, Go.undef, Go.undef, Go.undef, Go.undef, Go.undef]) w) : wpOps Sp.P o0 Q [0, 1, 2, 3, 4, 5] (A [.pointer (some ⟨b, o, none⟩), Go.undef, Go.undef, Go.undef, Go.undef, Go.undef, Go.undef, Go.undef, Go.undef, Go.undef, Go.undef, Go.undef, Go.undef, Go.undef, Go.undef, Go.undef, Go.undef, Go.undef, Go.undef, Go.undef, Go.undef, Go.undef, Go.undef, Go.undef, Go.undef, Go.undef, Go.undef, Go.undef, Go.undef, Go.undef, Go.undef, Go.undef, Go.undef, Go.undef, Go.undef, Go.undef, Go.undef, Go.undef, Go.undef, Go.undef]) w := by
 refine wpOps_do 0 3 (v := .pointer (some ⟨b, o, none⟩)) (l' := [.pointer (some ⟨b, o, none⟩), Go.undef, Go.undef, .pointer (some ⟨b, o, none⟩), Go.undef, Go.undef, Go.undef, Go.undef, Go.undef, Go.undef, Go.undef, Go.undef, Go.undef, Go.undef, Go.undef, Go.undef, Go.undef, Go.undef, Go.undef, Go.undef, Go.undef, Go.undef, Go.undef, Go.undef, Go.undef, Go.undef, Go.undef, Go.undef, Go.undef, Go.undef, Go.undef, Go.undef, Go.undef, Go.undef, Go.undef, Go.undef, Go.undef, Go.undef, Go.undef, Go.undef]) (r_move (x := .tmp 0) (by kernel_rfl) rfl) rfl (by kernel_rfl) (by kernel_rfl) (by kernel_rfl) ?_
 refine wpOps_do 1 4 (v := .pointer (some ⟨b, o, none⟩)) (l' := [.pointer (some ⟨b, o, none⟩), Go.undef, Go.undef, .pointer (some ⟨b, o, none⟩), .pointer (some ⟨b, o, none⟩), Go.undef, Go.undef, Go.undef, Go.undef, Go.undef, Go.undef, Go.undef, Go.undef, Go.undef, Go.undef, Go.undef, Go.undef, Go.undef, Go.undef, Go.undef, Go.undef, Go.undef, Go.undef, Go.undef, Go.undef, Go.undef, Go.undef, Go.undef, Go.undef, Go.undef, Go.undef, Go.undef, Go.undef, Go.undef, Go.undef, Go.undef, Go.undef, Go.undef, Go.undef, Go.undef]) (r_nil (x := .tmp 3) (by kernel_rfl) rfl) rfl (by kernel_rfl) (by kernel_rfl) (by kernel_rfl) ?_
 refine wpOps_do 2 5 (v := .pointer (some ⟨b, o + 2, none⟩)) (l' := [.pointer (some ⟨b, o, none⟩), Go.undef, Go.undef, .pointer (some ⟨b, o, none⟩), .pointer (some ⟨b, o, none⟩), .pointer (some ⟨b, o + 2, none⟩), Go.undef, Go.undef, Go.undef, Go.undef, Go.undef, Go.undef, Go.undef, Go.undef, Go.undef, Go.undef, Go.undef, Go.undef, Go.undef, Go.undef, Go.undef, Go.undef, Go.undef, Go.undef, Go.undef, Go.undef, Go.undef, Go.undef, Go.undef, Go.undef, Go.undef, Go.undef, Go.undef, Go.undef, Go.undef, Go.undef, Go.undef, Go.undef, Go.undef, Go.undef]) (r_field (pg := Sp) (t := 74) (f := 1) (x := .tmp 4) (n := 2) (by kernel_rfl) (by kernel_rfl) rfl) rfl (by kernel_rfl) (by kernel_rfl) (by kernel_rfl) ?_
 refine wpOps_do 3 6 (v := .slice gx n cap) (l' := [.pointer (some ⟨b, o, none⟩), Go.undef, Go.undef, .pointer (some ⟨b, o, none⟩), .pointer (some ⟨b, o, none⟩), .pointer (some ⟨b, o + 2, none⟩), .slice gx n cap, Go.undef, Go.undef, Go.undef, Go.undef, Go.undef, Go.undef, Go.undef, Go.undef, Go.undef, Go.undef, Go.undef, Go.undef, Go.undef, Go.undef, Go.undef, Go.undef, Go.undef, Go.undef, Go.undef, Go.undef, Go.undef, Go.undef, Go.undef, Go.undef, Go.undef, Go.undef, Go.undef, Go.undef, Go.undef, Go.undef, Go.undef, Go.undef, Go.undef]) (r_load (t := 72) (x := .tmp 5) (by kernel_rfl) (by kernel_rfl) (by kernel_rfl) rfl hx) rfl (by kernel_rfl) (by kernel_rfl) (by kernel_rfl) ?_
 refine wpOps_do 4 7 (v := .int .i64 (n : Int)) (l' := [.pointer (some ⟨b, o, none⟩), Go.undef, Go.undef, .pointer (some ⟨b, o, none⟩), .pointer (some ⟨b, o, none⟩), .pointer (some ⟨b, o + 2, none⟩), .slice gx n cap, .int .i64 (n : Int), Go.undef, Go.undef, Go.undef, Go.undef, Go.undef, Go.undef, Go.undef, Go.undef, Go.undef, Go.undef, Go.undef, Go.undef, Go.undef, Go.undef, Go.undef, Go.undef, Go.undef, Go.undef, Go.undef, Go.undef, Go.undef, Go.undef, Go.undef, Go.undef, Go.undef, Go.undef, Go.undef, Go.undef, Go.undef, Go.undef, Go.undef, Go.undef]) (r_len (x := .tmp 6) (t := 72) (e := 123) (by kernel_rfl) (by kernel_rfl) rfl) rfl (by kernel_rfl) (by kernel_rfl) (by kernel_rfl) ?_
 refine wpOps_do 5 2 (v := .int .i64 (n : Int)) (l' := [.pointer (some ⟨b, o, none⟩), Go.undef, .int .i64 (n : Int), .pointer (some ⟨b, o, none⟩), .pointer (some ⟨b, o, none⟩), .pointer (some ⟨b, o + 2, none⟩), .slice gx n cap, .int .i64 (n : Int), Go.undef, Go.undef, Go.undef, Go.undef, Go.undef, Go.undef, Go.undef, Go.undef, Go.undef, Go.undef, Go.undef, Go.undef, Go.undef, Go.undef, Go.undef, Go.undef, Go.undef, Go.undef, Go.undef, Go.undef, Go.undef, Go.undef, Go.undef, Go.undef, Go.undef, Go.undef, Go.undef, Go.undef, Go.undef, Go.undef, Go.undef, Go.undef]) (r_assign (x := .tmp 7) (by kernel_rfl) rfl) rfl (by kernel_rfl) (by kernel_rfl) (by kernel_rfl) ?_
 exact h
theorem here_walk1 {Q : Exit -> Act -> World -> Prop} {w : World} {b o n cap : Nat} {gx : Option Addr} (h : Q .normal (A [.pointer (some ⟨b, o, none⟩), Go.undef, .int .i64 (n : Int), .pointer (some ⟨b, o, none⟩), .pointer (some ⟨b, o, none⟩), .pointer (some ⟨b, o + 2, none⟩), .slice gx n cap, .int .i64 (n : Int), .int .i64 (n : Int), .bool (decide ((n : Int) > 0)), Go.undef, Go.undef, Go.undef, Go.undef, Go.undef, Go.undef, Go.undef, Go.undef, Go.undef, Go.undef, Go.undef, Go.undef, Go.undef, Go.undef, Go.undef, Go.undef, Go.undef, Go.undef, Go.undef, Go.undef, Go.undef, Go.undef, Go.undef, Go.undef, Go.undef, Go.undef, Go.undef, Go.undef, Go.undef, Go.undef]) w) : wpOps Sp.P o1 Q [0, 1] (A [.pointer (some ⟨b, o, none⟩), Go.undef, .int .i64 (n : Int), .pointer (some ⟨b, o, none⟩), .pointer (some ⟨b, o, none⟩), .pointer (some ⟨b, o + 2, none⟩), .slice gx n cap, .int .i64 (n : Int), Go.undef, Go.undef, Go.undef, Go.undef, Go.undef, Go.undef, Go.undef, Go.undef, Go.undef, Go.undef, Go.undef, Go.undef, Go.undef, Go.undef, Go.undef, Go.undef, Go.undef, Go.undef, Go.undef, Go.undef, Go.undef, Go.undef, Go.undef, Go.undef, Go.undef, Go.undef, Go.undef, Go.undef, Go.undef, Go.undef, Go.undef, Go.undef]) w := by
 refine wpOps_do 0 8 (v := .int .i64 (n : Int)) (l' := [.pointer (some ⟨b, o, none⟩), Go.undef, .int .i64 (n : Int), .pointer (some ⟨b, o, none⟩), .pointer (some ⟨b, o, none⟩), .pointer (some ⟨b, o + 2, none⟩), .slice gx n cap, .int .i64 (n : Int), .int .i64 (n : Int), Go.undef, Go.undef, Go.undef, Go.undef, Go.undef, Go.undef, Go.undef, Go.undef, Go.undef, Go.undef, Go.undef, Go.undef, Go.undef, Go.undef, Go.undef, Go.undef, Go.undef, Go.undef, Go.undef, Go.undef, Go.undef, Go.undef, Go.undef, Go.undef, Go.undef, Go.undef, Go.undef, Go.undef, Go.undef, Go.undef, Go.undef]) (r_move (x := .tmp 2) (by kernel_rfl) rfl) rfl (by kernel_rfl) (by kernel_rfl) (by kernel_rfl) ?_
 refine wpOps_do 1 9 (v := .bool (decide ((n : Int) > 0))) (l' := [.pointer (some ⟨b, o, none⟩), Go.undef, .int .i64 (n : Int), .pointer (some ⟨b, o, none⟩), .pointer (some ⟨b, o, none⟩), .pointer (some ⟨b, o + 2, none⟩), .slice gx n cap, .int .i64 (n : Int), .int .i64 (n : Int), .bool (decide ((n : Int) > 0)), Go.undef, Go.undef, Go.undef, Go.undef, Go.undef, Go.undef, Go.undef, Go.undef, Go.undef, Go.undef, Go.undef, Go.undef, Go.undef, Go.undef, Go.undef, Go.undef, Go.undef, Go.undef, Go.undef, Go.undef, Go.undef, Go.undef, Go.undef, Go.undef, Go.undef, Go.undef, Go.undef, Go.undef, Go.undef, Go.undef]) (r_bin (op := .gtr) (t := 3) (t2 := 3) (x := .tmp 8) (y := .const (.int .i64 0)) (va := .int .i64 (n : Int)) (vb := .int .i64 0) (v := .bool (decide ((n : Int) > 0))) (by kernel_rfl) rfl (cx0 w) (.pure (.int _ _)) (.pure (.int _ _)) (fun z hz => hz.bool_inv) rfl) rfl (by kernel_rfl) (by kernel_rfl) (by kernel_rfl) ?_
 exact h
theorem addLast_length (a : Int) : ∀ ps : List (List Int), (addLast a ps).length = ps.length
 | [] => rfl
 | [_] => rfl
 | _ :: m :: ps => by simp [addLast, addLast_length a (m :: ps)]
theorem addLast_get (a : Int) : ∀ (ps : List (List Int)) (m j : Nat), ps.length = m + 1 -> (addLast a ps)[j]? = if j = m then some (ps.getLastD [] ++ [a]) else ps[j]?
 | [l], m, j, h => by
  have : m = 0 := by simpa using h.symm
  subst this
  cases j with
  | zero => rfl
  | succ j => simp [addLast]
 | l :: n :: ps, m, j, h => by
  cases m with
  | zero => simp at h
  | succ m =>
   have ih := addLast_get a (n :: ps) m
   cases j with
   | zero => simp [addLast]
   | succ j =>
    have := ih j (by simpa using h)
    simp only [addLast, List.getElem?_cons_succ, this, Nat.add_right_cancel_iff]
    by_cases hj : j = m
    ·rw [if_pos hj, if_pos hj]; simp [List.getLastD]
    ·rw [if_neg hj, if_neg hj]
theorem start_arr (x u : Value) (n : Nat) : #[x] ++ Array.replicate n u = (x :: List.replicate n u).toArray := by
 apply Array.ext'
 simp
theorem start_act (x : Value) : ({ tmps := #[x] ++ Array.replicate (40 - (#[x] : Array Value).size) Go.undef, defers := [] } : Act) = A (x :: List.replicate 39 Go.undef) := by
 show Act.mk (#[x] ++ Array.replicate 39 Go.undef) [] = _
 rw [start_arr]
 rfl
set_option maxHeartbeats 4000000 in
theorem here_ok : NatOk Sp (64 : Nat) (natHere 74 61) := by
 intro vs bl res h
 unfold natHere at h
 split at h
 ·rename_i tR tok e es k ps
  obtain ⟨hc, h1⟩ := condL_some h
  rw [Bool.and_eq_true] at hc
  obtain ⟨he, ht⟩ := hc
  have he : 61 = e := by simpa using he
  have ht : 74 = tR := by simpa using ht
  subst he; subst ht
  clear h
  obtain ⟨⟨hk0, hk1⟩, h2⟩ := iteL_some h1
  clear h1
  split at h2
  ·rename_i a ha
   obtain ⟨⟨hl1, hl2⟩, h3⟩ := iteL_some h2
   cases h3
   clear h2
   refine ⟨⟨hereFn, here_fn, by rw [here_body]; rfl, by kernel_rfl⟩, fun c own xs hI hdom hout hl hx => ?_⟩
   have hrows : rowsOf Sp [.cells 74 [.sl tok 61 es, .int .i64 k, .fr 0 ps] false] + ownN (Sp.oa (64 : Nat)) = 1 := by rfl
   rw [hrows] at hI hdom
   have hoo : Sp.oo (64 : Nat) = none := by rfl
   rw [hoo]
   obtain ⟨x0, rfl⟩ : ∃ x0, xs = #[x0] := by
    obtain ⟨l⟩ := xs
    match l, hl with
    | [a], _ => exact ⟨a, rfl⟩
   have hx0 : VRep Sp.P c (.ref 0 0) x0 := by simpa using hx 0 (by simp)
   obtain ⟨b, o, n3, hb, rfl⟩ := hx0.ref_inv
   obtain ⟨rfl, hB⟩ := hI.at (id := 0) rfl hb
   obtain ⟨hL, hO⟩ := hB.opn rfl
   have hbl := hL.lt
   obtain ⟨z0, c0, _, v0⟩ := hB.cells 0 (by show 0 < 3; decide)
   obtain ⟨z1, c1, _, v1⟩ := hB.cells 1 (by show 1 < 3; decide)
   obtain ⟨z2, c2, _, v2⟩ := hB.cells 2 (by show 2 < 3; decide)
   have v0 : VRep Sp.P c (.sl tok 61 es) z0 := v0
   have v1 : VRep Sp.P c (.int .i64 k) z1 := v1
   have v2 : VRep Sp.P c (.fr 0 ps) z2 := v2
   obtain rfl := v1.int_inv
   obtain ⟨eO, eI, hrow, hone⟩ := v2.fr_inv
   have hd := (hI.row 0 (by decide)).deep hrow
   have szI : sz Sp.P 123 = 1 := by kernel_rfl
   have szT : sz Sp.P 61 = 4 := by kernel_rfl
   have szN : sz Sp.P 3 = 1 := by kernel_rfl
   obtain ⟨gx, cap, rfl⟩ : ∃ gx cap, z2 = .slice gx ps.length cap := by
    rcases hd with ⟨h1, h2⟩ | ⟨gb, cap, cur, ib, h1, _⟩
    ·rw [h1, h2]; exact ⟨_, _, rfl⟩
    ·exact ⟨_, _, h1⟩
   let E : World -> Prop := fun w' => Ab.Ends Sp none c own 1 ⟨.ret (.tup []), [.cells 74 [.sl .no 61 es, .int .i64 k, .fr 0 (addLast a ps)] false], none⟩ (.returned (.tuple #[])) w'
   refine calls_of_wp here_fn here_body (Code.wp_mono (Q := Qh E) (fun e a w hq => ?_) ?_)
   ·cases e <;> first | exact (hq : False).elim | exact ⟨hq.1, .tuple #[], by simp [results, here_results], hq.2⟩
   have hstart : ({ tmps := #[.pointer (some ⟨b, o + 0, none⟩)] ++ Array.replicate (hereFn.ntmps - (#[Value.pointer (some ⟨b, o + 0, none⟩)] : Array Value).size) undef, defers := [] } : Act) = A (.pointer (some ⟨b, o, none⟩) :: List.replicate 39 Go.undef) := by
    rw [here_ntmps]; exact start_act _
   rw [hstart]
   refine wp_seq (wp_region ?_)
   rw [show o0.size = 6 by kernel_rfl]
   refine here_walk0 (gx := gx) (n := ps.length) (cap := cap) c2 ?_
   refine wp_seq (wp_region ?_)
   rw [show o1.size = 2 by kernel_rfl]
   refine here_walk1 ?_
   refine wp_cond (t := decide ((ps.length : Int) > 0)) rfl ?_
   rcases hd with ⟨hd1, hd2⟩ | ⟨gb, cap2, cur, ib, hd1, hg, hcap, hcur, hown, hel⟩
   ·subst hd2
    refine wp_skip ⟨rfl, ?_⟩
    exact here_ends (nb := none) (eI' := eI) hI hdom hout hrow (Frame.refl _ _) nofun (.inl ⟨hd1, rfl⟩)
   cases hd1
   by_cases hps : ps.length = 0
   ·have hps2 : ps = [] := List.length_eq_zero_iff.1 hps
    subst hps2
    refine wp_skip ⟨rfl, ?_⟩
    refine here_ends (nb := none) (eI' := eI) hI hdom hout hrow (Frame.refl _ _) nofun (.inr ⟨gb, cap, cur, ib, rfl, hg, hcap, hcur, fun y => ?_, fun i ns hi => by simp [addLast] at hi⟩)
    exact hown y
   obtain ⟨m, hm⟩ : ∃ m, ps.length = m + 1 := ⟨ps.length - 1, by omega⟩
   have hpos : decide ((ps.length : Int) > 0) = true := by rw [decide_eq_true_eq]; omega
   rw [hpos, hm]
   show (Code.region 2 o2 true).wp _ _ _ _
   rw [hm] at c2
   have hlast : ps[m]? = some (ps.getLastD []) := by
    have := List.getLast?_eq_getElem? (l := ps)
    rw [hm, Nat.add_sub_cancel] at this
    rw [<- this, List.getLastD_eq_getLast?]
    cases hq : ps.getLast? with
    | some x => rfl
    | none => rw [List.getLast?_eq_none_iff] at hq; subst hq; cases hm
   have hne : es ≠ [] := by rintro rfl; simp at hk1; omega
   have hkl : k.toNat < es.length := by omega
   have hpr := v0.sl_inv
   cases hpr with
   | @sl _ _ _ base capT f bT oT ht hbb hlT hcT hrT =>
   obtain rfl : base = some ⟨bT, oT, none⟩ := hbb.1 hne
   have hA := hcT k.toNat 3 hkl (by rw [szT]; decide)
   have hAr := hrT k.toNat 3 hkl (by rw [szT]; decide)
   rw [ha] at hAr
   have hAv : f k.toNat 3 = .int .i64 a := by
    generalize f k.toNat 3 = y at hAr
    cases hAr; rfl
   rw [hAv, szT] at hA
   obtain ⟨hA1, hA2, _⟩ := hA
   obtain ⟨hpT, hbT⟩ := hI.np _ _ hA1
   have hgl : gb < c.w.heap.size := (Array.getElem?_eq_some_iff.1 hg).1
   have hO0 : own b (o + 0) = some (false, 0) := hO 0 (by show 0 < 3; decide)
   have hbg : b ≠ gb := by rintro rfl; rw [hown] at hO0; cases hO0
   have hTg : bT ≠ gb := by rintro rfl; rw [hown] at hpT; cases hpT
   obtain ⟨hv, e1, e2, e3, e4⟩ := hel m _ hlast
   have e2own : ∀ β, ib m = some β -> ∀ y, own β y = some (true, 0) := fun β hβ => by
    rw [hβ] at e2
    obtain ⟨_, _, _, _, _, _, _, h5, _⟩ := e2
    exact h5
   generalize hwd : ({ c.w with drawn := c.w.drawn + 1 } : World) = wd
   have hwh : wd.heap = c.w.heap := by rw [<- hwd]
   have hwo : wd.os = c.w.os ∧ wd.tape = c.w.tape ∧ wd.output = c.w.output := by rw [<- hwd]; exact ⟨rfl, rfl, rfl⟩
   have hzN : zeroL Sp.P 3 = some [.int .i64 0] := by kernel_rfl
   have hby : byt Sp.P 3 = 8 := by kernel_rfl
   obtain ⟨v2, w2, ib2, icap2, icur2, eT, q1, q2, q3, q4, q5, q6, q7, q8, q9, q10, q11, q12, q13⟩ := inner_more (P := Sp.P) (w := wd) (e2.to (w' := wd) (fun b o _ h => by rw [hwh]; exact h) (fun _ _ h => h)) a hl1 (tL := 123) (e := 3) (by kernel_rfl) szN (by rw [hby]; decide) hzN (by rw [szN]; rfl)
   rw [hwh] at q7 q8 q12
   have hbi : b ≠ ib2 := by
    rintro rfl
    rcases q7 with ⟨h, _⟩ | h
    ·rw [e2own _ h] at hO0; cases hO0
    ·omega
   have hTi : bT ≠ ib2 := by
    rintro rfl
    rcases q7 with ⟨h, _⟩ | h
    ·rw [e2own _ h] at hpT; cases hpT
    ·omega
   have hgi : gb ≠ ib2 := by
    rintro rfl
    rcases q7 with ⟨h, _⟩ | h
    ·exact e3 h
    ·omega
   have hgb2 := q8 gb _ hgi hgl hg
   obtain ⟨arr', s1, s2, s3, s4, s5, s6, s7, s8⟩ := setCells_heap (w := w2) [v2] m w2 cur hgb2
   have hmc : m < cur.size := (Array.getElem?_eq_some_iff.1 e1).1
   have harrm : arr'[m]? = some v2 := by
    have := World.cell?_setCells_in gb [v2] m w2 (fun k hk => by
     have hk' : k < 1 := hk
     simp [World.cell?, hgb2]; omega) 0 (by simp)
    simpa [World.cell?, s1] using this
   have hcell : ∀ (w' : World) (β y : Nat), w'.heap[β]? = c.w.heap[β]? -> w'.cell? ⟨β, y, none⟩ = c.w.cell? ⟨β, y, none⟩ := fun w' β y h => by simp [World.cell?, h]
   have hsome : ∀ β, β < c.w.heap.size -> c.w.heap[β]? = some c.w.heap[β]! := fun β h => by simp [h]
   have hw1 : ∀ β, β < c.w.heap.size -> (wd.alloc (.cells #[.int .i64 a] 3)).heap[β]? = c.w.heap[β]? := fun β h => by
    show (wd.heap.push _)[β]? = _
    rw [hwh, Array.getElem?_push_lt h, <- Array.getElem?_eq_getElem]
   have hw2 : ∀ β, β < c.w.heap.size -> β ≠ ib2 -> w2.heap[β]? = c.w.heap[β]? := fun β h1 h2 => (q8 β _ h2 h1 (hsome β h1)).trans (hsome β h1).symm
   have hw3 : ∀ β, β < c.w.heap.size -> β ≠ ib2 -> β ≠ gb -> (w2.setCells gb m [v2]).heap[β]? = c.w.heap[β]? := fun β h1 h2 h3 => (s4 β h3).trans (hw2 β h1 h2)
   have hSof : ∀ w' : World, w'.heap[b]? = c.w.heap[b]? -> w'.heap[bT]? = c.w.heap[bT]? -> w'.cell? ⟨b, o, none⟩ = some (.slice (some ⟨bT, oT, none⟩) es.length capT) ∧ w'.cell? ⟨b, o + 1, none⟩ = some (.int .i64 k) ∧ w'.cell? ⟨b, o + 2, none⟩ = some (.slice (some ⟨gb, 0, none⟩) (m + 1) cap) ∧ w'.cell? ⟨bT, oT + k.toNat * 4 + 3, none⟩ = some (.int .i64 a) :=
    fun w' h1 h2 => ⟨(hcell w' b o h1).trans c0, (hcell w' b _ h1).trans c1, (hcell w' b _ h1).trans c2, (hcell w' bT _ h2).trans hA2⟩
   refine wp_region_held (S := fun w' => w'.cell? ⟨b, o, none⟩ = some (.slice (some ⟨bT, oT, none⟩) es.length capT) ∧ w'.cell? ⟨b, o + 1, none⟩ = some (.int .i64 k) ∧ w'.cell? ⟨b, o + 2, none⟩ = some (.slice (some ⟨gb, 0, none⟩) (m + 1) cap) ∧ w'.cell? ⟨bT, oT + k.toNat * 4 + 3, none⟩ = some (.int .i64 a)) (by kernel_rfl) ?_
   rw [show o2.size = 31 by kernel_rfl, hwd]
   refine here_walk szI szT szN hzN (by rw [szN]; rfl) (fun w' h => h) hk0 hk1 (by omega) (hSof _ (by rw [hwh]) (by rw [hwh])) (hv := hv) (by simp only [World.cell?, hwh, hg]; exact e1) (by simp only [World.cell?, hw1 gb hgl, hg]; exact e1)
    (hSof _ (hw1 b hbl) (hw1 bT hbT)) q1 (hSof _ (hw2 b hbl hbi) (hw2 bT hbT hTi)) hgb2 hmc (by rw [q2]; rfl) (by rw [q2]; rfl) (hSof _ (hw3 b hbl hbi hbg) (hw3 bT hbT hTi hTg)) ?_
   have ibold : ∀ j β ns, ps[j]? = some ns -> ib j = some β -> β < c.w.heap.size := fun j β ns h1 h2 => by
    obtain ⟨_, _, g2, _⟩ := hel j ns h1
    rw [h2] at g2
    obtain ⟨_, _, _, _, h4, _⟩ := g2
    exact (Array.getElem?_eq_some_iff.1 h4).1
   have F4 : ∀ j, j < ps.length -> j ≠ m -> ib j ≠ some ib2 := fun j hj hjm h => by
    rcases q7 with ⟨h1, _⟩ | h1
    ·have := e4 j hj hjm (h.trans h1.symm)
     rw [h1] at this; cases this
    ·have := ibold j ib2 _ (List.getElem?_eq_getElem hj) h
     omega
   obtain ⟨nb, F1, F2, F3⟩ : ∃ nb : Option Nat, (∀ β, nb = some β -> c.w.heap.size <= β ∧ β < (w2.setCells gb m [v2]).heap.size) ∧ (∀ y, (if nb = some ib2 then some (true, 0) else own ib2 y) = some (true, 0)) ∧
     ∀ ob, c.w.heap[ib2]? = some ob -> ∃ a a' e fr, ob = .cells a e fr ∧ w2.heap[ib2]? = some (.cells a' e fr) ∧ a'.size = a.size ∧ ∀ y, own.mine 0 ib2 y ≠ none := by
    rcases q7 with ⟨h, icur, h1, h2⟩ | h
    ·refine ⟨none, nofun, fun y => by rw [if_neg nofun]; exact e2own _ h y, fun ob hob => ?_⟩
     rw [h1] at hob
     cases hob
     refine ⟨_, _, _, _, rfl, q3, h2, fun y => ?_⟩
     unfold Own.mine
     rw [if_pos (e2own _ h y)]
     nofun
    ·refine ⟨some ib2, fun β hβ => by cases hβ; rw [s5]; omega, fun y => by rw [if_pos rfl], fun ob hob => ?_⟩
     have := (Array.getElem?_eq_some_iff.1 hob).1
     omega
   have hold : ∀ β y, own β y = some (true, 0) -> (if nb = some β then some (true, 0) else own β y) = some (true, 0) := fun β y h => by
    by_cases h1 : nb = some β
    ·rw [if_pos h1]
    ·rw [if_neg h1]; exact h
   refine here_ends (nb := nb) (eI' := eI) hI hdom hout hrow ⟨s6.trans (q9.trans hwo.1), s7.trans (q10.trans hwo.2.1), s8.trans (q11.trans hwo.2.2), by rw [s5]; omega, fun β ob hob => ?_⟩ F1 (.inr ⟨gb, cap, arr', fun j => if j = m then some ib2 else ib j, by rw [addLast_length], s1, by rw [addLast_length]; exact hcap, by omega, fun y => hold gb y (hown y), fun j ns hj => ?_⟩)
   ·have hβl := (Array.getElem?_eq_some_iff.1 hob).1
    by_cases h1 : β = gb
    ·subst h1
     rw [hg] at hob
     cases hob
     refine .inr (.inl ⟨cur, arr', eO, (0, 0), rfl, s1, s2, fun y hy => ?_⟩)
     unfold Own.mine at hy
     rw [if_pos (hown y)] at hy
     cases hy
    ·by_cases h2 : β = ib2
     ·subst h2
      obtain ⟨a1, a2, e5, fr, rfl, g2, g3, g4⟩ := F3 ob hob
      exact .inr (.inl ⟨a1, a2, e5, fr, rfl, (s4 _ h1).trans g2, g3, fun y hy => absurd hy (g4 y)⟩)
     ·exact .inl ((hw3 β hβl h2 h1).trans hob)
   ·rw [addLast_get a ps m j hm] at hj
    by_cases hjm : j = m
    ·subst hjm
     rw [if_pos rfl] at hj
     cases hj
     simp only [if_true]
     refine ⟨v2, harrm, ⟨icap2, icur2, eT, by rw [q2]; simp, (s4 _ (Ne.symm hgi)).trans q3, by simpa using q4, q5, F2, q6⟩, fun h => hgi (Option.some.inj h).symm, fun k2 hk2 hkj h => ?_⟩
     rw [if_neg hkj] at h
     rw [addLast_length] at hk2
     exact absurd h (F4 k2 hk2 hkj)
    ·rw [if_neg hjm] at hj
     obtain ⟨hv', g1, g2, g3, g4⟩ := hel j ns hj
     have hjl := (List.getElem?_eq_some_iff.1 hj).1
     simp only [if_neg hjm]
     refine ⟨hv', (s3 j (by rcases Nat.lt_or_gt_of_ne hjm with h | h <;> simp <;> omega)).trans g1, ?_, g3, fun k2 hk2 hkj h => ?_⟩
     ·cases hib : ib j with
      | none => rw [hib] at g2; exact g2
      | some β =>
       rw [hib] at g2 g3
       obtain ⟨jcap, jcur, jT, r1, r2, r3, r4, r5, r6⟩ := g2
       have hβl := (Array.getElem?_eq_some_iff.1 r2).1
       exact ⟨jcap, jcur, jT, r1, (hw3 β hβl (fun h => F4 j hjl hjm (by rw [hib, h])) (fun h => g3 (by rw [h]))).trans r2, r3, r4, fun y => hold β y (r5 y), r6⟩
     ·by_cases hkm : k2 = m
      ·rw [if_pos hkm] at h
       exact absurd h.symm (F4 j hjl hjm)
      ·rw [if_neg hkm] at h
       rw [addLast_length] at hk2
       exact g4 k2 hk2 hkj h
  ·cases h2
 ·cases h
end Go.Proofs.YtennkhdlpbggkaaDoor
namespace Go.Proofs.YtennkhdlpbggkaaDoor
open Go Go.Proofs.Ab
theorem nat_is (f : FuncId) : Sp.nat f = if f = (64 : Nat) then some (natHere 74 61) else none := by
 by_cases hf : f = (64 : Nat)
 ·subst hf; rfl
 ·rw [if_neg hf]
  show (match f with | 64 => some (natHere 74 61) | _ => none) = none
  split
  ·exact absurd rfl hf
  ·rfl
theorem nat_ok : ∀ f g, Sp.nat f = some g -> NatOk Sp f g := by
 intro f g h
 rw [nat_is] at h
 split at h
 ·rename_i hf
  subst hf
  cases h; exact here_ok
 ·cases h
end Go.Proofs.YtennkhdlpbggkaaDoor
namespace Go.Proofs.Ab
open Go
section
variable {R : Type}
@[simp] theorem onRet_ret (v : V) (bl : List Blk) (pn : Option (Option V)) (k : V -> Option R) : Res.onRet ⟨.ret v, bl, pn⟩ k = k v := rfl
@[simp] theorem bl_mk (o : Out) (bl : List Blk) (pn : Option (Option V)) : Res.bl ⟨o, bl, pn⟩ = bl := rfl
@[simp] theorem onOut_ret (v : V) (bl : List Blk) (pn : Option (Option V)) (k kp : V -> Option R) : Res.onOut ⟨.ret v, bl, pn⟩ k kp = k v := rfl
@[simp] theorem onOut_pan (v : V) (bl : List Blk) (pn : Option (Option V)) (k kp : V -> Option R) : Res.onOut ⟨.pan v, bl, pn⟩ k kp = kp v := rfl
@[simp] theorem onPn_none (o : Out) (bl : List Blk) (k0 : Option R) (k1 : V -> Option R) : Res.onPn ⟨o, bl, some none⟩ k0 k1 = k0 := rfl
@[simp] theorem onPn_some (o : Out) (bl : List Blk) (v : V) (k0 : Option R) (k1 : V -> Option R) : Res.onPn ⟨o, bl, some (some v)⟩ k0 k1 = k1 v := rfl
@[simp] theorem asBool_bool (b : Bool) (k : Bool -> Option R) : V.asBool (.bool b) k = k b := rfl
@[simp] theorem asStr_str (s : ByteArray) (k : ByteArray -> Option R) : V.asStr (.str s) k = k s := rfl
@[simp] theorem asInt_int (kd : IntKind) (n : Int) (k : Int -> Option R) : V.asInt (.int kd n) kd k = k n := by simp [V.asInt]
@[simp] theorem asSl_sl (t : Tok) (e : TypeId) (es : List (List V)) (k : List (List V) -> Option R) : V.asSl (.sl t e es) e k = k es := by simp [V.asSl]
@[simp] theorem asSlR_sl (p : Nat) (e : TypeId) (es : List (List V)) (k : List (List V) -> Option R) : V.asSlR (.sl (.row p) e es) p e k = k es := by simp [V.asSlR]
@[simp] theorem asIface_iface (t : TypeId) (v : V) (k : V -> Option R) : V.asIface (.iface t v) t k = k v := by simp [V.asIface]
@[simp] theorem asTup_tup (vs : List V) (n : Nat) (h : vs.length = n) (k : (Nat -> V) -> Option R) : V.asTup (.tup vs) n k = k (fun j => vs.getD j .undef) := by simp [V.asTup, h]
@[simp] theorem asAgg_agg (vs : List V) (n : Nat) (h : vs.length = n) (k : (Nat -> V) -> Option R) : V.asAgg (.agg vs) n k = k (fun j => vs.getD j .undef) := by simp [V.asAgg, h]
@[simp] theorem asTup_0 (k : (Nat -> V) -> Option R) : V.asTup (.tup []) 0 k = k (fun j => List.getD [] j .undef) := rfl
@[simp] theorem asAgg_0 (k : (Nat -> V) -> Option R) : V.asAgg (.agg []) 0 k = k (fun j => List.getD [] j .undef) := rfl
@[simp] theorem asCells_0 (t : TypeId) (k : (Nat -> V) -> Option R) : Blk.asCells (.cells t [] false) t 0 k = k (fun j => List.getD [] j .undef) := by simp [Blk.asCells]
@[simp] theorem asTup_1 (x0 : V) (k : (Nat -> V) -> Option R) : V.asTup (.tup [x0]) 1 k = k (fun j => List.getD [x0] j .undef) := rfl
@[simp] theorem asAgg_1 (x0 : V) (k : (Nat -> V) -> Option R) : V.asAgg (.agg [x0]) 1 k = k (fun j => List.getD [x0] j .undef) := rfl
@[simp] theorem asCells_1 (t : TypeId) (x0 : V) (k : (Nat -> V) -> Option R) : Blk.asCells (.cells t [x0] false) t 1 k = k (fun j => List.getD [x0] j .undef) := by simp [Blk.asCells]
@[simp] theorem asTup_2 (x0 x1 : V) (k : (Nat -> V) -> Option R) : V.asTup (.tup [x0, x1]) 2 k = k (fun j => List.getD [x0, x1] j .undef) := rfl
@[simp] theorem asAgg_2 (x0 x1 : V) (k : (Nat -> V) -> Option R) : V.asAgg (.agg [x0, x1]) 2 k = k (fun j => List.getD [x0, x1] j .undef) := rfl
@[simp] theorem asCells_2 (t : TypeId) (x0 x1 : V) (k : (Nat -> V) -> Option R) : Blk.asCells (.cells t [x0, x1] false) t 2 k = k (fun j => List.getD [x0, x1] j .undef) := by simp [Blk.asCells]
@[simp] theorem asTup_3 (x0 x1 x2 : V) (k : (Nat -> V) -> Option R) : V.asTup (.tup [x0, x1, x2]) 3 k = k (fun j => List.getD [x0, x1, x2] j .undef) := rfl
@[simp] theorem asAgg_3 (x0 x1 x2 : V) (k : (Nat -> V) -> Option R) : V.asAgg (.agg [x0, x1, x2]) 3 k = k (fun j => List.getD [x0, x1, x2] j .undef) := rfl
@[simp] theorem asCells_3 (t : TypeId) (x0 x1 x2 : V) (k : (Nat -> V) -> Option R) : Blk.asCells (.cells t [x0, x1, x2] false) t 3 k = k (fun j => List.getD [x0, x1, x2] j .undef) := by simp [Blk.asCells]
@[simp] theorem asTup_4 (x0 x1 x2 x3 : V) (k : (Nat -> V) -> Option R) : V.asTup (.tup [x0, x1, x2, x3]) 4 k = k (fun j => List.getD [x0, x1, x2, x3] j .undef) := rfl
@[simp] theorem asAgg_4 (x0 x1 x2 x3 : V) (k : (Nat -> V) -> Option R) : V.asAgg (.agg [x0, x1, x2, x3]) 4 k = k (fun j => List.getD [x0, x1, x2, x3] j .undef) := rfl
@[simp] theorem asCells_4 (t : TypeId) (x0 x1 x2 x3 : V) (k : (Nat -> V) -> Option R) : Blk.asCells (.cells t [x0, x1, x2, x3] false) t 4 k = k (fun j => List.getD [x0, x1, x2, x3] j .undef) := by simp [Blk.asCells]
@[simp] theorem asTup_5 (x0 x1 x2 x3 x4 : V) (k : (Nat -> V) -> Option R) : V.asTup (.tup [x0, x1, x2, x3, x4]) 5 k = k (fun j => List.getD [x0, x1, x2, x3, x4] j .undef) := rfl
@[simp] theorem asAgg_5 (x0 x1 x2 x3 x4 : V) (k : (Nat -> V) -> Option R) : V.asAgg (.agg [x0, x1, x2, x3, x4]) 5 k = k (fun j => List.getD [x0, x1, x2, x3, x4] j .undef) := rfl
@[simp] theorem asCells_5 (t : TypeId) (x0 x1 x2 x3 x4 : V) (k : (Nat -> V) -> Option R) : Blk.asCells (.cells t [x0, x1, x2, x3, x4] false) t 5 k = k (fun j => List.getD [x0, x1, x2, x3, x4] j .undef) := by simp [Blk.asCells]
@[simp] theorem asTup_6 (x0 x1 x2 x3 x4 x5 : V) (k : (Nat -> V) -> Option R) : V.asTup (.tup [x0, x1, x2, x3, x4, x5]) 6 k = k (fun j => List.getD [x0, x1, x2, x3, x4, x5] j .undef) := rfl
@[simp] theorem asAgg_6 (x0 x1 x2 x3 x4 x5 : V) (k : (Nat -> V) -> Option R) : V.asAgg (.agg [x0, x1, x2, x3, x4, x5]) 6 k = k (fun j => List.getD [x0, x1, x2, x3, x4, x5] j .undef) := rfl
@[simp] theorem asCells_6 (t : TypeId) (x0 x1 x2 x3 x4 x5 : V) (k : (Nat -> V) -> Option R) : Blk.asCells (.cells t [x0, x1, x2, x3, x4, x5] false) t 6 k = k (fun j => List.getD [x0, x1, x2, x3, x4, x5] j .undef) := by simp [Blk.asCells]
@[simp] theorem asTup_7 (x0 x1 x2 x3 x4 x5 x6 : V) (k : (Nat -> V) -> Option R) : V.asTup (.tup [x0, x1, x2, x3, x4, x5, x6]) 7 k = k (fun j => List.getD [x0, x1, x2, x3, x4, x5, x6] j .undef) := rfl
@[simp] theorem asAgg_7 (x0 x1 x2 x3 x4 x5 x6 : V) (k : (Nat -> V) -> Option R) : V.asAgg (.agg [x0, x1, x2, x3, x4, x5, x6]) 7 k = k (fun j => List.getD [x0, x1, x2, x3, x4, x5, x6] j .undef) := rfl
@[simp] theorem asCells_7 (t : TypeId) (x0 x1 x2 x3 x4 x5 x6 : V) (k : (Nat -> V) -> Option R) : Blk.asCells (.cells t [x0, x1, x2, x3, x4, x5, x6] false) t 7 k = k (fun j => List.getD [x0, x1, x2, x3, x4, x5, x6] j .undef) := by simp [Blk.asCells]
@[simp] theorem asArr_arr (i : Nat) (e : TypeId) (k : Option R) : V.asArr (.arr i e) i e k = k := by simp [V.asArr]
@[simp] theorem asCells_cells (t : TypeId) (cs : List V) (n : Nat) (h : cs.length = n) (k : (Nat -> V) -> Option R) : Blk.asCells (.cells t cs false) t n k = k (fun j => cs.getD j .undef) := by simp [Blk.asCells, h]
@[simp] theorem asVec_vec (t : TypeId) (es : List (List V)) (n : Nat) (h : es.length = n) (k : List (List V) -> Option R) : Blk.asVec (.vec t es false) t n k = k es := by simp [Blk.asVec, h]
end
theorem wrap_in {n : Int} (h0 : -9223372036854775808 <= n) (h1 : n <= 9223372036854775807) : IntKind.i64.wrap n = n := IntWalk.i64_in n ⟨h0, h1⟩
theorem wrap_nat {i : Nat} (h : i < 4611686018427387904) : IntKind.i64.wrap ((i : Int) + 1) = ((i + 1 : Nat) : Int) := by
 rw [wrap_in (by omega) (by omega)]; omega
theorem down {p : Nat -> Prop} {n : Nat} (h0 : p n) (hs : ∀ i, i < n -> p (i + 1) -> p i) : ∀ i, i <= n -> p i := by
 intro i hi
 obtain ⟨k, rfl⟩ : ∃ k, n = i + k := ⟨n - i, by omega⟩
 induction k generalizing i with
 | zero => exact h0
 | succ k ih =>
  refine hs i (by omega) (ih (i + 1) (by rw [show i + 1 + k = i + (k + 1) by omega]; exact h0) (fun j hj => hs j (by omega)) (by omega))
def allF (f : Nat -> Bool) (n i : Nat) : Bool := (List.range' i (n - i)).all f
theorem allF_iff {f : Nat -> Bool} {n i : Nat} : allF f n i = true ↔ ∀ j, i <= j -> j < n -> f j = true := by
 unfold allF
 rw [List.all_eq_true]
 constructor
 ·intro h j h1 h2; exact h j (by rw [List.mem_range'_1]; omega)
 ·intro h j hj; rw [List.mem_range'_1] at hj; exact h j hj.1 (by omega)
end Go.Proofs.Ab
namespace Go.Proofs.Px
open Go Go.Proofs.Ab
def letter (c : Int) : Bool := (decide (65 <= c) && decide (c <= 90)) || (decide (97 <= c) && decide (c <= 122))
def digit (c : Int) : Bool := decide (48 <= c) && decide (c <= 57)
def inner (c : Int) : Bool := letter c || digit c || c == 95
def keys : List ByteArray := [⟨#[112, 114, 111, 99]⟩, ⟨#[118, 97, 114]⟩, ⟨#[105, 102]⟩, ⟨#[101, 108, 115, 101]⟩, ⟨#[119, 104, 105, 108, 101]⟩, ⟨#[114, 101, 116, 117, 114, 110]⟩, ⟨#[112, 114, 105, 110, 116]⟩, ⟨#[114, 101, 97, 100]⟩, ⟨#[97, 115, 115, 101, 114, 116]⟩, ⟨#[105, 110, 116]⟩, ⟨#[98, 111, 111, 108]⟩, ⟨#[116, 114, 117, 101]⟩, ⟨#[102, 97, 108, 115, 101]⟩]
def isIn (s : ByteArray) (l : List ByteArray) : Bool := l.any fun k => decide (k = s)
def isKey (s : ByteArray) : Bool := isIn s keys
def isName (s : ByteArray) : Bool := decide (0 < s.size) && decide (s.size <= 40) && letter (byteAt s 0) && !isKey s && allF (fun i => inner (byteAt s i)) s.size 0
theorem isIn_step {s : ByteArray} {l : List ByteArray} {i : Nat} (h : i < l.length) : isIn s (l.drop i) = (decide (l[i] = s) || isIn s (l.drop (i + 1))) := by
 unfold isIn
 rw [List.drop_eq_getElem_cons h, List.any_cons]
end Go.Proofs.Px
namespace Go.Proofs.Px
open Go Go.Proofs.Ab
def B (l : List UInt8) : ByteArray := ⟨l.toArray⟩
@[simp] theorem B_size (l : List UInt8) : (B l).size = l.length := by simp [B, ByteArray.size]
theorem B_inj {a b : List UInt8} : B a = B b ↔ a = b := by
 constructor
 ·intro h
  have : (B a).data.toList = (B b).data.toList := by rw [h]
  simpa [B] using this
 ·rintro rfl; rfl
@[simp] theorem B_dec (a b : List UInt8) : decide (B a = B b) = decide (a = b) := by
 by_cases h : a = b
 ·simp [h]
 ·simp [h, B_inj]
@[simp] theorem B_byte (l : List UInt8) (i : Nat) : byteAt (B l) i = ((l.getD i 0).toNat : Int) := by simp [byteAt, B]
@[simp] theorem B_extract (l : List UInt8) (i j : Nat) : (B l).extract i j = B ((l.drop i).take (j - i)) := by
 have h : ((B l).extract i j).data = (B ((l.drop i).take (j - i))).data := by
  rw [ByteArray.data_extract]
  apply Array.ext'
  simp [B, List.extract]
 cases h1 : (B l).extract i j
 cases h2 : B ((l.drop i).take (j - i))
 rw [h1, h2] at h
 simp at h
 rw [h]
@[simp] theorem B_append (a b : List UInt8) : B a ++ B b = B (a ++ b) := by
 have h : (B a ++ B b).data = (B (a ++ b)).data := by
  rw [ByteArray.data_append]
  simp [B]
 cases h1 : B a ++ B b
 cases h2 : B (a ++ b)
 rw [h1, h2] at h
 simp at h
 rw [h]
@[simp] theorem B_nil : (ByteArray.mk #[]) = B [] := rfl
def bv (l : List UInt8) : List (List V) := l.map fun b => [.int .u8 (b.toNat : Int)]
@[simp] theorem ofBytes_B (l : List UInt8) : ofBytes (B l) = bv l := by simp [ofBytes, B, bv]
@[simp] theorem bytesOk_bv (l : List UInt8) : bytesOk (bv l) = true := by
 induction l with
 | nil => rfl
 | cons a l ih => exact ih
@[simp] theorem toBytes_bv (l : List UInt8) : toBytes (bv l) = l := by
 induction l with
 | nil => rfl
 | cons a l ih =>
  show UInt8.ofNat (Int.toNat (a.toNat : Int)) :: toBytes (bv l) = a :: l
  rw [ih]; simp
@[simp] theorem bv_length (l : List UInt8) : (bv l).length = l.length := by simp [bv]
@[simp] theorem bv_append (a b : List UInt8) : bv a ++ bv b = bv (a ++ b) := by simp [bv]
theorem drop_cons {l : List UInt8} {i : Nat} (h : i < l.length) : l.drop i = l.getD i 0 :: l.drop (i + 1) := by
 rw [List.drop_eq_getElem_cons h, List.getD_eq_getElem?_getD, List.getElem?_eq_getElem h]; rfl
theorem byte_eq (a : UInt8) (n : Nat) (hn : n < 256) : ((a.toNat : Int) == (n : Int)) = (a == UInt8.ofNat n) := by
 have h : a = UInt8.ofNat n ↔ a.toNat = n := by
  constructor
  ·rintro rfl; simp; omega
  ·intro h; apply UInt8.toNat_inj.1; simp; omega
 by_cases h1 : a = UInt8.ofNat n
 ·rw [beq_iff_eq.2 h1]
  have := h.1 h1
  simp [this]
 ·have h2 : ¬ a.toNat = n := fun h3 => h1 (h.2 h3)
  have h3 : ¬ ((a.toNat : Int) = (n : Int)) := by omega
  rw [beq_eq_false_iff_ne.2 h1, beq_eq_false_iff_ne.2 h3]
def lt (c : UInt8) : Bool := letter (c.toNat : Int)
def dg (c : UInt8) : Bool := digit (c.toNat : Int)
def inn (c : UInt8) : Bool := inner (c.toNat : Int)
def sk : Bool -> List UInt8 -> List UInt8
 | _, [] => []
 | rm, c :: r => if c = 10 then sk false r else if rm then sk true r else if c = 32 then sk false r else if c = 35 then sk true r else c :: r
theorem sk_le : ∀ (rm : Bool) (l : List UInt8), (sk rm l).length <= l.length
 | _, [] => Nat.le_refl _
 | rm, c :: r => by
  have h1 := sk_le false r
  have h2 := sk_le true r
  unfold sk
  split
  ·simp; omega
  ·split
   ·simp; omega
   ·split
    ·simp; omega
    ·split
     ·simp; omega
     ·simp
theorem sk_drop : ∀ (rm : Bool) (l : List UInt8), sk rm l = l.drop (l.length - (sk rm l).length)
 | _, [] => rfl
 | rm, c :: r => by
  have key : ∀ rm', sk rm' r = (c :: r).drop ((c :: r).length - (sk rm' r).length) := fun rm' => by
   have h1 := sk_le rm' r
   have h2 := sk_drop rm' r
   rw [show (c :: r).length - (sk rm' r).length = (r.length - (sk rm' r).length) + 1 by simp; omega, List.drop_succ_cons, <- h2]
  unfold sk
  split
  ·exact key false
  ·split
   ·exact key true
   ·split
    ·exact key false
    ·split
     ·exact key true
     ·simp
def word (l : List UInt8) : List UInt8 := l.takeWhile inn
def signs : List (List UInt8) := [[61, 61], [33, 61], [60, 61], [38, 38], [124, 124], [40], [41], [123], [125], [91], [93], [44], [59], [61], [60], [33], [43], [45], [42], [47], [37]]
def signIn (l : List UInt8) : List (List UInt8) -> List UInt8
 | [] => []
 | x :: r => if l.take x.length = x then x else signIn l r
def sign (l : List UInt8) : List UInt8 := signIn l signs
def valF (u : Nat) : List UInt8 -> Nat
 | [] => u
 | c :: r => valF (u * 10 + (c.toNat - 48)) r
def parseGo (u : Nat) : List UInt8 -> Int × Int
 | [] => if u = 9223372036854775808 then (0, 10) else ((u : Int), 0)
 | c :: r => if dg c ∧ u * 10 + (c.toNat - 48) <= 9223372036854775808 then parseGo (u * 10 + (c.toNat - 48)) r else (0, 10)
def parse (w : List UInt8) : Int × Int := if w.getD 0 0 ≠ 48 ∨ w.length = 1 then parseGo 0 w else (0, 10)
structure Tk where
 kind : Int
 text : List UInt8
 num : Int
 at_ : Int
def Tk.v (t : Tk) : List V := [.int .i64 t.kind, .str (B t.text), .int .i64 t.num, .int .i64 t.at_]
def keysL : List (List UInt8) := [[112, 114, 111, 99], [118, 97, 114], [105, 102], [101, 108, 115, 101], [119, 104, 105, 108, 101], [114, 101, 116, 117, 114, 110], [112, 114, 105, 110, 116], [114, 101, 97, 100], [97, 115, 115, 101, 114, 116], [105, 110, 116], [98, 111, 111, 108], [116, 114, 117, 101], [102, 97, 108, 115, 101]]
theorem isKey_B (l : List UInt8) : isKey (B l) = keysL.any fun k => decide (k = l) := by
 have : keys = keysL.map B := rfl
 unfold isKey isIn
 rw [this, List.any_map]
 congr 1
 funext k
 exact B_dec k l
def isKeyL (l : List UInt8) : Bool := keysL.any fun k => decide (k = l)
def next (r : List UInt8) (at_ : Int) : Tk × Nat × Bool :=
 match r with
 | [] => (⟨0, [], 0, at_⟩, 0, true)
 | c :: _ =>
  if lt c then (⟨if isKeyL (word r) then 3 else 1, word r, 0, at_⟩, (word r).length, decide ((word r).length <= 40))
  else if dg c then (⟨2, [], (parse (word r)).1, at_⟩, (word r).length, decide ((parse (word r)).2 = 0))
  else (⟨4, sign r, 0, at_⟩, (sign r).length, !decide (sign r = []))
def scanGo : Nat -> Nat -> List Tk -> List UInt8 -> List Tk × Int × Int
 | 0, _, _, _ => ([], 0, 0)
 | f + 1, n, out, r =>
  let r1 := sk false r
  let a : Int := ((n - r1.length : Nat) : Int)
  let x := next r1 a
  if x.2.2 = false then ([], a, 20) else if out.length = 4000 then ([], a, 2) else if x.1.kind = 0 then (out ++ [x.1], 0, 0) else scanGo f n (out ++ [x.1]) (r1.drop x.2.1)
theorem scanGo_succ (f n : Nat) (out : List Tk) (r : List UInt8) : scanGo (f + 1) n out r =
  if (next (sk false r) ((n - (sk false r).length : Nat) : Int)).2.2 = false then ([], ((n - (sk false r).length : Nat) : Int), 20) else if out.length = 4000 then ([], ((n - (sk false r).length : Nat) : Int), 2) else
   if (next (sk false r) ((n - (sk false r).length : Nat) : Int)).1.kind = 0 then (out ++ [(next (sk false r) ((n - (sk false r).length : Nat) : Int)).1], 0, 0) else
    scanGo f n (out ++ [(next (sk false r) ((n - (sk false r).length : Nat) : Int)).1]) ((sk false r).drop (next (sk false r) ((n - (sk false r).length : Nat) : Int)).2.1) := rfl
def scan (l : List UInt8) : List Tk × Int × Int := if l.length > 16384 then ([], 0, 2) else scanGo (l.length + 1) l.length [] l
def dgt (u : Nat) : UInt8 := UInt8.ofNat (48 + u % 10)
theorem dgt_nat (u : Nat) : (dgt u).toNat = 48 + u % 10 := by
 unfold dgt
 rw [UInt8.toNat_ofNat']; omega
def decGo : Nat -> Nat -> List UInt8 -> List UInt8
 | 0, _, acc => acc
 | f + 1, u, acc => if u / 10 = 0 then dgt u :: acc else decGo f (u / 10) (dgt u :: acc)
def dec (u : Nat) : List UInt8 := decGo 20 u []
def decs (n : Int) : List UInt8 := if n < 0 then 45 :: dec n.natAbs else dec n.natAbs
theorem decGo_digits : ∀ (f u : Nat) (acc : List UInt8), (∀ c ∈ acc, 48 <= c.toNat ∧ c.toNat <= 57) -> ∀ c ∈ decGo f u acc, 48 <= c.toNat ∧ c.toNat <= 57
 | 0, u, acc, h => h
 | f + 1, u, acc, h => by
  have h1 : ∀ c ∈ dgt u :: acc, 48 <= c.toNat ∧ c.toNat <= 57 := by
   intro c hc
   rcases List.mem_cons.1 hc with rfl | hc
   ·rw [dgt_nat]; omega
   ·exact h c hc
  unfold decGo
  split
  ·exact h1
  ·exact decGo_digits f (u / 10) _ h1
theorem dec_digits (u : Nat) : ∀ c ∈ dec u, 48 <= c.toNat ∧ c.toNat <= 57 := decGo_digits 20 u [] (fun c h => by cases h)
def worth (u : Nat) (l : List UInt8) : Nat := l.foldl (fun a c => a * 10 + (c.toNat - 48)) u
theorem worth_cons (u : Nat) (c : UInt8) (l : List UInt8) : worth u (c :: l) = worth (u * 10 + (c.toNat - 48)) l := by
 unfold worth
 exact List.foldl_cons ..
theorem decGo_worth (f : Nat) : ∀ (u : Nat) (acc : List UInt8), u < 10 ^ f -> 0 < f -> worth 0 (decGo f u acc) = worth u acc := by
 induction f with
 | zero => intro _ _ _ h; omega
 | succ f ih =>
  intro u acc h _
  have hd : (dgt u).toNat - 48 = u % 10 := by rw [dgt_nat]; omega
  unfold decGo
  by_cases h0 : u / 10 = 0
  ·rw [if_pos h0, worth_cons, hd, show 0 * 10 + u % 10 = u by omega]
  ·rw [if_neg h0]
   have h1 : u / 10 < 10 ^ f := by
    rw [Nat.pow_succ] at h
    omega
   rw [ih (u / 10) _ h1 (by
    rcases Nat.eq_zero_or_pos f with rfl | h2
    ·simp at h1; omega
    ·exact h2), worth_cons, hd, show u / 10 * 10 + u % 10 = u by omega]
theorem worth_nil (u : Nat) : worth u [] = u := by
 unfold worth
 exact List.foldl_nil
theorem dec_worth (u : Nat) (h : u < 10 ^ 20) : worth 0 (dec u) = u := by
 unfold dec
 rw [decGo_worth 20 u [] h (Nat.zero_lt_succ _), worth_nil]
theorem decGo_ne : ∀ (f u : Nat) (acc : List UInt8), 0 < f -> decGo f u acc ≠ []
 | 0, _, _, h => by omega
 | f + 1, u, acc, _ => by
  unfold decGo
  split
  ·simp
  ·rcases Nat.eq_zero_or_pos f with rfl | h
   ·simp [decGo]
   ·exact decGo_ne f _ _ h
theorem decGo_head (f : Nat) : ∀ (u : Nat) (acc : List UInt8), u < 10 ^ f -> 0 < f -> 0 < u -> (decGo f u acc).getD 0 0 ≠ 48 := by
 induction f with
 | zero => intro _ _ _ h; omega
 | succ f ih =>
  intro u acc h _ hu
  unfold decGo
  by_cases h0 : u / 10 = 0
  ·rw [if_pos h0]
   intro h2
   have h3 : (dgt u).toNat = (48 : UInt8).toNat := congrArg UInt8.toNat h2
   rw [dgt_nat] at h3
   have : (48 : UInt8).toNat = 48 := rfl
   omega
  ·rw [if_neg h0]
   have h1 : u / 10 < 10 ^ f := by
    rw [Nat.pow_succ] at h
    omega
   refine ih (u / 10) _ h1 ?_ (by omega)
   rcases Nat.eq_zero_or_pos f with rfl | h2
   ·simp at h1; omega
   ·exact h2
end Go.Proofs.Px
