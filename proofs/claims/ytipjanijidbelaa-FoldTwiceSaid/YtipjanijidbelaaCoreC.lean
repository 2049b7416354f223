/- The abstract machine and its proof against GoSem, part 3 of 3: own work; see the heads of its sections. -/
import Derived.Test.YtipjanijidbelaaCoreB
import Derived.LoopN
import Derived.Scope
import Derived.Below
/- The abstract machine against GoSem: one operation of a drawn region on a part of the state. Own work. -/
namespace Go.Proofs.Ab
open Go
set_option linter.unusedVariables false
set_option linter.unusedSimpArgs false

/-! ### The state as a function of places -/
inductive Loc where
  | slot (t : Nat) | blk (id : Nat) | rows
inductive Cell where
  | v (v : V) | b (o : Option Blk) | r (u d : List Nat)
abbrev FS := Loc → Cell
def FS.e (s : FS) (t : Nat) : V := match s (.slot t) with | .v v => v | _ => .undef
def FS.g (s : FS) (id : Nat) : Option Blk := match s (.blk id) with | .b o => o | _ => none
def FS.u (s : FS) : List Nat := match s .rows with | .r u _ => u | _ => []
def FS.d (s : FS) : List Nat := match s .rows with | .r _ d => d | _ => []
def FS.live (s : FS) (t : Nat) : Prop := s.u.contains t = true ∧ s.d.contains t = false
/-- What an operation did. -/
structure Eff where
  on : Bool
  v : V
  bl : List (Nat × Blk)
  u : List Nat
  d : List Nat
  ft : Ft
def upd (x : Oper × Eff) : Loc → Option Cell
  | .slot t => if x.1.dst = some t then some (.v x.2.v) else none
  | .blk id => if id ∈ x.2.ft.wr then (getB x.2.bl id).map (fun b => .b (some b)) else none
  | .rows => if x.2.ft.row = true then some (.r x.2.u x.2.d) else none
def app (x : Oper × Eff) (s : FS) : FS := fun loc => match upd x loc with | some c => c | none => s loc
theorem app_e (x : Oper × Eff) (s : FS) (t : Nat) : (app x s).e t = if x.1.dst = some t then x.2.v else s.e t := by
  unfold FS.e app upd
  by_cases h : x.1.dst = some t <;> simp [h]
theorem app_g (x : Oper × Eff) (s : FS) (id : Nat) : (app x s).g id = if id ∈ x.2.ft.wr then (match getB x.2.bl id with | some b => some b | none => s.g id) else s.g id := by
  unfold FS.g app upd
  by_cases h : id ∈ x.2.ft.wr
  · simp only [h, if_true]
    cases getB x.2.bl id <;> rfl
  · simp [h]
theorem app_u (x : Oper × Eff) (s : FS) : (app x s).u = if x.2.ft.row = true then x.2.u else s.u := by
  unfold FS.u app upd
  by_cases h : x.2.ft.row = true <;> simp [h]
theorem app_d (x : Oper × Eff) (s : FS) : (app x s).d = if x.2.ft.row = true then x.2.d else s.d := by
  unfold FS.d app upd
  by_cases h : x.2.ft.row = true <;> simp [h]
/-- **A place in a drawn region.** -/
structure FAt (pg : Pg) (c0 : Cx) (own0 : Own) (nt : Nat) (c : Cx) (own : Own) (s : FS) (a : Act) : Prop where
  inv : Inv pg c own s.g s.live
  domr : ∀ t r, c.row t = some r → s.u.contains t = true
  env : ∀ t, VRep pg.P c (s.e t) (a.tmps.getD t Go.undef)
  size : a.tmps.size = nt
  defers : a.defers = []
  after : After c0 own0 c own
  blk : ∀ i r, c0.blk i = some r → c.blk i = some r
  out : ∀ id, ¬ c.out id
/-- What is told of a footprint. -/
structure FtOk (o : Oper) (E : Eff) : Prop where
  row : E.ft.row = isRow o
  rd : isRd o = true → E.ft.wr = []
  wr : isRd o = false → E.ft.rd = []
  made : allocs o = true → ∀ d, o.dst = some d → aid d ∈ E.ft.wr
  keys : ∀ id k, getB E.bl id = some k → id ∈ E.ft.rd ∨ id ∈ E.ft.wr

section
variable {pg : Pg} {D : DSem} {f : FuncId} {env : Env} {o : Oper} {bl : List (Nat × Blk)} {c0 c c' : Cx} {own0 own own' : Own} {nt : Nat} {s : FS} {a : Act}
open Classical in
/-- Whose the cells are: of these blocks alone, and of the rows. -/
noncomputable def Own.part (own : Own) (ids : Nat → Prop) : Own := fun b x => match own b x with | some (false, id) => if ids id then some (false, id) else none | o => o
theorem Own.part_none {ids : Nat → Prop} {b x : Nat} (h : own b x = none) : own.part ids b x = none := by unfold Own.part; rw [h]
theorem Own.part_row {ids : Nat → Prop} {b x t : Nat} (h : own b x = some (true, t)) : own.part ids b x = some (true, t) := by unfold Own.part; rw [h]
theorem Own.part_in {ids : Nat → Prop} {b x id : Nat} (h : own b x = some (false, id)) (hi : ids id) : own.part ids b x = some (false, id) := by unfold Own.part; rw [h]; simp [hi]
theorem Own.part_out {ids : Nat → Prop} {b x id : Nat} (h : own b x = some (false, id)) (hi : ¬ ids id) : own.part ids b x = none := by unfold Own.part; rw [h]; simp [hi]
/-- Behind the operation: the others keep theirs. -/
def Own.rejoin (own ownr own' : Own) : Own := fun b x => match own' b x with | some q => some q | none => match ownr b x with | none => own b x | some _ => none
theorem Own.rejoin_new {ownr : Own} {b x : Nat} {q : Bool × Nat} (h : own' b x = some q) : own.rejoin ownr own' b x = some q := by unfold Own.rejoin; rw [h]
theorem Own.rejoin_kept {ownr : Own} {b x : Nat} (h : own' b x = none) (h2 : ownr b x = none) : own.rejoin ownr own' b x = own b x := by unfold Own.rejoin; rw [h, h2]
theorem Own.rejoin_lost {ownr : Own} {b x : Nat} (h : own' b x = none) (h2 : ownr b x ≠ none) : own.rejoin ownr own' b x = none := by
  unfold Own.rejoin; rw [h]
  cases hq : ownr b x with
  | none => exact absurd hq h2
  | some q => rfl
/-- The tie with all but these blocks put aside. -/
def Cx.aside (c : Cx) (ids : Nat → Prop) : Cx := { c with out := fun id => ¬ ids id }
theorem Inv.aside {live : Nat → Prop} {g g' : Nat → Option Blk} (hI : Inv pg c own g live) (hout : ∀ id, ¬ c.out id) {ids : Nat → Prop} (hg : ∀ id, ids id → g' id = g id) (hg2 : ∀ id, ¬ ids id → g' id = none) :
    Inv pg (c.aside ids) (own.part ids) g' live := by
  refine ⟨fun id k hk => ?_, fun t ht => ?_, fun b x hp => ⟨Own.part_none (hI.np b x hp).1, (hI.np b x hp).2⟩, fun b x hn => hI.fresh b x fun h => hn (Own.part_none h), fun id r hr => ?_, fun i cs hg => hI.gl i cs hg⟩
  · by_cases hid : ids id
    · rw [hg id hid] at hk
      obtain ⟨b, o, h1, h2⟩ := hI.blk id k hk
      exact ⟨b, o, h1, h2.kept (own1 := fun _ _ => none) ⟨fun b x h => ⟨h, rfl⟩, fun _ _ h => h, fun _ _ h => h⟩ (Frame.refl _ _) (fun _ _ _ => rfl) fun b x h => Own.part_in h hid⟩
    · rw [hg2 id hid] at hk; cases hk
  · exact (hI.row t ht).kept (own1 := fun _ _ => none) ⟨fun b x h => ⟨h, rfl⟩, fun _ _ h => h, fun _ _ h => h⟩ (Frame.refl _ _) (fun _ _ _ => rfl) (fun _ _ _ => rfl) fun b x h => Own.part_row h
  · by_cases hid : ids id
    · rcases hI.dom id r hr with ⟨k, hk⟩ | ho
      · exact .inl ⟨k, (hg id hid).trans hk⟩
      · exact absurd ho (hout id)
    · exact .inr hid
theorem VRep.aside {P : Program} {ids : Nat → Prop} {v : V} {x : Value} (h : VRep P c v x) : VRep P (c.aside ids) v x := VRep.mono (c := c) (c' := c.aside ids) ⟨fun b x h => ⟨h, rfl⟩, fun _ _ h => h, fun _ _ h => h⟩ h
/-- **Behind the operation.** -/
theorem Inv.rejoin {live live' : Nat → Prop} {g g' gr' : Nat → Option Blk} {ids : Nat → Prop} (hI : Inv pg c own g live) (hout : ∀ id, ¬ c.out id) (hI' : Inv pg c' own' gr' live') (ha : After (c.aside ids) (own.part ids) c' own') (hx : Ext (c.aside ids) c')
    (hin : ∀ id, ids id → ∀ k, g' id = some k → gr' id = some k) (hin2 : ∀ id, ids id → ∀ k, gr' id = some k → ∃ k', g' id = some k') (hot : ∀ id, ¬ ids id → g' id = g id) (hkey : ∀ id k, gr' id = some k → ids id) :
    Inv pg { c' with out := c.out } (own.rejoin (own.part ids) own') g' live' ∧ After c own { c' with out := c.out } (own.rejoin (own.part ids) own') ∧ Ext c { c' with out := c.out } := by
  have hx2 : Ext c { c' with out := c.out } := ⟨hx.prot, hx.blk, hx.row⟩
  have hf : Frame (own.part ids) c.w c'.w := ha.frame
  have keepr : ∀ b x, b < c.w.heap.size → own.part ids b x = none → own' b x = none := ha.keep
  have hl : ∀ b x, own b x = none → own.part ids b x = none := fun b x h => Own.part_none h
  have hx3 : Ext c' { c' with out := c.out } := ⟨fun b x h => ⟨h, rfl⟩, fun _ _ h => h, fun _ _ h => h⟩
  refine ⟨⟨fun id k hk => ?_, fun t ht => ?_, fun b x hp => ?_, fun b x hn => ?_, fun id r hr => ?_, fun i cs hg => hI'.gl i cs hg⟩, ⟨hf.weaken hl, fun b x hb hn => ?_, ha.prot, fun b x hp => ?_, ⟨rfl, fun id r ho _ => absurd ho (hout id)⟩⟩, hx2⟩
  · by_cases hid : ids id
    · obtain ⟨b, o, h1, h2⟩ := hI'.blk id k (hin id hid k hk)
      exact ⟨b, o, h1, h2.kept (own1 := fun _ _ => none) hx3 (Frame.refl _ _) (fun _ _ _ => rfl) fun b x h => Own.rejoin_new h⟩
    · rw [hot id hid] at hk
      obtain ⟨b, o, h1, h2⟩ := hI.blk id k hk
      refine ⟨b, o, hx.blk _ _ h1, h2.kept hx2 hf (fun b x h => Own.part_out h hid) fun b x h => ?_⟩
      have h3 := Own.part_out h hid
      rw [Own.rejoin_kept (keepr b x (hI.fresh b x (by rw [h]; nofun)) h3) h3]
      exact h
  · exact (hI'.row t ht).kept (own1 := fun _ _ => none) hx3 (Frame.refl _ _) (fun _ _ _ => rfl) (fun _ _ _ => rfl) fun b x h => Own.rejoin_new h
  · obtain ⟨h1, h2⟩ := hI'.np b x hp
    refine ⟨?_, h2⟩
    by_cases h4 : own.part ids b x = none
    · rw [Own.rejoin_kept h1 h4]
      rcases ha.prot' b x hp with h5 | h5 | h5
      · exact (hI.np b x h5).1
      · exact absurd h4 h5
      · cases ho : own b x with
        | none => rfl
        | some q => exact absurd (hI.fresh b x (by rw [ho]; nofun)) (Nat.not_lt.2 h5)
    · exact Own.rejoin_lost h1 h4
  · show b < c'.w.heap.size
    cases ho : own' b x with
    | some q => exact hI'.fresh b x (by rw [ho]; nofun)
    | none =>
      by_cases h4 : own.part ids b x = none
      · rw [Own.rejoin_kept ho h4] at hn
        exact Nat.lt_of_lt_of_le (hI.fresh b x hn) hf.size
      · rw [Own.rejoin_lost ho h4] at hn
        exact absurd rfl hn
  · have hr' : c'.blk id = some r := hr
    by_cases hid : ids id
    · rcases hI'.dom id r hr' with ⟨k, hk⟩ | ho
      · exact .inl (hin2 id hid k hk)
      · rw [ha.far.1] at ho
        exact absurd hid ho
    · have h1 := ha.far.2 id r hid hr'
      rcases hI.dom id r h1 with ⟨k, hk⟩ | ho
      · exact .inl ⟨k, (hot id hid).trans hk⟩
      · exact absurd ho (hout id)
  · have h4 := hl b x hn
    rw [Own.rejoin_kept (keepr b x hb h4) h4]; exact hn
  · rcases ha.prot' b x hp with h5 | h5 | h5
    · exact .inl h5
    · exact .inr (.inl fun h => h5 (hl b x h))
    · exact .inr (.inr h5)
end
end Go.Proofs.Ab
/- The abstract machine against GoSem: one operation of a drawn region (2). Own work. -/
namespace Go.Proofs.Ab
open Go
set_option linter.unusedVariables false
set_option linter.unusedSimpArgs false

section
variable {pg : Pg} {D : DSem} {f : FuncId} {env : Env} {o : Oper} {bl : List (Nat × Blk)} {c0 c c' : Cx} {own0 own own' : Own} {nt : Nat} {s : FS} {a : Act} {ops : Array Oper}
/-- What its guard says. -/
def GuardF (ops : Array Oper) (s : FS) (o : Oper) (on : Bool) : Prop :=
  match o.guard with
  | none => on = true
  | some (g, want) => ∃ t, dstOf ops.toList g = some t ∧ ((∃ b, s.e t = .bool b ∧ on = (b == want)) ∨ (s.e t = .hole ∧ on = false))
/-- **What an operation did, told from the state ahead of it.** -/
structure OpF (pg : Pg) (D : DSem) (f : FuncId) (nt : Nat) (ops : Array Oper) (s : FS) (x : Oper × Eff) : Prop where
  guard : GuardF ops s x.1 x.2.on
  dst : ∀ d, x.1.dst = some d → d < nt
  go : x.2.on = true → notDrawn x.1 = false ∧ FtOk x.1 x.2 ∧ ∃ envi B, (∀ t, t ∈ tmpsOf x.1 → Env.get envi t = s.e t) ∧ (∀ id, getB B id = if id ∈ x.2.ft.rd ∨ id ∈ x.2.ft.wr then s.g id else none) ∧
    (isRow x.1 = true → step1 pg D f envi x.1 ⟨B, s.u, s.d, [], none⟩ = some (.val x.2.v ⟨x.2.bl, x.2.u, x.2.d, [], none⟩)) ∧ (isRow x.1 = false → stepB pg f envi x.1 B = some (x.2.v, x.2.bl))
  skip : x.2.on = false → x.2.v = .hole ∧ x.2.ft = ⟨[], [], false⟩
theorem mem_tmpsOf {t : Tmp} (h : Operand.tmp t ∈ o.op.operands) : t ∈ tmpsOf o := by
  unfold tmpsOf
  rw [List.mem_filterMap]
  exact ⟨_, Array.mem_toList_iff.2 h, rfl⟩
theorem FAt.put {c1 : Cx} {own1 : Own} {x : Oper × Eff} {y : Value} (hF : FAt pg c0 own0 nt c own s a) (hI : Inv pg c1 own1 (app x s).g (app x s).live) (hd : ∀ t r, c1.row t = some r → (app x s).u.contains t = true) (ha : After c own c1 own1) (hx : Ext c c1)
    (hdst : ∀ d, x.1.dst = some d → d < nt) (hv : VRep pg.P c1 x.2.v y) : FAt pg c0 own0 nt c1 own1 (app x s) (a.put x.1.dst y) := by
  refine ⟨hI, hd, fun t => ?_, (put_size a _ y).trans hF.size, (put_defers a _ y).trans hF.defers, hF.after.trans ha, fun i r hr => hx.blk _ _ (hF.blk i r hr), fun id => by rw [ha.far.1]; exact hF.out id⟩
  rw [app_e]
  by_cases h : x.1.dst = some t
  · rw [if_pos h, h]
    have h2 : (a.put (some t) y).tmps.getD t Go.undef = y := by simp [Act.put, Array.getD, hF.size, hdst t h]
    rw [h2]; exact hv
  · rw [if_neg h]
    have h2 : (a.put x.1.dst y).tmps.getD t Go.undef = a.tmps.getD t Go.undef := by
      cases hd : x.1.dst with
      | none => rfl
      | some d =>
        have : d ≠ t := by rintro rfl; exact h hd
        simp [Array.getD_eq_getD_getElem?, Act.put, Array.getElem?_setIfInBounds, this]
    rw [h2]; exact (hF.env t).mono hx
theorem FAt.skip {x : Oper × Eff} (hF : FAt pg c0 own0 nt c own s a) (hO : OpF pg D f nt ops s x) (hon : x.2.on = false) : FAt pg c0 own0 nt c own (app x s) (a.put x.1.dst Go.undef) := by
  obtain ⟨h1, h2⟩ := hO.skip hon
  have hg : (app x s).g = s.g := funext fun id => by rw [app_g, h2]; simp
  have hu : (app x s).u = s.u := by rw [app_u, h2]; simp
  have hd : (app x s).d = s.d := by rw [app_d, h2]; simp
  have hl : (app x s).live = s.live := by unfold FS.live; rw [hu, hd]
  exact hF.put (by rw [hg, hl]; exact hF.inv) (by rw [hu]; exact hF.domr) (After.refl _ _) (Ext.refl _) hO.dst (by rw [h1]; exact .hole)
/-- **One operation of a drawn region.** -/
theorem drawn_step {x : Oper × Eff} {next : Act → World → Prop} {Q : Exit → Act → World → Prop} (hD : DSound pg D) (hdf : pg.dfs = false) (hF : FAt pg c0 own0 nt c own s a) (hO : OpF pg D f nt ops s x) (hon : x.2.on = true)
    (hn : ∀ c1 own1 y, FAt pg c0 own0 nt c1 own1 (app x s) (a.put x.1.dst y) → next (a.put x.1.dst y) c1.w) : x.1.wp pg.P a c.w next Q := by
  obtain ⟨hnd, hft, envi, B, henv, hB, hrow, hnrow⟩ := hO.go hon
  obtain ⟨o, E⟩ := x
  dsimp only at hnd hft henv hB hrow hnrow hon
  let ids : Nat → Prop := fun id => id ∈ E.ft.rd ∨ id ∈ E.ft.wr
  have hids : ∀ id, ids id ↔ (id ∈ E.ft.rd ∨ id ∈ E.ft.wr) := fun _ => Iff.rfl
  -- the step in one form
  have hstep : ∃ st', opS pg D f envi o ⟨B, s.u, s.d, [], none⟩ (fun v s => some (Step.val v s)) (fun v s => some (Step.pan v s)) = some (.val E.v st') ∧ st'.bl = E.bl ∧ st'.used = (if E.ft.row = true then E.u else s.u) ∧ st'.dead = (if E.ft.row = true then E.d else s.d) := by
    rw [hft.row]
    cases hr : isRow o with
    | true => exact ⟨_, hrow hr, rfl, by simp, by simp⟩
    | false =>
      have h1 := hnrow hr
      refine ⟨⟨E.bl, s.u, s.d, [], none⟩, ?_, rfl, by simp, by simp⟩
      rw [opS_opB hr hnd, opB_step]
      show (stepB pg f envi o B).bind _ = _
      rw [h1]; rfl
  obtain ⟨st', hs, hsb, hsu, hsd⟩ := hstep
  have hI := hF.inv.aside hF.out (ids := ids) (g' := getB B) (fun id h => by rw [hB, if_pos h]) (fun id h => by rw [hB, if_neg h])
  have hS : SInv pg (c.aside ids) (own.part ids) ⟨B, s.u, s.d, [], none⟩ := ⟨hI, hF.domr⟩
  show o.wp pg.P a (c.aside ids).w next Q
  refine opS_sound (c := c.aside ids) (own := own.part ids) hD hdf hS (fun ha d hd ho => ho (.inr (hft.made ha d hd))) hs (fun y hy t => ?_) (fun v st1 c1 own1 y h1 hv hS1 ha hx _ _ => ?_) (fun v st1 c1 own1 y h1 hv hS1 ha hx _ _ => by cases h1)
  · cases y with
    | tmp t2 =>
      show VRep pg.P (c.aside ids) (Env.get envi t2) _
      rw [henv t2 (mem_tmpsOf hy)]
      exact (hF.env t2).aside
    | const v => exact cvK_rep t v
    | global i =>
      show VRep pg.P _ (match pg.gl i with | some cs => .ptr cs 0 | none => .undef) _
      cases hg : pg.gl i with
      | none => exact .undef _
      | some cs => exact .pure (hF.inv.gl i cs hg)
    | func f => exact .pure (.fn f)
  · cases h1
    have hrd : isRd o = true → E.bl = B := fun hr => by
      obtain ⟨v, st2, h2, h3⟩ := opS_rd (kp := fun v s => some (Step.pan v s)) hr hnd hs
      cases h3
      rw [← hsb]; exact h2
    have hgr : getB st'.bl = getB E.bl := by rw [hsb]
    have hI1 := hS1.inv
    rw [hgr] at hI1
    have hlive : Live st' = (app (o, E) s).live := by
      unfold Live FS.live
      rw [app_u, app_d, hsu, hsd]
    rw [hlive] at hI1
    obtain ⟨g1, g2, g3⟩ := Inv.rejoin (g' := (app (o, E) s).g) hF.inv hF.out hI1 ha hx (fun id hid k hk => by
      rw [app_g] at hk
      dsimp only at hk
      by_cases hw : id ∈ E.ft.wr
      · rw [if_pos hw] at hk
        cases hb : getB E.bl id with
        | some b => rw [hb] at hk; exact hk
        | none =>
          rw [hb] at hk
          exfalso
          obtain ⟨b, oo, h2, _⟩ := hF.inv.blk id k hk
          rcases hI1.dom id _ (hx.blk _ _ h2) with ⟨k2, h3⟩ | ho
          · rw [hb] at h3; cases h3
          · rw [ha.far.1] at ho
            exact ho hid
      · rw [if_neg hw] at hk
        cases hr : isRd o with
        | true => rw [hrd hr, hB, if_pos hid]; exact hk
        | false =>
          rcases hid with hid | hid
          · rw [hft.wr hr] at hid; cases hid
          · exact absurd hid hw) (fun id hid k hk => by
      rw [app_g]
      dsimp only
      by_cases hw : id ∈ E.ft.wr
      · rw [if_pos hw, hk]; exact ⟨k, rfl⟩
      · rw [if_neg hw]
        cases hr : isRd o with
        | true => rw [hrd hr, hB, if_pos hid] at hk; exact ⟨k, hk⟩
        | false =>
          rcases hid with hid | hid
          · rw [hft.wr hr] at hid; cases hid
          · exact absurd hid hw) (fun id hid => by
      rw [app_g]
      exact if_neg fun hw => hid (.inr hw)) (fun id k hk => hft.keys id k hk)
    refine hn { c1 with out := c.out } _ y (hF.put g1 (fun t r hr => ?_) g2 g3 hO.dst (VRep.mono (c := c1) (c' := { c1 with out := c.out }) ⟨fun b x h => ⟨h, rfl⟩, fun _ _ h => h, fun _ _ h => h⟩ hv))
    have := hS1.domr t r hr
    rw [hsu] at this
    rw [app_u]; exact this
end
end Go.Proofs.Ab
/- The abstract machine against GoSem: the orders of a drawn region. Own work. -/
namespace Go.Proofs.Ab
open Go
set_option linter.unusedVariables false
set_option linter.unusedSimpArgs false

/-- What a part of the operations does, in the text's order. -/
def runL (p : Nat → Bool) : Nat → List (Oper × Eff) → FS → FS
  | _, [], s => s
  | i, x :: l, s => runL p (i + 1) l (bif p i then app x s else s)
def WrF (x : Oper × Eff) : Loc → Prop
  | .slot t => x.1.dst = some t
  | .blk id => id ∈ x.2.ft.wr
  | .rows => x.2.ft.row = true
def RdF (ops : Array Oper) (x : Oper × Eff) : Loc → Prop
  | .slot t => t ∈ x.1.looksAt ops
  | .blk id => id ∈ x.2.ft.rd ∨ id ∈ x.2.ft.wr
  | .rows => x.2.ft.row = true
def ApartF (ops : Array Oper) (x y : Oper × Eff) : Prop := x.1.apart ops y.1 = true ∧ x.2.ft.apart y.2.ft = true
section
variable {p q : Nat → Bool} {l : List (Oper × Eff)} {s s' : FS} {x y : Oper × Eff} {loc : Loc} {ops : Array Oper}
theorem upd_none (h : ¬ WrF x loc) : upd x loc = none := by
  cases loc with
  | slot t => exact if_neg h
  | blk id => exact if_neg h
  | rows => exact if_neg h
theorem app_out (h : ¬ WrF x loc) : app x s loc = s loc := by unfold app; rw [upd_none h]
theorem runL_agree : ∀ {l : List (Oper × Eff)} {i : Nat} {s s' : FS}, s loc = s' loc → (∀ (j : Nat) x, l[j]? = some x → p (i + j) ≠ q (i + j) → ¬ WrF x loc) → runL p i l s loc = runL q i l s' loc
  | [], i, s, s', h, _ => h
  | x :: l, i, s, s', h, hw => by
    unfold runL
    refine runL_agree ?_ fun j y hy hne => hw (j + 1) y (by simpa using hy) (by rw [show i + (j + 1) = i + 1 + j by omega]; exact hne)
    by_cases hpq : p i = q i
    · rw [hpq]
      cases q i with
      | false => exact h
      | true =>
        show app x s loc = app x s' loc
        unfold app
        cases upd x loc with
        | none => exact h
        | some c => rfl
    · have hn := hw 0 x rfl hpq
      cases hp : p i <;> cases hq : q i
      · exact h
      · show s loc = app x s' loc
        rw [app_out hn]; exact h
      · show app x s loc = s' loc
        rw [app_out hn]; exact h
      · show app x s loc = app x s' loc
        rw [app_out hn, app_out hn]; exact h
theorem runL_same : ∀ {l : List (Oper × Eff)} {i : Nat} {s : FS}, (∀ (j : Nat) x, l[j]? = some x → p (i + j) = true → ¬ WrF x loc) → runL p i l s loc = s loc
  | [], i, s, _ => rfl
  | x :: l, i, s, hw => by
    unfold runL
    rw [runL_same fun j y hy hp => hw (j + 1) y (by simpa using hy) (by rw [show i + (j + 1) = i + 1 + j by omega]; exact hp)]
    cases hp : p i with
    | false => rfl
    | true => exact app_out (hw 0 x rfl hp)
theorem runL_last : ∀ {l : List (Oper × Eff)} {i j0 : Nat} {s : FS} {x0 : Oper × Eff}, l[j0]? = some x0 → p (i + j0) = false →
    (∀ (j : Nat) x, j0 < j → l[j]? = some x → p (i + j) = true → WrF x0 loc → ¬ WrF x loc) → runL (fun k => p k || k == i + j0) i l s loc = app x0 (runL p i l s) loc
  | [], i, j0, s, x0, h, _, _ => by simp at h
  | x :: l, i, 0, s, x0, h, hp, hw => by
    simp at h
    subst h
    unfold runL
    rw [Nat.add_zero] at hp
    simp only [hp, cond_false, Nat.add_zero, Bool.false_or, beq_self_eq_true, cond_true]
    by_cases hx : WrF x loc
    · rw [runL_same fun j y hy hpj hwy => ?_]
      · unfold app
        cases hu : upd x loc with
        | some c => rfl
        | none =>
          show s loc = runL p (i + 1) l s loc
          rw [runL_same fun j y hy hpj hwy => ?_]
          exact hw (j + 1) y (by omega) (by simpa using hy) (by rw [show i + (j + 1) = i + 1 + j by omega]; exact hpj) hx hwy
      · have hne : (i + 1 + j == i) = false := by simp; omega
        rw [hne, Bool.or_false] at hpj
        exact hw (j + 1) y (by omega) (by simpa using hy) (by rw [show i + (j + 1) = i + 1 + j by omega]; exact hpj) hx hwy
    · rw [app_out hx]
      refine runL_agree (app_out hx) fun j y hy hne => ?_
      have hne2 : (i + 1 + j == i) = false := by simp; omega
      exfalso
      apply hne
      rw [hne2, Bool.or_false]
  | x :: l, i, j0 + 1, s, x0, h, hp, hw => by
    unfold runL
    have h1 : (i == i + (j0 + 1)) = false := by simp
    simp only [h1, Bool.or_false]
    have h2 : i + (j0 + 1) = i + 1 + j0 := by omega
    rw [h2] at hp ⊢
    exact runL_last (by simpa using h) hp fun j y hj hy hpj => hw (j + 1) y (by omega) (by simpa using hy) (by rw [show i + (j + 1) = i + 1 + j by omega]; exact hpj)
theorem runL_append : ∀ {l : List (Oper × Eff)} {i : Nat} {s : FS} {x : Oper × Eff}, runL p i (l ++ [x]) s = bif p (i + l.length) then app x (runL p i l s) else runL p i l s
  | [], i, s, x => rfl
  | y :: l, i, s, x => by
    have h : i + (y :: l).length = i + 1 + l.length := by simp; omega
    rw [h]
    show runL p (i + 1) (l ++ [x]) _ = _
    rw [runL_append]
    rfl
/-! Apart -/
theorem ApartF.slot (h : ApartF ops x y) : (∀ d, x.1.dst = some d → d ∉ y.1.looksAt ops) ∧ (∀ d, x.1.dst = some d → y.1.dst ≠ some d) ∧ (∀ d, y.1.dst = some d → d ∉ x.1.looksAt ops) := Oper.apart_spec h.1
theorem meets_false {a b : List Nat} (h : meets a b = false) {i : Nat} (ha : i ∈ a) : i ∉ b := by
  intro hb
  have : meets a b = true := by
    unfold meets
    rw [List.any_eq_true]
    exact ⟨i, ha, List.contains_iff_mem.2 hb⟩
  rw [h] at this; cases this
theorem ApartF.ft (h : ApartF ops x y) : meets x.2.ft.wr y.2.ft.rd = false ∧ meets x.2.ft.wr y.2.ft.wr = false ∧ meets x.2.ft.rd y.2.ft.wr = false ∧ (x.2.ft.row && y.2.ft.row) = false := by
  have h2 := h.2
  unfold Ft.apart at h2
  simp only [Bool.and_eq_true, Bool.not_eq_true'] at h2
  exact ⟨h2.1.1.1, h2.1.1.2, h2.1.2, h2.2⟩
theorem ApartF.wr_rd (h : ApartF ops x y) (hx : WrF x loc) : ¬ RdF ops y loc := by
  obtain ⟨h1, h2, h3, h4⟩ := h.ft
  cases loc with
  | slot t => exact h.slot.1 t hx
  | blk id =>
    rintro (hy | hy)
    · exact meets_false h1 hx hy
    · exact meets_false h2 hx hy
  | rows =>
    intro hy
    have hx' : x.2.ft.row = true := hx
    have hy' : y.2.ft.row = true := hy
    rw [hx', hy'] at h4; cases h4
theorem ApartF.rd_wr (h : ApartF ops x y) (hy : WrF y loc) : ¬ RdF ops x loc := by
  obtain ⟨h1, h2, h3, h4⟩ := h.ft
  cases loc with
  | slot t => exact h.slot.2.2 t hy
  | blk id =>
    rintro (hx | hx)
    · exact meets_false h3 hx hy
    · exact meets_false h2 hx hy
  | rows =>
    intro hx
    have hx' : x.2.ft.row = true := hx
    have hy' : y.2.ft.row = true := hy
    rw [hx', hy'] at h4; cases h4
theorem ApartF.wr_wr (h : ApartF ops x y) (hx : WrF x loc) : ¬ WrF y loc := by
  obtain ⟨h1, h2, h3, h4⟩ := h.ft
  cases loc with
  | slot t => exact h.slot.2.1 t hx
  | blk id => exact meets_false h2 hx
  | rows =>
    intro hy
    have hx' : x.2.ft.row = true := hx
    have hy' : y.2.ft.row = true := hy
    rw [hx', hy'] at h4; cases h4
/-! What hangs on what it looks at alone -/
theorem FS.e_eq {t : Nat} (h : s (.slot t) = s' (.slot t)) : s.e t = s'.e t := by unfold FS.e; rw [h]
theorem FS.g_eq {t : Nat} (h : s (.blk t) = s' (.blk t)) : s.g t = s'.g t := by unfold FS.g; rw [h]
theorem FS.u_eq (h : s .rows = s' .rows) : s.u = s'.u := by unfold FS.u; rw [h]
theorem FS.d_eq (h : s .rows = s' .rows) : s.d = s'.d := by unfold FS.d; rw [h]
theorem OpF.congr {pg : Pg} {D : DSem} {f : FuncId} {nt : Nat} (h : OpF pg D f nt ops s x) (hs : ∀ loc, RdF ops x loc → s loc = s' loc) : OpF pg D f nt ops s' x := by
  have hlook : ∀ t, t ∈ tmpsOf x.1 → s.e t = s'.e t := fun t ht => FS.e_eq (hs (.slot t) (List.mem_append_left _ ht))
  refine ⟨?_, h.dst, fun hon => ?_, h.skip⟩
  · have hg := h.guard
    unfold GuardF at hg ⊢
    cases hgd : x.1.guard with
    | none => rw [hgd] at hg; exact hg
    | some gw =>
      obtain ⟨g, want⟩ := gw
      rw [hgd] at hg
      obtain ⟨t, h1, h2⟩ := hg
      have ht : s.e t = s'.e t := FS.e_eq (hs (.slot t) (by
        refine List.mem_append_right _ ?_
        rw [hgd]
        show t ∈ ((ops[g]?).bind (·.dst)).toList
        unfold dstOf at h1
        rw [Array.getElem?_toList] at h1
        cases ho : ops[g]? with
        | none => rw [ho] at h1; cases h1
        | some o' =>
          rw [ho] at h1
          have h1' : o'.dst = some t := h1
          simp [h1']))
      exact ⟨t, h1, by rw [← ht]; exact h2⟩
  · obtain ⟨h1, h2, envi, B, h3, h4, h5, h6⟩ := h.go hon
    refine ⟨h1, h2, envi, B, fun t ht => (h3 t ht).trans (hlook t ht), fun id => ?_, fun hr => ?_, h6⟩
    · rw [h4]
      by_cases hid : id ∈ x.2.ft.rd ∨ id ∈ x.2.ft.wr
      · rw [if_pos hid, if_pos hid, FS.g_eq (hs (.blk id) hid)]
      · rw [if_neg hid, if_neg hid]
    · have hrow : x.2.ft.row = true := by rw [h2.row]; exact hr
      rw [← FS.u_eq (hs .rows hrow), ← FS.d_eq (hs .rows hrow)]
      exact h5 hr
/-! What must come first -/
theorem preds_fold : ∀ (l : List Oper) (acc : List (List Nat)),
    (∃ t, l.foldl (fun acc o => acc ++ [dedup ((o.after.toList.filter (Region.binds .any)).map fun e => e.on :: acc.getD e.on []).flatten]) acc = acc ++ t) ∧
    ∀ (j : Nat) (o : Oper), l[j]? = some o → ∀ k, k ∈ (l.foldl (fun acc o => acc ++ [dedup ((o.after.toList.filter (Region.binds .any)).map fun e => e.on :: acc.getD e.on []).flatten]) acc).getD (acc.length + j) [] →
      ∃ e, e ∈ o.after.toList ∧ Region.binds .any e = true ∧ (k = e.on ∨ (e.on < acc.length + j ∧ k ∈ (l.foldl (fun acc o => acc ++ [dedup ((o.after.toList.filter (Region.binds .any)).map fun e => e.on :: acc.getD e.on []).flatten]) acc).getD e.on []))
  | [], acc => ⟨⟨[], by simp⟩, fun j o h => by simp at h⟩
  | o :: l, acc => by
    obtain ⟨⟨t, ht⟩, h2⟩ := preds_fold l (acc ++ [dedup ((o.after.toList.filter (Region.binds .any)).map fun e => e.on :: acc.getD e.on []).flatten])
    rw [List.foldl_cons]
    refine ⟨⟨_, by rw [ht, List.append_assoc]⟩, fun j o' ho k hk => ?_⟩
    cases j with
    | zero =>
      simp at ho
      subst ho
      rw [ht] at hk ⊢
      have h3 : (acc ++ [dedup ((o.after.toList.filter (Region.binds .any)).map fun e => e.on :: acc.getD e.on []).flatten] ++ t).getD (acc.length + 0) [] = dedup ((o.after.toList.filter (Region.binds .any)).map fun e => e.on :: acc.getD e.on []).flatten := by
        simp [List.getD]
      rw [h3, mem_dedup] at hk
      simp only [List.mem_flatten, List.mem_map] at hk
      obtain ⟨l', ⟨e, he, rfl⟩, hk⟩ := hk
      obtain ⟨he1, he2⟩ := List.mem_filter.1 he
      refine ⟨e, he1, he2, ?_⟩
      rcases List.mem_cons.1 hk with h4 | h4
      · exact .inl h4
      · right
        have hlt : e.on < acc.length := by
          rcases Nat.lt_or_ge e.on acc.length with h | h
          · exact h
          · rw [List.getD_eq_getElem?_getD, List.getElem?_eq_none h] at h4; cases h4
        refine ⟨by omega, ?_⟩
        have : (acc ++ [dedup ((o.after.toList.filter (Region.binds .any)).map fun e => e.on :: acc.getD e.on []).flatten] ++ t).getD e.on [] = acc.getD e.on [] := by
          rw [List.getD_eq_getElem?_getD, List.getD_eq_getElem?_getD, List.append_assoc, List.getElem?_append_left hlt]
        rw [this]; exact h4
    | succ j =>
      have hl : (acc ++ [dedup ((o.after.toList.filter (Region.binds .any)).map fun e => e.on :: acc.getD e.on []).flatten]).length + j = acc.length + (j + 1) := by simp; omega
      obtain ⟨e, h3, h4, h5⟩ := h2 j o' (by simpa using ho) k (by rw [hl]; exact hk)
      rw [hl] at h5
      exact ⟨e, h3, h4, h5⟩
theorem preds_spec {l : List Oper} {j : Nat} {o : Oper} (h : l[j]? = some o) {k : Nat} (hk : k ∈ (predsOf l).getD j []) :
    ∃ e, e ∈ o.after.toList ∧ Region.binds .any e = true ∧ (k = e.on ∨ (e.on < j ∧ k ∈ (predsOf l).getD e.on [])) := by
  have := (preds_fold l []).2 j o h k (by simpa [predsOf] using hk)
  simpa [predsOf] using this
theorem topo_spec : ∀ {l : List Oper} {i : Nat}, okTopo i l = true → ∀ (j : Nat) (o : Oper), l[j]? = some o → ∀ e, e ∈ o.after.toList → Region.binds .any e = true → e.on < i + j
  | [], i, _, j, o, h => by simp at h
  | a :: l, i, h, j, o, ho => fun e he hb => by
    unfold okTopo at h
    rw [Bool.and_eq_true] at h
    cases j with
    | zero =>
      simp at ho
      subst ho
      have := List.all_eq_true.1 h.1 e he
      rw [hb] at this
      simp [Nat.blt_eq] at this
      omega
    | succ j =>
      have := topo_spec h.2 j o (by simpa using ho) e he hb
      omega
end
end Go.Proofs.Ab
/- The abstract machine against GoSem: the orders of a drawn region (2). Own work. -/
namespace Go.Proofs.Ab
open Go
set_option linter.unusedVariables false
set_option linter.unusedSimpArgs false

/-- How many are not yet done. -/
def cnt (f : Nat → Bool) : Nat → Nat
  | 0 => 0
  | n + 1 => cnt f n + bif f n then 0 else 1
theorem cnt_le (f : Nat → Bool) : ∀ n, cnt f n ≤ n
  | 0 => Nat.le_refl _
  | n + 1 => by
    have := cnt_le f n
    unfold cnt
    cases f n <;> simp <;> omega
theorem cnt_zero {f : Nat → Bool} : ∀ {n : Nat}, cnt f n = 0 → ∀ i, i < n → f i = true
  | n + 1, h, i, hi => by
    unfold cnt at h
    cases hf : f n with
    | false => rw [hf] at h; simp at h
    | true =>
      rw [hf] at h
      rcases Nat.lt_or_ge i n with hlt | hge
      · exact cnt_zero (by simpa using h) i hlt
      · have : i = n := by omega
        subst this; exact hf
theorem cnt_eq {f f' : Nat → Bool} : ∀ {n : Nat}, (∀ i, i < n → f' i = f i) → cnt f' n = cnt f n
  | 0, _ => rfl
  | n + 1, h => by
    unfold cnt
    rw [cnt_eq fun i hi => h i (by omega), h n (by omega)]
theorem cnt_step {f f' : Nat → Bool} {i : Nat} : ∀ {n : Nat}, i < n → f i = false → f' i = true → (∀ j, j ≠ i → f' j = f j) → cnt f' n + 1 = cnt f n
  | n + 1, hi, h1, h2, h3 => by
    unfold cnt
    rcases Nat.lt_or_ge i n with hlt | hge
    · have := cnt_step hlt h1 h2 h3
      rw [h3 n (by omega)]
      omega
    · have : i = n := by omega
      subst this
      rw [cnt_eq (f := f) (f' := f') fun j hj => h3 j (by omega), h1, h2]
      rfl
/-- **What the text's order tells.** -/
structure RunT (pg : Pg) (D : DSem) (f : FuncId) (nt : Nat) (ops : Array Oper) (l : List (Oper × Eff)) (s0 : FS) : Prop where
  same : l.map (·.1) = ops.toList
  op : ∀ (i : Nat) x, l[i]? = some x → OpF pg D f nt ops (runL (fun j => Nat.blt j i) 0 l s0) x
  ind : ∀ (i j : Nat) x y, i < j → l[i]? = some x → l[j]? = some y → i ∉ (predsOf ops.toList).getD j [] → ApartF ops x y

section
variable {pg : Pg} {D : DSem} {f : FuncId} {c0 : Cx} {own0 : Own} {nt : Nat} {ops : Array Oper} {l : List (Oper × Eff)} {s0 : FS} {Q : Exit → Act → World → Prop}
theorem RunT.at (hR : RunT pg D f nt ops l s0) {i : Nat} {o : Oper} (h : ops[i]? = some o) : ∃ E, l[i]? = some (o, E) := by
  have h1 : (l.map (·.1))[i]? = some o := by rw [hR.same, Array.getElem?_toList]; exact h
  rw [List.getElem?_map] at h1
  obtain ⟨x, h2, h3⟩ := Option.map_eq_some_iff.1 h1
  obtain ⟨o', E⟩ := x
  cases h3
  exact ⟨E, h2⟩
theorem RunT.of (hR : RunT pg D f nt ops l s0) {i : Nat} {x : Oper × Eff} (h : l[i]? = some x) : ops[i]? = some x.1 := by
  rw [← Array.getElem?_toList, ← hR.same, List.getElem?_map, h]; rfl
/-- All that must come ahead of what is done is done. -/
def Closed (ops : Array Oper) (L : Nat → Bool) : Prop := ∀ (j : Nat) o, ops[j]? = some o → L j = true → ∀ e, e ∈ o.after.toList → Region.binds .any e = true → L e.on = true
theorem preds_in {L : Nat → Bool} (hc : Closed ops L) : ∀ (n j : Nat) (o : Oper), j < n → ops[j]? = some o → (∀ e, e ∈ o.after.toList → Region.binds .any e = true → L e.on = true) → (∀ (j : Nat) o, ops[j]? = some o → ∀ e, e ∈ o.after.toList → Region.binds .any e = true → e.on < j) →
    ∀ k, k ∈ (predsOf ops.toList).getD j [] → L k = true
  | 0, j, o, hj, _, _, _ => by omega
  | n + 1, j, o, hj, ho, ha, ht => fun k hk => by
    obtain ⟨e, h1, h2, h3⟩ := preds_spec (by rw [Array.getElem?_toList]; exact ho) hk
    rcases h3 with rfl | ⟨h3, h4⟩
    · exact ha e h1 h2
    · have hon : L e.on = true := ha e h1 h2
      cases ho2 : ops[e.on]? with
      | none =>
        exfalso
        have : (predsOf ops.toList).getD e.on [] = [] := by
          have h5 : ops.size ≤ e.on := by simpa using ho2
          have h6 : j < ops.size := (Array.getElem?_eq_some_iff.1 ho).1
          omega
        rw [this] at h4; cases h4
      | some o2 => exact preds_in hc n e.on o2 (by omega) ho2 (fun e' he' hb' => hc e.on o2 ho2 hon e' he' hb') ht k h4
/-- **Whatever the order.** -/
theorem any_sound (hD : DSound pg D) (hdf : pg.dfs = false) (hR : RunT pg D f nt ops l s0) (htopo : okTopo 0 ops.toList = true)
    (hk : ∀ c own a, FAt pg c0 own0 nt c own (runL (fun _ => true) 0 l s0) a → Q .normal a c.w) : ∀ (fuel : Nat) (listed : Array Bool) (c : Cx) (own : Own) (a : Act), listed.size = ops.size → cnt (fun j => listed.getD j false) ops.size ≤ fuel →
    Closed ops (fun j => listed.getD j false) → FAt pg c0 own0 nt c own (runL (fun j => listed.getD j false) 0 l s0) a → wpAny pg.P .any ops Q fuel listed a c.w := by
  have hln : l.length = ops.size := by
    have := congrArg List.length hR.same
    simpa using this
  have htp : ∀ (j : Nat) o, ops[j]? = some o → ∀ e, e ∈ o.after.toList → Region.binds .any e = true → e.on < j := fun j o ho e he hb => by
    have := topo_spec htopo j o (by rw [Array.getElem?_toList]; exact ho) e he hb
    omega
  have hdflt : ∀ {listed : Array Bool} {i : Nat}, listed.size = ops.size → i < ops.size → listed.getD i true = listed.getD i false := fun hs hi => by simp [Array.getD, hs, hi]
  -- nothing ready: all done
  have hdone : ∀ (listed : Array Bool) (c : Cx) (own : Own) (a : Act), listed.size = ops.size → (∀ i, i < ops.size → listed.getD i false = true) → FAt pg c0 own0 nt c own (runL (fun j => listed.getD j false) 0 l s0) a → Q .normal a c.w := by
    intro listed c own a hs hall hF
    refine hk c own a ?_
    have : runL (fun j => listed.getD j false) 0 l s0 = runL (fun _ => true) 0 l s0 := funext fun loc => runL_agree rfl fun j x hx hne => by
      exfalso
      apply hne
      have := (List.getElem?_eq_some_iff.1 hx).1
      simpa using hall (0 + j) (by omega)
    rw [← this]; exact hF
  have hready : ∀ (listed : Array Bool), listed.size = ops.size → Region.ready .any ops listed = [] → ∀ n i, i < n → i < ops.size → listed.getD i false = true := by
    intro listed hs hr n
    induction n with
    | zero => intro i hi; omega
    | succ n ih =>
      intro i hi hio
      cases hL : listed.getD i false with
      | true => rfl
      | false =>
        exfalso
        have ho : ops[i]? = some ops[i] := Array.getElem?_eq_getElem hio
        have hm : i ∈ Region.ready .any ops listed := by
          unfold Region.ready
          rw [List.mem_filter]
          refine ⟨List.mem_range.2 hio, ?_⟩
          rw [hdflt hs hio, hL, ho]
          simp only [Bool.not_false, Bool.true_and, Option.map_some, Option.getD_some]
          rw [Array.all_eq_true_iff_forall_mem]
          intro e he
          cases hb : Region.binds .any e with
          | false => rfl
          | true =>
            have hlt := htp i _ ho e (Array.mem_toList_iff.2 he) hb
            have := ih e.on (by omega) (by omega)
            rw [this]; rfl
        rw [hr] at hm; cases hm
  intro fuel
  induction fuel with
  | zero =>
    intro listed c own a hs hc hcl hF
    have hall := cnt_zero (Nat.le_zero.1 hc)
    unfold wpAny
    refine ⟨?_, hdone listed c own a hs hall hF⟩
    unfold Region.ready
    rw [List.filter_eq_nil_iff]
    intro i hi
    rw [hdflt hs (List.mem_range.1 hi), hall i (List.mem_range.1 hi)]
    simp
  | succ fuel ih =>
    intro listed c own a hs hc hcl hF
    unfold wpAny
    refine ⟨fun hr => hdone listed c own a hs (fun i hi => hready listed hs hr (i + 1) i (by omega) hi) hF, fun i hi => ?_⟩
    unfold Region.ready at hi
    rw [List.mem_filter] at hi
    obtain ⟨hin, hi2⟩ := hi
    have hin : i < ops.size := List.mem_range.1 hin
    rw [hdflt hs hin] at hi2
    have ho : ops[i]? = some ops[i] := Array.getElem?_eq_getElem hin
    rw [ho] at hi2
    simp only [Bool.and_eq_true, Bool.not_eq_true', Option.map_some, Option.getD_some] at hi2
    obtain ⟨hL, haft⟩ := hi2
    rw [Array.all_eq_true_iff_forall_mem] at haft
    have haft' : ∀ e, e ∈ (ops[i]).after.toList → Region.binds .any e = true → listed.getD e.on false = true := fun e he hb => by
      have := haft e (Array.mem_toList_iff.1 he)
      rw [hb] at this
      simpa using this
    obtain ⟨E, hx⟩ := hR.at ho
    have hpred : ∀ k, k ∈ (predsOf ops.toList).getD i [] → listed.getD k false = true := preds_in (L := fun j => listed.getD j false) hcl (i + 1) i _ (by omega) ho haft' htp
    have hpredj : ∀ j y, l[j]? = some y → listed.getD j false = true → i ∉ (predsOf ops.toList).getD j [] := fun j y hy hLj hij => by
      have hoj := hR.of hy
      have := preds_in (L := fun j => listed.getD j false) hcl (j + 1) j _ (by omega) hoj (fun e he hb => hcl j _ hoj hLj e he hb) htp i hij
      have h2 : listed.getD i false = true := this
      rw [hL] at h2; cases h2
    have hO : OpF pg D f nt ops (runL (fun j => listed.getD j false) 0 l s0) (ops[i], E) := by
      refine (hR.op i _ hx).congr fun loc hrd => runL_agree rfl fun j y hy hne hw => ?_
      rw [Nat.zero_add] at hne
      rcases Nat.lt_trichotomy j i with hji | hji | hji
      · have h1 : Nat.blt j i = true := by rw [Nat.blt_eq]; exact hji
        have hLj : listed.getD j false = false := by
          cases h : listed.getD j false with
          | false => rfl
          | true => rw [h1, h] at hne; exact absurd rfl hne
        have hnp : j ∉ (predsOf ops.toList).getD i [] := fun hp => by rw [hpred j hp] at hLj; cases hLj
        exact (hR.ind j i y _ hji hy hx hnp).wr_rd hw hrd
      · subst hji
        apply hne
        rw [hL]
        cases hb : Nat.blt j j with
        | false => rfl
        | true => rw [Nat.blt_eq] at hb; omega
      · have h1 : Nat.blt j i = false := by
          cases hb : Nat.blt j i with
          | false => rfl
          | true => rw [Nat.blt_eq] at hb; omega
        have hLj : listed.getD j false = true := by
          cases h : listed.getD j false with
          | true => rfl
          | false => rw [h1, h] at hne; exact absurd rfl hne
        exact (hR.ind i j _ y hji hx hy (hpredj j y hy hLj)).rd_wr hw hrd
    have hnext : app (ops[i], E) (runL (fun j => listed.getD j false) 0 l s0) = runL (fun j => (listed.setIfInBounds i true).getD j false) 0 l s0 := by
      funext loc
      rw [← runL_last (p := fun j => listed.getD j false) (i := 0) (j0 := i) hx (by rw [Nat.zero_add]; exact hL) fun j y hj hy hp hw => by
        rw [Nat.zero_add] at hp
        exact (hR.ind i j _ y hj hx hy (hpredj j y hy hp)).wr_wr hw]
      congr 1
      funext j
      rw [Nat.zero_add]
      by_cases hji : j = i
      · subst hji
        simp [Array.getD, hs, hin]
      · have : i ≠ j := fun h => hji h.symm
        simp [Array.getD_eq_getD_getElem?, Array.getElem?_setIfInBounds, this, hji]
    have hs' : (listed.setIfInBounds i true).size = ops.size := by simpa using hs
    have hget : ∀ j, j ≠ i → (listed.setIfInBounds i true).getD j false = listed.getD j false := fun j hji => by
      have : i ≠ j := fun h => hji h.symm
      simp [Array.getD_eq_getD_getElem?, Array.getElem?_setIfInBounds, this]
    have hgeti : (listed.setIfInBounds i true).getD i false = true := by simp [Array.getD, hs, hin]
    have hmono : ∀ j, listed.getD j false = true → (listed.setIfInBounds i true).getD j false = true := fun j hj => by
      by_cases hji : j = i
      · subst hji; exact hgeti
      · rw [hget j hji]; exact hj
    have hc' : cnt (fun j => (listed.setIfInBounds i true).getD j false) ops.size ≤ fuel := by
      have := cnt_step (f := fun j => listed.getD j false) (f' := fun j => (listed.setIfInBounds i true).getD j false) hin hL hgeti hget
      omega
    have hcl' : Closed ops (fun j => (listed.setIfInBounds i true).getD j false) := fun j o hoj hLj e he hb => by
      by_cases hji : j = i
      · subst hji
        rw [ho] at hoj
        cases hoj
        exact hmono _ (haft' e he hb)
      · exact hmono _ (hcl j o hoj ((hget j hji).symm.trans hLj) e he hb)
    unfold wpOp
    rw [ho]
    dsimp only
    have hw : Region.wanted ops[i] (yielded ops a.tmps) = E.on := by
      have hg := hO.guard
      unfold GuardF at hg
      cases hgd : (ops[i]).guard with
      | none =>
        rw [hgd] at hg
        unfold Region.wanted
        rw [hgd]
        exact hg.symm
      | some gw =>
        obtain ⟨g, want⟩ := gw
        rw [hgd] at hg
        obtain ⟨t, h1, h2⟩ := hg
        have henv := hF.env t
        rcases h2 with ⟨b, h3, h4⟩ | ⟨h3, h4⟩
        · rw [h3] at henv
          rw [wanted_of (P := pg.P) (a := a) hgd h1 (x := some b) henv.bool_inv]
          have h4' : E.on = (b == want) := h4
          rw [h4']
          cases b <;> cases want <;> rfl
        · rw [h3] at henv
          rw [wanted_of (P := pg.P) (a := a) hgd h1 (x := none) henv.hole_inv]
          have h4' : E.on = false := h4
          rw [h4']; rfl
    rw [hw]
    cases hon : E.on with
    | true =>
      rw [if_pos rfl]
      refine .inl (drawn_step hD hdf hF hO hon fun c1 own1 y hF1 => ?_)
      rw [hnext] at hF1
      exact ih _ c1 own1 _ hs' hc' hcl' hF1
    | false =>
      rw [if_neg nofun]
      have hF1 := hF.skip hO hon
      rw [hnext] at hF1
      exact ih _ c own _ hs' hc' hcl' hF1
end
end Go.Proofs.Ab
/- The abstract machine against GoSem: drawn regions. Own work. -/
namespace Go.Proofs.Ab
open Go
set_option linter.unusedVariables false
set_option linter.unusedSimpArgs false

/-- The state, as a function of places. -/
structure SameF (env : Env) (st : St) (s : FS) : Prop where
  e : ∀ t, env.get t = s.e t
  g : ∀ id, getB st.bl id = s.g id
  u : st.used = s.u
  d : st.dead = s.d
def FS.of (env : Env) (st : St) : FS
  | .slot t => .v (env.get t)
  | .blk id => .b (getB st.bl id)
  | .rows => .r st.used st.dead
theorem SameF.of (env : Env) (st : St) : SameF env st (FS.of env st) := ⟨fun _ => rfl, fun _ => rfl, rfl, rfl⟩
section
variable {pg : Pg} {D : DSem} {f : FuncId} {c0 c : Cx} {own0 own : Own} {nt : Nat} {ops : Array Oper} {l : List (Oper × Eff)} {s0 s : FS} {Q : Exit → Act → World → Prop} {env : Env} {st : St} {r : Res} {k : K} {a : Act}
theorem At.toF (h : At pg c0 own0 nt c own env st a) (hs : SameF env st s) : FAt pg c0 own0 nt c own s a := by
  have hg : getB st.bl = s.g := funext hs.g
  have hl : Live st = s.live := by unfold Live FS.live; rw [hs.u, hs.d]
  refine ⟨by rw [← hg, ← hl]; exact h.inv.inv, fun t r hr => by rw [← hs.u]; exact h.inv.domr t r hr, fun t => by rw [← hs.e]; exact h.env t, h.size, h.defers, h.after, h.blk, h.out⟩
theorem FAt.toA (h : FAt pg c0 own0 nt c own s a) (hs : SameF env st s) (hd : st.df = []) (hp : st.pn = none) : At pg c0 own0 nt c own env st a := by
  have hg : getB st.bl = s.g := funext hs.g
  have hl : Live st = s.live := by unfold Live FS.live; rw [hs.u, hs.d]
  refine ⟨⟨by rw [hg, hl]; exact h.inv, fun t r hr => by rw [hs.u]; exact h.domr t r hr⟩, fun t => by rw [hs.e]; exact h.env t, h.size, h.defers, hd, hp, h.after, h.blk, h.out⟩
theorem envF_get (env : Env) : ∀ {l : List Tmp} {t : Tmp}, t ∈ l → (envF env l).get t = env.get t
  | [], t, h => by cases h
  | a :: l, t, h => by
    show (bif Nat.beq a t then env.get a else (envF env l).get t) = env.get t
    by_cases ha : a = t
    · subst ha; rw [Nat.beq_refl]; rfl
    · rw [nbeq ha, cond_false]
      exact envF_get env ((List.mem_cons.1 h).resolve_left fun e => ha e.symm)
theorem putE_get {nt : Nat} {d : Option Tmp} {v : V} {env' : Env} (h : putE nt env d v = some env') : (∀ t, env'.get t = if d = some t then v else env.get t) ∧ ∀ t, d = some t → t < nt := by
  unfold putE at h
  split at h
  · cases h; exact ⟨fun t => by simp, fun t h => by cases h⟩
  · rename_i d0
    obtain ⟨h1, h2⟩ := condL_some h
    cases h2
    have hlt : d0 < nt := by simpa [Nat.blt_eq] using h1
    refine ⟨fun t => ?_, fun t ht => by cases ht; exact hlt⟩
    show (bif Nat.beq d0 t then v else env.get t) = _
    by_cases hd : d0 = t
    · subst hd; simp
    · rw [nbeq hd]; simp [hd]
theorem step1_df {f : FuncId} {o : Oper} {v : V} {st st' : St} (hdf : pg.dfs = false) (h1 : isRow o = true) (h2 : notDrawn o = false) (h : step1 pg D f env o st = some (.val v st')) : st'.df = st.df ∧ st'.pn = st.pn := by
  unfold step1 opS at h
  unfold isRow at h1
  unfold notDrawn at h2
  have app : ∀ {e s x d} {k : V → St → Option Step}, appendS pg e s x d st k = some (.val v st') → (∀ v s, k v s = some (.val v s)) → st'.df = st.df ∧ st'.pn = st.pn := by
    intro e s x d k h hk
    have go : ∀ {old es}, appGo pg e x d st k old es = some (.val v st') → st'.df = st.df ∧ st'.pn = st.pn := by
      intro old es h
      unfold appGo at h
      obtain ⟨_, h1⟩ := condL_some h
      split at h1
      · obtain ⟨_, h2⟩ := condL_some h1
        obtain ⟨_, h3⟩ := iteL_some h2
        rw [hk] at h3; cases h3; exact ⟨rfl, rfl⟩
      · split at h1
        · obtain ⟨_, h2⟩ := condL_some h1
          obtain ⟨_, h3⟩ := iteL_some h2
          rw [hk] at h3; cases h3; exact ⟨rfl, rfl⟩
        · cases h1
      · split at h1
        · obtain ⟨_, h2⟩ := condR_some h1
          obtain ⟨_, h3⟩ := iteL_some h2
          rw [hk] at h3; cases h3; exact ⟨rfl, rfl⟩
        · cases h1
      · cases h1
    unfold appendS at h
    split at h
    · obtain ⟨_, h1⟩ := condL_some h; exact go h1
    · obtain ⟨_, h1⟩ := condL_some h; exact go h1
    · cases h
  split at h
  · rename_i x ho; rw [ho] at h1; cases h1
  · split at h
    · split at h
      · obtain ⟨_, h3⟩ := condL_some h
        exact app h3 fun _ _ => rfl
      · cases h
    · cases h
  · rename_i args ts ho; rw [ho] at h2; cases h2
  · rename_i args ts ho; rw [ho] at h2; cases h2
  · split at h
    · split at h
      · obtain ⟨_, h3⟩ := condL_some h
        unfold callK at h3
        split at h3
        · cases h3
        split at h3
        · cases h3
        split at h3
        · cases h3
        split at h3
        · cases h3
        split at h3
        · cases h3
        obtain ⟨_, h4⟩ := condR_some h3
        obtain ⟨res, _, h5⟩ := Option.bind_eq_some_iff.1 h4
        have key : ∀ {nt h bs} {xs : List (Nat × Nat × Option TypeId)} {ws i bl p} {k : List (Nat × Blk) → Nat → Option Step} {r}, backAll pg nt h bs i xs ws bl p k = some r → ∃ bl' p', k bl' p' = some r := by
          intro nt h bs xs ws i bl p k r hb
          have h1 := backAll_bind (R := (List (Nat × Blk)) × Nat) (fun q => k q.1 q.2) pg nt h bs xs ws i bl p (fun l p => some (l, p))
          simp only [Option.bind_some] at h1
          rw [hb] at h1
          obtain ⟨q, _, h2⟩ := Option.bind_eq_some_iff.1 h1
          exact ⟨q.1, q.2, h2⟩
        obtain ⟨bl', p', h6⟩ := key h5
        obtain ⟨_, h7⟩ := condR_some h6
        split at h7
        · obtain ⟨v1, _, h8⟩ := onRet_some h7
          obtain ⟨v2, h9, _⟩ := decRes_vrep h8
          cases h9; exact ⟨rfl, rfl⟩
        · rcases onOut_some h7 with ⟨v1, _, h8⟩ | ⟨v1, _, h8⟩
          · obtain ⟨v2, h9, _⟩ := decRes_vrep h8
            cases h9; exact ⟨rfl, rfl⟩
          · obtain ⟨w2, rfl, h9⟩ := asIface_some h8
            obtain ⟨w3, h10, _⟩ := decR_vrep h9
            cases h10
      · cases h
    · cases h
  · rename_i args ts ho; rw [ho] at h2; cases h2
  · have h3 : opB pg f env o st.bl (fun v bl' => some (Step.val v { st with bl := bl' })) = some (.val v st') := h
    rw [opB_step] at h3
    obtain ⟨q, _, h4⟩ := Option.bind_eq_some_iff.1 h3
    cases h4; exact ⟨rfl, rfl⟩
theorem evDraw_run (hdf : pg.dfs = false) : ∀ (rest : List Oper) (i : Nat) (env : Env) (st : St) (tr : List (Nat × Oper × Ft)) (pre : List (Oper × Eff)), evDraw pg D f nt ops (predsOf ops.toList) i rest env st tr k = some r →
    pre.length = i → (∀ (j : Nat) x, pre[j]? = some x → (j, x.1, x.2.ft) ∈ tr) → SameF env st (runL (fun _ => true) 0 pre s0) → st.df = [] → st.pn = none →
    (∀ (j : Nat) x, pre[j]? = some x → OpF pg D f nt ops (runL (fun m => Nat.blt m j) 0 pre s0) x) → (∀ (i j : Nat) x y, i < j → pre[i]? = some x → pre[j]? = some y → i ∉ (predsOf ops.toList).getD j [] → ApartF ops x y) →
    ∃ l env' st', k .normal env' st' = some r ∧ l.map (·.1) = pre.map (·.1) ++ rest ∧ SameF env' st' (runL (fun _ => true) 0 l s0) ∧ st'.df = [] ∧ st'.pn = none ∧
      (∀ (j : Nat) x, l[j]? = some x → OpF pg D f nt ops (runL (fun m => Nat.blt m j) 0 l s0) x) ∧ (∀ (i j : Nat) x y, i < j → l[i]? = some x → l[j]? = some y → i ∉ (predsOf ops.toList).getD j [] → ApartF ops x y)
  | [], i, env, st, tr, pre, h, hl, htr, hs, h1, h2, ho, hi => ⟨pre, env, st, h, by simp, hs, h1, h2, ho, hi⟩
  | o :: rest, i, env, st, tr, pre, h, hl, htr, hs, h1, h2, ho, hi => by
    have hpre : ∀ x, runL (fun _ => true) 0 (pre ++ [x]) s0 = app x (runL (fun _ => true) 0 pre s0) := fun x => runL_append
    have more : ∀ {E : Eff} {env1 : Env} {st1 : St}, evDraw pg D f nt ops (predsOf ops.toList) (i + 1) rest env1 st1 ((i, o, E.ft) :: tr) k = some r → OpF pg D f nt ops (runL (fun _ => true) 0 pre s0) (o, E) →
        okDraw ops ((predsOf ops.toList).getD i []) o E.ft tr = true → SameF env1 st1 (app (o, E) (runL (fun _ => true) 0 pre s0)) → st1.df = [] → st1.pn = none →
        ∃ l env' st', k .normal env' st' = some r ∧ l.map (·.1) = pre.map (·.1) ++ (o :: rest) ∧ SameF env' st' (runL (fun _ => true) 0 l s0) ∧ st'.df = [] ∧ st'.pn = none ∧
          (∀ (j : Nat) x, l[j]? = some x → OpF pg D f nt ops (runL (fun m => Nat.blt m j) 0 l s0) x) ∧ (∀ (i j : Nat) x y, i < j → l[i]? = some x → l[j]? = some y → i ∉ (predsOf ops.toList).getD j [] → ApartF ops x y) := by
      intro E env1 st1 hrest hO hok hs1 hd hp
      have get : ∀ (j : Nat) x, (pre ++ [(o, E)])[j]? = some x → (j < i ∧ pre[j]? = some x) ∨ (j = i ∧ x = (o, E)) := by
        intro j x hj
        rcases Nat.lt_or_ge j pre.length with hlt | hge
        · rw [List.getElem?_append_left hlt] at hj; exact .inl ⟨by omega, hj⟩
        · rw [List.getElem?_append_right hge] at hj
          have h0 : j - pre.length = 0 := by
            rcases Nat.eq_zero_or_pos (j - pre.length) with h0 | h0
            · exact h0
            · rw [List.getElem?_eq_none (by simp; omega)] at hj; cases hj
          rw [h0] at hj
          simp at hj
          exact .inr ⟨by omega, hj.symm⟩
      have cutp : ∀ j, j ≤ i → runL (fun m => Nat.blt m j) 0 (pre ++ [(o, E)]) s0 = runL (fun m => Nat.blt m j) 0 pre s0 := fun j hj => by
        rw [runL_append]
        have : Nat.blt (0 + pre.length) j = false := by
          cases hb : Nat.blt (0 + pre.length) j with
          | false => rfl
          | true => rw [Nat.blt_eq] at hb; omega
        rw [this]; rfl
      obtain ⟨l, env', st', g1, g2, g3⟩ := evDraw_run hdf rest (i + 1) env1 st1 ((i, o, E.ft) :: tr) (pre ++ [(o, E)]) hrest (by simp [hl]) (fun j x hj => by
        rcases get j x hj with ⟨_, h3⟩ | ⟨rfl, rfl⟩
        · exact List.mem_cons_of_mem _ (htr j x h3)
        · exact List.mem_cons_self ..) (by rw [hpre]; exact hs1) hd hp (fun j x hj => by
        rcases get j x hj with ⟨hlt, h3⟩ | ⟨rfl, rfl⟩
        · rw [cutp j (by omega)]; exact ho j x h3
        · rw [cutp j (Nat.le_refl _)]
          have : runL (fun m => Nat.blt m j) 0 pre s0 = runL (fun _ => true) 0 pre s0 := funext fun loc => runL_agree rfl fun m y hy hne => by
            exfalso
            apply hne
            have := (List.getElem?_eq_some_iff.1 hy).1
            show Nat.blt (0 + m) j = true
            rw [Nat.blt_eq]; omega
          rw [this]; exact hO) (fun i1 j1 x y hij hx hy hn => by
        rcases get j1 y hy with ⟨hlt, h3⟩ | ⟨rfl, rfl⟩
        · rcases get i1 x hx with ⟨_, h4⟩ | ⟨h4, _⟩
          · exact hi i1 j1 x y hij h4 h3 hn
          · omega
        · rcases get i1 x hx with ⟨_, h4⟩ | ⟨h4, _⟩
          · unfold okDraw at hok
            have h5 := List.all_eq_true.1 hok _ (htr i1 x h4)
            have h6 : ((predsOf ops.toList).getD j1 []).contains i1 = false := by
              cases hc : ((predsOf ops.toList).getD j1 []).contains i1 with
              | false => rfl
              | true => exact absurd (List.contains_iff_mem.1 hc) hn
            dsimp only at h5
            rw [h6, Bool.false_or, Bool.and_eq_true] at h5
            exact h5
          · omega)
      exact ⟨l, env', st', g1, by rw [g2]; simp, g3⟩
    have skip : ∀ {env2 : Env}, (∀ t, env2.get t = env.get t) → GuardF ops (runL (fun _ => true) 0 pre s0) o false →
        (bif !okDraw ops ((predsOf ops.toList).getD i []) o ⟨[], [], false⟩ tr || notDrawn o then none else
          (match putE nt env2 o.dst .hole with | some env' => evDraw pg D f nt ops (predsOf ops.toList) (i + 1) rest env' st ((i, o, ⟨[], [], false⟩) :: tr) k | none => none)) = some r →
        ∃ l env' st', k .normal env' st' = some r ∧ l.map (·.1) = pre.map (·.1) ++ (o :: rest) ∧ SameF env' st' (runL (fun _ => true) 0 l s0) ∧ st'.df = [] ∧ st'.pn = none ∧
          (∀ (j : Nat) x, l[j]? = some x → OpF pg D f nt ops (runL (fun m => Nat.blt m j) 0 l s0) x) ∧ (∀ (i j : Nat) x y, i < j → l[i]? = some x → l[j]? = some y → i ∉ (predsOf ops.toList).getD j [] → ApartF ops x y) := by
      intro env2 he hg hh
      obtain ⟨hc, hh2⟩ := condR_some hh
      simp only [Bool.or_eq_false_iff, Bool.not_eq_false'] at hc
      split at hh2
      · rename_i env1 hp
        obtain ⟨h3, h4⟩ := putE_get hp
        refine more (E := ⟨false, .hole, [], [], [], ⟨[], [], false⟩⟩) hh2 ⟨hg, h4, (fun hon => by cases hon), fun _ => ⟨rfl, rfl⟩⟩ hc.1 ⟨fun t => ?_, fun id => ?_, ?_, ?_⟩ h1 h2
        · rw [h3, app_e, he, hs.e]
        · rw [app_g]; simpa using hs.g id
        · rw [app_u]; simpa using hs.u
        · rw [app_d]; simpa using hs.d
      · cases hh2
    have go : ∀ {env2 : Env}, (∀ t, env2.get t = env.get t) → GuardF ops (runL (fun _ => true) 0 pre s0) o true →
        goDraw pg D f (envF env2 (tmpsOf o)) o (footOf (envF env2 (tmpsOf o)) st.bl o) (fun ft => okDraw ops ((predsOf ops.toList).getD i []) o ft tr) st (fun ft v st' => match putE nt env2 o.dst v with
          | some env' => evDraw pg D f nt ops (predsOf ops.toList) (i + 1) rest env' st' ((i, o, ft) :: tr) k | none => none) = some r →
        ∃ l env' st', k .normal env' st' = some r ∧ l.map (·.1) = pre.map (·.1) ++ (o :: rest) ∧ SameF env' st' (runL (fun _ => true) 0 l s0) ∧ st'.df = [] ∧ st'.pn = none ∧
          (∀ (j : Nat) x, l[j]? = some x → OpF pg D f nt ops (runL (fun m => Nat.blt m j) 0 l s0) x) ∧ (∀ (i j : Nat) x y, i < j → l[i]? = some x → l[j]? = some y → i ∉ (predsOf ops.toList).getD j [] → ApartF ops x y) := by
      intro env2 he hg hh
      generalize hft : footOf (envF env2 (tmpsOf o)) st.bl o = ft at hh
      have hrow : ft.row = isRow o := by rw [← hft]; exact footOf_row
      unfold goDraw at hh
      obtain ⟨hc, hh2⟩ := condR_some hh
      simp only [Bool.or_eq_false_iff, Bool.not_eq_false'] at hc
      have hB : ∀ id, getB (subB st.bl (dedup (ft.rd ++ ft.wr))) id = if id ∈ ft.rd ∨ id ∈ ft.wr then (runL (fun _ => true) 0 pre s0).g id else none := fun id => by
        rw [getB_subB, hs.g]
        have : id ∈ dedup (ft.rd ++ ft.wr) ↔ (id ∈ ft.rd ∨ id ∈ ft.wr) := by rw [mem_dedup, List.mem_append]
        by_cases h3 : id ∈ ft.rd ∨ id ∈ ft.wr
        · rw [if_pos (this.2 h3), if_pos h3]
        · rw [if_neg fun h => h3 (this.1 h), if_neg h3]
      have henv : ∀ t, t ∈ tmpsOf o → Env.get (envF env2 (tmpsOf o)) t = (runL (fun _ => true) 0 pre s0).e t := fun t ht => by rw [envF_get env2 ht, he, hs.e]
      have hkeys : ∀ {bl' : List (Nat × Blk)}, (bl'.all fun p => (dedup (ft.rd ++ ft.wr)).contains p.1) = true → ∀ id kk, getB bl' id = some kk → id ∈ ft.rd ∨ id ∈ ft.wr := fun hb id kk hk => by
        have := keys_of hb hk
        rw [mem_dedup, List.mem_append] at this
        exact this
      rcases cond_some hh2 with ⟨hr, hh3⟩ | ⟨hr, hh3⟩
      · rw [opS_step] at hh3
        obtain ⟨q, hq, hh4⟩ := Option.bind_eq_some_iff.1 hh3
        cases q with
        | pan v s => cases hh4
        | val v st' =>
          obtain ⟨hb, hh5⟩ := condL_some (hh4 : (bif (st'.bl.all fun p => (dedup (ft.rd ++ ft.wr)).contains p.1) then _ else none) = some r)
          dsimp only at hh5
          split at hh5
          · rename_i env1 hp
            obtain ⟨h3, h4⟩ := putE_get hp
            obtain ⟨h5, h6⟩ := step1_df hdf hr hc.2 hq
            have hq' : step1 pg D f (envF env2 (tmpsOf o)) o ⟨subB st.bl (dedup (ft.rd ++ ft.wr)), (runL (fun _ => true) 0 pre s0).u, (runL (fun _ => true) 0 pre s0).d, [], none⟩ = some (.val v ⟨st'.bl, st'.used, st'.dead, [], none⟩) := by
              rw [← hs.u, ← hs.d, ← h1, ← h2]
              have h7 : st' = ⟨st'.bl, st'.used, st'.dead, st.df, st.pn⟩ := by
                cases st'; cases h5; cases h6; rfl
              rw [← h7]; exact hq
            refine more (E := ⟨true, v, st'.bl, st'.used, st'.dead, ft⟩) hh5 ⟨hg, h4, fun _ => ⟨hc.2, ⟨hrow, fun hrd => by rw [← hft]; exact footOf_rd hrd, fun hrd => by rw [← hft]; exact footOf_wr hrd, fun ha d hd => by rw [← hft]; exact footOf_mk ha hd, hkeys hb⟩, _, _, henv, hB, fun _ => hq', (fun hnr => by rw [hr] at hnr; cases hnr)⟩, (fun hon => by cases hon)⟩ hc.1
              ⟨fun t => ?_, fun id => ?_, ?_, ?_⟩ (h5.trans h1) (h6.trans h2)
            · rw [h3, app_e, he, hs.e]
            · rw [app_g]
              show getB (overB st.bl st'.bl ft.wr) id = _
              rw [getB_overB, hs.g]; rfl
            · rw [app_u, if_pos (by rw [hrow]; exact hr)]
            · rw [app_d, if_pos (by rw [hrow]; exact hr)]
          · cases hh5
      · rw [opB_step] at hh3
        obtain ⟨q, hq, hh4⟩ := Option.bind_eq_some_iff.1 hh3
        obtain ⟨v, bl'⟩ := q
        obtain ⟨hb, hh5⟩ := condL_some (hh4 : (bif (bl'.all fun p => (dedup (ft.rd ++ ft.wr)).contains p.1) then _ else none) = some r)
        dsimp only at hh5
        split at hh5
        · rename_i env1 hp
          obtain ⟨h3, h4⟩ := putE_get hp
          refine more (E := ⟨true, v, bl', [], [], ft⟩) hh5 ⟨hg, h4, fun _ => ⟨hc.2, ⟨hrow, fun hrd => by rw [← hft]; exact footOf_rd hrd, fun hrd => by rw [← hft]; exact footOf_wr hrd, fun ha d hd => by rw [← hft]; exact footOf_mk ha hd, hkeys hb⟩, _, _, henv, hB, (fun hnr => by rw [hr] at hnr; cases hnr), fun _ => hq⟩, (fun hon => by cases hon)⟩ hc.1
            ⟨fun t => ?_, fun id => ?_, ?_, ?_⟩ h1 h2
          · rw [h3, app_e, he, hs.e]
          · rw [app_g]
            show getB (overB st.bl bl' ft.wr) id = _
            rw [getB_overB, hs.g]; rfl
          · rw [app_u, if_neg (by rw [hrow, hr]; nofun)]; exact hs.u
          · rw [app_d, if_neg (by rw [hrow, hr]; nofun)]; exact hs.d
        · cases hh5
    unfold evDraw at h
    dsimp only at h
    split at h
    · rename_i hg
      exact go (fun _ => rfl) (by unfold GuardF; rw [hg]) h
    · rename_i g want hg
      split at h
      · cases h
      · rename_i t ht
        have hget : ∀ b, env.get t = .bool b → ∀ t', Env.get ((t, .bool b) :: env) t' = env.get t' := fun b hb t' => by
          show (bif Nat.beq t t' then V.bool b else env.get t') = _
          by_cases htt : t = t'
          · subst htt; rw [Nat.beq_refl, hb]; rfl
          · rw [nbeq htt]; rfl
        have hG : ∀ (b : Bool), env.get t = .bool b → ∀ on, on = (b == want) → GuardF ops (runL (fun _ => true) 0 pre s0) o on := fun b hb on hon => by
          unfold GuardF
          rw [hg]
          exact ⟨t, ht, .inl ⟨b, by rw [← hs.e]; exact hb, hon⟩⟩
        split at h
        · rename_i b hb
          cases b <;> cases want
          · exact go (hget _ hb) (hG _ hb _ rfl) h
          · exact skip (hget _ hb) (hG _ hb _ rfl) h
          · exact skip (hget _ hb) (hG _ hb _ rfl) h
          · exact go (hget _ hb) (hG _ hb _ rfl) h
        · rename_i hb
          refine skip (fun _ => rfl) ?_ h
          unfold GuardF
          rw [hg]
          exact ⟨t, ht, .inr ⟨by rw [← hs.e]; exact hb, rfl⟩⟩
        · cases h
/-- **A region.** -/
theorem evReg_sound {id : Nat} {draw : Bool} (hD : DSound pg D) (hdf : pg.dfs = false) (hmix : pg.P.follows .mixedOrders = true) (hk : KOk pg r c0 own0 nt k Q) (h : evReg pg D f nt ops draw env st k = some r) (hA : At pg c0 own0 nt c own env st a) :
    (Code.region id ops draw).wp pg.P Q a c.w := by
  unfold evReg at h
  cases draw with
  | false => exact wp_region_list (evOps_sound hD hdf hk _ _ _ _ _ _ h hA)
  | true =>
    obtain ⟨htopo, h1⟩ := condL_some h
    obtain ⟨l, env', st', g1, g2, g3, g4, g5, g6, g7⟩ := evDraw_run (s0 := FS.of env st) hdf ops.toList 0 env st [] [] h1 rfl (fun j x h => by simp at h) (SameF.of env st) hA.df hA.pn (fun j x h => by simp at h) (fun i j x y _ h => by simp at h)
    have hR : RunT pg D f nt ops l (FS.of env st) := ⟨by simpa using g2, g6, g7⟩
    refine wp_region_any hmix ?_
    have hF := hA.toF (SameF.of env st)
    have hF' : FAt pg c0 own0 nt c.drw own (FS.of env st) a :=
      ⟨hF.inv.drw, hF.domr, fun t => (hF.env t).mono (Ext.drw c), hF.size, hF.defers, hF.after.trans (After.drw c own), hF.blk, hF.out⟩
    refine any_sound (c0 := c0) (own0 := own0) (c := c.drw) (own := own) hD hdf hR htopo (fun c1 own1 a1 hF1 => hk .normal env' st' c1 own1 a1 g1 (hF1.toA g3 g4 g5)) ops.size _ a (by simp) (cnt_le _ _) (fun j o hj hL => ?_) ?_
    · have : (Array.replicate ops.size false).getD j false = false := by
        simp [Array.getD_eq_getD_getElem?, Array.getElem?_replicate]
        split <;> rfl
      have hL' : (Array.replicate ops.size false).getD j false = true := hL
      rw [this] at hL'; cases hL'
    · have : runL (fun j => (Array.replicate ops.size false).getD j false) 0 l (FS.of env st) = FS.of env st := funext fun loc => runL_same fun j x hj hp => by
        have h2 : (Array.replicate ops.size false).getD (0 + j) false = false := by
          simp [Array.getD_eq_getD_getElem?, Array.getElem?_replicate]
          split <;> rfl
        rw [h2] at hp; cases hp
      rw [this]; exact hF'
end
end Go.Proofs.Ab
/- The abstract machine against GoSem: code. Own work. -/
namespace Go.Proofs.Ab
open Go
set_option linter.unusedVariables false
set_option linter.unusedSimpArgs false

section
variable {pg : Pg} {D : DSem} {f : FuncId} {c0 c : Cx} {own0 own : Own} {nt : Nat} {ops : Array Oper} {Q : Exit → Act → World → Prop} {env : Env} {st : St} {r : Res} {k : K} {a : Act}
theorem lfp_some {X R : Type} {Φ : (X → Option R) → X → Option R} {x : X} {r : R} (h : lfp Φ x = some r) : ∃ n, iter Φ n x = some r := by
  unfold lfp at h
  split at h
  · rename_i hex
    cases h
    exact Classical.choose_spec hex
  · cases h
theorem getB_keys {bl : List (Nat × Blk)} {id : Nat} {b : Blk} (h : getB bl id = some b) : id ∈ keysOf bl := by
  induction bl with
  | nil => cases h
  | cons p l ih =>
    obtain ⟨i, b'⟩ := p
    unfold getB at h
    by_cases hi : i = id
    · subst hi; exact List.mem_cons_self ..
    · rw [nbeq hi] at h
      exact List.mem_cons_of_mem _ (ih h)
theorem At.canon {n0 : List Nat} {y : Env × St} (hA : At pg c0 own0 nt c own env st a) (h : canon pg f n0 (env, st) = some y) (hn : ∀ i r, c0.blk i = some r → i ∈ n0) : ∃ c1 own1, c1.w = c.w ∧ At pg c0 own0 nt c1 own1 y.1 y.2 a := by
  obtain ⟨env', st'⟩ := y
  obtain ⟨c1, own1, h1, h2, h3, h4, h5, h6, h7, h8, h9⟩ := canon_sound hA.inv hA.env h
  refine ⟨c1, own1, h1, h3, h4, hA.size, hA.defers, h6.trans hA.df, h7.trans hA.pn, hA.after.trans ⟨?_, fun b x _ hn => h5 b x hn, fun b x hp => ⟨by rw [h2]; exact hp, by rw [h1]⟩, fun b x hp => .inl (by rw [← h2]; exact hp), h9, fun id r ho => absurd ho (hA.out id)⟩, fun i r hr => h8 i r (hn i r hr) (hA.blk i r hr), fun id => by rw [h9]; exact hA.out id⟩
  rw [h1]; exact Frame.refl _ _
theorem At.keys (hA : At pg c0 own0 nt c own env st a) : ∀ i r, c0.blk i = some r → i ∈ keysOf st.bl := fun i r hr => by
  rcases hA.inv.inv.dom i r (hA.blk i r hr) with ⟨b, hb⟩ | ho
  · exact getB_keys hb
  · exact absurd ho (hA.out i)
theorem At.setC {o : Operand} {b : Bool} (hA : At pg c0 own0 nt c own env st a) (h : evO pg env 0 o = .bool b) : At pg c0 own0 nt c own (setC env o b) st a := by
  cases o with
  | tmp t => exact hA.known h
  | _ => exact hA
/-- **Code.** -/
theorem ev_sound (hD : DSound pg D) (hdf : pg.dfs = false) (hmix : pg.P.follows .mixedOrders = true) : ∀ (code : Code) {k : K} {Q : Exit → Act → World → Prop} {env : Env} {st : St} {c : Cx} {own : Own} {a : Act}, KOk pg r c0 own0 nt k Q → ev pg D f nt code env st k = some r →
    At pg c0 own0 nt c own env st a → code.wp pg.P Q a c.w := by
  intro code
  induction code with
  | skip => intro k Q env st c own a hk h hA; exact wp_skip (hk .normal env st c own a h hA)
  | label l => intro k Q env st c own a hk h hA; exact wp_label (hk .normal env st c own a h hA)
  | region id ops draw =>
    intro k Q env st c own a hk h hA
    unfold ev at h
    rcases cond_some h with ⟨hj, h1⟩ | ⟨hj, h1⟩
    · split at h1
      · rename_i x hx
        obtain ⟨c1, own1, hw, hA1⟩ := hA.canon hx hA.keys
        rw [← hw]
        exact evReg_sound hD hdf hmix hk h1 hA1
      · cases h1
    · exact evReg_sound hD hdf hmix hk h1 hA
  | seq x y ihx ihy =>
    intro k Q env st c own a hk h hA
    unfold ev at h
    refine wp_seq (ihx (k := kSeq (ev pg D f nt y) k) (fun ex env st c own a h hA => ?_) h hA)
    cases ex with
    | normal => exact ihy hk h hA
    | exit id => exact hk (.exit id) env st c own a h hA
    | ret => exact hk .ret env st c own a h hA
    | pan v => exact hk (.pan v) env st c own a h hA
  | cond o x y ihx ihy =>
    intro k Q env st c own a hk h hA
    unfold ev at h
    split at h
    · rename_i b hb
      have hv := hA.env.eval hA.inv.inv 0 o
      rw [hb] at hv
      refine wp_cond hv.bool_inv ?_
      cases b with
      | true => exact ihx hk h (hA.setC hb)
      | false => exact ihy hk h (hA.setC hb)
    · cases h
  | block id x ih =>
    intro k Q env st c own a hk h hA
    unfold ev at h
    refine wp_block (ih (k := kBlk id k) (fun ex env st c own a h hA => ?_) h hA)
    cases ex with
    | normal => exact hk .normal env st c own a h hA
    | exit id' =>
      show (if id' = id then Q .normal a c.w else Q (.exit id') a c.w)
      rcases cond_some (h : (bif Nat.beq id' id then k .normal env st else k (.exit id') env st) = some r) with ⟨hi, h1⟩ | ⟨hi, h1⟩
      · rw [if_pos (by simpa using hi)]
        exact hk .normal env st c own a h1 hA
      · rw [if_neg (by intro he; subst he; simp at hi)]
        exact hk (.exit id') env st c own a h1 hA
    | ret => exact hk .ret env st c own a h hA
    | pan v => exact hk (.pan v) env st c own a h hA
  | loop x ih =>
    intro k Q env st c own a hk h hA
    unfold ev at h
    split at h
    · rename_i y hy
      have hn := hA.keys
      obtain ⟨c1, own1, hw, hA1⟩ := hA.canon hy hn
      obtain ⟨n, hit⟩ := lfp_some h
      have key : ∀ (n : Nat) (y : Env × St) (c1 : Cx) (own1 : Own) (a : Act), At pg c0 own0 nt c1 own1 y.1 y.2 a →
          iter (fun rec x_1 => ev pg D f nt x x_1.1 x_1.2 (kLoop (canon pg f (keysOf st.bl)) rec k)) n y = some r → Code.rounds pg.P x Q n a c1.w := by
        intro n
        induction n with
        | zero => intro y c1 own1 a hA1 hit; cases hit
        | succ n ihn =>
          intro y c1 own1 a hA1 hit
          rw [rounds_succ]
          refine ih (k := kLoop (canon pg f (keysOf st.bl)) (iter (fun rec x_1 => ev pg D f nt x x_1.1 x_1.2 (kLoop (canon pg f (keysOf st.bl)) rec k)) n) k) (fun ex env1 st1 c2 own2 a2 h2 hA2 => ?_) hit hA1
          cases ex with
          | normal =>
            dsimp only [kLoop] at h2
            split at h2
            · rename_i z hz
              obtain ⟨c3, own3, hw3, hA3⟩ := hA2.canon hz hn
              show Code.rounds pg.P x Q n a2 c2.w
              rw [← hw3]
              exact ihn z c3 own3 a2 hA3 h2
            · cases h2
          | exit id => exact hk (.exit id) env1 st1 c2 own2 a2 h2 hA2
          | ret => exact hk .ret env1 st1 c2 own2 a2 h2 hA2
          | pan v => exact hk (.pan v) env1 st1 c2 own2 a2 h2 hA2
      rw [← hw]
      exact wp_loop_rounds n (key n y c1 own1 a hA1 hit)
    · cases h
  | rangeFunc f p x y ihx ihy => intro k Q env st c own a hk h hA; unfold ev at h; cases h
  | exit id => intro k Q env st c own a hk h hA; exact wp_exit (hk (.exit id) env st c own a h hA)
  | scope x ih =>
    intro k Q env st c own a hk h hA
    unfold ev at h
    refine wp_scope_straight (ih (k := k) (fun ex env st c own a h hA => ?_) h hA)
    cases ex with
    | normal => exact hk .normal env st c own a h hA
    | exit id => exact hk (.exit id) env st c own a h hA
    | ret => exact hk .ret env st c own a h hA
    | pan v => exact hk (.pan v) env st c own a h hA
  | goto l => intro k Q env st c own a hk h hA; unfold ev at h; cases h
  | ret => intro k Q env st c own a hk h hA; exact wp_ret (hk .ret env st c own a h hA)
  | refuse s => intro k Q env st c own a hk h hA; unfold ev at h; cases h
end
end Go.Proofs.Ab
/- The abstract machine against GoSem: functions. Own work. -/
namespace Go.Proofs.Ab
open Go
set_option linter.unusedVariables false
set_option linter.unusedSimpArgs false

section
variable {pg : Pg} {D : DSem} {f : FuncId} {c0 c : Cx} {own0 own : Own} {nt : Nat} {Q : Exit → Act → World → Prop} {env : Env} {st : St} {r : Res} {k : K} {a : Act} {fn : Func} {live : Nat → Prop}
theorem border_letGo_row (t : Nat) (e : TypeId) (es : List (List V)) : border (.sl (.row t) e es) = .sl (.row t) e es := rfl
theorem canCells_border {n0 dead ownl : List Nat} : ∀ {cs cs' : List V} {j0 : Nat} {gv gv' : Gv}, canCells pg true n0 dead ownl j0 cs gv = some (cs', gv') → ∀ n, border (cs'.getD n .undef) = cs'.getD n .undef
  | [], cs', j0, gv, gv', h, n => by cases h; simp [border]
  | v :: cs, cs', j0, gv, gv', h, n => by
    unfold canCells at h
    rcases cond_some h with ⟨ho, h1⟩ | ⟨ho, h1⟩
    · split at h1
      · rename_i v' g1 hgo
        split at h1
        · rename_i cs1 g2 hrest
          cases h1
          cases n with
          | zero =>
            unfold giveOwn at hgo
            split at hgo
            · cases hgo; rfl
            · obtain ⟨_, h2⟩ := condR_some hgo; cases h2; rfl
            · cases hgo
          | succ n => simpa using canCells_border hrest n
        · cases h1
      · cases h1
    · split at h1
      · rename_i cs1 g2 hrest
        cases h1
        cases n with
        | zero => exact border_idem _
        | succ n => simpa using canCells_border hrest n
      · cases h1
theorem canBlks_border {n0 dead : List Nat} : ∀ {ks ks' : List Blk} {gv gv' : Gv}, canBlks pg true n0 dead ks gv = some (ks', gv') →
    ∀ (i : Nat) (t : TypeId) (cs : List V) (fz : Bool) (j : Nat), ks'[i]? = some (.cells t cs fz) → border (cs.getD j .undef) = cs.getD j .undef
  | [], ks', gv, gv', h, i, t, cs, fz, j, hi => by cases h; simp at hi
  | k0 :: ks, ks', gv, gv', h, i, t, cs, fz, j, hi => by
    unfold canBlks at h
    split at h
    · rename_i k1 g1 hk
      split at h
      · rename_i ks1 g2 hrest
        cases h
        cases i with
        | zero =>
          simp at hi
          subst hi
          unfold canBlk at hk
          split at hk
          · split at hk
            · rename_i cs' g' hc
              cases hk
              exact canCells_border hc j
            · cases hk
          · cases hk
        | succ i => exact canBlks_border hrest i t cs fz j (by simpa using hi)
      · cases h
    · cases h
/-- **A function's end.** -/
theorem leave_sound {m : Nat} {mk : V → Out} {v : V} {x : Value} (hA : At pg c0 own0 nt c own env st a) (hm : ∀ i r, i < m → c0.blk i = some r → True) (h : leave pg m st mk v = some r) (hv : VRep pg.P c v x) :
    ∃ c1 own1 v', c1.w = c.w ∧ r.out = mk v' ∧ PRep pg.P c1.w c1.prot v' x ∧ After c0 own0 c1 own1 ∧ (∀ i r, i < m → c0.blk i = some r → c1.blk i = some r) ∧ Inv pg c1 own1 (fun i => r.bl[i]?) (fun p => ∃ r, c1.row p = some r) ∧
      ∀ (i : Nat) (t : TypeId) (cs : List V) (fz : Bool) (j : Nat), r.bl[i]? = some (.cells t cs fz) → border (cs.getD j .undef) = cs.getD j .undef := by
  unfold leave at h
  split at h
  · rename_i v' bl hp
    split at h
    · rename_i bs hb
      split at h
      · rename_i bl' gv hc
        cases h
        obtain ⟨c1, own1, hw1, hI1, ha1, hx1, hb1, hr1, hvl, hvr, hkeep⟩ := purAll_sound hA.inv.inv hp
        have hpr := hvr 0 x (by simp) (by simpa using hv)
        obtain ⟨hbl, hbg⟩ := takeB_some hb
        have hbl' : bs.length = m := by simpa using hbl
        obtain ⟨tags, recs, hG, hl2, hm2, hI2⟩ := canBlks_inv hI1 (fun t r h1 h2 => ⟨hA.inv.domr t r (by rw [← hr1]; exact h1), h2⟩) (by omega) (fun i kk hi => by
          have hlt := (List.getElem?_eq_some_iff.1 hi).1
          obtain ⟨k2, h3, h4⟩ := hbg i i (List.getElem?_range (by omega))
          rw [hi] at h4
          cases h4
          exact h3) (fun i r hi _ => by omega) hc
        refine ⟨c1.cut (List.range m) (fun p => recs[p]?), own1.retag (List.range m) tags, v', hw1, rfl, (show PRep pg.P c1.w c1.prot v' x from hpr), ?_, fun i r hi hr => ?_, ?_, canBlks_border hc⟩
        · have hfar : Far c1 (c1.cut (List.range m) (fun p => recs[p]?)) := ⟨rfl, fun id r ho _ => by
            exfalso
            have : c1.out id := ho
            rw [ha1.far.1] at this
            exact hA.out id this⟩
          exact hA.after.trans (ha1.trans ⟨Frame.refl _ _, fun b x _ hn => Own.retag_none hn, fun b x hp => ⟨hp, rfl⟩, fun b x hp => .inl hp, hfar⟩)
        · show (if (List.range m).contains i then c1.blk i else none) = some r
          rw [if_pos (by simpa using hi), hb1]
          exact hA.blk i r hr
        · refine hI2.less fun p hp => ?_
          obtain ⟨q, hq⟩ := hp
          rw [← hG.rl]
          exact (List.getElem?_eq_some_iff.1 (show recs[p]? = some q from hq)).1
      · cases h
    · cases h
  · cases h
theorem resVals_sound (hA : At pg c0 own0 nt c own env st a) : ∀ {l : List ResultVar} {kk : List V → Option Res}, resVals pg env st l kk = some r →
    ∃ vs xs, kk vs = some r ∧ vs.length = l.length ∧ (l.mapM fun | .tmp t => pure (a.tmps.getD t Go.undef) | .cell b t => do loadVar t (← asAddr (a.tmps.getD b Go.undef)) : Sem (List Value)).run pg.P c.w = .ok xs c.w ∧ xs.length = l.length ∧
      ∀ j, j < l.length → VRep pg.P c (vs.getD j .undef) (xs.getD j Go.undef)
  | [], kk, h => ⟨[], [], h, rfl, by simp, rfl, fun j hj => absurd hj (Nat.not_lt_zero _)⟩
  | .tmp t :: l, kk, h => by
    unfold resVals at h
    obtain ⟨vs, xs, h1, h2, h3, h4, h5⟩ := resVals_sound hA h
    refine ⟨_ :: vs, a.tmps.getD t Go.undef :: xs, h1, by simp [h2], ?_, by simp [h4], fun j hj => ?_⟩
    · rw [List.mapM_cons]
      simp only [Sem.run_bind, Sem.run_pure, Result.andThen_ok, h3]
    · cases j with
      | zero => exact hA.env t
      | succ j => simpa using h5 j (by simpa using hj)
  | .cell b t :: l, kk, h => by
    unfold resVals at h
    obtain ⟨v, x, h1, h2, h3⟩ := loadS_sound hA.inv.inv h (hA.env b)
    obtain ⟨vs, xs, h4, h5, h6, h7, h8⟩ := resVals_sound hA h1
    have hload : (do loadVar t (← asAddr (a.tmps.getD b Go.undef)) : Sem Value).run pg.P c.w = .ok x c.w := by
      have h9 := h2
      unfold Instr.loadAt at h9
      cases hq : a.tmps.getD b Go.undef with
      | pointer p =>
        rw [hq] at h9
        cases p with
        | some ad => exact h9
        | none => exfalso; simp [Instr.sureAddr, stuck] at h9
      | _ => rw [hq] at h9; exfalso; simp [Instr.sureAddr, stuck] at h9
    refine ⟨_ :: vs, x :: xs, h4, by simp [h5], ?_, by simp [h7], fun j hj => ?_⟩
    · rw [List.mapM_cons]
      simp only [Sem.run_bind] at hload
      simp only [Sem.run_bind, Sem.run_pure, hload, Result.andThen_ok, h6]
    · cases j with
      | zero => exact h3
      | succ j => simpa using h8 j (by simpa using hj)
theorem kFin_sound {m : Nat} : KOk pg r c0 own0 nt (kFin pg D fn m) (bodyPost pg.P fn (Ends pg c0 own0 m r)) := by
  intro ex env st c own a h hA
  have ret : kFin.fin pg fn m env none { st with df := [] } = some r → a.defers = [] ∧ ∃ v, (results fn a.tmps).run pg.P c.w = .ok v c.w ∧ Ends pg c0 own0 m r (.returned v) c.w := by
    intro h
    have hst : ({ st with df := [] } : St) = st := by have := hA.df; cases st; cases this; rfl
    rw [hst] at h
    refine ⟨hA.defers, ?_⟩
    obtain ⟨vs, xs, h1, h2, h3, h4, h5⟩ := resVals_sound hA (l := fn.results.toList) h
    have hrun : (results fn a.tmps).run pg.P c.w = .ok (if hh : xs.toArray.size = 1 then xs.toArray[0] else .tuple xs.toArray) c.w := by
      unfold results
      rw [Array.mapM_eq_mapM_toList]
      simp only [Sem.run_bind, Sem.run_map]
      erw [h3]
      rfl
    refine ⟨_, hrun, ?_⟩
    have hv : VRep pg.P c (match vs with | [v] => v | vs => .tup vs) (if hh : xs.toArray.size = 1 then xs.toArray[0] else .tuple xs.toArray) := by
      by_cases hone : xs.length = 1
      · obtain ⟨x, rfl⟩ := List.length_eq_one_iff.1 hone
        obtain ⟨v, rfl⟩ := List.length_eq_one_iff.1 (h2.trans (h4.symm.trans hone))
        have := h5 0 (by omega)
        simpa using this
      · have hne : ∀ v, vs ≠ [v] := fun v hv => hone (by rw [h4, ← h2, hv]; rfl)
        have hsz : ¬ xs.toArray.size = 1 := by simpa using hone
        rw [dif_neg hsz]
        have hm : (match vs with | [v] => v | vs => .tup vs) = V.tup vs := by
          split
          · rename_i v; exact absurd rfl (hne v)
          · rfl
        rw [hm]
        exact .tup (by simp; omega) fun j hj => by simpa [List.getD, Array.getD_eq_getD_getElem?] using h5 j (by omega)
    obtain ⟨c1, own1, v', g1, g2, g3, g4, g5, g6, g7⟩ := leave_sound hA (fun _ _ _ _ => trivial) h1 hv
    refine ⟨c1, own1, g1, g4, g5, g6, g7, ?_⟩
    rw [g2]
    exact g3
  cases ex with
  | normal =>
    have h' : runDef pg D none st.df { st with df := [] } (kFin.fin pg fn m env) = some r := h
    rw [hA.df] at h'
    have h'' : kFin.fin pg fn m env none { st with df := [] } = some r := h'
    exact ret h''
  | ret =>
    have h' : runDef pg D none st.df { st with df := [] } (kFin.fin pg fn m env) = some r := h
    rw [hA.df] at h'
    have h'' : kFin.fin pg fn m env none { st with df := [] } = some r := h'
    exact ret h''
  | exit id => cases h
  | pan v =>
    intro x hx
    have h' : runDef pg D (some v) st.df { st with df := [] } (kFin.fin pg fn m env) = some r := h
    rw [hA.df] at h'
    have h'' : leave pg m { st with df := [] } .pan v = some r := h'
    have hst : ({ st with df := [] } : St) = st := by have := hA.df; cases st; cases this; rfl
    rw [hst] at h''
    obtain ⟨c1, own1, v', g1, g2, g3, g4, g5, g6, g7⟩ := leave_sound hA (fun _ _ _ _ => trivial) h'' hx
    refine ⟨hA.defers, c1, own1, g1, g4, g5, g6, g7, ?_⟩
    rw [g2]
    exact ⟨x, rfl, g3⟩
end
end Go.Proofs.Ab
/- The abstract machine against GoSem: what 'den' tells is so. Own work. -/
namespace Go.Proofs.Ab
open Go
set_option linter.unusedVariables false
set_option linter.unusedSimpArgs false

section
variable {pg : Pg} {D : DSem}
/-- A function that is told otherwise is told soundly. -/
def FSound (pg : Pg) (f : FuncId) (g : List V → List Blk → Option Res) : Prop :=
  ∀ vs bl res, g vs bl = some res → Bodied pg.P f ∧ ∀ (c : Cx) (own : Own) (xs : Array Value),
    Inv pg c own (fun i => bl[i]?) (fun p => p < rowsOf pg bl) → (∀ p r, c.row p = some r → p < rowsOf pg bl) → (∀ id, ¬ c.out id) → vs.length = xs.size → (∀ j, j < vs.length → VRep pg.P c (vs.getD j .undef) (xs.getD j Go.undef)) →
    Calls pg.P f xs c.w (Ends pg c own bl.length res)
/-- **What is asked of a program.** -/
structure PgOk (pg : Pg) : Prop where
  dfs : pg.dfs = false
  mix : pg.P.follows .mixedOrders = true
  nat : ∀ f g, pg.nat f = some g → FSound pg f g
theorem getB_range (bl : List Blk) (i : Nat) : getB ((List.range bl.length).zip bl) i = bl[i]? := by
  cases h : getB ((List.range bl.length).zip bl) i with
  | some b =>
    obtain ⟨j, h1, h2⟩ := getB_zip h
    have hj : j < bl.length := (List.getElem?_eq_some_iff.1 h2).1
    rw [List.getElem?_range hj] at h1
    cases h1
    exact h2.symm
  | none =>
    cases h2 : bl[i]? with
    | none => rfl
    | some b =>
      have hi : i < bl.length := (List.getElem?_eq_some_iff.1 h2).1
      obtain ⟨k, hk⟩ := getB_zip_of (ids := List.range bl.length) (bs := bl) (id := i) (by simp) (by simpa using hi)
      rw [h] at hk; cases hk
theorem args0_get : ∀ (vs : List V) (n t : Nat), (args0 n vs).get t = if n ≤ t ∧ t < n + vs.length then vs.getD (t - n) .undef else .undef
  | [], n, t => by
    have : ¬ (n ≤ t ∧ t < n + ([] : List V).length) := by rw [List.length_nil]; omega
    rw [if_neg this]; rfl
  | v :: vs, n, t => by
    show (bif Nat.beq n t then v else (args0 (n + 1) vs).get t) = _
    by_cases h : n = t
    · subst h
      rw [Nat.beq_refl, cond_true, if_pos (by simp)]
      simp
    · rw [nbeq h, cond_false, args0_get vs (n + 1) t]
      by_cases h1 : n + 1 ≤ t ∧ t < n + 1 + vs.length
      · rw [if_pos h1, if_pos (by simp; omega)]
        have : t - n = (t - (n + 1)) + 1 := by omega
        rw [this]; simp
      · rw [if_neg h1, if_neg (by simp; omega)]
theorem evF_sound (hD : DSound pg D) (hP : PgOk pg) : DSound pg fun f vs bl pn => evF pg D f vs bl pn := by
  intro f vs bl res h
  dsimp only at h
  unfold evF at h
  split at h
  · rename_i g hg
    exact hP.nat f g hg vs bl res h
  · split at h
    · rename_i fn hfn
      obtain ⟨hc, h1⟩ := condR_some h
      simp only [Bool.or_eq_false_iff] at hc
      obtain ⟨⟨hb, hname⟩, hlen⟩ := hc
      refine ⟨⟨fn, hfn, hb, hname⟩, fun c own xs hI hdom hout hl hx => ?_⟩
      have hlen : vs.length ≤ fn.ntmps := by
        cases hq : Nat.blt fn.ntmps vs.length with
        | false =>
          rcases Nat.lt_or_ge fn.ntmps vs.length with hlt | hge
          · have h9 : Nat.blt fn.ntmps vs.length = true := by rw [Nat.blt_eq]; exact hlt
            rw [h9] at hq; cases hq
          · exact hge
        | true => rw [hq] at hlen; cases hlen
      cases hbody : fn.body with
      | none => rw [hbody] at hb; cases hb
      | some code =>
        have hbo : bodyOf fn = code := by unfold bodyOf; rw [hbody]
        rw [hbo] at h1
        refine calls_of_wp hfn hbody ?_
        have hg : getB ((List.range bl.length).zip bl) = fun i => bl[i]? := funext (getB_range bl)
        have hA : At pg c own fn.ntmps c own (args0 0 vs) { bl := (List.range bl.length).zip bl, used := List.range (rowsOf pg bl), dead := [], df := [], pn := none }
            { tmps := xs ++ Array.replicate (fn.ntmps - xs.size) Go.undef, defers := [] } := by
          refine ⟨⟨?_, fun t r hr => by simpa using hdom t r hr⟩, fun t => ?_, by simp; omega, rfl, rfl, rfl, After.refl _ _, fun _ _ h => h, hout⟩
          · rw [hg]
            exact hI.less fun p hp => by simpa using hp.1
          · rw [args0_get]
            by_cases ht : 0 ≤ t ∧ t < 0 + vs.length
            · rw [if_pos ht]
              have htl : t < vs.length := by omega
              have h2 : (xs ++ Array.replicate (fn.ntmps - xs.size) Go.undef).getD t Go.undef = xs.getD t Go.undef := by
                have h3 : t < xs.size := by omega
                have h4 : t < xs.size + (fn.ntmps - xs.size) := by omega
                simp [Array.getD, h3, h4, Array.getElem_append]
              show VRep pg.P c _ ((xs ++ Array.replicate (fn.ntmps - xs.size) Go.undef).getD t Go.undef)
              rw [h2]
              exact hx t htl
            · rw [if_neg ht]; exact .undef _
        exact ev_sound hD hP.dfs hP.mix code kFin_sound h1 hA
    · cases h
theorem call_sound' (hP : PgOk pg) : ∀ n, DSound pg (call pg n)
  | 0 => fun f vs bl res h => by cases h
  | n + 1 => evF_sound (call_sound' hP n) hP
/-- **What 'den' tells is so.** -/
theorem den_sound (hP : PgOk pg) : DSound pg (den pg) := by
  intro f vs bl res h
  unfold den at h
  split at h
  · rename_i hex
    cases h
    obtain ⟨n, hn⟩ := Classical.choose_spec hex
    exact call_sound' hP n f vs bl _ hn
  · cases h
end
end Go.Proofs.Ab
/- The abstract machine: a law's call. Own work. -/
namespace Go.Proofs.Ab
open Go Go.RowKit
set_option linter.unusedVariables false
set_option linter.unusedSimpArgs false

/-- All that lies there when the call begins. -/
def Before (W : World) : Nat → Nat → Prop := fun b _ => b < W.heap.size
theorem cell_lt {W : World} {b x : Nat} {y : Value} (h : W.cell? ⟨b, x, none⟩ = some y) : b < W.heap.size := by
  unfold World.cell? at h
  cases hb : W.heap[b]? with
  | none => simp [hb] at h
  | some o => exact (Array.getElem?_eq_some_iff.1 hb).1
theorem Frame.below {own : Own} {w w' : World} (h : Frame own w w') (ho : ∀ b x, own b x = none) : Below w.heap.size w w' := by
  refine ⟨h.os, h.tape, h.output, h.size, fun k hk => ?_⟩
  obtain ⟨o, hb⟩ : ∃ o, w.heap[k]? = some o := ⟨_, Array.getElem?_eq_getElem hk⟩
  rcases h.blk k o hb with h1 | ⟨a, a', e, fr, rfl, h1, h2, h3⟩
  · rw [h1, hb]
  · have : a' = a := Array.ext_getElem? fun i => h3 i (ho k i)
    subst this
    rw [h1, hb]
/-- **A law's call**: what 'den' tells of it is so. -/
theorem law_calls {pg : Pg} (hP : PgOk pg) {f : FuncId} {vs : List V} {v : V} {bl' : List Blk} {pn' : Option (Option V)} (h : den pg f vs [] none = some ⟨.ret v, bl', pn'⟩) {W : World}
    (hgl : ∀ i cs, pg.gl i = some cs → ∀ j, j < cs.length → ∃ x, W.cell? ⟨i, j, none⟩ = some x ∧ x.oneCell' = true ∧ PRep pg.P W (Before W) (cs.getD j .undef) x) {xs : Array Value} (hl : vs.length = xs.size)
    (hx : ∀ j, j < vs.length → PRep pg.P W (Before W) (vs.getD j .undef) (xs.getD j Go.undef)) :
    Calls pg.P f xs W fun e W' => Below W.heap.size W W' ∧ ∃ x prot, e = .returned x ∧ PRep pg.P W' prot v x := by
  let c : Cx := ⟨W, fun _ => none, fun _ => none, Before W, fun _ => False⟩
  have hrows : rowsOf pg [] = 0 := rfl
  have hI : Inv pg c (fun _ _ => none) (fun i => ([] : List Blk)[i]?) (fun p => p < rowsOf pg []) := by
    refine ⟨fun id k hk => by simp at hk, fun t ht => by rw [hrows] at ht; omega, fun b x hp => ⟨rfl, hp⟩, fun b x hn => absurd rfl hn, (fun id r hr => by cases hr), fun i cs hg => ?_⟩
    have hc := hgl i cs hg
    refine .ptr (fun j => if hj : j < cs.length then Classical.choose (hc j hj) else Go.undef) i 0 (fun j hj => ?_) (fun j hj => ?_)
    · have hs := Classical.choose_spec (hc j hj)
      simp only [hj, dif_pos, Nat.zero_add]
      exact ⟨cell_lt hs.1, hs.1, hs.2.1⟩
    · have hs := Classical.choose_spec (hc j hj)
      simp only [hj, dif_pos]
      exact hs.2.2
  obtain ⟨_, hcall⟩ := den_sound hP f vs [] _ h
  refine (hcall c (fun _ _ => none) xs hI (fun p r hr => by cases hr) (fun _ h => h) hl fun j hj => .pure (hx j hj)).mono fun e W' hE => ?_
  obtain ⟨c', own', rfl, ha, _, _, _, hout⟩ := hE
  refine ⟨ha.frame.below fun _ _ => rfl, ?_⟩
  cases e with
  | returned x => exact ⟨x, c'.prot, rfl, hout⟩
  | panicked ch => exact hout.elim
  | outgrown => exact hout.elim
/-- A law that answers true. -/
theorem law_true {pg : Pg} (hP : PgOk pg) {f : FuncId} {vs : List V} {bl' : List Blk} {pn' : Option (Option V)} (h : den pg f vs [] none = some ⟨.ret (.bool true), bl', pn'⟩) {W : World}
    (hgl : ∀ i cs, pg.gl i = some cs → ∀ j, j < cs.length → ∃ x, W.cell? ⟨i, j, none⟩ = some x ∧ x.oneCell' = true ∧ PRep pg.P W (Before W) (cs.getD j .undef) x) {xs : Array Value} (hl : vs.length = xs.size)
    (hx : ∀ j, j < vs.length → PRep pg.P W (Before W) (vs.getD j .undef) (xs.getD j Go.undef)) :
    Calls pg.P f xs W fun e W' => e = .returned (.bool true) ∧ Below W.heap.size W W' :=
  (law_calls hP h hgl hl hx).mono fun e W' ⟨hb, x, prot, he, hp⟩ => by
    cases hp
    exact ⟨he, hb⟩
end Go.Proofs.Ab
/- The abstract machine: runs that the kernel reckons. Own work. -/
namespace Go.Proofs.Ab
open Go
set_option linter.unusedVariables false

section
variable (pg : Pg)
theorem ev_mono {D D' : DSem} {f : FuncId} {nt : Nat} {c : Code} {k k' : K} (hD : ∀ f vs bl pn r, D f vs bl pn = some r → D' f vs bl pn = some r) (hk : ∀ ex env st r, k ex env st = some r → k' ex env st = some r) {env : Env} {st : St} {r : Res}
    (h : ev pg D f nt c env st k = some r) : ev pg D' f nt c env st k' = some r := by
  have hDs : LimD (fun j => if j = 0 then D else D') D' := fun f vs bl pn => by
    refine ⟨fun j r hj => ?_, fun r => ⟨fun h => ⟨1, h⟩, fun ⟨j, hj⟩ => ?_⟩⟩
    · by_cases h0 : j = 0
      · subst h0; simpa using hD _ _ _ _ _ (by simpa using hj)
      · simpa [h0] using hj
    · by_cases h0 : j = 0
      · subst h0; exact hD _ _ _ _ _ (by simpa using hj)
      · simpa [h0] using hj
  have hks : LimK (fun j => if j = 0 then k else k') k' := fun ex env st => by
    refine ⟨fun j r hj => ?_, fun r => ⟨fun h => ⟨1, h⟩, fun ⟨j, hj⟩ => ?_⟩⟩
    · by_cases h0 : j = 0
      · subst h0; simpa using hk _ _ _ _ (by simpa using hj)
      · simpa [h0] using hj
    · by_cases h0 : j = 0
      · subst h0; exact hk _ _ _ _ (by simpa using hj)
      · simpa [h0] using hj
  exact ((ev_lim pg f nt c hDs hks env st).to r).2 ⟨0, by simpa using h⟩
variable (N : Nat)
section
variable (D : DSem) (f : FuncId) (nt : Nat)
/-- Code, each loop at most N rounds. -/
def evN : Code → Env → St → K → Option Res
  | .skip, env, st, k => k .normal env st
  | .label _, env, st, k => k .normal env st
  | .seq a b, env, st, k => evN a env st (kSeq (evN b) k)
  | .cond c a b, env, st, k => (match evO pg env 0 c with
    | .bool t => bif t then evN a (setC env c true) st k else evN b (setC env c false) st k
    | _ => none)
  | .block id c, env, st, k => evN c env st (kBlk id k)
  | .loop c, env, st, k => (match canon pg f (keysOf st.bl) (env, st) with
    | some x => iter (fun rec y => evN c y.1 y.2 (kLoop (canon pg f (keysOf st.bl)) rec k)) N x
    | none => none)
  | .scope c, env, st, k => evN c env st k
  | .exit id, env, st, k => k (.exit id) env st
  | .ret, env, st, k => k .ret env st
  | .region id ops draw, env, st, k =>
    bif (pg.joins f).contains id then (match canon pg f (keysOf st.bl) (env, st) with
      | some x => evReg pg D f nt ops draw x.1 x.2 k
      | none => none)
    else evReg pg D f nt ops draw env st k
  | _, _, _, _ => none
theorem evN_le : ∀ (c : Code) {k : K} {env : Env} {st : St} {r : Res}, evN pg N D f nt c env st k = some r → ev pg D f nt c env st k = some r := by
  intro c
  induction c with
  | skip => intro k env st r h; exact h
  | label l => intro k env st r h; exact h
  | seq a b iha ihb =>
    intro k env st r h
    show ev pg D f nt a env st (kSeq (ev pg D f nt b) k) = some r
    refine ev_mono pg (fun _ _ _ _ _ h => h) (k := kSeq (evN pg N D f nt b) k) (k' := kSeq (ev pg D f nt b) k) (fun ex env st r h => ?_) (iha h)
    cases ex with
    | normal => exact ihb h
    | _ => exact h
  | cond c a b iha ihb =>
    intro k env st r h
    simp only [evN] at h
    simp only [ev]
    split at h
    · rename_i t ht
      rw [ht]
      cases t with
      | true => exact iha h
      | false => exact ihb h
    · cases h
  | block id c ih => intro k env st r h; exact ih h
  | loop c ih =>
    intro k env st r h
    simp only [evN] at h
    simp only [ev]
    split at h
    · rename_i x hx
      rw [hx]
      have key : ∀ m x r, iter (fun rec y => evN pg N D f nt c y.1 y.2 (kLoop (canon pg f (keysOf st.bl)) rec k)) m x = some r → LP (ev pg D f nt c) (canon pg f (keysOf st.bl)) k x = some r := by
        intro m
        induction m with
        | zero => intro x r h; cases h
        | succ m ihm =>
          intro x r h
          rw [LP_eq]
          refine ev_mono pg (fun _ _ _ _ _ h => h) (k := kLoop (canon pg f (keysOf st.bl)) (iter (fun rec y => evN pg N D f nt c y.1 y.2 (kLoop (canon pg f (keysOf st.bl)) rec k)) m) k) (fun ex env st r' h => ?_) (ih h)
          cases ex with
          | normal =>
            dsimp only [kLp, kLoop] at h ⊢
            split at h
            · rename_i y hy
              exact ihm y r' h
            · cases h
          | _ => exact h
      exact key N x r h
    · cases h
  | scope c ih => intro k env st r h; exact ih h
  | exit id => intro k env st r h; exact h
  | ret => intro k env st r h; exact h
  | region id ops draw => intro k env st r h; exact h
  | goto l => intro k env st r h; cases h
  | rangeFunc g ps a b iha ihb => intro k env st r h; cases h
  | refuse w => intro k env st r h; cases h
end
/-- One function, its loops at most N rounds. -/
def evFN (D : DSem) (f : FuncId) (vs : List V) (bl : List Blk) (pn : Option (Option V)) : Option Res :=
  match pg.P.funcs[f]? with
  | some fn => bif fn.body.isNone || fn.name == "runtime.NumGoroutine" || Nat.blt fn.ntmps vs.length then none else
      evN pg N D f fn.ntmps (bodyOf fn) (args0 0 vs) { bl := (List.range bl.length).zip bl, used := List.range (rowsOf pg bl), dead := [], df := [], pn := pn } (kFin pg D fn bl.length)
  | none => none
def callN : Nat → DSem
  | 0 => fun _ _ _ _ => none
  | n + 1 => evFN pg N (callN n)
theorem kFin_mono {D D' : DSem} (hD : ∀ f vs bl pn r, D f vs bl pn = some r → D' f vs bl pn = some r) {fn : Func} {m : Nat} {ex : Ex} {env : Env} {st : St} {r : Res} (h : kFin pg D fn m ex env st = some r) : kFin pg D' fn m ex env st = some r := by
  have hDs : LimD (fun j => if j = 0 then D else D') D' := fun f vs bl pn => by
    refine ⟨fun j r hj => ?_, fun r => ⟨fun h => ⟨1, h⟩, fun ⟨j, hj⟩ => ?_⟩⟩
    · by_cases h0 : j = 0
      · subst h0; simpa using hD _ _ _ _ _ (by simpa using hj)
      · simpa [h0] using hj
    · by_cases h0 : j = 0
      · subst h0; exact hD _ _ _ _ _ (by simpa using hj)
      · simpa [h0] using hj
  exact ((kFin_lim pg hDs fn m ex env st).to r).2 ⟨0, by simpa using h⟩
/-- **A run that the kernel reckons is one.** -/
theorem callN_le (hn : ∀ f, pg.nat f = none) : ∀ n {f : FuncId} {vs : List V} {bl : List Blk} {pn : Option (Option V)} {r : Res}, callN pg N n f vs bl pn = some r → den pg f vs bl pn = some r
  | 0, f, vs, bl, pn, r, h => by cases h
  | n + 1, f, vs, bl, pn, r, h => by
    rw [den_eq]
    have h' : evFN pg N (callN pg N n) f vs bl pn = some r := h
    unfold evFN at h'
    unfold evF
    rw [hn]
    dsimp only
    split at h'
    · rename_i fn hf
      rw [hf]
      dsimp only
      cases hc : (fn.body.isNone || fn.name == "runtime.NumGoroutine" || Nat.blt fn.ntmps vs.length) with
      | true => rw [hc] at h'; cases h'
      | false =>
        rw [hc] at h'
        exact ev_mono pg (D := callN pg N n) (k := kFin pg (callN pg N n) fn bl.length) (fun f vs bl pn r h => callN_le hn n h) (fun ex env st r h => kFin_mono pg (fun f vs bl pn r h => callN_le hn n h) h) (evN_le pg N (callN pg N n) f fn.ntmps _ h')
    · cases h'
end
end Go.Proofs.Ab
