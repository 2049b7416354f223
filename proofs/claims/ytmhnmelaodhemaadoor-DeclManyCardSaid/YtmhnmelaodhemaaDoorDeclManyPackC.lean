/- Own texts under the law DeclMany, merged, without what it does not lean on: part 3 of 5 (the abstract machine and its proof; residual forms; contracts; the plain law). -/
import Derived.Test.YtmhnmelaodhemaaDoorDeclManyPackB
import Derived.Calls
import Derived.Tactics
import Derived.LoopN
import Derived.Scope
import Derived.Orders
import Derived.Below
import Derived.Lib.Join
set_option linter.unusedVariables false
set_option linter.unusedSimpArgs false
set_option linter.unusedSectionVars false
set_option maxRecDepth 100000
namespace Go.Proofs.Ab
open Go
section
variable {R : Type} {r : R} {pg : Pg} {c : Cx} {own : Own} {live : Nat -> Prop} {g : Nat -> Option Blk} {bl : List (Nat × Blk)} {dead : List Nat}
theorem Own.retag_out {n0 : List Nat} {tags : List (Option Nat)} {b x t : Nat} (h : own b x = some (true, t)) (hn : ∀ p : Nat, tags[p]? ≠ some (some t)) : own.retag n0 tags b x = none := by
 unfold Own.retag
 rw [h]
 have : ¬ ∃ p : Nat, tags[p]? = some (some t) := fun ⟨p, hp⟩ => hn p hp
 simp only [this, dif_neg, not_false_eq_true]
theorem CellBack.rep {P : Program} {nt : Tmp} {n : Nat} {w v l : V} {h : Hand} {c' c6 : Cx} {x : Value} (hb : CellBack nt n w v l) (hx : VRep P c' v x) (hbd : border v = v) (hw : c6.w = c'.w) (hp : c6.prot = c'.prot)
  (hr : ∀ p, p < n -> c6.row (rid nt p) = c'.row p) (ha : ∀ i e, w = .arr i e -> ∃ id, h[i]? = some (id, 0, none) ∧ ∀ q, c'.blk i = some q -> c6.blk id = some q) : VRep P c6 (unhand h l) x ∧ (unhand h l ≠ .undef -> v ≠ .undef) := by
 cases hb with
 | row w e es h2 =>
  refine ⟨?_, fun _ => nofun⟩
  show VRep P c6 (.sl (.row _) e es) x
  cases hx with
  | pure hp2 => cases hp2 with | sl f b o ht hb hl hc hr => exact ht.elim
  | row hp2 hr2 hn => exact .row (by rw [hw, hp]; exact hp2) (by rw [hr _ h2]; exact hr2) hn
 | arr i e =>
  refine ⟨?_, fun _ => nofun⟩
  obtain ⟨id, h1, h2⟩ := ha i e rfl
  show VRep P c6 (match h[i]? with | some x => .arr x.1 e | none => .undef) x
  rw [h1]
  obtain ⟨b, o, m, cap, h3, rfl, h4⟩ := hx.arr_inv'
  exact .arr e cap (h2 _ h3) h4
 | dec w h1 h2 h3 h4 =>
  refine ⟨?_, fun _ => h2⟩
  have hun : unhand h l = l := by
   unfold unhand
   split
   ·exact absurd rfl (h3 _ _)
   ·rfl
  rw [hun]
  rcases h1 with rfl | ⟨tok, e, es, rfl, rfl⟩
  ·exact hx.over hbd hw hp h3 h4
  ·exact hx.sl_no.over rfl hw hp nofun nofun
theorem Inv.back {h : Hand} {ps sub bs : List Blk} {tags : List (Option Nat)} {recs : List (Value × TypeId × Nat)} {gv : Gv} {c' : Cx} {own' : Own} {bl' : List (Nat × Blk)} {nt : Tmp} {live' : Nat -> Prop} {rows : Nat -> Option (Value × TypeId × Nat)}
  (hI : Inv pg c own (getB bl) live) (hP : PiecesOk pg bl h ps) (hd : Distinct h) (hN : ps.length <= 40) (hlen : sub.length = ps.length)
  (hm : ∀ (j : Nat) (k k' : Blk), ps[j]? = some k -> sub[j]? = some k' -> k'.num = k.num ∧ k'.len pg.P = k.len pg.P ∧ k'.fz = k.fz ∧ ∀ w b o, Lies pg.P w b o k -> Lies pg.P w b o k') (hkind : ∀ (j : Nat) (k k' : Blk), ps[j]? = some k -> sub[j]? = some k' -> Kind k k')
  (hG : GvOk (c.hand h ps) live gv tags recs) (ha : After ((c.hand h ps).cut (List.range 40) rows) ((own.hand pg.P c h ps).retag (List.range 40) tags) c' own')
  (hblk : ∀ i r, i < sub.length -> ((c.hand h ps).cut (List.range 40) rows).blk i = some r -> c'.blk i = some r)
  (hI' : Inv pg c' own' (fun i => bs[i]?) (fun p => ∃ r, c'.row p = some r))
  (hbd : ∀ (i : Nat) (t : TypeId) (cs : List V) (fz : Bool) (j : Nat), bs[i]? = some (.cells t cs fz) -> border (cs.getD j .undef) = cs.getD j .undef)
  (hI4 : ∀ b x, c.prot b x -> ((own.hand pg.P c h ps).retag (List.range 40) tags) b x = none)
  (hsame : ∀ id, (∀ x ∈ h, x.1 ≠ id) -> getB bl' id = getB bl id)
  (hback : ∀ (j : Nat) x w, h[j]? = some x -> sub[j]? = some w -> ∃ b new, bs[j]? = some b ∧ getB bl' x.1 = some new ∧ ∀ old, getB bl x.1 = some old -> PieceBack nt gv.n h x.2.1 w b old new)
  (hrows : ∀ q, q < gv.n -> ∃ (j : Nat) (t : TypeId) (cs : List V) (n : Nat) (e : TypeId) (es : List (List V)), bs[j]? = some (.cells t cs false) ∧ n < cs.length ∧ cs.getD n .undef = .sl (.row q) e es)
  (hrid : ∀ t r, c.row t = some r -> ¬ (rid nt 0 <= t ∧ t < rid nt 0 + gv.n))
  (hlive : ∀ t, live' t -> (∃ p, p < gv.n ∧ t = rid nt p) ∨ (live t ∧ t ∉ gv.seen)) :
  Inv pg (c.back c' nt gv.n) (own.back ((own.hand pg.P c h ps).retag (List.range 40) tags) own' h nt gv.n) (getB bl') live' := by
 generalize hown4 : (own.hand pg.P c h ps).retag (List.range 40) tags = own4 at *
 have hl : ∀ b x, own b x = none -> own4 b x = none := fun b x hx => by rw [<- hown4]; exact Own.retag_none (Own.hand_none hx)
 have hx : Ext c (c.back c' nt gv.n) := Ext.back ha rfl rfl hrid
 have hafter : After c own (c.back c' nt gv.n) (own.back own4 own' h nt gv.n) := After.back ha rfl rfl hl
 have hf4 : Frame own4 c.w c'.w := ha.frame
 have keep4 : ∀ b x, b < c.w.heap.size -> own4 b x = none -> own' b x = none := ha.keep
 have kept : ∀ b x, own b x ≠ none -> own4 b x = none -> (own.back own4 own' h nt gv.n) b x = own b x := fun b x h1 h2 => Own.back_kept (keep4 b x (hI.fresh b x h1) h2) h2
 have rowout : ∀ b x t, own b x = some (true, t) -> t ∉ gv.seen -> own4 b x = none := fun b x t h1 h2 => by
  rw [<- hown4]
  exact Own.retag_out (Own.hand_row h1) fun p hp => h2 (hG.old p t hp).2.1
 have piece : ∀ (i : Nat) x, h[i]? = some x -> ∃ k raw p w, getB bl x.1 = some k ∧ PartOf k raw x.2.1 x.2.2 ∧ ps[i]? = some p ∧ PieceOver h raw p ∧ sub[i]? = some w := fun i x hi => by
  have hi' : i < ps.length := by rw [hP.1]; exact (List.getElem?_eq_some_iff.1 hi).1
  obtain ⟨y, k, raw, p, h1, h2, h3, h4, h5⟩ := hP.2 i hi'
  rw [hi] at h1
  cases h1
  exact ⟨k, raw, p, sub[i]'(by omega), h2, h3, h4, h5, List.getElem?_eq_getElem (by omega)⟩
 have cut4 : ∀ (i : Nat) q, i < ps.length -> posOf c h ps i = some q -> c'.blk i = some q := fun i q hi hq => hblk i q (by omega) (by
  show (if _ then _ else _) = _
  rw [if_pos (by simp; omega)]; exact hq)
 refine ⟨fun id k hk => ?_, fun t ht => ?_, fun b x hp => ?_, fun b x hn => ?_, fun id r hr => ?_, fun i cs hg => hI'.gl i cs hg⟩
 ·by_cases hid : ∃ (i : Nat) (x : Nat × Nat × Option TypeId), h[i]? = some x ∧ x.1 = id
  ·obtain ⟨i, x, hi, rfl⟩ := hid
   obtain ⟨k0, raw, p, w, h1, h2, h3, h4, h5⟩ := piece i x hi
   obtain ⟨bb, new, h6, h7, h8⟩ := hback i x w hi h5
   rw [hk] at h7
   cases h7
   have hpb := h8 k0 h1
   obtain ⟨b, o, h9, h10⟩ := hI.blk _ _ h1
   have hil : i < ps.length := (List.getElem?_eq_some_iff.1 h3).1
   have hpos : c'.blk i = some (b, o + x.2.1, p.num) := cut4 i _ hil (posOf_at hi h3 h9)
   obtain ⟨b', o', h11, h12⟩ := hI'.blk i bb h6
   rw [hpos] at h11
   obtain ⟨rfl, rfl, hnum⟩ : b = b' ∧ o + x.2.1 = o' ∧ p.num = bb.num := by simpa using h11
   obtain ⟨e1, e2, e3, _⟩ := hm i p w h3 h5
   have hpl := h4.num
   have hlenr := h2.len (P := pg.P)
   have hwl : w.len pg.P = raw.len pg.P := by rw [e2, hpl.2.1]
   have hinp : ∀ y, InP pg.P c h ps x.1 i b y ↔ o + x.2.1 <= y ∧ y < o + x.2.1 + p.len pg.P := fun y => by
    constructor
    ·rintro ⟨z, p2, q, g1, g2, g3, g4, g5, g6, g7⟩
     rw [hi] at g1; cases g1
     rw [h3] at g3; cases g3
     rw [h9] at g4; cases g4
     exact ⟨g6, g7⟩
    ·rintro ⟨g1, g2⟩
     exact ⟨x, p, _, hi, rfl, h3, h9, rfl, g1, g2⟩
   have out : ∀ y, own b y = some (false, x.1) -> ¬ (o + x.2.1 <= y ∧ y < o + x.2.1 + p.len pg.P) -> own4 b y = none := fun y g1 g2 => by
    rw [<- hown4]
    refine Own.retag_none (Own.hand_out g1 fun j hj => g2 ?_)
    obtain ⟨z, p2, q, g3, g4, g5⟩ := hj
    have : j = i := hd j i z x g3 hi g4
    subst this
    exact (hinp y).1 ⟨z, p2, q, g3, g4, g5⟩
   rcases hpb with ⟨t, cs, cs', l, e, ocs, fz, rfl, rfl, g3, g4, rfl, rfl, g7⟩ | ⟨e, es, es', rfl, rfl, g3, rfl⟩
   ·
    have hfz : fz = false := by
     have : (Blk.cells e ocs fz).fz = false := by rw [<- h2.fz, <- hpl.2.2, <- e3]; rfl
     exact this
    subst hfz
    obtain ⟨⟨arr, e', g8, g9⟩, g10⟩ := h10.opn rfl
    have hbs : b < c.w.heap.size := (Array.getElem?_eq_some_iff.1 g8).1
    have hcl : cs.length = p.len pg.P := by rw [<- e2]; rfl
    have hle : x.2.1 + cs.length <= ocs.length := by
     have : x.2.1 + raw.len pg.P <= ocs.length := hlenr
     have : cs.length = raw.len pg.P := hwl
     omega
    have harr : ∀ j i' e', cs.getD j .undef = .arr i' e' -> ∃ id, h[i']? = some (id, 0, none) ∧ ∀ q, c'.blk i' = some q -> (c.back c' nt gv.n).blk id = some q := by
     intro j i' e' hj
     have hkd := hkind i p _ h3 h5
     rcases hkd with ⟨e2, pcs, _, fz2, rfl, he, hk2⟩ | ⟨e2, es2, fz2, rfl, he⟩ | ⟨_, _, _, _, _, he⟩
     ·cases he
      have hpj := hk2 j i' e' hj
      cases raw with
      | vec e es fz => cases h4
      | mp kt et es fz => exact h4.elim
      | cells e3 rcs fz3 =>
       obtain ⟨cs2, he2, hl2, ho2⟩ := h4
       cases he2
       have hjl : j < rcs.length := by
        rcases Nat.lt_or_ge j pcs.length with h | h
        ·omega
        ·simp [List.getD, List.getElem?_eq_none h] at hpj
       rcases ho2 j hjl with hu | ⟨id, e4, i4, hv, hv', hh⟩ | ⟨hna, hv'⟩
       ·rw [hpj] at hu; cases hu
       ·rw [hpj] at hv'
        cases hv'
        refine ⟨id, hh, fun q hq => ?_⟩
        show c.blk id = some q
        obtain ⟨k3, raw3, p3, w3, f1, f2, f3, f4, f5⟩ := piece i' _ hh
        obtain ⟨b3, o3, f6, _⟩ := hI.blk _ _ f1
        have f7 := hP.full hI id i' _ hh f6
        have f8 := cut4 i' _ (List.getElem?_eq_some_iff.1 f3).1 f7
        rw [hq] at f8
        cases f8
        exact f6
       ·rw [hpj] at hv'
        exact absurd (border_arr hv'.symm) (hna _ _)
     ·cases he
     ·cases he
    refine ⟨b, o, ?_, fun j hj => ?_, fun _ => ⟨?_, fun y hy => ?_⟩, fun hf => by cases hf⟩
    ·show c.blk x.1 = _
     rw [h9]
     simp [Blk.num, setAt_length]
    ·rw [setAt_length] at hj
     rw [setAt_get]
     by_cases hin : x.2.1 <= j ∧ j < x.2.1 + (l.map (unhand h)).length ∧ j < ocs.length
     ·rw [if_pos hin]
      obtain ⟨hin1, hin2, _⟩ := hin
      have hjl : j - x.2.1 < cs'.length := by simp at hin2; omega
      obtain ⟨y, f1, f2, f3⟩ := h12.cells (j - x.2.1) hjl
      have hgl : (l.map (unhand h)).getD (j - x.2.1) .undef = unhand h (l.getD (j - x.2.1) .undef) := by
       have : j - x.2.1 < l.length := by omega
       simp [List.getD, this]
      rw [hgl]
      have hcb := (g7 (j - x.2.1) (by omega)).rep (h := h) (c6 := c.back c' nt gv.n) f3 (hbd i _ _ _ _ h6) rfl rfl (fun p hp => Cx.back_row hp) (fun i' e' he => harr _ _ _ he)
      refine ⟨y, ?_, fun hne => f2 (hcb.2 hne), hcb.1⟩
      have : o + x.2.1 + (j - x.2.1) = o + j := by omega
      rw [this] at f1
      exact f1
     ·rw [if_neg hin]
      obtain ⟨y, f1, f2, f3⟩ := h10.cells j hj
      refine ⟨y, ?_, f2, f3.mono hx⟩
      have : own4 b (o + j) = none := out _ (g10 j hj) (by
       rintro ⟨q1, q2⟩
       apply hin
       simp
       omega)
      exact (hf4.cell this hbs).trans f1
    ·rcases hf4.blk b _ g8 with f1 | ⟨a, a', e5, fr, f1, f2, f3, f4⟩ | ⟨es, n, es', n', f1, _⟩
     ·exact ⟨arr, e', f1, by simpa [Blk.len, setAt_length] using g9⟩
     ·cases f1
      exact ⟨a', e', f2, by simp only [Blk.len, setAt_length]; simp only [Blk.len] at g9; omega⟩
     ·cases f1
    ·simp only [Blk.len, setAt_length] at hy
     by_cases hin : o + x.2.1 <= o + y ∧ o + y < o + x.2.1 + p.len pg.P
     ·have := (h12.opn rfl).2 (y - x.2.1) (by show _ < cs'.length; omega)
      rw [show o + x.2.1 + (y - x.2.1) = o + y by omega] at this
      rw [Own.back_blk this hi]
     ·have hoy := g10 y hy
      rw [kept b (o + y) (by rw [hoy]; nofun) (out _ hoy hin)]
      exact hoy
   ·
    have hrk : raw = k0 ∧ x.2.1 = 0 := by
     rcases h2 with hh | ⟨_, e2, t2, cs2, n2, fz2, _, rfl, _⟩
     ·exact hh
     ·obtain ⟨cs3, rfl, _⟩ := h4
      rcases hkind i _ _ h3 h5 with ⟨_, _, _, _, _, he, _⟩ | ⟨_, _, _, he, _⟩ | ⟨_, _, _, _, he, _⟩ <;> cases he
    obtain ⟨rfl, hoff⟩ := hrk
    rw [hoff] at h12 hpos
    refine ⟨b, o, ?_, ?_, fun _ => ⟨?_, fun y hy => ?_⟩, fun hf => by cases hf⟩
    ·show c.blk x.1 = _
     rw [h9, <- hpl.1, <- e1]
     show some (b, o, es.length) = some (b, o, es'.length)
     rw [g3]
    ·exact h12.cells
    ·obtain ⟨⟨arr, e', g8, g9⟩, _⟩ := h12.opn rfl
     exact ⟨arr, e', g8, g9⟩
    ·exact Own.back_blk ((h12.opn rfl).2 y hy) hi
  ·have hid' : ∀ x ∈ h, x.1 ≠ id := fun x hx he => by
    obtain ⟨i, hi⟩ := List.mem_iff_getElem?.1 hx
    exact hid ⟨i, x, hi, he⟩
   rw [hsame id hid'] at hk
   obtain ⟨b, o, h1, h2⟩ := hI.blk id k hk
   have hout : ∀ b x, own b x = some (false, id) -> own4 b x = none := fun b x g1 => by
    rw [<- hown4]
    refine Own.retag_none (Own.hand_out g1 fun j hj => ?_)
    obtain ⟨z, p2, q, g3, g4, _⟩ := hj
    exact hid ⟨j, z, g3, g4⟩
   refine ⟨b, o, h1, h2.kept hx hf4 hout fun b x g1 => ?_⟩
   rw [kept b x (by rw [g1]; nofun) (hout b x g1)]; exact g1
 ·rcases hlive t ht with ⟨p, hp, rfl⟩ | ⟨h1, h2⟩
  ·obtain ⟨j, t, cs, n, e, es, f1, f2, f3⟩ := hrows p hp
   obtain ⟨b, o, f4, f5⟩ := hI'.blk j _ f1
   obtain ⟨x, f6, f7, f8⟩ := f5.cells n f2
   rw [f3] at f8
   have hrow : ∃ r, c'.row p = some r := by
    cases f8 with
    | pure hp2 => cases hp2 with | sl f b o ht hb hl hc hr => exact ht.elim
    | row hp2 hr2 hn => exact ⟨_, hr2⟩
   obtain ⟨v, e, n, xs, g1, g2, g3⟩ := hI'.row p hrow
   exact ⟨v, e, n, xs, by rw [Cx.back_row hp]; exact g1, g2, fun b hb x => ⟨fun hx => Own.back_row ((g3 b hb x).1 hx) hp, (g3 b hb x).2⟩⟩
  ·refine (hI.row t h1).kept hx hf4 (fun b x g1 => rowout b x t g1 h2) (fun b x g1 => hI4 b x g1) fun b x g1 => ?_
   rw [kept b x (by rw [g1]; nofun) (rowout b x t g1 h2)]; exact g1
 ·obtain ⟨h1, h2⟩ := hI'.np b x hp
  refine ⟨?_, h2⟩
  by_cases h4 : own4 b x = none
  ·rw [Own.back_kept h1 h4]
   rcases ha.prot' b x hp with h5 | h5 | h5
   ·exact (hI.np b x h5).1
   ·exact absurd h4 h5
   ·cases ho : own b x with
    | none => rfl
    | some q => exact absurd (hI.fresh b x (by rw [ho]; nofun)) (Nat.not_lt.2 h5)
  ·exact Own.back_lost h1 h4
 ·show b < c'.w.heap.size
  cases ho : own' b x with
  | some q => exact hI'.fresh b x (by rw [ho]; nofun)
  | none =>
   by_cases h4 : own4 b x = none
   ·rw [Own.back_kept ho h4] at hn
    exact Nat.lt_of_lt_of_le (hI.fresh b x hn) hf4.size
   ·rw [Own.back_lost ho h4] at hn
    exact absurd rfl hn
 ·rcases hI.dom id r hr with ⟨k, hk⟩ | ho
  rotate_left
  ·exact .inr ho
  left
  by_cases hid : ∃ (i : Nat) (x : Nat × Nat × Option TypeId), h[i]? = some x ∧ x.1 = id
  ·obtain ⟨i, x, hi, rfl⟩ := hid
   obtain ⟨k0, raw, p, w, h1, h2, h3, h4, h5⟩ := piece i x hi
   obtain ⟨bb, new, h6, h7, h8⟩ := hback i x w hi h5
   exact ⟨new, h7⟩
  ·rw [hsame id fun x hx he => by
    obtain ⟨i, hi⟩ := List.mem_iff_getElem?.1 hx
    exact hid ⟨i, x, hi, he⟩]
   exact ⟨k, hk⟩
end
end Go.Proofs.Ab
namespace Go.Proofs.Ab
open Go
section
variable {R : Type} {r : R} {pg : Pg} {c : Cx} {own : Own} {live : Nat -> Prop} {g : Nat -> Option Blk} {bl : List (Nat × Blk)} {dead : List Nat} {D : DSem}
def CallDone (pg : Pg) (c : Cx) (own : Own) (st : St) (r : R) (k : V -> St -> Res -> Option R) (kp : V -> St -> Option R) (e : Ending) (w' : World) : Prop :=
 ∃ c' own' st', c'.w = w' ∧ SInv pg c' own' st' ∧ After c own c' own' ∧ Ext c c' ∧ st'.df = st.df ∧ st'.pn = st.pn ∧
  match e with
  | .returned x => ∃ v res, k v st' res = some r ∧ VRep pg.P c' v x
  | .panicked ch => ∃ v x, kp v st' = some r ∧ ch = [{ v := x, recovered := false }] ∧ VRep pg.P c' v x
  | .outgrown => False
def CallDoneR (pg : Pg) (c : Cx) (own : Own) (st : St) (r : R) (k : V -> St -> Res -> Option R) (kp : V -> St -> Option R) (res : Res) (e : Ending) (w' : World) : Prop :=
 ∃ c' own' st', c'.w = w' ∧ SInv pg c' own' st' ∧ After c own c' own' ∧ Ext c c' ∧ st'.df = st.df ∧ st'.pn = st.pn ∧
  match e with
  | .returned x => ∃ v, k v st' res = some r ∧ VRep pg.P c' v x
  | .panicked ch => ∃ v x, kp v st' = some r ∧ ch = [{ v := x, recovered := false }] ∧ VRep pg.P c' v x
  | .outgrown => False
theorem CallDoneR.done {st : St} {k : V -> St -> Res -> Option R} {kp : V -> St -> Option R} {res : Res} {e : Ending} {w' : World} (h : CallDoneR pg c own st r k kp res e w') : CallDone pg c own st r k kp e w' := by
 obtain ⟨c', own', st', h1, h2, h3, h4, h5, h6, h7⟩ := h
 refine ⟨c', own', st', h1, h2, h3, h4, h5, h6, ?_⟩
 cases e with
 | returned x => obtain ⟨v, h8⟩ := h7; exact ⟨v, res, h8⟩
 | panicked ch => exact h7
 | outgrown => exact h7
theorem mem_flat_map {α β : Type} {f : α -> List β} {l : List α} {d : α} {j : Nat} (hj : j < l.length) {y : β} (hy : y ∈ f (l.getD j d)) : y ∈ (l.map f).flatten := by
 simp only [List.mem_flatten, List.mem_map]
 refine ⟨_, ⟨l[j], List.getElem_mem hj, rfl⟩, ?_⟩
 simpa [List.getD, hj] using hy
theorem call_core {f : FuncId} {vs : List V} {nt : Tmp} {st : St} {pn : Option (Option V)} {k : V -> St -> Res -> Option R} {kp : V -> St -> Option R} (hS : SInv pg c own st)
  (h : callK pg D f vs nt st pn k kp = some r) {xs : Array Value} (hl : vs.length = xs.size) (hx : ∀ j, j < vs.length -> VRep pg.P c (vs.getD j .undef) (xs.getD j Go.undef)) :
  ∃ vs2 sub res c2 own2, D f vs2 sub pn = some res ∧ Inv pg c2 own2 (fun i => sub[i]?) (fun p => p < rowsOf pg sub) ∧ (∀ p r, c2.row p = some r -> p < rowsOf pg sub) ∧ (∀ id, ¬ c2.out id) ∧ vs2.length = xs.size ∧
   (∀ j, j < vs2.length -> VRep pg.P c2 (vs2.getD j .undef) (xs.getD j Go.undef)) ∧ c2.w = c.w ∧ (∀ v x, PRep pg.P c.w c.prot v x -> PRep pg.P c2.w c2.prot v x) ∧
   ∀ e w', Ends pg c2 own2 sub.length res e w' -> CallDoneR pg c own st r k kp res e w' := by
 unfold callK at h
 split at h
 ·cases h
 rename_i fn hfn
 split at h
 ·cases h
 rename_i vs1 h0 hha
 split at h
 ·cases h
 rename_i vs2 hpa
 split at h
 ·cases h
 rename_i ps hh hps
 split at h
 ·cases h
 rename_i sub gv hcan
 obtain ⟨hchk, h1⟩ := condR_some h
 simp only [Bool.or_eq_false_iff] at hchk
 obtain ⟨⟨hchk1, hchk2⟩, hchk3⟩ := hchk
 obtain ⟨res, hres, h2⟩ := Option.bind_eq_some_iff.1 h1
 obtain ⟨_, hd0, hl1, hhand⟩ := handArgs_spec pg hha (fun i j x y h => by simp at h)
 obtain ⟨hP, hd, hm0⟩ := piecesOk hps hd0
 have hpa' : mapO (fun v => match v with | .ref id off => some (.ref id off) | v => pur pg st.bl pdeep v) vs1 = some vs2 := hpa
 obtain ⟨hl2, hpur⟩ := mapO_some hpa'
 generalize hids : (vs1.map (callK.idsA st.bl)).flatten = ids at *
 have hgf : getB (freeze st.bl ids) = fun t => if t ∈ ids then (getB st.bl t).map Blk.freeze else getB st.bl t := funext (getB_freeze ids st.bl)
 have hI1 : Inv pg (c.frz own ids) (own.frz ids) (getB (freeze st.bl ids)) (Live st) := by rw [hgf]; exact hS.inv.frz ids
 have hx1 := Ext.frz c own ids
 have ha1 := After.frz c own ids
 generalize hc1 : c.frz own ids = c1 at *
 generalize ho1 : own.frz ids = own1 at *
 generalize hb1 : freeze st.bl ids = bl1 at *
 have hw1 : c1.w = c.w := by rw [<- hc1]; rfl
 have hrow1 : c1.row = c.row := by rw [<- hc1]; rfl
 have hIh := hI1.hand hP hd
 have hps40 : ps.length <= 40 := pieces_le hps
 have hlive : ∀ t r, (c1.hand hh ps).row t = some r -> st.dead.contains t = false -> Live st t := fun t r h3 h4 => ⟨hS.domr t r (by rw [<- hrow1]; exact h3), h4⟩
 obtain ⟨tags, recs, hG, hls, hm, hI4⟩ := canBlks_inv hIh hlive hps40 (fun i k hi => hi) (fun i r _ hr => by
  have hr' : posOf c1 hh ps i = some r := hr
  unfold posOf at hr'
  split at hr'
  ·rename_i x p g1 g2; exact (List.getElem?_eq_some_iff.1 g2).1
  ·cases hr') hcan
 have hkind := canBlks_kind hcan
 have hrowsN : rowsOf pg sub = gv.n := by
  have : Nat.beq (rowsIn pg sub).length gv.n = true := by simpa using hchk3
  exact Nat.eq_of_beq_eq_true this
 have hargs : ∀ j, j < vs2.length -> VRep pg.P ((c1.hand hh ps).cut (List.range 40) (fun p => recs[p]?)) (vs2.getD j .undef) (xs.getD j Go.undef) := fun j hj => by
  have hj1 : j < vs1.length := by omega
  have hj0 : j < vs.length := by omega
  have hp := hpur j .undef .undef hj1
  rcases hhand j hj0 with ⟨id, off, i, o, g1, g2, g3⟩ | ⟨g1, g2⟩
  ·rw [g2] at hp
   cases hp'' : vs2.getD j .undef with
   | ref i2 off2 =>
    have hp3 : some (V.ref i 0) = some (vs2.getD j .undef) := hp
    rw [hp''] at hp3
    cases hp3
    have g3' : hh[i]? = some (id, off, o) := by
     obtain ⟨m, rfl⟩ := hm0
     rw [List.getElem?_append_left (List.getElem?_eq_some_iff.1 g3).1]; exact g3
    have hil : i < ps.length := by rw [hP.1]; exact (List.getElem?_eq_some_iff.1 g3').1
    obtain ⟨x, kk, raw, p, g4, g5, g6, g7, g8⟩ := hP.2 i hil
    rw [g3'] at g4
    cases g4
    have hv := hx j hj0
    rw [g1] at hv
    obtain ⟨b, o', n, g9, g10⟩ := hv.ref_inv
    rw [g10]
    have g11 := hx1.blk _ _ g9
    refine .ref (b := b) (o := o' + off) (n := p.num) 0 ?_
    show (if _ then _ else _) = _
    rw [if_pos (by simp; omega)]
    exact posOf_at g3' g7 g11
   | _ =>
    exfalso
    have hp3 : some (V.ref i 0) = some (vs2.getD j .undef) := hp
    rw [hp''] at hp3
    cases hp3
  ·have hv := hx j hj0
   rw [<- g2] at hv
   have hp2 : pur pg st.bl pdeep (vs1.getD j .undef) = some (vs2.getD j .undef) := by
    cases hv1 : vs1.getD j .undef with
    | ref id off => exact absurd (g2.symm.trans hv1) (g1 id off)
    | _ => rw [hv1] at hp; exact hp
   have := pur_sound hS.inv ids pdeep hp2 hv fun id hid => by
    rw [<- hids]
    refine mem_flat_map (d := V.undef) hj1 ?_
    cases hv1 : vs1.getD j .undef with
    | ref id off => exact absurd (g2.symm.trans hv1) (g1 id off)
    | _ => rw [hv1] at hid; exact hid
   refine .pure ?_
   rw [hc1, <- hw1] at this
   exact this
 have hcw : ((c1.hand hh ps).cut (List.range 40) (fun p => recs[p]?)).w = c.w := hw1
 refine ⟨vs2, sub, res, (c1.hand hh ps).cut (List.range 40) (fun p => recs[p]?), _, hres, by rw [hrowsN]; exact hI4, fun p r hp => by
  rw [hrowsN, <- hG.rl]
  exact (List.getElem?_eq_some_iff.1 hp).1, fun _ h => h, by omega, hargs, hcw, fun v x hv => ?_, fun e w' hE => ?_⟩
 ·have h9 := (VRep.pure (P := pg.P) (c := c) hv)
  exact (show PRep pg.P c1.w c1.prot v x from hv.mono hx1.prot)
 obtain ⟨c', own', hw', ha, hblk, hI', hbd, hout⟩ := hE
 obtain ⟨bl', p', hk0, _, hxl, hsame, hback, hrows⟩ := backAll_spec h2 hd
 obtain ⟨hpn0, hk⟩ := condR_some hk0
 clear hk0
 have hpn : p' = gv.n := by simpa using hpn0
 clear hpn0
 subst hpn
 have hridout : ∀ t r, c1.row t = some r -> ¬ (rid nt 0 <= t ∧ t < rid nt 0 + gv.n) := fun t r ht hin => by
  rw [hrow1] at ht
  have hu := hS.domr t r ht
  have : ((List.range gv.n).any fun p => st.used.contains (rid nt p)) = true := by
   rw [List.any_eq_true]
   refine ⟨t - rid nt 0, by simp; omega, ?_⟩
   have he : rid nt (t - rid nt 0) = t := by rw [rid_eq]; omega
   rw [he]; exact hu
  rw [this] at hchk1
  cases hchk1
 have hlast := Inv.back (nt := nt) (bl' := bl') (live' := Live { st with bl := bl', used := (List.range gv.n).map (rid nt) ++ st.used, dead := gv.seen ++ st.dead }) hI1 hP hd hps40 hls hm hkind hG ha hblk hI' hbd (fun b x hp => (hI4.np b x hp).1)
  (fun id hid => hsame id hid) (fun j x w hj hw => by simpa using hback j x w hj hw) (fun q hq => by
   obtain ⟨j, t, cs, n, e, es, _, g1, g2, g3⟩ := hrows q (Nat.zero_le _) hq
   exact ⟨j, t, cs, n, e, es, by simpa using g1, g2, g3⟩) hridout (fun t ht => by
   obtain ⟨g1, g2⟩ := ht
   have g1' : ((List.range gv.n).map (rid nt) ++ st.used).contains t = true := g1
   have g2' : (gv.seen ++ st.dead).contains t = false := g2
   simp only [List.contains_iff_mem, List.mem_append, List.mem_map, List.mem_range] at g1'
   have g3 : t ∉ gv.seen ++ st.dead := by
    intro hm
    rw [List.contains_iff_mem.2 hm] at g2'
    cases g2'
   simp only [List.mem_append, not_or] at g3
   rcases g1' with ⟨p, hp, rfl⟩ | hu
   ·exact .inl ⟨p, hp, rfl⟩
   ·right
    refine ⟨⟨List.contains_iff_mem.2 hu, ?_⟩, g3.1⟩
    cases hcn : st.dead.contains t with
    | false => rfl
    | true => exact absurd (List.contains_iff_mem.1 hcn) g3.2)
 have hl4 : ∀ b x, own1 b x = none -> ((own1.hand pg.P c1 hh ps).retag (List.range 40) tags) b x = none := fun b x hx => Own.retag_none (Own.hand_none hx)
 have hafter := ha1.trans (After.back (nt := nt) (n := gv.n) (h := hh) ha rfl rfl hl4)
 have hext := hx1.trans (Ext.back (nt := nt) (n := gv.n) ha rfl rfl hridout)
 have hdom : ∀ t r, (c1.back c' nt gv.n).row t = some r -> ((List.range gv.n).map (rid nt) ++ st.used).contains t = true := fun t r ht => by
  simp only [List.contains_iff_mem, List.mem_append, List.mem_map, List.mem_range]
  by_cases hin : rid nt 0 <= t ∧ t < rid nt 0 + gv.n
  ·left
   exact ⟨t - rid nt 0, by omega, by rw [rid_eq]; omega⟩
  ·right
   rw [Cx.back_old hin, hrow1] at ht
   exact List.contains_iff_mem.1 (hS.domr t r ht)
 refine ⟨c1.back c' nt gv.n, _, { st with bl := bl', used := (List.range gv.n).map (rid nt) ++ st.used, dead := gv.seen ++ st.dead }, hw', ⟨hlast, hdom⟩, hafter, hext, rfl, rfl, ?_⟩
 split at hk
 ·obtain ⟨v, hrv, hk2⟩ := onRet_some hk
  obtain ⟨v', hk3, hv⟩ := decRes_vrep hk2
  rw [hrv] at hout
  cases e with
  | returned x =>
   have hout' : PRep pg.P c'.w c'.prot v x := hout
   exact ⟨v', hk3, hv _ _ (.pure hout')⟩
  | panicked ch => exact hout.elim
  | outgrown => exact hout.elim
 ·rcases onOut_some hk with ⟨v, hrv, hk2⟩ | ⟨v, hrv, hk2⟩
  ·obtain ⟨v', hk3, hv⟩ := decRes_vrep hk2
   rw [hrv] at hout
   cases e with
   | returned x =>
    have hout' : PRep pg.P c'.w c'.prot v x := hout
    exact ⟨v', hk3, hv _ _ (.pure hout')⟩
   | panicked ch => exact hout.elim
   | outgrown => exact hout.elim
  ·obtain ⟨w2, rfl, hk3⟩ := asIface_some hk2
   obtain ⟨w3, hk4, hv⟩ := decR_vrep hk3
   rw [hrv] at hout
   cases e with
   | returned x => exact hout.elim
   | panicked ch =>
    obtain ⟨x, rfl, hp⟩ := hout
    cases hp with
    | iface _ hp2 => exact ⟨_, _, hk4, rfl, .iface _ (hv _ _ (.pure hp2))⟩
   | outgrown => exact hout.elim
theorem call_sound {f : FuncId} {vs : List V} {nt : Tmp} {st : St} {k : V -> St -> Res -> Option R} {kp : V -> St -> Option R} (hD : DSound pg D) (hS : SInv pg c own st)
  (h : callK pg D f vs nt st none k kp = some r) {xs : Array Value} (hl : vs.length = xs.size) (hx : ∀ j, j < vs.length -> VRep pg.P c (vs.getD j .undef) (xs.getD j Go.undef)) :
  Bodied pg.P f ∧ Calls pg.P f xs c.w (CallDone pg c own st r k kp) := by
 obtain ⟨vs2, sub, res, c2, own2, h1, h2, h3, h4, h5, h6, h7, _, h8⟩ := call_core hS h hl hx
 obtain ⟨hbod, hcall⟩ := hD f vs2 sub res h1
 have hc := hcall c2 own2 xs h2 h3 h4 h5 h6
 rw [h7] at hc
 exact ⟨hbod, hc.mono fun e w' hE => (h8 e w' hE).done⟩
theorem callD_sound {f : FuncId} {vs : List V} {nt : Tmp} {st : St} {cur : Option V} {u : FrameMode} {k : V -> St -> Res -> Option R} {kp : V -> St -> Option R} (hD : DSoundD pg D) (hS : SInv pg c own st) (hu : ModeOk pg c cur u)
  (h : callK pg D f vs nt st (some cur) k kp = some r) {xs : Array Value} (hl : vs.length = xs.size) (hx : ∀ j, j < vs.length -> VRep pg.P c (vs.getD j .undef) (xs.getD j Go.undef)) :
  Bodied pg.P f ∧ CallsD pg.P f xs u c.w fun e u' w' => ∃ res, CallDoneR pg c own st r k kp res e w' ∧ ((res.pn = some cur ∧ u' = u) ∨ (res.pn = some none ∧ settle u' = .returning)) := by
 obtain ⟨vs2, sub, res, c2, own2, h1, h2, h3, h4, h5, h6, h7, h9, h8⟩ := call_core hS h hl hx
 obtain ⟨hbod, hcall⟩ := hD f vs2 sub cur res h1
 have hc := hcall c2 own2 xs u h2 h3 h4 h5 h6 (by
  cases cur with
  | none => exact hu
  | some v =>
   obtain ⟨x, rfl, hx⟩ := hu
   exact ⟨x, rfl, h9 v x hx⟩)
 rw [h7] at hc
 exact ⟨hbod, hc.mono fun e u' w' hE => ⟨res, h8 e w' hE.1, hE.2⟩⟩
end
end Go.Proofs.Ab
namespace Go.Proofs.Ab
open Go
section
variable {R : Type} {r : R} {pg : Pg} {c : Cx} {own : Own} {live : Nat -> Prop} {g : Nat -> Option Blk} {bl : List (Nat × Blk)} {dead : List Nat} {D : DSem} {env : Env} {st : St}
def EnvRep (P : Program) (c : Cx) (env : Env) (a : Act) : Prop := ∀ t, VRep P c (env.get t) (a.tmps.getD t Go.undef)
theorem EnvRep.eval {a : Act} (hE : EnvRep pg.P c env a) (hI : Inv pg c own g live) (t : TypeId) (x : Operand) : VRep pg.P c (evO pg env t x) (a.eval x) := by
 cases x with
 | tmp s => exact hE s
 | const v => exact cvK_rep t v
 | global i =>
  show VRep pg.P c (match pg.gl i with | some cs => .ptr cs 0 | none => .undef) _
  cases hg : pg.gl i with
  | none => exact .undef _
  | some cs => exact .pure (hI.gl i cs hg)
 | func f => exact .pure (.fn f)
theorem EnvRep.mono {a : Act} {c' : Cx} (hE : EnvRep pg.P c env a) (hx : Ext c c') : EnvRep pg.P c' env a := fun t => (hE t).mono hx
theorem EnvRep.put {a : Act} {env' : Env} {nt : Nat} {d : Option Tmp} {v : V} {x : Value} (hE : EnvRep pg.P c env a) (hn : a.tmps.size = nt) (hp : putE nt env d v = some env') (hv : VRep pg.P c v x) : EnvRep pg.P c env' (a.put d x) := by
 unfold putE at hp
 split at hp
 ·cases hp; exact hE
 ·rename_i t
  obtain ⟨hlt, h1⟩ := condL_some hp
  cases h1
  have hlt : t < nt := by simpa [Nat.blt_eq] using hlt
  intro s
  by_cases hs : t = s
  ·subst hs
   have h1 : Env.get ((t, v) :: env) t = v := by unfold Env.get; rw [Nat.beq_refl]; rfl
   have h2 : (a.put (some t) x).tmps.getD t Go.undef = x := by simp [Act.put, Array.getD, hn, hlt]
   rw [h1, h2]; exact hv
  ·have h1 : Env.get ((t, v) :: env) s = env.get s := by
    have : Env.get ((t, v) :: env) s = bif Nat.beq t s then v else env.get s := rfl
    rw [this, nbeq hs]; rfl
   have h2 : (a.put (some t) x).tmps.getD s Go.undef = a.tmps.getD s Go.undef := by
    simp [Array.getD_eq_getD_getElem?, Act.put, Array.getElem?_setIfInBounds, hs]
   rw [h1, h2]; exact hE s
theorem put_size (a : Act) (d : Option Tmp) (x : Value) : (a.put d x).tmps.size = a.tmps.size := by cases d <;> simp [Act.put]
theorem put_defers (a : Act) (d : Option Tmp) (x : Value) : (a.put d x).defers = a.defers := by cases d <;> rfl
inductive DefRep (P : Program) (c : Cx) : List (FuncId × List V) -> List Deferred -> Prop where
 | nil : DefRep P c [] []
 | cons {f : FuncId} {cap : List V} {xs : Array Value} {l : List (FuncId × List V)} {ds : List Deferred} (hl : cap.length = xs.size) (h : ∀ j, j < cap.length -> VRep P c (cap.getD j .undef) (xs.getD j Go.undef)) (hr : DefRep P c l ds) :
   DefRep P c ((f, cap) :: l) ({ target := .fn (.func f) xs, args := #[] } :: ds)
theorem DefRep.mono {P : Program} {c c' : Cx} {l : List (FuncId × List V)} {ds : List Deferred} (h : DefRep P c l ds) (hx : Ext c c') : DefRep P c' l ds := by
 induction h with
 | nil => exact .nil
 | cons hl h _ ih => exact .cons hl (fun j hj => (h j hj).mono hx) ih
theorem callFunc_enter {f : FuncId} (hb : Bodied pg.P f) (args : Array Value) (w : World) : (callFunc f args).run pg.P w = .ok (.enter f args) w := by
 obtain ⟨fn, h1, h2, h3⟩ := hb
 unfold callFunc
 simp only [Sem.run_bind, run_program, Result.andThen_ok, h1]
 rw [if_neg (by rw [h3]; nofun), if_neg (by rw [h2]; nofun)]
 rfl
theorem mkB_allocs {f : FuncId} {o : Oper} (h : mkB pg f o = true) : allocs o = true := by
 unfold mkB at h
 unfold allocs
 split at h <;> first | (rename_i h1; rw [h1]) | cases h
structure AtI (pg : Pg) (c0 : Cx) (own0 : Own) (nt : Nat) (st0 : St) (c : Cx) (own : Own) (env : Env) (st : St) (a : Act) : Prop where
 inv : SInv pg c own st
 env : EnvRep pg.P c env a
 size : a.tmps.size = nt
 defs : a.defers = []
 df : st.df = st0.df
 pn : st.pn = st0.pn
 after : After c0 own0 c own
 ext : Ext c0 c
def KIOk (pg : Pg) (r : R) (c0 : Cx) (own0 : Own) (nt : Nat) (st0 : St) (k : Ex -> Env -> St -> Option R) (Q : Exit -> Act -> World -> Prop) : Prop :=
 ∀ ex env st c own a, k ex env st = some r -> AtI pg c0 own0 nt st0 c own env st a ->
  match ex with
  | .normal => Q .normal a c.w
  | .exit id => Q (.exit id) a c.w
  | .ret => Q .ret a c.w
  | .pan v => ∀ x, VRep pg.P c v x -> Q (.panic [{ v := x, recovered := false }]) a c.w
theorem opI_sound {f : FuncId} {o : Oper} {a : Act} {k kp : V -> St -> Option R} {next : Act -> World -> Prop} {Q : Exit -> Act -> World -> Prop} (hS : SInv pg c own st)
  (h : opI pg f env o st k kp = some r) (hE : ∀ x ∈ o.op.operands, ∀ t, VRep pg.P c (evO pg env t x) (a.eval x))
  (hk : ∀ v st' c' own' x, k v st' = some r -> VRep pg.P c' v x -> SInv pg c' own' st' -> After c own c' own' -> Ext c c' -> st'.df = st.df -> st'.pn = st.pn -> next (a.put o.dst x) c'.w)
  (hp : ∀ v st' c' own' x, kp v st' = some r -> VRep pg.P c' v x -> SInv pg c' own' st' -> After c own c' own' -> Ext c c' -> st'.df = st.df -> st'.pn = st.pn -> Q (.panic [{ v := x, recovered := false }]) a c'.w) :
  o.wp pg.P a c.w next Q := by
 have pan : ∀ {t : TypeId} {v : V} {x : Value}, kp (.iface t v) st = some r -> VRep pg.P c (.iface t v) x -> (execOp a.eval o).run pg.P c.w = (Instr.panic x >>= fun y => pure (.value y) : Sem Next).run pg.P c.w -> o.wp pg.P a c.w next Q := by
  intro t v x h1 hx hrun
  obtain ⟨y, rfl, hy⟩ := hx.iface_inv
  unfold Oper.wp
  rw [hrun]
  exact hp _ _ _ _ _ h1 hx hS (After.refl _ _) (Ext.refl _) rfl rfl
 unfold opI at h
 obtain ⟨hmk, h⟩ := condR_some h
 split at h
 ·
  rename_i x ho
  rw [ho] at hE
  split at h
  ·rename_i t v hv
   have := hE x (by simp [Op.operands]) 0
   rw [hv] at this
   exact pan h this (by simp only [execOp, ho])
  ·cases h
 ·
  rename_i args ts ho
  split at h
  ·rename_i s x t u d hargs hts hd
   split at h
   ·rename_i e hu
    obtain ⟨hc, h1⟩ := condL_some h
    have ha : args = #[s, x] := by rw [<- hargs]
    have ht : ts = #[t, u] := by rw [<- hts]
    subst ha; subst ht
    rw [ho] at hE
    have hs := hE s (by simp [Op.operands, Call.operands]) t
    have hx := hE x (by simp [Op.operands, Call.operands]) u
    have hu2 : (∃ e', pg.P.underlying u = some (.slice e')) ∨ pg.P.underlying u = some .string := by
     rcases Bool.or_eq_true _ _ ▸ hc with h2 | h2
     ·have : t = u := Nat.eq_of_beq_eq_true h2
      subst this; exact .inl ⟨e, hu⟩
     ·split at h2
      ·exact .inr ‹_›
      ·cases h2
    have hdn := appendS_sound (ty := o.type) hS h1 hs hx hu hu2
    obtain ⟨v, st', c', own', y, nx, g1, g2, g3, g4, g5, g6, g7, g8, g9⟩ := hdn
    have hrun : (execOp a.eval o).run pg.P c.w = .ok nx c'.w := by
     rw [<- g2]
     simp [execOp, ho, resolve, invoke, builtin]
    unfold Oper.wp
    rw [hrun]
    rcases g3 with rfl | ⟨rfl, rfl⟩
    ·exact hk v st' c' own' y g1 g4 g5 g6 g7 g8 g9
    ·exact hk v st' c' own' Go.undef g1 g4 g5 g6 g7 g8 g9
   ·cases h
  ·cases h
 ·cases h
 ·cases h
 ·cases h
 ·cases h
 ·
  obtain ⟨v, bl', c', own', x, nx, g1, g2, g3, g4, g5, g6, g7, g8⟩ := opB_sound hS.inv (fun hm => by rw [hmk] at hm; cases hm) h hE
  have hS' : SInv pg c' own' { st with bl := bl' } := ⟨g5, fun t r hr => hS.domr t r (by rw [<- g8]; exact hr)⟩
  unfold Oper.wp
  rw [g2]
  rcases g3 with rfl | ⟨rfl, rfl⟩
  ·exact hk v _ c' own' x g1 g4 hS' g6 g7 rfl rfl
  ·exact hk v _ c' own' Go.undef g1 g4 hS' g6 g7 rfl rfl
section
variable {c0 : Cx} {own0 : Own} {nt : Nat} {st0 : St} {f : FuncId} {Q : Exit -> Act -> World -> Prop}
theorem evIOps_sound {ops : Array Oper} {k : Ex -> Env -> St -> Option R} (hk : KIOk pg r c0 own0 nt st0 k Q) : ∀ (rest : List Oper) (env : Env) (st : St) (c : Cx) (own : Own) (a : Act), evIOps pg f nt rest env st k = some r ->
  AtI pg c0 own0 nt st0 c own env st a -> wpList pg.P ops Q rest a c.w
 | [], env, st, c, own, a, h, hA => hk .normal env st c own a h hA
 | o :: rest, env, st, c, own, a, h, hA => by
  unfold evIOps at h
  unfold wpList
  split at h
  ·rename_i hg
   rw [if_pos (by unfold Region.wanted; rw [hg])]
   refine .inl (opI_sound hA.inv h (fun x _ t => hA.env.eval hA.inv.inv t x) (fun v st' c' own' x h1 hv hS ha hx e1 e2 => ?_) (fun v st' c' own' x h1 hv hS ha hx e1 e2 => ?_))
   ·split at h1
    ·rename_i env' hp
     exact evIOps_sound hk rest _ _ _ _ _ h1 ⟨hS, (hA.env.mono hx).put hA.size hp hv, (put_size a o.dst x).trans hA.size, (put_defers a o.dst x).trans hA.defs, e1.trans hA.df, e2.trans hA.pn, hA.after.trans ha, hA.ext.trans hx⟩
    ·cases h1
   ·exact hk (.pan v) env st' c' own' a h1 ⟨hS, hA.env.mono hx, hA.size, hA.defs, e1.trans hA.df, e2.trans hA.pn, hA.after.trans ha, hA.ext.trans hx⟩ x hv
  ·cases h
theorem AtI.setC {o : Operand} {b : Bool} {a : Act} (hA : AtI pg c0 own0 nt st0 c own env st a) (h : evO pg env 0 o = .bool b) : AtI pg c0 own0 nt st0 c own (setC env o b) st a := by
 cases o with
 | tmp t =>
  refine ⟨hA.inv, fun s => ?_, hA.size, hA.defs, hA.df, hA.pn, hA.after, hA.ext⟩
  by_cases hs : t = s
  ·subst hs
   have h1 : Env.get ((t, V.bool b) :: env) t = .bool b := by unfold Env.get; rw [Nat.beq_refl]; rfl
   show VRep pg.P c (Env.get ((t, V.bool b) :: env) t) _
   rw [h1]
   have h2 : env.get t = .bool b := h
   rw [<- h2]; exact hA.env t
  ·have h1 : Env.get ((t, V.bool b) :: env) s = env.get s := by
    have : Env.get ((t, V.bool b) :: env) s = bif Nat.beq t s then V.bool b else env.get s := rfl
    rw [this, nbeq hs]; rfl
   show VRep pg.P c (Env.get ((t, V.bool b) :: env) s) _
   rw [h1]; exact hA.env s
 | _ => exact hA
theorem evI_sound : ∀ (code : Code) {k : Ex -> Env -> St -> Option R} {Q : Exit -> Act -> World -> Prop} {env : Env} {st : St} {c : Cx} {own : Own} {a : Act}, KIOk pg r c0 own0 nt st0 k Q -> evI pg f nt code env st k = some r ->
  AtI pg c0 own0 nt st0 c own env st a -> code.wp pg.P Q a c.w := by
 intro code
 induction code with
 | skip => intro k Q env st c own a hk h hA; exact wp_skip (hk .normal env st c own a h hA)
 | ret => intro k Q env st c own a hk h hA; exact wp_ret (hk .ret env st c own a h hA)
 | region id ops draw =>
  intro k Q env st c own a hk h hA
  unfold evI at h
  obtain ⟨hd, h⟩ := condR_some h
  subst hd
  exact wp_region_list (evIOps_sound hk _ _ _ _ _ _ h hA)
 | seq x y ihx ihy =>
  intro k Q env st c own a hk h hA
  unfold evI at h
  refine wp_seq (ihx (fun ex env st c own a h hA => ?_) h hA)
  cases ex with
  | normal => exact ihy hk h hA
  | exit id => exact hk (.exit id) env st c own a h hA
  | ret => exact hk .ret env st c own a h hA
  | pan v => exact hk (.pan v) env st c own a h hA
 | cond o x y ihx ihy =>
  intro k Q env st c own a hk h hA
  unfold evI at h
  split at h
  ·rename_i b hb
   have hv := hA.env.eval hA.inv.inv 0 o
   rw [hb] at hv
   refine wp_cond hv.bool_inv ?_
   cases b with
   | true => exact ihx hk h (hA.setC hb)
   | false => exact ihy hk h (hA.setC hb)
  ·cases h
 | scope x ih =>
  intro k Q env st c own a hk h hA
  unfold evI at h
  refine wp_scope_straight (ih (k := k) (fun ex env st c own a h hA => ?_) h hA)
  cases ex with
  | normal => exact hk .normal env st c own a h hA
  | exit id => exact hk (.exit id) env st c own a h hA
  | ret => exact hk .ret env st c own a h hA
  | pan v => exact hk (.pan v) env st c own a h hA
 | _ => intro k Q env st c own a hk h hA; unfold evI at h; cases h
end
theorem args0_get' : ∀ (vs : List V) (n t : Nat), (args0 n vs).get t = if n <= t ∧ t < n + vs.length then vs.getD (t - n) .undef else .undef
 | [], n, t => by
  have : ¬ (n <= t ∧ t < n + ([] : List V).length) := by rw [List.length_nil]; omega
  rw [if_neg this]; rfl
 | v :: vs, n, t => by
  show (bif Nat.beq n t then v else (args0 (n + 1) vs).get t) = _
  by_cases h : n = t
  ·subst h
   rw [Nat.beq_refl, cond_true, if_pos (by simp)]
   simp
  ·rw [nbeq h, cond_false, args0_get' vs (n + 1) t]
   by_cases h1 : n + 1 <= t ∧ t < n + 1 + vs.length
   ·rw [if_pos h1, if_pos (by simp; omega)]
    have : t - n = (t - (n + 1)) + 1 := by omega
    rw [this]; simp
   ·rw [if_neg h1, if_neg (by simp; omega)]
theorem args0_env' {c : Cx} {vs : List V} {xs : Array Value} {n : Nat} (hl : vs.length = xs.size) (hx : ∀ j, j < vs.length -> VRep pg.P c (vs.getD j .undef) (xs.getD j Go.undef)) :
  EnvRep pg.P c (args0 0 vs) { tmps := xs ++ Array.replicate (n - xs.size) Go.undef, defers := [] } := fun t => by
 rw [args0_get']
 by_cases ht : 0 <= t ∧ t < 0 + vs.length
 ·rw [if_pos ht]
  have htl : t < vs.length := by omega
  have h2 : (xs ++ Array.replicate (n - xs.size) Go.undef).getD t Go.undef = xs.getD t Go.undef := by
   have h3 : t < xs.size := by omega
   have h4 : t < xs.size + (n - xs.size) := by omega
   simp [Array.getD, h3, h4, Array.getElem_append]
  show VRep pg.P c _ ((xs ++ Array.replicate (n - xs.size) Go.undef).getD t Go.undef)
  rw [h2]
  exact hx t htl
 ·rw [if_neg ht]; exact .undef _
theorem inl_sound {f : FuncId} {fn : Func} {vs : List V} {k kp : V -> St -> Option R} (hS : SInv pg c own st) (hfn : pg.P.funcs[f]? = some fn)
  (h : inlK pg f fn vs st k kp = some r) {xs : Array Value} (hl : vs.length = xs.size) (hx : ∀ j, j < vs.length -> VRep pg.P c (vs.getD j .undef) (xs.getD j Go.undef)) :
  Bodied pg.P f ∧ Calls pg.P f xs c.w (CallDone pg c own st r (fun v st' _ => k v st') kp) := by
 unfold inlK at h
 obtain ⟨hc, h1⟩ := condR_some h
 simp only [Bool.or_eq_false_iff] at hc
 obtain ⟨⟨hb, hname⟩, hlen⟩ := hc
 refine ⟨⟨fn, hfn, hb, hname⟩, ?_⟩
 cases hbody : fn.body with
 | none => rw [hbody] at hb; cases hb
 | some code =>
  have hbo : bodyOf fn = code := by unfold bodyOf; rw [hbody]
  rw [hbo] at h1
  have hlen' : vs.length <= fn.ntmps := by
   rcases Nat.lt_or_ge fn.ntmps vs.length with hlt | hge
   ·have h9 : Nat.blt fn.ntmps vs.length = true := by rw [Nat.blt_eq]; exact hlt
    rw [h9] at hlen; cases hlen
   ·exact hge
  have hA : AtI pg c own fn.ntmps st c own (args0 0 vs) st { tmps := xs ++ Array.replicate (fn.ntmps - xs.size) Go.undef, defers := [] } :=
   ⟨hS, args0_env' hl hx, by simp; omega, rfl, rfl, rfl, After.refl _ _, Ext.refl _⟩
  refine calls_of_wp hfn hbody (evI_sound (k := kInl fn k kp) code (fun ex env st' c' own' a h hA => ?_) h1 hA)
  have ret : resI fn env (fun v => k v st') = some r -> a.defers = [] ∧ ∃ v, (results fn a.tmps).run pg.P c'.w = .ok v c'.w ∧ CallDone pg c own st r (fun v st' _ => k v st') kp (.returned v) c'.w := by
   intro h
   unfold resI at h
   refine ⟨hA.defs, ?_⟩
   have fin : ∀ (v : V) (x : Value), k v st' = some r -> VRep pg.P c' v x -> CallDone pg c own st r (fun v st' _ => k v st') kp (.returned x) c'.w := fun v x h1 h2 =>
    ⟨c', own', st', rfl, hA.inv, hA.after, hA.ext, hA.df, hA.pn, v, ⟨.ret v, [], none⟩, h1, h2⟩
   split at h
   ·rename_i hr
    have hr : fn.results = #[] := Array.toList_eq_nil_iff.1 hr
    exact ⟨.tuple #[], by simp [results, hr], fin _ _ h (.tup rfl fun j hj => by cases hj)⟩
   ·rename_i t hr
    have hr : fn.results = #[.tmp t] := by rw [<- hr]
    exact ⟨a.tmps.getD t Go.undef, by simp [results, hr], fin _ _ h (hA.env t)⟩
   ·cases h
  cases ex with
  | normal => exact ret h
  | ret => exact ret h
  | exit id => cases h
  | pan v => exact fun x hv => ⟨hA.defs, c', own', st', rfl, hA.inv, hA.after, hA.ext, hA.df, hA.pn, v, x, h, rfl, hv⟩
theorem opS_sound {f : FuncId} {o : Oper} {a : Act} {k kp : V -> St -> Option R} {next : Act -> World -> Prop} {Q : Exit -> Act -> World -> Prop} (hD : DSound pg D) (hdf : ∀ c, o.op ≠ .defer c) (hS : SInv pg c own st) (hout : allocs o = true -> ∀ d, o.dst = some d -> ¬ c.out (aid d))
  (h : opS pg D f env o st k kp = some r) (hE : ∀ x ∈ o.op.operands, ∀ t, VRep pg.P c (evO pg env t x) (a.eval x))
  (hk : ∀ v st' c' own' x, k v st' = some r -> VRep pg.P c' v x -> SInv pg c' own' st' -> After c own c' own' -> Ext c c' -> st'.df = st.df -> st'.pn = st.pn -> next (a.put o.dst x) c'.w)
  (hp : ∀ v st' c' own' x, kp v st' = some r -> VRep pg.P c' v x -> SInv pg c' own' st' -> After c own c' own' -> Ext c c' -> st'.df = st.df -> st'.pn = st.pn -> Q (.panic [{ v := x, recovered := false }]) a c'.w) :
  o.wp pg.P a c.w next Q := by
 have pan : ∀ {t : TypeId} {v : V} {x : Value}, kp (.iface t v) st = some r -> VRep pg.P c (.iface t v) x -> (execOp a.eval o).run pg.P c.w = (Instr.panic x >>= fun y => pure (.value y) : Sem Next).run pg.P c.w -> o.wp pg.P a c.w next Q := by
  intro t v x h1 hx hrun
  obtain ⟨y, rfl, hy⟩ := hx.iface_inv
  unfold Oper.wp
  rw [hrun]
  exact hp _ _ _ _ _ h1 hx hS (After.refl _ _) (Ext.refl _) rfl rfl
 unfold opS at h
 split at h
 ·
  rename_i x ho
  rw [ho] at hE
  split at h
  ·rename_i t v hv
   have := hE x (by simp [Op.operands]) 0
   rw [hv] at this
   exact pan h this (by simp only [execOp, ho])
  ·cases h
 ·
  rename_i args ts ho
  split at h
  ·rename_i s x t u d hargs hts hd
   split at h
   ·rename_i e hu
    obtain ⟨hc, h1⟩ := condL_some h
    have ha : args = #[s, x] := by rw [<- hargs]
    have ht : ts = #[t, u] := by rw [<- hts]
    subst ha; subst ht
    rw [ho] at hE
    have hs := hE s (by simp [Op.operands, Call.operands]) t
    have hx := hE x (by simp [Op.operands, Call.operands]) u
    have hu2 : (∃ e', pg.P.underlying u = some (.slice e')) ∨ pg.P.underlying u = some .string := by
     rcases Bool.or_eq_true _ _ ▸ hc with h2 | h2
     ·have : t = u := Nat.eq_of_beq_eq_true h2
      subst this; exact .inl ⟨e, hu⟩
     ·split at h2
      ·exact .inr ‹_›
      ·cases h2
    have hdn := appendS_sound (ty := o.type) hS h1 hs hx hu hu2
    obtain ⟨v, st', c', own', y, nx, g1, g2, g3, g4, g5, g6, g7, g8, g9⟩ := hdn
    have hrun : (execOp a.eval o).run pg.P c.w = .ok nx c'.w := by
     rw [<- g2]
     simp [execOp, ho, resolve, invoke, builtin]
    unfold Oper.wp
    rw [hrun]
    rcases g3 with rfl | ⟨rfl, rfl⟩
    ·exact hk v st' c' own' y g1 g4 g5 g6 g7 g8 g9
    ·exact hk v st' c' own' Go.undef g1 g4 g5 g6 g7 g8 g9
   ·cases h
  ·cases h
 ·cases h
 ·
  rename_i args ts ho
  split at h
  ·rename_i x hargs
   have ha : args = #[x] := by rw [<- hargs]
   subst ha
   rw [ho] at hE
   split at h
   ·rename_i t v hv
    have := hE x (by simp [Op.operands, Call.operands]) 0
    rw [hv] at this
    exact pan h this (by simp [execOp, ho, resolve, invoke, builtin])
   ·cases h
  ·cases h
 ·
  rename_i fv args ts ho
  rw [ho] at hE
  split at h
  ·rename_i f2 cap d hfv hd
   split at h
   ·rename_i fn hfn
    obtain ⟨hsz, h1⟩ := condL_some h
    have hsz : args.size = fn.params.size := Nat.eq_of_beq_eq_true hsz
    have hf := hE fv (by simp [Op.operands, Call.operands]) 0
    rw [hfv] at hf
    obtain ⟨xs, hxs, hcl, hcv⟩ := hf.fn_inv
    have hlen : ((args.toList.zip fn.params.toList).map fun p => evO pg env p.2 p.1).length = args.size := by simp; omega
    have hargs : ∀ j, j < (((args.toList.zip fn.params.toList).map fun p => evO pg env p.2 p.1) ++ cap).length -> VRep pg.P c ((((args.toList.zip fn.params.toList).map fun p => evO pg env p.2 p.1) ++ cap).getD j .undef) ((args.map a.eval ++ xs).getD j Go.undef) := (fun j hj => by
     rw [List.length_append, hlen] at hj
     rcases Nat.lt_or_ge j args.size with hlt | hge
     ·have hlp : j < fn.params.size := by omega
      have e1 : ((((args.toList.zip fn.params.toList).map fun p => evO pg env p.2 p.1) ++ cap).getD j .undef) = evO pg env fn.params[j] args[j] := by
       have hj1 : j < ((args.toList.zip fn.params.toList).map fun p => evO pg env p.2 p.1).length := by rw [hlen]; exact hlt
       rw [List.getD_eq_getElem?_getD, List.getElem?_append_left hj1, List.getElem?_eq_getElem hj1]
       simp
      have e2 : (args.map a.eval ++ xs).getD j Go.undef = a.eval args[j] := by
       simp [Array.getD, hlt, Array.getElem_append]
       omega
      rw [e1, e2]
      exact hE _ (by simp [Op.operands, Call.operands]) _
     ·have e1 : ((((args.toList.zip fn.params.toList).map fun p => evO pg env p.2 p.1) ++ cap).getD j .undef) = cap.getD (j - args.size) .undef := by
       rw [List.getD_eq_getElem?_getD, List.getElem?_append_right (by rw [hlen]; exact hge), hlen]
       rfl
      have e2 : (args.map a.eval ++ xs).getD j Go.undef = xs.getD (j - args.size) Go.undef := by
       have h1 : j < args.size + xs.size := by omega
       have h2 : j - args.size < xs.size := by omega
       have h3 : ¬ j < args.size := by omega
       simp [Array.getD, h1, h2, Array.getElem_append, h3]
      rw [e1, e2]
      exact hcv _ (by omega))
    have hboth : Bodied pg.P f2 ∧ Calls pg.P f2 (args.map a.eval ++ xs) c.w (CallDone pg c own st r (fun v st' _ => k v st') kp) := by
     rcases cond_some h1 with ⟨_, h1⟩ | ⟨_, h1⟩
     ·exact inl_sound hS hfn h1 (by simp; omega) hargs
     ·exact call_sound (xs := args.map a.eval ++ xs) hD hS h1 (by simp; omega) hargs
    obtain ⟨hbod, hcall⟩ := hboth
    have hrun : (execOp a.eval o).run pg.P c.w = .ok (.enter f2 (args.map a.eval ++ xs)) c.w := by
     have : (execOp a.eval o).run pg.P c.w = (callFunc f2 (#[] ++ args.map a.eval ++ xs)).run pg.P c.w := by
      simp only [execOp, ho, resolve, hxs]
      rfl
     rw [this, callFunc_enter hbod]
     simp
    unfold Oper.wp
    rw [hrun]
    refine hcall.mono fun e w' hE => ?_
    obtain ⟨c', own', st', rfl, g1, g2, g3, g4, g5, g6⟩ := hE
    cases e with
    | returned x =>
     obtain ⟨v, res, g7, g8⟩ := g6
     exact hk v st' c' own' x g7 g8 g1 g2 g3 g4 g5
    | panicked ch =>
     obtain ⟨v, x, g7, rfl, g8⟩ := g6
     exact hp v st' c' own' x g7 g8 g1 g2 g3 g4 g5
    | outgrown => exact g6.elim
   ·cases h
  ·cases h
 ·rename_i ho; exact absurd ho (hdf _)
 ·
  obtain ⟨v, bl', c', own', x, nx, g1, g2, g3, g4, g5, g6, g7, g8⟩ := opB_sound hS.inv (fun hm => hout (mkB_allocs hm)) h hE
  have hS' : SInv pg c' own' { st with bl := bl' } := ⟨g5, fun t r hr => hS.domr t r (by rw [<- g8]; exact hr)⟩
  unfold Oper.wp
  rw [g2]
  rcases g3 with rfl | ⟨rfl, rfl⟩
  ·exact hk v _ c' own' x g1 g4 hS' g6 g7 rfl rfl
  ·exact hk v _ c' own' Go.undef g1 g4 hS' g6 g7 rfl rfl
end
end Go.Proofs.Ab
namespace Go.Proofs.Ab
open Go
structure At (pg : Pg) (p0 : Option (Option V)) (c0 : Cx) (own0 : Own) (nt : Nat) (c : Cx) (own : Own) (env : Env) (st : St) (a : Act) : Prop where
 inv : SInv pg c own st
 env : EnvRep pg.P c env a
 size : a.tmps.size = nt
 defs : DefRep pg.P c st.df a.defers
 pn : st.pn = p0
 after : After c0 own0 c own
 blk : ∀ i r, c0.blk i = some r -> c.blk i = some r
 out : ∀ id, ¬ c.out id
def KOk (pg : Pg) (p0 : Option (Option V)) (r : Res) (c0 : Cx) (own0 : Own) (nt : Nat) (k : K) (Q : Exit -> Act -> World -> Prop) : Prop :=
 ∀ ex env st c own a, k ex env st = some r -> At pg p0 c0 own0 nt c own env st a ->
  match ex with
  | .normal => Q .normal a c.w
  | .exit id => Q (.exit id) a c.w
  | .ret => Q .ret a c.w
  | .pan v => ∀ x, VRep pg.P c v x -> Q (.panic [{ v := x, recovered := false }]) a c.w
section
variable {p0 : Option (Option V)} {r : Res} {pg : Pg} {c0 c : Cx} {own0 own : Own} {D : DSem} {env : Env} {st : St} {f : FuncId} {nt : Nat} {k : K} {Q : Exit -> Act -> World -> Prop}
theorem At.step {a : Act} {c' : Cx} {own' : Own} {st' : St} {d : Option Tmp} {v : V} {x : Value} {env' : Env} (h : At pg p0 c0 own0 nt c own env st a) (hS : SInv pg c' own' st') (ha : After c own c' own') (hx : Ext c c') (h1 : st'.df = st.df) (h2 : st'.pn = st.pn)
  (hp : putE nt env d v = some env') (hv : VRep pg.P c' v x) : At pg p0 c0 own0 nt c' own' env' st' (a.put d x) :=
 ⟨hS, (h.env.mono hx).put h.size hp hv, (put_size a d x).trans h.size, (by rw [put_defers, h1]; exact h.defs.mono hx), h2.trans h.pn, h.after.trans ha, fun i r hr => hx.blk _ _ (h.blk i r hr), fun id => by rw [ha.far.1]; exact h.out id⟩
theorem At.stay {a : Act} {c' : Cx} {own' : Own} {st' : St} (h : At pg p0 c0 own0 nt c own env st a) (hS : SInv pg c' own' st') (ha : After c own c' own') (hx : Ext c c') (h1 : st'.df = st.df) (h2 : st'.pn = st.pn) : At pg p0 c0 own0 nt c' own' env st' a :=
 ⟨hS, h.env.mono hx, h.size, (by rw [h1]; exact h.defs.mono hx), h2.trans h.pn, h.after.trans ha, fun i r hr => hx.blk _ _ (h.blk i r hr), fun id => by rw [ha.far.1]; exact h.out id⟩
theorem EnvRep.known {P : Program} {a : Act} {t : Tmp} {b : Bool} (hE : EnvRep P c env a) (ht : env.get t = .bool b) : EnvRep P c ((t, .bool b) :: env) a := fun s => by
 by_cases hs : t = s
 ·subst hs
  have h1 : Env.get ((t, V.bool b) :: env) t = .bool b := by unfold Env.get; rw [Nat.beq_refl]; rfl
  rw [h1, <- ht]; exact hE t
 ·have h1 : Env.get ((t, V.bool b) :: env) s = env.get s := by
   have : Env.get ((t, V.bool b) :: env) s = bif Nat.beq t s then V.bool b else env.get s := rfl
   rw [this, nbeq hs]; rfl
  rw [h1]; exact hE s
theorem At.known {a : Act} {t : Tmp} {b : Bool} (h : At pg p0 c0 own0 nt c own env st a) (ht : env.get t = .bool b) : At pg p0 c0 own0 nt c own ((t, .bool b) :: env) st a :=
 ⟨h.inv, h.env.known ht, h.size, h.defs, h.pn, h.after, h.blk, h.out⟩
theorem wanted_of {P : Program} {ops : Array Oper} {a : Act} {o : Oper} {g : Nat} {want : Bool} (hg : o.guard = some (g, want)) {t : Tmp} (ht : dstOf ops.toList g = some t) {x : Option Bool}
  (hx : match x with | some b => a.tmps.getD t Go.undef = .bool b | none => a.tmps.getD t Go.undef = Go.undef) : Region.wanted o (yielded ops a.tmps) = (x == some want) := by
 unfold Region.wanted
 rw [hg]
 have hd : (ops[g]?).bind (·.dst) = some t := by
  unfold dstOf at ht
  rw [Array.getElem?_toList] at ht
  cases ho : ops[g]? with
  | none => rw [ho] at ht; cases ht
  | some o' => rw [ho] at ht; exact ht
 have hy : yielded ops a.tmps g = x := by
  unfold yielded
  rw [hd]
  show (match a.tmps[t]? with | some (.bool b) => some b | _ => none) = x
  rw [Array.getD_eq_getD_getElem?] at hx
  cases hq : a.tmps[t]? with
  | none =>
   rw [hq] at hx
   cases x with
   | none => rfl
   | some b => exact Value.noConfusion hx
  | some v =>
   rw [hq] at hx
   cases x with
   | none =>
    have : v = Go.undef := hx
    subst this; rfl
   | some b =>
    have : v = .bool b := hx
    subst this; rfl
 show (yielded ops a.tmps g == some want) = _
 rw [hy]
theorem opS_defer {R : Type} {r : R} {o : Oper} {a : Act} {cl : Call} {kv kp : V -> St -> Option R} (hA : At pg p0 c0 own0 nt c own env st a) (ho : o.op = .defer cl) (h : opS pg D f env o st kv kp = some r) :
  ∃ (fv : Operand) (f2 : FuncId) (cap : List V) (xs : Array Value), kv .undef { st with df := (f2, cap) :: st.df } = some r ∧ (execOp a.eval o).run pg.P c.w = .ok (.defer { target := .fn (.func f2) xs, args := #[] }) c.w ∧
   cap.length = xs.size ∧ ∀ j, j < cap.length -> VRep pg.P c (cap.getD j .undef) (xs.getD j Go.undef) := by
 obtain ⟨callee, args, ts⟩ := cl
 unfold opS at h
 rw [ho] at h
 cases callee with
 | value fv =>
  dsimp only at h
  obtain ⟨_, h1⟩ := condL_some h
  split at h1
  ·rename_i f2 cap hfv hargs
   have hf := hA.env.eval hA.inv.inv 0 fv
   rw [hfv] at hf
   obtain ⟨xs, hxs, hcl, hcv⟩ := hf.fn_inv
   have ha : args = #[] := by cases args; simpa using hargs
   subst ha
   refine ⟨fv, f2, cap, xs, h1, ?_, hcl, hcv⟩
   simp only [execOp, ho, resolve, hxs, Deferred.ofValue, Sem.run_bind, Sem.run_pure, Result.andThen_ok]
   simp
  ·cases h1
 | builtin b =>
  dsimp only at h
  unfold opB at h
  rw [ho] at h
  dsimp only at h
  unfold opR at h
  rw [ho] at h
  dsimp only at h
  unfold opQ at h
  rw [ho] at h
  cases h
 | invoke x n =>
  dsimp only at h
  unfold opB at h
  rw [ho] at h
  dsimp only at h
  unfold opR at h
  rw [ho] at h
  dsimp only at h
  unfold opQ at h
  rw [ho] at h
  cases h
theorem evOps_sound {ops : Array Oper} (hD : DSound pg D) (hk : KOk pg p0 r c0 own0 nt k Q) : ∀ (rest : List Oper) (env : Env) (st : St) (c : Cx) (own : Own) (a : Act), evOps pg D f nt ops.toList rest env st k = some r ->
  At pg p0 c0 own0 nt c own env st a -> wpList pg.P ops Q rest a c.w
 | [], env, st, c, own, a, h, hA => hk .normal env st c own a h hA
 | o :: rest, env, st, c, own, a, h, hA => by
  have go : ∀ {env : Env}, opS pg D f env o st (fun v st' => match putE nt env o.dst v with | some env' => evOps pg D f nt ops.toList rest env' st' k | none => none) (fun v st' => k (.pan v) env st') = some r ->
    At pg p0 c0 own0 nt c own env st a -> o.wp pg.P a c.w (wpList pg.P ops Q rest) Q := by
   intro env h hA
   by_cases hdf : ∃ c, o.op = .defer c
   ·obtain ⟨cl, ho⟩ := hdf
    obtain ⟨fv, f2, cap, xs, h1, hrun, h3, h4⟩ := opS_defer hA ho h
    unfold Oper.wp
    rw [hrun]
    split at h1
    ·rename_i env' hp
     refine evOps_sound hD hk rest env' _ c own _ h1 ?_
     exact ⟨⟨hA.inv.inv, hA.inv.domr⟩, EnvRep.put (a := { a with defers := { target := .fn (.func f2) xs, args := #[] } :: a.defers }) hA.env hA.size hp (.undef _), (put_size _ o.dst _).trans hA.size, (by rw [put_defers]; exact .cons h3 h4 hA.defs), hA.pn, hA.after, hA.blk, hA.out⟩
    ·cases h1
   refine opS_sound hD (fun c hc => hdf ⟨c, hc⟩) hA.inv (fun _ d _ => hA.out _) h (fun x _ t => hA.env.eval hA.inv.inv t x) (fun v st' c' own' x h1 hv hS ha hx e1 e2 => ?_) (fun v st' c' own' x h1 hv hS ha hx e1 e2 => ?_)
   ·split at h1
    ·rename_i env' hp
     exact evOps_sound hD hk rest _ _ _ _ _ h1 (hA.step hS ha hx e1 e2 hp hv)
    ·cases h1
   ·exact hk (.pan v) env st' c' own' a h1 (hA.stay hS ha hx e1 e2) x hv
  have skip : ∀ {env : Env}, (match putE nt env o.dst .hole with | some env' => evOps pg D f nt ops.toList rest env' st k | none => none) = some r -> At pg p0 c0 own0 nt c own env st a -> wpList pg.P ops Q rest (a.put o.dst Go.undef) c.w := by
   intro env h hA
   split at h
   ·rename_i env' hp
    exact evOps_sound hD hk rest _ _ _ _ _ h (hA.step hA.inv (After.refl _ _) (Ext.refl _) rfl rfl hp .hole)
   ·cases h
  unfold evOps at h
  unfold wpList
  dsimp only at h
  split at h
  ·rename_i hg
   rw [if_pos (by unfold Region.wanted; rw [hg])]
   exact .inl (go h hA)
  ·rename_i g want hg
   split at h
   ·cases h
   ·rename_i t ht
    split at h
    ·rename_i b hb
     have hx := hA.env t
     rw [hb] at hx
     have hw := wanted_of (P := pg.P) (a := a) hg ht (x := some b) hx.bool_inv
     have hA' := hA.known hb
     rw [hw]
     cases b <;> cases want
     ·rw [if_pos (by rfl)]; exact .inl (go h hA')
     ·rw [if_neg (by nofun)]; exact skip h hA'
     ·rw [if_neg (by nofun)]; exact skip h hA'
     ·rw [if_pos (by rfl)]; exact .inl (go h hA')
    ·rename_i hb
     have hx := hA.env t
     rw [hb] at hx
     have hw := wanted_of (P := pg.P) (a := a) hg ht (x := none) hx.hole_inv
     rw [hw, if_neg (by nofun)]
     exact skip h hA
    ·cases h
end
end Go.Proofs.Ab
namespace Go.Proofs.Ab
open Go
section
variable {pg : Pg} {D : DSem} {f : FuncId} {env : Env} {o : Oper} {st : St} {bl : List (Nat × Blk)} {R : Type} {r : R}
def isRd (o : Oper) : Bool :=
 match o.op with
 | .panic _ => false
 | .alloc _ => false | .makeSlice _ _ _ => false | .box _ _ => false | .buildSlice _ _ _ => false | .makeInterface _ _ => false | .store _ _ _ => false | .makeMap _ _ => false | .mapUpdate _ _ _ _ => false
 | .call { callee := .value _, args := _, argTypes := _ } => false
 | _ => true
theorem opR_val {k : V -> Option R} (h : opR pg env o bl k = some r) : ∃ v, k v = some r := by
 have h1 := opR_bind k pg env o bl (some : V -> Option V)
 simp only [Option.bind_some] at h1
 rw [h] at h1
 obtain ⟨v, _, h2⟩ := Option.bind_eq_some_iff.1 h1
 exact ⟨v, h2⟩
theorem opB_val {k : V -> List (Nat × Blk) -> Option R} (hr : isRd o = true) (h : opB pg f env o bl k = some r) : ∃ v, k v bl = some r := by
 unfold opB at h
 unfold isRd at hr
 split at h
 ·rename_i t ho; rw [ho] at hr; cases hr
 ·rename_i t x ho; rw [ho] at hr; cases hr
 ·rename_i t a x ho; rw [ho] at hr; cases hr
 ·rename_i t x ho; rw [ho] at hr; cases hr
 ·rename_i t l c ho; rw [ho] at hr; cases hr
 ·rename_i t n parts ho; rw [ho] at hr; cases hr
 ·split at h
  ·split at h
   ·split at h
    ·obtain ⟨_, h1⟩ := condL_some h
     obtain ⟨_, h2⟩ := iteL_some h1
     exact ⟨_, h2⟩
    ·cases h
   ·obtain ⟨v, _, h1⟩ := Option.bind_eq_some_iff.1 (show (convK pg _ _ _ some).bind (fun v => k v bl) = some r by rw [convK_bind]; exact h)
    exact ⟨v, h1⟩
  ·exact opR_val h
 ·rename_i t ho; rw [ho] at hr; cases hr
 ·rename_i t m key x ho; rw [ho] at hr; cases hr
 ·exact opR_val h
theorem opS_opB {k kp : V -> St -> Option R} (h1 : isRow o = false) (h2 : notDrawn o = false) : opS pg D f env o st k kp = opB pg f env o st.bl fun v bl' => k v { st with bl := bl' } := by
 unfold opS
 unfold isRow at h1
 unfold notDrawn at h2
 split
 ·rename_i x ho; rw [ho] at h1; cases h1
 ·rename_i args ts ho; rw [ho] at h1; cases h1
 ·rename_i args ts ho; rw [ho] at h2; cases h2
 ·rename_i args ts ho; rw [ho] at h2; cases h2
 ·rename_i args ts ho; rw [ho] at h1; cases h1
 ·rename_i args ts ho; rw [ho] at h2; cases h2
 ·rfl
theorem appendS_val {e : TypeId} {s x : V} {d : Tmp} {k : V -> St -> Option R} (h : appendS pg e s x d st k = some r) : ∃ v st', st'.bl = st.bl ∧ k v st' = some r := by
 have go : ∀ {old es}, appGo pg e x d st k old es = some r -> ∃ v st', st'.bl = st.bl ∧ k v st' = some r := by
  intro old es h
  unfold appGo at h
  obtain ⟨_, h1⟩ := condL_some h
  split at h1
  ·obtain ⟨_, h2⟩ := condL_some h1
   obtain ⟨_, h3⟩ := iteL_some h2
   exact ⟨_, { st with used := aid d :: st.used, dead := old ++ st.dead }, rfl, h3⟩
  ·split at h1
   ·obtain ⟨_, h2⟩ := condL_some h1
    obtain ⟨_, h3⟩ := iteL_some h2
    exact ⟨_, { st with used := aid d :: st.used, dead := old ++ st.dead }, rfl, h3⟩
   ·cases h1
  ·split at h1
   ·obtain ⟨_, h2⟩ := condR_some h1
    obtain ⟨_, h3⟩ := iteL_some h2
    exact ⟨_, { st with used := aid d :: st.used, dead := old ++ st.dead }, rfl, h3⟩
   ·cases h1
  ·cases h1
 unfold appendS at h
 split at h
 ·obtain ⟨_, h1⟩ := condL_some h; exact go h1
 ·obtain ⟨_, h1⟩ := condL_some h; exact go h1
 ·cases h
theorem opS_rd {k kp : V -> St -> Option R} (hr : isRd o = true) (h2 : notDrawn o = false) (h : opS pg D f env o st k kp = some r) : ∃ v st', st'.bl = st.bl ∧ k v st' = some r := by
 cases h1 : isRow o with
 | false =>
  rw [opS_opB h1 h2] at h
  obtain ⟨v, h3⟩ := opB_val hr h
  exact ⟨v, _, rfl, h3⟩
 | true =>
  unfold opS at h
  unfold notDrawn at h2
  unfold isRd at hr
  unfold isRow at h1
  split at h
  ·rename_i x ho; rw [ho] at hr; cases hr
  ·split at h
   ·split at h
    ·obtain ⟨_, h3⟩ := condL_some h
     exact appendS_val h3
    ·cases h
   ·cases h
  ·rename_i args ts ho; rw [ho] at h2; cases h2
  ·rename_i args ts ho; rw [ho] at h2; cases h2
  ·rename_i args ts ho; rw [ho] at hr; cases hr
  ·rename_i args ts ho; rw [ho] at h2; cases h2
  ·obtain ⟨v, h3⟩ := opB_val hr h
   exact ⟨v, _, rfl, h3⟩
theorem footOf_row : (footOf env bl o).row = isRow o := by
 unfold footOf isRow
 split <;> rename_i ho <;> simp [ho]
theorem footOf_rd (h : isRd o = true) : (footOf env bl o).wr = [] := by
 unfold isRd at h
 unfold footOf
 split <;> rename_i ho <;> first | rfl | (rw [ho] at h; cases h)
theorem footOf_wr (h : isRd o = false) : (footOf env bl o).rd = [] := by
 unfold isRd at h
 unfold footOf
 split <;> rename_i ho <;> first | rfl | (rw [ho] at h; cases h)
theorem mem_dedup {a : Nat} : ∀ {l : List Nat}, a ∈ dedup l ↔ a ∈ l
 | [] => Iff.rfl
 | b :: l => by
  unfold dedup
  cases h : l.contains b with
  | true =>
   rw [cond_true, mem_dedup, List.mem_cons]
   constructor
   ·exact .inr
   ·rintro (rfl | h1)
    ·exact List.contains_iff_mem.1 h
    ·exact h1
  | false => rw [cond_false, List.mem_cons, List.mem_cons, mem_dedup]
theorem footOf_mk (h : allocs o = true) {d : Tmp} (hd : o.dst = some d) : aid d ∈ (footOf env bl o).wr := by
 have hm : mk o = [aid d] := by unfold mk; rw [hd]
 unfold allocs at h
 unfold footOf
 split <;> rename_i ho <;> first
  | (show aid d ∈ mk o; rw [hm]; exact List.mem_cons_self ..)
  | (show aid d ∈ dedup (mk o ++ _); rw [mem_dedup, hm]; exact List.mem_append_left _ (List.mem_cons_self ..))
  | (rw [ho] at h; cases h)
  | skip
 all_goals
  split at h <;> rename_i ho2 <;> first | cases h | skip
 all_goals
  exfalso
  simp_all
theorem getB_subB (ids : List Nat) (id : Nat) : getB (subB bl ids) id = if id ∈ ids then getB bl id else none := by
 induction ids with
 | nil => rfl
 | cons a ids ih =>
  have key : subB bl (a :: ids) = (match getB bl a with | some b => (a, b) :: subB bl ids | none => subB bl ids) := by
   unfold subB
   cases hb : getB bl a with
   | none => simp [List.filterMap_cons, hb]
   | some b => simp [List.filterMap_cons, hb]
  rw [key]
  cases hb : getB bl a with
  | none =>
   simp only []
   rw [ih]
   by_cases h1 : id = a
   ·subst h1; simp [hb]
   ·simp [h1]
  | some b =>
   simp only [getB]
   by_cases h1 : a = id
   ·subst h1; simp [hb]
   ·rw [nbeq h1, cond_false, ih]
    simp [Ne.symm h1]
theorem getB_overB (bl' : List (Nat × Blk)) : ∀ (ids : List Nat) (bl : List (Nat × Blk)) (id : Nat), getB (overB bl bl' ids) id = if id ∈ ids then (match getB bl' id with | some b => some b | none => getB bl id) else getB bl id
 | [], bl, id => rfl
 | a :: ids, bl, id => by
  unfold overB
  cases hb : getB bl' a with
  | none =>
   show getB (overB bl bl' ids) id = _
   rw [getB_overB bl' ids]
   by_cases h1 : id = a
   ·subst h1
    by_cases h2 : id ∈ ids <;> simp [h2, hb]
   ·simp [h1]
  | some b =>
   show getB (overB (setB bl a b) bl' ids) id = _
   rw [getB_overB bl' ids, getB_setB]
   by_cases h1 : id = a
   ·subst h1
    by_cases h2 : id ∈ ids <;> simp [h2, hb]
   ·simp [h1]
theorem keys_of {ids : List Nat} (h : (bl.all fun p => ids.contains p.1) = true) : ∀ {id : Nat} {k : Blk}, getB bl id = some k -> id ∈ ids := by
 induction bl with
 | nil => intro id k hg; cases hg
 | cons p l ih =>
  intro id k hg
  obtain ⟨i, b⟩ := p
  rw [List.all_cons, Bool.and_eq_true] at h
  unfold getB at hg
  by_cases h1 : i = id
  ·subst h1; exact List.contains_iff_mem.1 h.1
  ·rw [nbeq h1] at hg
   exact ih h.2 hg
end
end Go.Proofs.Ab
namespace Go.Proofs.Ab
open Go
inductive Loc where
 | slot (t : Nat) | blk (id : Nat) | rows
inductive Cell where
 | v (v : V) | b (o : Option Blk) | r (u d : List Nat)
abbrev FS := Loc -> Cell
def FS.e (s : FS) (t : Nat) : V := match s (.slot t) with | .v v => v | _ => .undef
def FS.g (s : FS) (id : Nat) : Option Blk := match s (.blk id) with | .b o => o | _ => none
def FS.u (s : FS) : List Nat := match s .rows with | .r u _ => u | _ => []
def FS.d (s : FS) : List Nat := match s .rows with | .r _ d => d | _ => []
def FS.live (s : FS) (t : Nat) : Prop := s.u.contains t = true ∧ s.d.contains t = false
structure Eff where
 on : Bool
 v : V
 bl : List (Nat × Blk)
 u : List Nat
 d : List Nat
 ft : Ft
def upd (x : Oper × Eff) : Loc -> Option Cell
 | .slot t => if x.1.dst = some t then some (.v x.2.v) else none
 | .blk id => if id ∈ x.2.ft.wr then (getB x.2.bl id).map (fun b => .b (some b)) else none
 | .rows => if x.2.ft.row = true then some (.r x.2.u x.2.d) else none
def app (x : Oper × Eff) (s : FS) : FS := fun loc => match upd x loc with | some c => c | none => s loc
theorem app_e (x : Oper × Eff) (s : FS) (t : Nat) : (app x s).e t = if x.1.dst = some t then x.2.v else s.e t := by
 unfold FS.e app upd
 by_cases h : x.1.dst = some t <;> simp [h]
theorem app_g (x : Oper × Eff) (s : FS) (id : Nat) : (app x s).g id = if id ∈ x.2.ft.wr then (match getB x.2.bl id with | some b => some b | none => s.g id) else s.g id := by
 unfold FS.g app upd
 by_cases h : id ∈ x.2.ft.wr
 ·simp only [h, if_true]
  cases getB x.2.bl id <;> rfl
 ·simp [h]
theorem app_u (x : Oper × Eff) (s : FS) : (app x s).u = if x.2.ft.row = true then x.2.u else s.u := by
 unfold FS.u app upd
 by_cases h : x.2.ft.row = true <;> simp [h]
theorem app_d (x : Oper × Eff) (s : FS) : (app x s).d = if x.2.ft.row = true then x.2.d else s.d := by
 unfold FS.d app upd
 by_cases h : x.2.ft.row = true <;> simp [h]
structure FAt (pg : Pg) (df0 : List (FuncId × List V)) (c0 : Cx) (own0 : Own) (nt : Nat) (c : Cx) (own : Own) (s : FS) (a : Act) : Prop where
 inv : Inv pg c own s.g s.live
 domr : ∀ t r, c.row t = some r -> s.u.contains t = true
 env : ∀ t, VRep pg.P c (s.e t) (a.tmps.getD t Go.undef)
 size : a.tmps.size = nt
 defs : DefRep pg.P c df0 a.defers
 after : After c0 own0 c own
 blk : ∀ i r, c0.blk i = some r -> c.blk i = some r
 out : ∀ id, ¬ c.out id
structure FtOk (o : Oper) (E : Eff) : Prop where
 row : E.ft.row = isRow o
 rd : isRd o = true -> E.ft.wr = []
 wr : isRd o = false -> E.ft.rd = []
 made : allocs o = true -> ∀ d, o.dst = some d -> aid d ∈ E.ft.wr
 keys : ∀ id k, getB E.bl id = some k -> id ∈ E.ft.rd ∨ id ∈ E.ft.wr
section
variable {p0 : Option (Option V)} {df0 : List (FuncId × List V)} {pg : Pg} {D : DSem} {f : FuncId} {env : Env} {o : Oper} {bl : List (Nat × Blk)} {c0 c c' : Cx} {own0 own own' : Own} {nt : Nat} {s : FS} {a : Act}
open Classical in
noncomputable def Own.part (own : Own) (ids : Nat -> Prop) : Own := fun b x => match own b x with | some (false, id) => if ids id then some (false, id) else none | o => o
theorem Own.part_none {ids : Nat -> Prop} {b x : Nat} (h : own b x = none) : own.part ids b x = none := by unfold Own.part; rw [h]
theorem Own.part_row {ids : Nat -> Prop} {b x t : Nat} (h : own b x = some (true, t)) : own.part ids b x = some (true, t) := by unfold Own.part; rw [h]
theorem Own.part_in {ids : Nat -> Prop} {b x id : Nat} (h : own b x = some (false, id)) (hi : ids id) : own.part ids b x = some (false, id) := by unfold Own.part; rw [h]; simp [hi]
theorem Own.part_out {ids : Nat -> Prop} {b x id : Nat} (h : own b x = some (false, id)) (hi : ¬ ids id) : own.part ids b x = none := by unfold Own.part; rw [h]; simp [hi]
def Own.rejoin (own ownr own' : Own) : Own := fun b x => match own' b x with | some q => some q | none => match ownr b x with | none => own b x | some _ => none
theorem Own.rejoin_new {ownr : Own} {b x : Nat} {q : Bool × Nat} (h : own' b x = some q) : own.rejoin ownr own' b x = some q := by unfold Own.rejoin; rw [h]
theorem Own.rejoin_kept {ownr : Own} {b x : Nat} (h : own' b x = none) (h2 : ownr b x = none) : own.rejoin ownr own' b x = own b x := by unfold Own.rejoin; rw [h, h2]
theorem Own.rejoin_lost {ownr : Own} {b x : Nat} (h : own' b x = none) (h2 : ownr b x ≠ none) : own.rejoin ownr own' b x = none := by
 unfold Own.rejoin; rw [h]
 cases hq : ownr b x with
 | none => exact absurd hq h2
 | some q => rfl
def Cx.aside (c : Cx) (ids : Nat -> Prop) : Cx := { c with out := fun id => ¬ ids id }
theorem Inv.aside {live : Nat -> Prop} {g g' : Nat -> Option Blk} (hI : Inv pg c own g live) (hout : ∀ id, ¬ c.out id) {ids : Nat -> Prop} (hg : ∀ id, ids id -> g' id = g id) (hg2 : ∀ id, ¬ ids id -> g' id = none) :
  Inv pg (c.aside ids) (own.part ids) g' live := by
 refine ⟨fun id k hk => ?_, fun t ht => ?_, fun b x hp => ⟨Own.part_none (hI.np b x hp).1, (hI.np b x hp).2⟩, fun b x hn => hI.fresh b x fun h => hn (Own.part_none h), fun id r hr => ?_, fun i cs hg => hI.gl i cs hg⟩
 ·by_cases hid : ids id
  ·rw [hg id hid] at hk
   obtain ⟨b, o, h1, h2⟩ := hI.blk id k hk
   exact ⟨b, o, h1, h2.kept (own1 := fun _ _ => none) ⟨fun b x h => ⟨h, rfl⟩, fun _ _ h => h, fun _ _ h => h⟩ (Frame.refl _ _) (fun _ _ _ => rfl) fun b x h => Own.part_in h hid⟩
  ·rw [hg2 id hid] at hk; cases hk
 ·exact (hI.row t ht).kept (own1 := fun _ _ => none) ⟨fun b x h => ⟨h, rfl⟩, fun _ _ h => h, fun _ _ h => h⟩ (Frame.refl _ _) (fun _ _ _ => rfl) (fun _ _ _ => rfl) fun b x h => Own.part_row h
 ·by_cases hid : ids id
  ·rcases hI.dom id r hr with ⟨k, hk⟩ | ho
   ·exact .inl ⟨k, (hg id hid).trans hk⟩
   ·exact absurd ho (hout id)
  ·exact .inr hid
theorem VRep.aside {P : Program} {ids : Nat -> Prop} {v : V} {x : Value} (h : VRep P c v x) : VRep P (c.aside ids) v x := VRep.mono (c := c) (c' := c.aside ids) ⟨fun b x h => ⟨h, rfl⟩, fun _ _ h => h, fun _ _ h => h⟩ h
theorem Inv.rejoin {live live' : Nat -> Prop} {g g' gr' : Nat -> Option Blk} {ids : Nat -> Prop} (hI : Inv pg c own g live) (hout : ∀ id, ¬ c.out id) (hI' : Inv pg c' own' gr' live') (ha : After (c.aside ids) (own.part ids) c' own') (hx : Ext (c.aside ids) c')
  (hin : ∀ id, ids id -> ∀ k, g' id = some k -> gr' id = some k) (hin2 : ∀ id, ids id -> ∀ k, gr' id = some k -> ∃ k', g' id = some k') (hot : ∀ id, ¬ ids id -> g' id = g id) (hkey : ∀ id k, gr' id = some k -> ids id) :
  Inv pg { c' with out := c.out } (own.rejoin (own.part ids) own') g' live' ∧ After c own { c' with out := c.out } (own.rejoin (own.part ids) own') ∧ Ext c { c' with out := c.out } := by
 have hx2 : Ext c { c' with out := c.out } := ⟨hx.prot, hx.blk, hx.row⟩
 have hf : Frame (own.part ids) c.w c'.w := ha.frame
 have keepr : ∀ b x, b < c.w.heap.size -> own.part ids b x = none -> own' b x = none := ha.keep
 have hl : ∀ b x, own b x = none -> own.part ids b x = none := fun b x h => Own.part_none h
 have hx3 : Ext c' { c' with out := c.out } := ⟨fun b x h => ⟨h, rfl⟩, fun _ _ h => h, fun _ _ h => h⟩
 refine ⟨⟨fun id k hk => ?_, fun t ht => ?_, fun b x hp => ?_, fun b x hn => ?_, fun id r hr => ?_, fun i cs hg => hI'.gl i cs hg⟩, ⟨hf.weaken hl, fun b x hb hn => ?_, ha.prot, fun b x hp => ?_, ⟨rfl, fun id r ho _ => absurd ho (hout id)⟩⟩, hx2⟩
 ·by_cases hid : ids id
  ·obtain ⟨b, o, h1, h2⟩ := hI'.blk id k (hin id hid k hk)
   exact ⟨b, o, h1, h2.kept (own1 := fun _ _ => none) hx3 (Frame.refl _ _) (fun _ _ _ => rfl) fun b x h => Own.rejoin_new h⟩
  ·rw [hot id hid] at hk
   obtain ⟨b, o, h1, h2⟩ := hI.blk id k hk
   refine ⟨b, o, hx.blk _ _ h1, h2.kept hx2 hf (fun b x h => Own.part_out h hid) fun b x h => ?_⟩
   have h3 := Own.part_out h hid
   rw [Own.rejoin_kept (keepr b x (hI.fresh b x (by rw [h]; nofun)) h3) h3]
   exact h
 ·exact (hI'.row t ht).kept (own1 := fun _ _ => none) hx3 (Frame.refl _ _) (fun _ _ _ => rfl) (fun _ _ _ => rfl) fun b x h => Own.rejoin_new h
 ·obtain ⟨h1, h2⟩ := hI'.np b x hp
  refine ⟨?_, h2⟩
  by_cases h4 : own.part ids b x = none
  ·rw [Own.rejoin_kept h1 h4]
   rcases ha.prot' b x hp with h5 | h5 | h5
   ·exact (hI.np b x h5).1
   ·exact absurd h4 h5
   ·cases ho : own b x with
    | none => rfl
    | some q => exact absurd (hI.fresh b x (by rw [ho]; nofun)) (Nat.not_lt.2 h5)
  ·exact Own.rejoin_lost h1 h4
 ·show b < c'.w.heap.size
  cases ho : own' b x with
  | some q => exact hI'.fresh b x (by rw [ho]; nofun)
  | none =>
   by_cases h4 : own.part ids b x = none
   ·rw [Own.rejoin_kept ho h4] at hn
    exact Nat.lt_of_lt_of_le (hI.fresh b x hn) hf.size
   ·rw [Own.rejoin_lost ho h4] at hn
    exact absurd rfl hn
 ·have hr' : c'.blk id = some r := hr
  by_cases hid : ids id
  ·rcases hI'.dom id r hr' with ⟨k, hk⟩ | ho
   ·exact .inl (hin2 id hid k hk)
   ·rw [ha.far.1] at ho
    exact absurd hid ho
  ·have h1 := ha.far.2 id r hid hr'
   rcases hI.dom id r h1 with ⟨k, hk⟩ | ho
   ·exact .inl ⟨k, (hot id hid).trans hk⟩
   ·exact absurd ho (hout id)
 ·have h4 := hl b x hn
  rw [Own.rejoin_kept (keepr b x hb h4) h4]; exact hn
 ·rcases ha.prot' b x hp with h5 | h5 | h5
  ·exact .inl h5
  ·exact .inr (.inl fun h => h5 (hl b x h))
  ·exact .inr (.inr h5)
end
end Go.Proofs.Ab
namespace Go.Proofs.Ab
open Go
section
variable {p0 : Option (Option V)} {df0 : List (FuncId × List V)} {pg : Pg} {D : DSem} {f : FuncId} {env : Env} {o : Oper} {bl : List (Nat × Blk)} {c0 c c' : Cx} {own0 own own' : Own} {nt : Nat} {s : FS} {a : Act} {ops : Array Oper}
def GuardF (ops : Array Oper) (s : FS) (o : Oper) (on : Bool) : Prop :=
 match o.guard with
 | none => on = true
 | some (g, want) => ∃ t, dstOf ops.toList g = some t ∧ ((∃ b, s.e t = .bool b ∧ on = (b == want)) ∨ (s.e t = .hole ∧ on = false))
structure OpF (pg : Pg) (D : DSem) (f : FuncId) (nt : Nat) (ops : Array Oper) (s : FS) (x : Oper × Eff) : Prop where
 guard : GuardF ops s x.1 x.2.on
 dst : ∀ d, x.1.dst = some d -> d < nt
 go : x.2.on = true -> notDrawn x.1 = false ∧ FtOk x.1 x.2 ∧ ∃ envi B, (∀ t, t ∈ tmpsOf x.1 -> Env.get envi t = s.e t) ∧ (∀ id, getB B id = if id ∈ x.2.ft.rd ∨ id ∈ x.2.ft.wr then s.g id else none) ∧
  (isRow x.1 = true -> step1 pg D f envi x.1 ⟨B, s.u, s.d, [], none⟩ = some (.val x.2.v ⟨x.2.bl, x.2.u, x.2.d, [], none⟩)) ∧ (isRow x.1 = false -> stepB pg f envi x.1 B = some (x.2.v, x.2.bl))
 skip : x.2.on = false -> x.2.v = .hole ∧ x.2.ft = ⟨[], [], false⟩
theorem mem_tmpsOf {t : Tmp} (h : Operand.tmp t ∈ o.op.operands) : t ∈ tmpsOf o := by
 unfold tmpsOf
 rw [List.mem_filterMap]
 exact ⟨_, Array.mem_toList_iff.2 h, rfl⟩
theorem FAt.put {c1 : Cx} {own1 : Own} {x : Oper × Eff} {y : Value} (hF : FAt pg df0 c0 own0 nt c own s a) (hI : Inv pg c1 own1 (app x s).g (app x s).live) (hd : ∀ t r, c1.row t = some r -> (app x s).u.contains t = true) (ha : After c own c1 own1) (hx : Ext c c1)
  (hdst : ∀ d, x.1.dst = some d -> d < nt) (hv : VRep pg.P c1 x.2.v y) : FAt pg df0 c0 own0 nt c1 own1 (app x s) (a.put x.1.dst y) := by
 refine ⟨hI, hd, fun t => ?_, (put_size a _ y).trans hF.size, (by rw [put_defers]; exact hF.defs.mono hx), hF.after.trans ha, fun i r hr => hx.blk _ _ (hF.blk i r hr), fun id => by rw [ha.far.1]; exact hF.out id⟩
 rw [app_e]
 by_cases h : x.1.dst = some t
 ·rw [if_pos h, h]
  have h2 : (a.put (some t) y).tmps.getD t Go.undef = y := by simp [Act.put, Array.getD, hF.size, hdst t h]
  rw [h2]; exact hv
 ·rw [if_neg h]
  have h2 : (a.put x.1.dst y).tmps.getD t Go.undef = a.tmps.getD t Go.undef := by
   cases hd : x.1.dst with
   | none => rfl
   | some d =>
    have : d ≠ t := by rintro rfl; exact h hd
    simp [Array.getD_eq_getD_getElem?, Act.put, Array.getElem?_setIfInBounds, this]
  rw [h2]; exact (hF.env t).mono hx
theorem FAt.skip {x : Oper × Eff} (hF : FAt pg df0 c0 own0 nt c own s a) (hO : OpF pg D f nt ops s x) (hon : x.2.on = false) : FAt pg df0 c0 own0 nt c own (app x s) (a.put x.1.dst Go.undef) := by
 obtain ⟨h1, h2⟩ := hO.skip hon
 have hg : (app x s).g = s.g := funext fun id => by rw [app_g, h2]; simp
 have hu : (app x s).u = s.u := by rw [app_u, h2]; simp
 have hd : (app x s).d = s.d := by rw [app_d, h2]; simp
 have hl : (app x s).live = s.live := by unfold FS.live; rw [hu, hd]
 exact hF.put (by rw [hg, hl]; exact hF.inv) (by rw [hu]; exact hF.domr) (After.refl _ _) (Ext.refl _) hO.dst (by rw [h1]; exact .hole)
theorem drawn_step {x : Oper × Eff} {next : Act -> World -> Prop} {Q : Exit -> Act -> World -> Prop} (hD : DSound pg D) (hF : FAt pg df0 c0 own0 nt c own s a) (hO : OpF pg D f nt ops s x) (hon : x.2.on = true)
  (hn : ∀ c1 own1 y, FAt pg df0 c0 own0 nt c1 own1 (app x s) (a.put x.1.dst y) -> next (a.put x.1.dst y) c1.w) : x.1.wp pg.P a c.w next Q := by
 obtain ⟨hnd, hft, envi, B, henv, hB, hrow, hnrow⟩ := hO.go hon
 obtain ⟨o, E⟩ := x
 dsimp only at hnd hft henv hB hrow hnrow hon
 let ids : Nat -> Prop := fun id => id ∈ E.ft.rd ∨ id ∈ E.ft.wr
 have hids : ∀ id, ids id ↔ (id ∈ E.ft.rd ∨ id ∈ E.ft.wr) := fun _ => Iff.rfl
 have hstep : ∃ st', opS pg D f envi o ⟨B, s.u, s.d, [], none⟩ (fun v s => some (Step.val v s)) (fun v s => some (Step.pan v s)) = some (.val E.v st') ∧ st'.bl = E.bl ∧ st'.used = (if E.ft.row = true then E.u else s.u) ∧ st'.dead = (if E.ft.row = true then E.d else s.d) := by
  rw [hft.row]
  cases hr : isRow o with
  | true => exact ⟨_, hrow hr, rfl, by simp, by simp⟩
  | false =>
   have h1 := hnrow hr
   refine ⟨⟨E.bl, s.u, s.d, [], none⟩, ?_, rfl, by simp, by simp⟩
   rw [opS_opB hr hnd, opB_step]
   show (stepB pg f envi o B).bind _ = _
   rw [h1]; rfl
 obtain ⟨st', hs, hsb, hsu, hsd⟩ := hstep
 have hI := hF.inv.aside hF.out (ids := ids) (g' := getB B) (fun id h => by rw [hB, if_pos h]) (fun id h => by rw [hB, if_neg h])
 have hS : SInv pg (c.aside ids) (own.part ids) ⟨B, s.u, s.d, [], none⟩ := ⟨hI, hF.domr⟩
 show o.wp pg.P a (c.aside ids).w next Q
 refine opS_sound (c := c.aside ids) (own := own.part ids) hD (fun cl hcl => by unfold notDrawn at hnd; rw [hcl] at hnd; cases hnd) hS (fun ha d hd ho => ho (.inr (hft.made ha d hd))) hs (fun y hy t => ?_) (fun v st1 c1 own1 y h1 hv hS1 ha hx _ _ => ?_) (fun v st1 c1 own1 y h1 hv hS1 ha hx _ _ => by cases h1)
 ·cases y with
  | tmp t2 =>
   show VRep pg.P (c.aside ids) (Env.get envi t2) _
   rw [henv t2 (mem_tmpsOf hy)]
   exact (hF.env t2).aside
  | const v => exact cvK_rep t v
  | global i =>
   show VRep pg.P _ (match pg.gl i with | some cs => .ptr cs 0 | none => .undef) _
   cases hg : pg.gl i with
   | none => exact .undef _
   | some cs => exact .pure (hF.inv.gl i cs hg)
  | func f => exact .pure (.fn f)
 ·cases h1
  have hrd : isRd o = true -> E.bl = B := fun hr => by
   obtain ⟨v, st2, h2, h3⟩ := opS_rd (kp := fun v s => some (Step.pan v s)) hr hnd hs
   cases h3
   rw [<- hsb]; exact h2
  have hgr : getB st'.bl = getB E.bl := by rw [hsb]
  have hI1 := hS1.inv
  rw [hgr] at hI1
  have hlive : Live st' = (app (o, E) s).live := by
   unfold Live FS.live
   rw [app_u, app_d, hsu, hsd]
  rw [hlive] at hI1
  obtain ⟨g1, g2, g3⟩ := Inv.rejoin (g' := (app (o, E) s).g) hF.inv hF.out hI1 ha hx (fun id hid k hk => by
   rw [app_g] at hk
   dsimp only at hk
   by_cases hw : id ∈ E.ft.wr
   ·rw [if_pos hw] at hk
    cases hb : getB E.bl id with
    | some b => rw [hb] at hk; exact hk
    | none =>
     rw [hb] at hk
     exfalso
     obtain ⟨b, oo, h2, _⟩ := hF.inv.blk id k hk
     rcases hI1.dom id _ (hx.blk _ _ h2) with ⟨k2, h3⟩ | ho
     ·rw [hb] at h3; cases h3
     ·rw [ha.far.1] at ho
      exact ho hid
   ·rw [if_neg hw] at hk
    cases hr : isRd o with
    | true => rw [hrd hr, hB, if_pos hid]; exact hk
    | false =>
     rcases hid with hid | hid
     ·rw [hft.wr hr] at hid; cases hid
     ·exact absurd hid hw) (fun id hid k hk => by
   rw [app_g]
   dsimp only
   by_cases hw : id ∈ E.ft.wr
   ·rw [if_pos hw, hk]; exact ⟨k, rfl⟩
   ·rw [if_neg hw]
    cases hr : isRd o with
    | true => rw [hrd hr, hB, if_pos hid] at hk; exact ⟨k, hk⟩
    | false =>
     rcases hid with hid | hid
     ·rw [hft.wr hr] at hid; cases hid
     ·exact absurd hid hw) (fun id hid => by
   rw [app_g]
   exact if_neg fun hw => hid (.inr hw)) (fun id k hk => hft.keys id k hk)
  refine hn { c1 with out := c.out } _ y (hF.put g1 (fun t r hr => ?_) g2 g3 hO.dst (VRep.mono (c := c1) (c' := { c1 with out := c.out }) ⟨fun b x h => ⟨h, rfl⟩, fun _ _ h => h, fun _ _ h => h⟩ hv))
  have := hS1.domr t r hr
  rw [hsu] at this
  rw [app_u]; exact this
structure PanF (pg : Pg) (D : DSem) (f : FuncId) (ops : Array Oper) (s : FS) (x : Oper × Eff) (v : V) : Prop where
 guard : GuardF ops s x.1 true
 nd : notDrawn x.1 = false
 row : isRow x.1 = true
 ft : FtOk x.1 x.2
 go : ∃ v0 envi B, pur pg [] pdeep v0 = some v ∧ (∀ t, t ∈ tmpsOf x.1 -> Env.get envi t = s.e t) ∧ (∀ id, getB B id = if id ∈ x.2.ft.rd ∨ id ∈ x.2.ft.wr then s.g id else none) ∧
  step1 pg D f envi x.1 ⟨B, s.u, s.d, [], none⟩ = some (.pan v0 ⟨x.2.bl, x.2.u, x.2.d, [], none⟩)
theorem drawn_pan {x : Oper × Eff} {v : V} {next : Act -> World -> Prop} {Q : Exit -> Act -> World -> Prop} (hD : DSound pg D) (hF : FAt pg df0 c0 own0 nt c own s a) (hO : PanF pg D f ops s x v)
  (hn : ∀ c1 own1 y, Inv pg c1 own1 (app x s).g (app x s).live -> (∀ t r, c1.row t = some r -> (app x s).u.contains t = true) -> After c own c1 own1 -> Ext c c1 -> PRep pg.P c1.w c1.prot v y -> Q (.panic [{ v := y, recovered := false }]) a c1.w) : x.1.wp pg.P a c.w next Q := by
 obtain ⟨v0, envi, B, hpur, henv, hB, hrow⟩ := hO.go
 have hnd := hO.nd
 have hft := hO.ft
 have hir := hO.row
 obtain ⟨o, E⟩ := x
 dsimp only at hnd hft hir henv hB hrow
 let ids : Nat -> Prop := fun id => id ∈ E.ft.rd ∨ id ∈ E.ft.wr
 have hs : opS pg D f envi o ⟨B, s.u, s.d, [], none⟩ (fun v s => some (Step.val v s)) (fun v s => some (Step.pan v s)) = some (.pan v0 ⟨E.bl, E.u, E.d, [], none⟩) := hrow
 have hr : isRd o = false := by
  cases hq : isRd o with
  | false => rfl
  | true =>
   obtain ⟨v, st2, h2, h3⟩ := opS_rd (kp := fun v s => some (Step.pan v s)) hq hnd hs
   cases h3
 have hI := hF.inv.aside hF.out (ids := ids) (g' := getB B) (fun id h => by rw [hB, if_pos h]) (fun id h => by rw [hB, if_neg h])
 have hS : SInv pg (c.aside ids) (own.part ids) ⟨B, s.u, s.d, [], none⟩ := ⟨hI, hF.domr⟩
 show o.wp pg.P a (c.aside ids).w next Q
 refine opS_sound (c := c.aside ids) (own := own.part ids) hD (fun cl hcl => by unfold notDrawn at hnd; rw [hcl] at hnd; cases hnd) hS (fun ha d hd ho => ho (.inr (hft.made ha d hd))) hs (fun y hy t => ?_) (fun v st1 c1 own1 y h1 hv hS1 ha hx _ _ => by cases h1) (fun v st1 c1 own1 y h1 hv hS1 ha hx _ _ => ?_)
 ·cases y with
  | tmp t2 =>
   show VRep pg.P (c.aside ids) (Env.get envi t2) _
   rw [henv t2 (mem_tmpsOf hy)]
   exact (hF.env t2).aside
  | const v => exact cvK_rep t v
  | global i =>
   show VRep pg.P _ (match pg.gl i with | some cs => .ptr cs 0 | none => .undef) _
   cases hg : pg.gl i with
   | none => exact .undef _
   | some cs => exact .pure (hF.inv.gl i cs hg)
  | func f => exact .pure (.fn f)
 ·cases h1
  have hI1 := hS1.inv
  have hfr : E.ft.row = true := by rw [hft.row]; exact hir
  have hlive : Live ⟨E.bl, E.u, E.d, [], none⟩ = (app (o, E) s).live := by
   unfold Live FS.live
   rw [app_u, app_d]
   dsimp only
   rw [if_pos hfr, if_pos hfr]
  rw [hlive] at hI1
  obtain ⟨g1, g2, g3⟩ := Inv.rejoin (g' := (app (o, E) s).g) hF.inv hF.out hI1 ha hx (fun id hid k hk => by
   rw [app_g] at hk
   dsimp only at hk
   by_cases hw : id ∈ E.ft.wr
   ·rw [if_pos hw] at hk
    cases hb : getB E.bl id with
    | some b => rw [hb] at hk; exact hk
    | none =>
     rw [hb] at hk
     exfalso
     obtain ⟨b, oo, h2, _⟩ := hF.inv.blk id k hk
     rcases hI1.dom id _ (hx.blk _ _ h2) with ⟨k2, h3⟩ | ho
     ·rw [hb] at h3; cases h3
     ·rw [ha.far.1] at ho
      exact ho hid
   ·rcases hid with hid | hid
    ·rw [hft.wr hr] at hid; cases hid
    ·exact absurd hid hw) (fun id hid k hk => by
   rw [app_g]
   dsimp only
   by_cases hw : id ∈ E.ft.wr
   ·rw [if_pos hw, hk]; exact ⟨k, rfl⟩
   ·rcases hid with hid | hid
    ·rw [hft.wr hr] at hid; cases hid
    ·exact absurd hid hw) (fun id hid => by
   rw [app_g]
   exact if_neg fun hw => hid (.inr hw)) (fun id k hk => hft.keys id k hk)
  refine hn { c1 with out := c.out } _ y g1 (fun t r hr => ?_) g2 g3 (purE_sound (c := c1) pdeep hpur hv)
  have := hS1.domr t r hr
  rw [app_u, if_pos hfr]; exact this
end
end Go.Proofs.Ab
namespace Go.Proofs.Ab
open Go
def runL (p : Nat -> Bool) : Nat -> List (Oper × Eff) -> FS -> FS
 | _, [], s => s
 | i, x :: l, s => runL p (i + 1) l (bif p i then app x s else s)
def WrF (x : Oper × Eff) : Loc -> Prop
 | .slot t => x.1.dst = some t
 | .blk id => id ∈ x.2.ft.wr
 | .rows => x.2.ft.row = true
def RdF (ops : Array Oper) (x : Oper × Eff) : Loc -> Prop
 | .slot t => t ∈ x.1.looksAt ops
 | .blk id => id ∈ x.2.ft.rd ∨ id ∈ x.2.ft.wr
 | .rows => x.2.ft.row = true
def ApartF (ops : Array Oper) (x y : Oper × Eff) : Prop := x.1.apart ops y.1 = true ∧ x.2.ft.apart y.2.ft = true
section
variable {p q : Nat -> Bool} {l : List (Oper × Eff)} {s s' : FS} {x y : Oper × Eff} {loc : Loc} {ops : Array Oper}
theorem upd_none (h : ¬ WrF x loc) : upd x loc = none := by
 cases loc with
 | slot t => exact if_neg h
 | blk id => exact if_neg h
 | rows => exact if_neg h
theorem app_out (h : ¬ WrF x loc) : app x s loc = s loc := by unfold app; rw [upd_none h]
theorem runL_agree : ∀ {l : List (Oper × Eff)} {i : Nat} {s s' : FS}, s loc = s' loc -> (∀ (j : Nat) x, l[j]? = some x -> p (i + j) ≠ q (i + j) -> ¬ WrF x loc) -> runL p i l s loc = runL q i l s' loc
 | [], i, s, s', h, _ => h
 | x :: l, i, s, s', h, hw => by
  unfold runL
  refine runL_agree ?_ fun j y hy hne => hw (j + 1) y (by simpa using hy) (by rw [show i + (j + 1) = i + 1 + j by omega]; exact hne)
  by_cases hpq : p i = q i
  ·rw [hpq]
   cases q i with
   | false => exact h
   | true =>
    show app x s loc = app x s' loc
    unfold app
    cases upd x loc with
    | none => exact h
    | some c => rfl
  ·have hn := hw 0 x rfl hpq
   cases hp : p i <;> cases hq : q i
   ·exact h
   ·show s loc = app x s' loc
    rw [app_out hn]; exact h
   ·show app x s loc = s' loc
    rw [app_out hn]; exact h
   ·show app x s loc = app x s' loc
    rw [app_out hn, app_out hn]; exact h
theorem runL_same : ∀ {l : List (Oper × Eff)} {i : Nat} {s : FS}, (∀ (j : Nat) x, l[j]? = some x -> p (i + j) = true -> ¬ WrF x loc) -> runL p i l s loc = s loc
 | [], i, s, _ => rfl
 | x :: l, i, s, hw => by
  unfold runL
  rw [runL_same fun j y hy hp => hw (j + 1) y (by simpa using hy) (by rw [show i + (j + 1) = i + 1 + j by omega]; exact hp)]
  cases hp : p i with
  | false => rfl
  | true => exact app_out (hw 0 x rfl hp)
theorem runL_last : ∀ {l : List (Oper × Eff)} {i j0 : Nat} {s : FS} {x0 : Oper × Eff}, l[j0]? = some x0 -> p (i + j0) = false ->
  (∀ (j : Nat) x, j0 < j -> l[j]? = some x -> p (i + j) = true -> WrF x0 loc -> ¬ WrF x loc) -> runL (fun k => p k || k == i + j0) i l s loc = app x0 (runL p i l s) loc
 | [], i, j0, s, x0, h, _, _ => by simp at h
 | x :: l, i, 0, s, x0, h, hp, hw => by
  simp at h
  subst h
  unfold runL
  rw [Nat.add_zero] at hp
  simp only [hp, cond_false, Nat.add_zero, Bool.false_or, beq_self_eq_true, cond_true]
  by_cases hx : WrF x loc
  ·rw [runL_same fun j y hy hpj hwy => ?_]
   ·unfold app
    cases hu : upd x loc with
    | some c => rfl
    | none =>
     show s loc = runL p (i + 1) l s loc
     rw [runL_same fun j y hy hpj hwy => ?_]
     exact hw (j + 1) y (by omega) (by simpa using hy) (by rw [show i + (j + 1) = i + 1 + j by omega]; exact hpj) hx hwy
   ·have hne : (i + 1 + j == i) = false := by simp; omega
    rw [hne, Bool.or_false] at hpj
    exact hw (j + 1) y (by omega) (by simpa using hy) (by rw [show i + (j + 1) = i + 1 + j by omega]; exact hpj) hx hwy
  ·rw [app_out hx]
   refine runL_agree (app_out hx) fun j y hy hne => ?_
   have hne2 : (i + 1 + j == i) = false := by simp; omega
   exfalso
   apply hne
   rw [hne2, Bool.or_false]
 | x :: l, i, j0 + 1, s, x0, h, hp, hw => by
  unfold runL
  have h1 : (i == i + (j0 + 1)) = false := by simp
  simp only [h1, Bool.or_false]
  have h2 : i + (j0 + 1) = i + 1 + j0 := by omega
  rw [h2] at hp ⊢
  exact runL_last (by simpa using h) hp fun j y hj hy hpj => hw (j + 1) y (by omega) (by simpa using hy) (by rw [show i + (j + 1) = i + 1 + j by omega]; exact hpj)
theorem runL_append : ∀ {l : List (Oper × Eff)} {i : Nat} {s : FS} {x : Oper × Eff}, runL p i (l ++ [x]) s = bif p (i + l.length) then app x (runL p i l s) else runL p i l s
 | [], i, s, x => rfl
 | y :: l, i, s, x => by
  have h : i + (y :: l).length = i + 1 + l.length := by simp; omega
  rw [h]
  show runL p (i + 1) (l ++ [x]) _ = _
  rw [runL_append]
  rfl
theorem ApartF.slot (h : ApartF ops x y) : (∀ d, x.1.dst = some d -> d ∉ y.1.looksAt ops) ∧ (∀ d, x.1.dst = some d -> y.1.dst ≠ some d) ∧ (∀ d, y.1.dst = some d -> d ∉ x.1.looksAt ops) := Oper.apart_spec h.1
theorem meets_false {a b : List Nat} (h : meets a b = false) {i : Nat} (ha : i ∈ a) : i ∉ b := by
 intro hb
 have : meets a b = true := by
  unfold meets
  rw [List.any_eq_true]
  exact ⟨i, ha, List.contains_iff_mem.2 hb⟩
 rw [h] at this; cases this
theorem ApartF.ft (h : ApartF ops x y) : meets x.2.ft.wr y.2.ft.rd = false ∧ meets x.2.ft.wr y.2.ft.wr = false ∧ meets x.2.ft.rd y.2.ft.wr = false ∧ (x.2.ft.row && y.2.ft.row) = false := by
 have h2 := h.2
 unfold Ft.apart at h2
 simp only [Bool.and_eq_true, Bool.not_eq_true'] at h2
 exact ⟨h2.1.1.1, h2.1.1.2, h2.1.2, h2.2⟩
theorem ApartF.wr_rd (h : ApartF ops x y) (hx : WrF x loc) : ¬ RdF ops y loc := by
 obtain ⟨h1, h2, h3, h4⟩ := h.ft
 cases loc with
 | slot t => exact h.slot.1 t hx
 | blk id =>
  rintro (hy | hy)
  ·exact meets_false h1 hx hy
  ·exact meets_false h2 hx hy
 | rows =>
  intro hy
  have hx' : x.2.ft.row = true := hx
  have hy' : y.2.ft.row = true := hy
  rw [hx', hy'] at h4; cases h4
theorem ApartF.rd_wr (h : ApartF ops x y) (hy : WrF y loc) : ¬ RdF ops x loc := by
 obtain ⟨h1, h2, h3, h4⟩ := h.ft
 cases loc with
 | slot t => exact h.slot.2.2 t hy
 | blk id =>
  rintro (hx | hx)
  ·exact meets_false h3 hx hy
  ·exact meets_false h2 hx hy
 | rows =>
  intro hx
  have hx' : x.2.ft.row = true := hx
  have hy' : y.2.ft.row = true := hy
  rw [hx', hy'] at h4; cases h4
theorem ApartF.wr_wr (h : ApartF ops x y) (hx : WrF x loc) : ¬ WrF y loc := by
 obtain ⟨h1, h2, h3, h4⟩ := h.ft
 cases loc with
 | slot t => exact h.slot.2.1 t hx
 | blk id => exact meets_false h2 hx
 | rows =>
  intro hy
  have hx' : x.2.ft.row = true := hx
  have hy' : y.2.ft.row = true := hy
  rw [hx', hy'] at h4; cases h4
theorem FS.e_eq {t : Nat} (h : s (.slot t) = s' (.slot t)) : s.e t = s'.e t := by unfold FS.e; rw [h]
theorem FS.g_eq {t : Nat} (h : s (.blk t) = s' (.blk t)) : s.g t = s'.g t := by unfold FS.g; rw [h]
theorem FS.u_eq (h : s .rows = s' .rows) : s.u = s'.u := by unfold FS.u; rw [h]
theorem FS.d_eq (h : s .rows = s' .rows) : s.d = s'.d := by unfold FS.d; rw [h]
theorem OpF.congr {pg : Pg} {D : DSem} {f : FuncId} {nt : Nat} (h : OpF pg D f nt ops s x) (hs : ∀ loc, RdF ops x loc -> s loc = s' loc) : OpF pg D f nt ops s' x := by
 have hlook : ∀ t, t ∈ tmpsOf x.1 -> s.e t = s'.e t := fun t ht => FS.e_eq (hs (.slot t) (List.mem_append_left _ ht))
 refine ⟨?_, h.dst, fun hon => ?_, h.skip⟩
 ·have hg := h.guard
  unfold GuardF at hg ⊢
  cases hgd : x.1.guard with
  | none => rw [hgd] at hg; exact hg
  | some gw =>
   obtain ⟨g, want⟩ := gw
   rw [hgd] at hg
   obtain ⟨t, h1, h2⟩ := hg
   have ht : s.e t = s'.e t := FS.e_eq (hs (.slot t) (by
    refine List.mem_append_right _ ?_
    rw [hgd]
    show t ∈ ((ops[g]?).bind (·.dst)).toList
    unfold dstOf at h1
    rw [Array.getElem?_toList] at h1
    cases ho : ops[g]? with
    | none => rw [ho] at h1; cases h1
    | some o' =>
     rw [ho] at h1
     have h1' : o'.dst = some t := h1
     simp [h1']))
   exact ⟨t, h1, by rw [<- ht]; exact h2⟩
 ·obtain ⟨h1, h2, envi, B, h3, h4, h5, h6⟩ := h.go hon
  refine ⟨h1, h2, envi, B, fun t ht => (h3 t ht).trans (hlook t ht), fun id => ?_, fun hr => ?_, h6⟩
  ·rw [h4]
   by_cases hid : id ∈ x.2.ft.rd ∨ id ∈ x.2.ft.wr
   ·rw [if_pos hid, if_pos hid, FS.g_eq (hs (.blk id) hid)]
   ·rw [if_neg hid, if_neg hid]
  ·have hrow : x.2.ft.row = true := by rw [h2.row]; exact hr
   rw [<- FS.u_eq (hs .rows hrow), <- FS.d_eq (hs .rows hrow)]
   exact h5 hr
theorem PanF.congr {pg : Pg} {D : DSem} {f : FuncId} {v : V} (h : PanF pg D f ops s x v) (hs : ∀ loc, RdF ops x loc -> s loc = s' loc) : PanF pg D f ops s' x v := by
 have hlook : ∀ t, t ∈ tmpsOf x.1 -> s.e t = s'.e t := fun t ht => FS.e_eq (hs (.slot t) (List.mem_append_left _ ht))
 refine ⟨?_, h.nd, h.row, h.ft, ?_⟩
 ·have hg := h.guard
  unfold GuardF at hg ⊢
  cases hgd : x.1.guard with
  | none => rfl
  | some gw =>
   obtain ⟨g, want⟩ := gw
   rw [hgd] at hg
   obtain ⟨t, h1, h2⟩ := hg
   have ht : s.e t = s'.e t := FS.e_eq (hs (.slot t) (by
    refine List.mem_append_right _ ?_
    rw [hgd]
    show t ∈ ((ops[g]?).bind (·.dst)).toList
    unfold dstOf at h1
    rw [Array.getElem?_toList] at h1
    cases ho : ops[g]? with
    | none => rw [ho] at h1; cases h1
    | some o' =>
     rw [ho] at h1
     have h1' : o'.dst = some t := h1
     simp [h1']))
   exact ⟨t, h1, by rw [<- ht]; exact h2⟩
 ·obtain ⟨v0, envi, B, h0, h3, h4, h5⟩ := h.go
  refine ⟨v0, envi, B, h0, fun t ht => (h3 t ht).trans (hlook t ht), fun id => ?_, ?_⟩
  ·rw [h4]
   by_cases hid : id ∈ x.2.ft.rd ∨ id ∈ x.2.ft.wr
   ·rw [if_pos hid, if_pos hid, FS.g_eq (hs (.blk id) hid)]
   ·rw [if_neg hid, if_neg hid]
  ·have hrow : x.2.ft.row = true := by rw [h.ft.row]; exact h.row
   rw [<- FS.u_eq (hs .rows hrow), <- FS.d_eq (hs .rows hrow)]
   exact h5
theorem preds_fold : ∀ (l : List Oper) (acc : List (List Nat)),
  (∃ t, l.foldl (fun acc o => acc ++ [dedup ((o.after.toList.filter (Region.binds .any)).map fun e => e.on :: acc.getD e.on []).flatten]) acc = acc ++ t) ∧
  ∀ (j : Nat) (o : Oper), l[j]? = some o -> ∀ k, k ∈ (l.foldl (fun acc o => acc ++ [dedup ((o.after.toList.filter (Region.binds .any)).map fun e => e.on :: acc.getD e.on []).flatten]) acc).getD (acc.length + j) [] ->
   ∃ e, e ∈ o.after.toList ∧ Region.binds .any e = true ∧ (k = e.on ∨ (e.on < acc.length + j ∧ k ∈ (l.foldl (fun acc o => acc ++ [dedup ((o.after.toList.filter (Region.binds .any)).map fun e => e.on :: acc.getD e.on []).flatten]) acc).getD e.on []))
 | [], acc => ⟨⟨[], by simp⟩, fun j o h => by simp at h⟩
 | o :: l, acc => by
  obtain ⟨⟨t, ht⟩, h2⟩ := preds_fold l (acc ++ [dedup ((o.after.toList.filter (Region.binds .any)).map fun e => e.on :: acc.getD e.on []).flatten])
  rw [List.foldl_cons]
  refine ⟨⟨_, by rw [ht, List.append_assoc]⟩, fun j o' ho k hk => ?_⟩
  cases j with
  | zero =>
   simp at ho
   subst ho
   rw [ht] at hk ⊢
   have h3 : (acc ++ [dedup ((o.after.toList.filter (Region.binds .any)).map fun e => e.on :: acc.getD e.on []).flatten] ++ t).getD (acc.length + 0) [] = dedup ((o.after.toList.filter (Region.binds .any)).map fun e => e.on :: acc.getD e.on []).flatten := by
    simp [List.getD]
   rw [h3, mem_dedup] at hk
   simp only [List.mem_flatten, List.mem_map] at hk
   obtain ⟨l', ⟨e, he, rfl⟩, hk⟩ := hk
   obtain ⟨he1, he2⟩ := List.mem_filter.1 he
   refine ⟨e, he1, he2, ?_⟩
   rcases List.mem_cons.1 hk with h4 | h4
   ·exact .inl h4
   ·right
    have hlt : e.on < acc.length := by
     rcases Nat.lt_or_ge e.on acc.length with h | h
     ·exact h
     ·rw [List.getD_eq_getElem?_getD, List.getElem?_eq_none h] at h4; cases h4
    refine ⟨by omega, ?_⟩
    have : (acc ++ [dedup ((o.after.toList.filter (Region.binds .any)).map fun e => e.on :: acc.getD e.on []).flatten] ++ t).getD e.on [] = acc.getD e.on [] := by
     rw [List.getD_eq_getElem?_getD, List.getD_eq_getElem?_getD, List.append_assoc, List.getElem?_append_left hlt]
    rw [this]; exact h4
  | succ j =>
   have hl : (acc ++ [dedup ((o.after.toList.filter (Region.binds .any)).map fun e => e.on :: acc.getD e.on []).flatten]).length + j = acc.length + (j + 1) := by simp; omega
   obtain ⟨e, h3, h4, h5⟩ := h2 j o' (by simpa using ho) k (by rw [hl]; exact hk)
   rw [hl] at h5
   exact ⟨e, h3, h4, h5⟩
theorem preds_spec {l : List Oper} {j : Nat} {o : Oper} (h : l[j]? = some o) {k : Nat} (hk : k ∈ (predsOf l).getD j []) :
  ∃ e, e ∈ o.after.toList ∧ Region.binds .any e = true ∧ (k = e.on ∨ (e.on < j ∧ k ∈ (predsOf l).getD e.on [])) := by
 have := (preds_fold l []).2 j o h k (by simpa [predsOf] using hk)
 simpa [predsOf] using this
theorem topo_spec : ∀ {l : List Oper} {i : Nat}, okTopo i l = true -> ∀ (j : Nat) (o : Oper), l[j]? = some o -> ∀ e, e ∈ o.after.toList -> Region.binds .any e = true -> e.on < i + j
 | [], i, _, j, o, h => by simp at h
 | a :: l, i, h, j, o, ho => fun e he hb => by
  unfold okTopo at h
  rw [Bool.and_eq_true] at h
  cases j with
  | zero =>
   simp at ho
   subst ho
   have := List.all_eq_true.1 h.1 e he
   rw [hb] at this
   simp [Nat.blt_eq] at this
   omega
  | succ j =>
   have := topo_spec h.2 j o (by simpa using ho) e he hb
   omega
end
end Go.Proofs.Ab
namespace Go.Proofs.Ab
open Go
def cnt (f : Nat -> Bool) : Nat -> Nat
 | 0 => 0
 | n + 1 => cnt f n + bif f n then 0 else 1
theorem cnt_le (f : Nat -> Bool) : ∀ n, cnt f n <= n
 | 0 => Nat.le_refl _
 | n + 1 => by
  have := cnt_le f n
  unfold cnt
  cases f n <;> simp <;> omega
theorem cnt_zero {f : Nat -> Bool} : ∀ {n : Nat}, cnt f n = 0 -> ∀ i, i < n -> f i = true
 | n + 1, h, i, hi => by
  unfold cnt at h
  cases hf : f n with
  | false => rw [hf] at h; simp at h
  | true =>
   rw [hf] at h
   rcases Nat.lt_or_ge i n with hlt | hge
   ·exact cnt_zero (by simpa using h) i hlt
   ·have : i = n := by omega
    subst this; exact hf
theorem cnt_eq {f f' : Nat -> Bool} : ∀ {n : Nat}, (∀ i, i < n -> f' i = f i) -> cnt f' n = cnt f n
 | 0, _ => rfl
 | n + 1, h => by
  unfold cnt
  rw [cnt_eq fun i hi => h i (by omega), h n (by omega)]
theorem cnt_step {f f' : Nat -> Bool} {i : Nat} : ∀ {n : Nat}, i < n -> f i = false -> f' i = true -> (∀ j, j ≠ i -> f' j = f j) -> cnt f' n + 1 = cnt f n
 | n + 1, hi, h1, h2, h3 => by
  unfold cnt
  rcases Nat.lt_or_ge i n with hlt | hge
  ·have := cnt_step hlt h1 h2 h3
   rw [h3 n (by omega)]
   omega
  ·have : i = n := by omega
   subst this
   rw [cnt_eq (f := f) (f' := f') fun j hj => h3 j (by omega), h1, h2]
   rfl
def alB (preds : List (List Nat)) (pi : Option Nat) (j : Nat) : Bool := match pi with | none => true | some i => !(j == i) && !(preds.getD j []).contains i
theorem alB_self {preds : List (List Nat)} {i : Nat} : alB preds (some i) i = false := by unfold alB; simp
def ApartW (ops : Array Oper) (x y : Oper × Eff) : Prop := x.1.apart ops y.1 = true ∧ (x.2.ft.apart y.2.ft = true ∨ (x.2.ft.wr = [] ∧ x.2.ft.row = false))
section
variable {ops : Array Oper} {x y : Oper × Eff} {loc : Loc}
theorem ApartW.slot (h : ApartW ops x y) : (∀ d, x.1.dst = some d -> d ∉ y.1.looksAt ops) ∧ (∀ d, x.1.dst = some d -> y.1.dst ≠ some d) ∧ (∀ d, y.1.dst = some d -> d ∉ x.1.looksAt ops) := Oper.apart_spec h.1
theorem ApartW.full (h : ApartW ops x y) (hf : x.2.ft.apart y.2.ft = true) : ApartF ops x y := ⟨h.1, hf⟩
theorem ApartW.wr_rd (h : ApartW ops x y) (hx : WrF x loc) : ¬ RdF ops y loc := by
 rcases h.2 with h2 | ⟨h2, h3⟩
 ·exact (h.full h2).wr_rd hx
 ·cases loc with
  | slot t => exact h.slot.1 t hx
  | blk id => exact absurd (show id ∈ x.2.ft.wr from hx) (by rw [h2]; exact List.not_mem_nil)
  | rows => exact absurd (show x.2.ft.row = true from hx) (by rw [h3]; nofun)
theorem ApartW.wr_wr (h : ApartW ops x y) (hx : WrF x loc) : ¬ WrF y loc := by
 rcases h.2 with h2 | ⟨h2, h3⟩
 ·exact (h.full h2).wr_wr hx
 ·cases loc with
  | slot t => exact h.slot.2.1 t hx
  | blk id => exact absurd (show id ∈ x.2.ft.wr from hx) (by rw [h2]; exact List.not_mem_nil)
  | rows => exact absurd (show x.2.ft.row = true from hx) (by rw [h3]; nofun)
theorem app_as {E E' : Eff} {o : Oper} {s : FS} (h1 : E'.v = E.v) (h2 : E'.ft = E.ft) (h3 : E.ft.wr = []) (h4 : E.ft.row = false) : app (o, E') s = app (o, E) s := by
 funext loc
 unfold app
 cases loc with
 | slot t => simp only [upd, h1]
 | blk id => simp [upd, h2, h3]
 | rows => simp [upd, h2, h4]
theorem Ft.nil_apart (a : Ft) : Ft.apart ⟨[], [], false⟩ a = true := by simp [Ft.apart, meets]
theorem Ft.apart_nil (a : Ft) : Ft.apart a ⟨[], [], false⟩ = true := by simp [Ft.apart, meets]
end
theorem greatest {p : Nat -> Prop} : ∀ {n : Nat}, (∀ j, p j -> j < n) -> (∃ j, p j) -> ∃ j, p j ∧ ∀ k, p k -> k <= j
 | 0, hb, ⟨j, hj⟩ => absurd (hb j hj) (by omega)
 | n + 1, hb, he => by
  by_cases hn : p n
  ·exact ⟨n, hn, fun k hk => by have := hb k hk; omega⟩
  ·exact greatest (n := n) (fun j hj => by
    have := hb j hj
    have : j ≠ n := by rintro rfl; exact hn hj
    omega) he
structure Rc (pg : Pg) (D : DSem) (f : FuncId) (nt : Nat) (ops : Array Oper) (q : Nat -> Bool) (l : List (Oper × Eff)) (s0 : FS) (i j : Nat) (x : Oper × Eff) : Prop where
 op : ∃ E', E'.v = x.2.v ∧ E'.on = x.2.on ∧ E'.ft = x.2.ft ∧ OpF pg D f nt ops (runL (fun m => Nat.blt m (j + 1) && q m) 0 l s0) (x.1, E')
 btw : ∀ (k : Nat) z, i <= k -> k < j -> l[k]? = some z -> q k = true -> k ∉ (predsOf ops.toList).getD j [] -> ∀ loc, RdF ops x loc -> ¬ WrF z loc
structure RunT (pg : Pg) (D : DSem) (f : FuncId) (nt : Nat) (ops : Array Oper) (l : List (Oper × Eff)) (s0 : FS) (pi : Option Nat) : Prop where
 same : l.map (·.1) = ops.toList
 op : ∀ (i : Nat) x, l[i]? = some x -> alB (predsOf ops.toList) pi i = true -> OpF pg D f nt ops (runL (fun j => Nat.blt j i && alB (predsOf ops.toList) pi j) 0 l s0) x
 ind : ∀ (i j : Nat) x y, i < j -> l[i]? = some x -> l[j]? = some y -> alB (predsOf ops.toList) pi i = true ∨ pi = some i -> alB (predsOf ops.toList) pi j = true ∨ pi = some j -> i ∉ (predsOf ops.toList).getD j [] -> ApartW ops x y
 rc : ∀ (i j : Nat) x y, i < j -> l[i]? = some x -> l[j]? = some y -> alB (predsOf ops.toList) pi i = true -> alB (predsOf ops.toList) pi j = true -> i ∉ (predsOf ops.toList).getD j [] -> x.2.ft.apart y.2.ft = false -> Rc pg D f nt ops (alB (predsOf ops.toList) pi) l s0 i j x
section
variable {p0 : Option (Option V)} {df0 : List (FuncId × List V)} {pg : Pg} {D : DSem} {f : FuncId} {c0 : Cx} {own0 : Own} {nt : Nat} {ops : Array Oper} {l : List (Oper × Eff)} {s0 : FS} {pi : Option Nat} {Q : Exit -> Act -> World -> Prop}
theorem RunT.at (hR : RunT pg D f nt ops l s0 pi) {i : Nat} {o : Oper} (h : ops[i]? = some o) : ∃ E, l[i]? = some (o, E) := by
 have h1 : (l.map (·.1))[i]? = some o := by rw [hR.same, Array.getElem?_toList]; exact h
 rw [List.getElem?_map] at h1
 obtain ⟨x, h2, h3⟩ := Option.map_eq_some_iff.1 h1
 obtain ⟨o', E⟩ := x
 cases h3
 exact ⟨E, h2⟩
theorem RunT.of (hR : RunT pg D f nt ops l s0 pi) {i : Nat} {x : Oper × Eff} (h : l[i]? = some x) : ops[i]? = some x.1 := by
 rw [<- Array.getElem?_toList, <- hR.same, List.getElem?_map, h]; rfl
def Closed (ops : Array Oper) (L : Nat -> Bool) : Prop := ∀ (j : Nat) o, ops[j]? = some o -> L j = true -> ∀ e, e ∈ o.after.toList -> Region.binds .any e = true -> L e.on = true
theorem preds_in {L : Nat -> Bool} (hc : Closed ops L) : ∀ (n j : Nat) (o : Oper), j < n -> ops[j]? = some o -> (∀ e, e ∈ o.after.toList -> Region.binds .any e = true -> L e.on = true) -> (∀ (j : Nat) o, ops[j]? = some o -> ∀ e, e ∈ o.after.toList -> Region.binds .any e = true -> e.on < j) ->
  ∀ k, k ∈ (predsOf ops.toList).getD j [] -> L k = true
 | 0, j, o, hj, _, _, _ => by omega
 | n + 1, j, o, hj, ho, ha, ht => fun k hk => by
  obtain ⟨e, h1, h2, h3⟩ := preds_spec (by rw [Array.getElem?_toList]; exact ho) hk
  rcases h3 with rfl | ⟨h3, h4⟩
  ·exact ha e h1 h2
  ·have hon : L e.on = true := ha e h1 h2
   cases ho2 : ops[e.on]? with
   | none =>
    exfalso
    have : (predsOf ops.toList).getD e.on [] = [] := by
     have h5 : ops.size <= e.on := by simpa using ho2
     have h6 : j < ops.size := (Array.getElem?_eq_some_iff.1 ho).1
     omega
    rw [this] at h4; cases h4
   | some o2 => exact preds_in hc n e.on o2 (by omega) ho2 (fun e' he' hb' => hc e.on o2 ho2 hon e' he' hb') ht k h4
theorem any_sound (hD : DSound pg D) (hR : RunT pg D f nt ops l s0 pi) (htopo : okTopo 0 ops.toList = true)
  (hk : pi = none -> ∀ c own a, FAt pg df0 c0 own0 nt c own (runL (fun _ => true) 0 l s0) a -> Q .normal a c.w)
  (hp : ∀ i0, pi = some i0 -> ∃ x v, l[i0]? = some x ∧ PanF pg D f ops (runL (fun j => Nat.blt j i0 && alB (predsOf ops.toList) pi j) 0 l s0) x v ∧ ∀ (L : Nat -> Bool) c own a c1 own1 y, FAt pg df0 c0 own0 nt c own (runL L 0 l s0) a ->
   (∀ j, L j = true -> alB (predsOf ops.toList) pi j = true) -> (∀ k, k ∈ (predsOf ops.toList).getD i0 [] -> L k = true) -> Inv pg c1 own1 (app x (runL L 0 l s0)).g (app x (runL L 0 l s0)).live ->
   (∀ t r, c1.row t = some r -> (app x (runL L 0 l s0)).u.contains t = true) -> After c own c1 own1 -> Ext c c1 -> PRep pg.P c1.w c1.prot v y -> Q (.panic [{ v := y, recovered := false }]) a c1.w) :
  ∀ (fuel : Nat) (listed : Array Bool) (c : Cx) (own : Own) (a : Act), listed.size = ops.size -> cnt (fun j => listed.getD j false) ops.size <= fuel ->
  (∀ j, listed.getD j false = true -> alB (predsOf ops.toList) pi j = true) -> Closed ops (fun j => listed.getD j false) -> FAt pg df0 c0 own0 nt c own (runL (fun j => listed.getD j false) 0 l s0) a -> wpAny pg.P .any ops Q fuel listed a c.w := by
 have hln : l.length = ops.size := by
  have := congrArg List.length hR.same
  simpa using this
 have htp : ∀ (j : Nat) o, ops[j]? = some o -> ∀ e, e ∈ o.after.toList -> Region.binds .any e = true -> e.on < j := fun j o ho e he hb => by
  have := topo_spec htopo j o (by rw [Array.getElem?_toList]; exact ho) e he hb
  omega
 have hdflt : ∀ {listed : Array Bool} {i : Nat}, listed.size = ops.size -> i < ops.size -> listed.getD i true = listed.getD i false := fun hs hi => by simp [Array.getD, hs, hi]
 have hdone : ∀ (listed : Array Bool) (c : Cx) (own : Own) (a : Act), listed.size = ops.size -> (∀ j, listed.getD j false = true -> alB (predsOf ops.toList) pi j = true) -> (∀ i, i < ops.size -> listed.getD i false = true) -> FAt pg df0 c0 own0 nt c own (runL (fun j => listed.getD j false) 0 l s0) a -> Q .normal a c.w := by
  intro listed c own a hs hal hall hF
  have hpi : pi = none := by
   cases hpi : pi with
   | none => rfl
   | some i0 =>
    obtain ⟨x, v, h1, _⟩ := hp i0 hpi
    have h2 := hal i0 (hall i0 (by have := (List.getElem?_eq_some_iff.1 h1).1; omega))
    rw [hpi, alB_self] at h2; cases h2
  refine hk hpi c own a ?_
  have : runL (fun j => listed.getD j false) 0 l s0 = runL (fun _ => true) 0 l s0 := funext fun loc => runL_agree rfl fun j x hx hne => by
   exfalso
   apply hne
   have := (List.getElem?_eq_some_iff.1 hx).1
   simpa using hall (0 + j) (by omega)
  rw [<- this]; exact hF
 have hready : ∀ (listed : Array Bool), listed.size = ops.size -> Region.ready .any ops listed = [] -> ∀ n i, i < n -> i < ops.size -> listed.getD i false = true := by
  intro listed hs hr n
  induction n with
  | zero => intro i hi; omega
  | succ n ih =>
   intro i hi hio
   cases hL : listed.getD i false with
   | true => rfl
   | false =>
    exfalso
    have ho : ops[i]? = some ops[i] := Array.getElem?_eq_getElem hio
    have hm : i ∈ Region.ready .any ops listed := by
     unfold Region.ready
     rw [List.mem_filter]
     refine ⟨List.mem_range.2 hio, ?_⟩
     rw [hdflt hs hio, hL, ho]
     simp only [Bool.not_false, Bool.true_and, Option.map_some, Option.getD_some]
     rw [Array.all_eq_true_iff_forall_mem]
     intro e he
     cases hb : Region.binds .any e with
     | false => rfl
     | true =>
      have hlt := htp i _ ho e (Array.mem_toList_iff.2 he) hb
      have := ih e.on (by omega) (by omega)
      rw [this]; rfl
    rw [hr] at hm; cases hm
 intro fuel
 induction fuel with
 | zero =>
  intro listed c own a hs hc hal hcl hF
  have hall := cnt_zero (Nat.le_zero.1 hc)
  unfold wpAny
  refine ⟨?_, hdone listed c own a hs hal hall hF⟩
  unfold Region.ready
  rw [List.filter_eq_nil_iff]
  intro i hi
  rw [hdflt hs (List.mem_range.1 hi), hall i (List.mem_range.1 hi)]
  simp
 | succ fuel ih =>
  intro listed c own a hs hc hal hcl hF
  unfold wpAny
  refine ⟨fun hr => hdone listed c own a hs hal (fun i hi => hready listed hs hr (i + 1) i (by omega) hi) hF, fun i hi => ?_⟩
  unfold Region.ready at hi
  rw [List.mem_filter] at hi
  obtain ⟨hin, hi2⟩ := hi
  have hin : i < ops.size := List.mem_range.1 hin
  rw [hdflt hs hin] at hi2
  have ho : ops[i]? = some ops[i] := Array.getElem?_eq_getElem hin
  rw [ho] at hi2
  simp only [Bool.and_eq_true, Bool.not_eq_true', Option.map_some, Option.getD_some] at hi2
  obtain ⟨hL, haft⟩ := hi2
  rw [Array.all_eq_true_iff_forall_mem] at haft
  have haft' : ∀ e, e ∈ (ops[i]).after.toList -> Region.binds .any e = true -> listed.getD e.on false = true := fun e he hb => by
   have := haft e (Array.mem_toList_iff.1 he)
   rw [hb] at this
   simpa using this
  obtain ⟨E, hx⟩ := hR.at ho
  have hpred : ∀ k, k ∈ (predsOf ops.toList).getD i [] -> listed.getD k false = true := preds_in (L := fun j => listed.getD j false) hcl (i + 1) i _ (by omega) ho haft' htp
  have hpredj : ∀ j y, l[j]? = some y -> listed.getD j false = true -> i ∉ (predsOf ops.toList).getD j [] := fun j y hy hLj hij => by
   have hoj := hR.of hy
   have := preds_in (L := fun j => listed.getD j false) hcl (j + 1) j _ (by omega) hoj (fun e he hb => hcl j _ hoj hLj e he hb) htp i hij
   have h2 : listed.getD i false = true := this
   rw [hL] at h2; cases h2
  have hali : alB (predsOf ops.toList) pi i = true ∨ pi = some i := by
   cases hpi : pi with
   | none => exact .inl rfl
   | some i0 =>
    by_cases hii : i = i0
    ·subst hii; exact .inr rfl
    ·left
     have h1 : ((predsOf ops.toList).getD i []).contains i0 = false := by
      cases hc1 : ((predsOf ops.toList).getD i []).contains i0 with
      | false => rfl
      | true =>
       exfalso
       have h2 := hal i0 (hpred i0 (List.contains_iff_mem.1 hc1))
       rw [hpi, alB_self] at h2; cases h2
     show (!(i == i0) && !((predsOf ops.toList).getD i []).contains i0) = true
     rw [h1]
     simp [hii]
  have hbefore : ∀ {m : Nat} {z : Oper × Eff} {loc : Loc}, m < i -> l[m]? = some z -> alB (predsOf ops.toList) pi m = true -> listed.getD m false = false -> RdF ops (ops[i], E) loc -> ¬ WrF z loc := fun {m z loc} hmi hz ham hLm hrd hw => by
   have hnp : m ∉ (predsOf ops.toList).getD i [] := fun hp => by rw [hpred m hp] at hLm; cases hLm
   exact (hR.ind m i z _ hmi hz hx (.inl ham) hali hnp).wr_rd hw hrd
  have hagree : (∀ (j : Nat) y, i < j -> l[j]? = some y -> listed.getD j false = true -> E.ft.apart y.2.ft = true) -> ∀ loc, RdF ops (ops[i], E) loc -> runL (fun j => Nat.blt j i && alB (predsOf ops.toList) pi j) 0 l s0 loc = runL (fun j => listed.getD j false) 0 l s0 loc := fun hno loc hrd => runL_agree rfl fun j y hy hne hw => by
   rw [Nat.zero_add] at hne
   rcases Nat.lt_trichotomy j i with hji | hji | hji
   ·have h1 : Nat.blt j i = true := by rw [Nat.blt_eq]; exact hji
    rw [h1, Bool.true_and] at hne
    have hLj : listed.getD j false = false := by
     cases h : listed.getD j false with
     | false => rfl
     | true => rw [hal j h, h] at hne; exact absurd rfl hne
    have haj : alB (predsOf ops.toList) pi j = true := by
     cases h : alB (predsOf ops.toList) pi j with
     | true => rfl
     | false => rw [h, hLj] at hne; exact absurd rfl hne
    exact hbefore hji hy haj hLj hrd hw
   ·subst hji
    apply hne
    rw [hL]
    cases hb : Nat.blt j j with
    | false => rfl
    | true => rw [Nat.blt_eq] at hb; omega
   ·have h1 : Nat.blt j i = false := by
     cases hb : Nat.blt j i with
     | false => rfl
     | true => rw [Nat.blt_eq] at hb; omega
    have hLj : listed.getD j false = true := by
     cases h : listed.getD j false with
     | true => rfl
     | false => rw [h1, h] at hne; exact absurd rfl hne
    exact ((hR.ind i j _ y hji hx hy hali (.inl (hal j hLj)) (hpredj j y hy hLj)).full (hno j y hji hy hLj)).rd_wr hw hrd
  have hwG : ∀ {on : Bool}, GuardF ops (runL (fun j => listed.getD j false) 0 l s0) ops[i] on -> Region.wanted ops[i] (yielded ops a.tmps) = on := by
   intro on hg
   unfold GuardF at hg
   cases hgd : (ops[i]).guard with
   | none =>
    rw [hgd] at hg
    unfold Region.wanted
    rw [hgd]
    exact hg.symm
   | some gw =>
    obtain ⟨g, want⟩ := gw
    rw [hgd] at hg
    obtain ⟨t, h1, h2⟩ := hg
    have henv := hF.env t
    rcases h2 with ⟨b, h3, h4⟩ | ⟨h3, h4⟩
    ·rw [h3] at henv
     rw [wanted_of (P := pg.P) (a := a) hgd h1 (x := some b) henv.bool_inv, h4]
     cases b <;> cases want <;> rfl
    ·rw [h3] at henv
     rw [wanted_of (P := pg.P) (a := a) hgd h1 (x := none) henv.hole_inv, h4]
     rfl
  unfold wpOp
  rw [ho]
  dsimp only
  by_cases hpi : pi = some i
  ·obtain ⟨x, v, h1, h2, h3⟩ := hp i hpi
   rw [hx] at h1
   cases h1
   have hO := h2.congr (hagree fun j y hji hy hLj => by
    rcases (hR.ind i j _ y hji hx hy hali (.inl (hal j hLj)) (hpredj j y hy hLj)).2 with h4 | ⟨_, h4⟩
    ·exact h4
    ·have h5 : E.ft.row = true := h2.ft.row.trans h2.row
     rw [show (ops[i], E).2.ft.row = E.ft.row from rfl, h5] at h4; cases h4)
   rw [hwG hO.guard, if_pos rfl]
   exact .inl (drawn_pan hD hF hO fun c1 own1 y g1 g2 g3 g4 g5 => h3 _ c own a c1 own1 y hF hal hpred g1 g2 g3 g4 g5)
  have hali' : alB (predsOf ops.toList) pi i = true := hali.resolve_right hpi
  obtain ⟨E', hEon, hEapp, hO⟩ : ∃ E', E'.on = E.on ∧ (∀ s, app (ops[i], E') s = app (ops[i], E) s) ∧ OpF pg D f nt ops (runL (fun j => listed.getD j false) 0 l s0) (ops[i], E') := by
   by_cases hex : ∃ j, ∃ y, i < j ∧ l[j]? = some y ∧ listed.getD j false = true ∧ E.ft.apart y.2.ft = false
   ·obtain ⟨j, ⟨y, hij, hy, hLj, hap⟩, hmax⟩ := greatest (n := ops.size) (fun j ⟨y, _, hy, _⟩ => by have := (List.getElem?_eq_some_iff.1 hy).1; omega) hex
    obtain ⟨⟨E', h1, h2, h3, h4⟩, hbtw⟩ := hR.rc i j _ y hij hx hy hali' (hal j hLj) (hpredj j y hy hLj) hap
    obtain ⟨hwr, hrow⟩ : E.ft.wr = [] ∧ E.ft.row = false := by
     rcases (hR.ind i j _ y hij hx hy hali (.inl (hal j hLj)) (hpredj j y hy hLj)).2 with h5 | h5
     ·rw [show (ops[i], E).2.ft = E.ft from rfl, hap] at h5; cases h5
     ·exact h5
    refine ⟨E', h2, fun s => app_as h1 h3 hwr hrow, h4.congr fun loc hrd' => ?_⟩
    have hrd : RdF ops (ops[i], E) loc := by
     cases loc with
     | slot t => exact hrd'
     | blk id => exact (show id ∈ E.ft.rd ∨ id ∈ E.ft.wr from by have : id ∈ E'.ft.rd ∨ id ∈ E'.ft.wr := hrd'; rw [h3] at this; exact this)
     | rows => exact (show E.ft.row = true from by have : E'.ft.row = true := hrd'; rw [h3] at this; exact this)
    refine runL_agree rfl fun m z hz hne hw => ?_
    rw [Nat.zero_add] at hne
    rcases Nat.lt_or_ge m (j + 1) with hmj | hmj
    ·have h5 : Nat.blt m (j + 1) = true := by rw [Nat.blt_eq]; exact hmj
     rw [h5, Bool.true_and] at hne
     have hLm : listed.getD m false = false := by
      cases h : listed.getD m false with
      | false => rfl
      | true => rw [hal m h, h] at hne; exact absurd rfl hne
     have ham : alB (predsOf ops.toList) pi m = true := by
      cases h : alB (predsOf ops.toList) pi m with
      | true => rfl
      | false => rw [h, hLm] at hne; exact absurd rfl hne
     rcases Nat.lt_or_ge m i with hmi | hmi
     ·exact hbefore hmi hz ham hLm hrd hw
     ·have hmne : m ≠ j := by rintro rfl; rw [hLj] at hLm; cases hLm
      have hnp : m ∉ (predsOf ops.toList).getD j [] := fun hp => by
       have hoj := hR.of hy
       have h6 : listed.getD m false = true := preds_in (L := fun j => listed.getD j false) hcl (j + 1) j _ (by omega) hoj (fun e he hb => hcl j _ hoj hLj e he hb) htp m hp
       rw [hLm] at h6; cases h6
      exact hbtw m z hmi (by omega) hz ham hnp loc hrd hw
    ·have h5 : Nat.blt m (j + 1) = false := by
      cases hb : Nat.blt m (j + 1) with
      | false => rfl
      | true => rw [Nat.blt_eq] at hb; omega
     have hLm : listed.getD m false = true := by
      cases h : listed.getD m false with
      | true => rfl
      | false => rw [h5, h] at hne; exact absurd rfl hne
     have hA := hR.ind i m _ z (by omega) hx hz hali (.inl (hal m hLm)) (hpredj m z hz hLm)
     cases hap2 : E.ft.apart z.2.ft with
     | true => exact (hA.full hap2).rd_wr hw hrd
     | false =>
      have := hmax m ⟨z, by omega, hz, hLm, hap2⟩
      omega
   ·refine ⟨E, rfl, fun _ => rfl, (hR.op i _ hx hali').congr (hagree fun j y hij hy hLj => ?_)⟩
    cases hap : E.ft.apart y.2.ft with
    | true => rfl
    | false => exact absurd ⟨j, y, hij, hy, hLj, hap⟩ hex
  have hnext : app (ops[i], E) (runL (fun j => listed.getD j false) 0 l s0) = runL (fun j => (listed.setIfInBounds i true).getD j false) 0 l s0 := by
   funext loc
   rw [<- runL_last (p := fun j => listed.getD j false) (i := 0) (j0 := i) hx (by rw [Nat.zero_add]; exact hL) fun j y hj hy hp hw => by
    rw [Nat.zero_add] at hp
    exact (hR.ind i j _ y hj hx hy hali (.inl (hal j hp)) (hpredj j y hy hp)).wr_wr hw]
   congr 1
   funext j
   rw [Nat.zero_add]
   by_cases hji : j = i
   ·subst hji
    simp [Array.getD, hs, hin]
   ·have : i ≠ j := fun h => hji h.symm
    simp [Array.getD_eq_getD_getElem?, Array.getElem?_setIfInBounds, this, hji]
  have hs' : (listed.setIfInBounds i true).size = ops.size := by simpa using hs
  have hget : ∀ j, j ≠ i -> (listed.setIfInBounds i true).getD j false = listed.getD j false := fun j hji => by
   have : i ≠ j := fun h => hji h.symm
   simp [Array.getD_eq_getD_getElem?, Array.getElem?_setIfInBounds, this]
  have hgeti : (listed.setIfInBounds i true).getD i false = true := by simp [Array.getD, hs, hin]
  have hmono : ∀ j, listed.getD j false = true -> (listed.setIfInBounds i true).getD j false = true := fun j hj => by
   by_cases hji : j = i
   ·subst hji; exact hgeti
   ·rw [hget j hji]; exact hj
  have hc' : cnt (fun j => (listed.setIfInBounds i true).getD j false) ops.size <= fuel := by
   have := cnt_step (f := fun j => listed.getD j false) (f' := fun j => (listed.setIfInBounds i true).getD j false) hin hL hgeti hget
   omega
  have hcl' : Closed ops (fun j => (listed.setIfInBounds i true).getD j false) := fun j o hoj hLj e he hb => by
   by_cases hji : j = i
   ·subst hji
    rw [ho] at hoj
    cases hoj
    exact hmono _ (haft' e he hb)
   ·exact hmono _ (hcl j o hoj ((hget j hji).symm.trans hLj) e he hb)
  have hw : Region.wanted ops[i] (yielded ops a.tmps) = E.on := (hwG hO.guard).trans hEon
  have hal' : ∀ j, (listed.setIfInBounds i true).getD j false = true -> alB (predsOf ops.toList) pi j = true := fun j hj => by
   by_cases hji : j = i
   ·subst hji; exact hali'
   ·exact hal j ((hget j hji).symm.trans hj)
  rw [hw]
  cases hon : E.on with
  | true =>
   rw [if_pos rfl]
   refine .inl (drawn_step hD hF hO (hEon.trans hon) fun c1 own1 y hF1 => ?_)
   rw [hEapp, hnext] at hF1
   exact ih _ c1 own1 _ hs' hc' hal' hcl' hF1
  | false =>
   rw [if_neg nofun]
   have hF1 := hF.skip hO (hEon.trans hon)
   rw [hEapp, hnext] at hF1
   exact ih _ c own _ hs' hc' hal' hcl' hF1
end
end Go.Proofs.Ab
namespace Go.Proofs.Ab
open Go
structure SameF (env : Env) (st : St) (s : FS) : Prop where
 e : ∀ t, env.get t = s.e t
 g : ∀ id, getB st.bl id = s.g id
 u : st.used = s.u
 d : st.dead = s.d
def FS.of (env : Env) (st : St) : FS
 | .slot t => .v (env.get t)
 | .blk id => .b (getB st.bl id)
 | .rows => .r st.used st.dead
theorem SameF.of (env : Env) (st : St) : SameF env st (FS.of env st) := ⟨fun _ => rfl, fun _ => rfl, rfl, rfl⟩
section
variable {p0 : Option (Option V)} {df0 : List (FuncId × List V)} {pg : Pg} {D : DSem} {f : FuncId} {c0 c : Cx} {own0 own : Own} {nt : Nat} {ops : Array Oper} {l : List (Oper × Eff)} {s0 s : FS} {Q : Exit -> Act -> World -> Prop} {env : Env} {st : St} {r : Res} {k : K} {a : Act}
theorem At.toF (h : At pg p0 c0 own0 nt c own env st a) (hs : SameF env st s) : FAt pg st.df c0 own0 nt c own s a := by
 have hg : getB st.bl = s.g := funext hs.g
 have hl : Live st = s.live := by unfold Live FS.live; rw [hs.u, hs.d]
 refine ⟨by rw [<- hg, <- hl]; exact h.inv.inv, fun t r hr => by rw [<- hs.u]; exact h.inv.domr t r hr, fun t => by rw [<- hs.e]; exact h.env t, h.size, h.defs, h.after, h.blk, h.out⟩
theorem FAt.toA (h : FAt pg df0 c0 own0 nt c own s a) (hs : SameF env st s) (hd : st.df = df0) (hp : st.pn = p0) : At pg p0 c0 own0 nt c own env st a := by
 have hg : getB st.bl = s.g := funext hs.g
 have hl : Live st = s.live := by unfold Live FS.live; rw [hs.u, hs.d]
 refine ⟨⟨by rw [hg, hl]; exact h.inv, fun t r hr => by rw [hs.u]; exact h.domr t r hr⟩, fun t => by rw [hs.e]; exact h.env t, h.size, (by rw [hd]; exact h.defs), hp, h.after, h.blk, h.out⟩
theorem envF_get (env : Env) : ∀ {l : List Tmp} {t : Tmp}, t ∈ l -> (envF env l).get t = env.get t
 | [], t, h => by cases h
 | a :: l, t, h => by
  show (bif Nat.beq a t then env.get a else (envF env l).get t) = env.get t
  by_cases ha : a = t
  ·subst ha; rw [Nat.beq_refl]; rfl
  ·rw [nbeq ha, cond_false]
   exact envF_get env ((List.mem_cons.1 h).resolve_left fun e => ha e.symm)
theorem putE_get {nt : Nat} {d : Option Tmp} {v : V} {env' : Env} (h : putE nt env d v = some env') : (∀ t, env'.get t = if d = some t then v else env.get t) ∧ ∀ t, d = some t -> t < nt := by
 unfold putE at h
 split at h
 ·cases h; exact ⟨fun t => by simp, fun t h => by cases h⟩
 ·rename_i d0
  obtain ⟨h1, h2⟩ := condL_some h
  cases h2
  have hlt : d0 < nt := by simpa [Nat.blt_eq] using h1
  refine ⟨fun t => ?_, fun t ht => by cases ht; exact hlt⟩
  show (bif Nat.beq d0 t then v else env.get t) = _
  by_cases hd : d0 = t
  ·subst hd; simp
  ·rw [nbeq hd]; simp [hd]
theorem map_bind {α β : Type} (o : Option α) (g : α -> β) : o.map g = o.bind fun x => some (g x) := by cases o <;> rfl
theorem appendS_bare {R : Type} (e : TypeId) (v x : V) (d : Tmp) (st : St) (df : List (FuncId × List V)) (pn : Option (Option V)) (k : V -> St -> Option R) :
  appendS pg e v x d { st with df := df, pn := pn } k = appendS pg e v x d st fun v s => k v { s with df := df, pn := pn } := by
 unfold appendS
 split <;> rfl
theorem callK_bare {R : Type} (f : FuncId) (vs : List V) (nt : Tmp) (st : St) (df : List (FuncId × List V)) (pn p : Option (Option V)) (k : V -> St -> Res -> Option R) (kp : V -> St -> Option R) :
  callK pg D f vs nt { st with df := df, pn := pn } p k kp = callK pg D f vs nt st p (fun v s r => k v { s with df := df, pn := pn } r) fun v s => kp v { s with df := df, pn := pn } := by
 unfold callK
 split <;> rfl
theorem opI_bare {R : Type} {f : FuncId} {o : Oper} {env : Env} {st : St} (df : List (FuncId × List V)) (pn : Option (Option V)) (k kp : V -> St -> Option R) :
  opI pg f env o { st with df := df, pn := pn } k kp = opI pg f env o st (fun v s => k v { s with df := df, pn := pn }) (fun v s => kp v { s with df := df, pn := pn }) := by
 unfold opI
 congr 1
theorem evIOps_bare {R : Type} {f : FuncId} {nt : Nat} (df : List (FuncId × List V)) (pn : Option (Option V)) : ∀ (l : List Oper) (env : Env) (st : St) (k : Ex -> Env -> St -> Option R),
  evIOps pg f nt l env { st with df := df, pn := pn } k = evIOps pg f nt l env st fun ex env s => k ex env { s with df := df, pn := pn }
 | [], env, st, k => rfl
 | o :: l, env, st, k => by
  unfold evIOps
  split
  ·rw [opI_bare]
   congr 1
   funext v s
   split
   ·exact evIOps_bare df pn l _ _ _
   ·rfl
  ·rfl
theorem evI_bare {R : Type} {f : FuncId} {nt : Nat} (df : List (FuncId × List V)) (pn : Option (Option V)) : ∀ (c : Code) (env : Env) (st : St) (k : Ex -> Env -> St -> Option R),
  evI pg f nt c env { st with df := df, pn := pn } k = evI pg f nt c env st fun ex env s => k ex env { s with df := df, pn := pn } := by
 intro c
 induction c with
 | seq a b iha ihb =>
  intro env st k
  unfold evI
  rw [iha]
  congr 1
  funext ex env s
  cases ex with
  | normal => exact ihb _ _ _
  | _ => rfl
 | cond c a b iha ihb =>
  intro env st k
  unfold evI
  split
  ·rw [iha, ihb]
  ·rfl
 | scope c ih => intro env st k; unfold evI; exact ih _ _ _
 | region id ops draw => intro env st k; unfold evI; rw [evIOps_bare]
 | _ => intro env st k; rfl
theorem inlK_bare {R : Type} {f : FuncId} {fn : Func} {vs : List V} {st : St} (df : List (FuncId × List V)) (pn : Option (Option V)) (k kp : V -> St -> Option R) :
  inlK pg f fn vs { st with df := df, pn := pn } k kp = inlK pg f fn vs st (fun v s => k v { s with df := df, pn := pn }) fun v s => kp v { s with df := df, pn := pn } := by
 unfold inlK
 rw [evI_bare]
 congr 2
theorem step1_bare {f : FuncId} {o : Oper} {env : Env} {st : St} (df : List (FuncId × List V)) (pn : Option (Option V)) (h1 : isRow o = true) (h2 : notDrawn o = false) :
  step1 pg D f env o { st with df := df, pn := pn } = (step1 pg D f env o st).map fun q => match q with | .val v s => .val v { s with df := df, pn := pn } | .pan v s => .pan v { s with df := df, pn := pn } := by
 unfold isRow at h1
 unfold notDrawn at h2
 have app : ∀ (e : TypeId) (v x : V) (d : Tmp), appendS pg e v x d { st with df := df, pn := pn } (fun v s => some (Step.val v s)) = (appendS pg e v x d st fun v s => some (Step.val v s)).map fun q => match q with | .val v s => .val v { s with df := df, pn := pn } | .pan v s => .pan v { s with df := df, pn := pn } := by
  intro e v x d
  rw [appendS_bare, map_bind, appendS_bind]
  rfl
 unfold step1 opS
 split at h1
 ·rename_i x ho
  rw [ho]
  dsimp only
  split <;> rfl
 ·rename_i args ts ho
  rw [ho]
  dsimp only
  split
  ·split
   ·rename_i e _
    cases (Nat.beq _ _ || (match pg.P.underlying _ with | some .string => true | _ => false)) with
    | true => exact app ..
    | false => rfl
   ·rfl
  ·rfl
 ·rename_i cl args ts ho
  rw [ho]
  dsimp only
  split
  ·split
   ·cases Nat.beq args.size _ with
    | true =>
     rw [cond_true, cond_true]
     cases pg.inl _ with
     | true =>
      rw [cond_true, cond_true, inlK_bare, map_bind, inlK_bind]
      rfl
     | false =>
      rw [cond_false, cond_false, callK_bare, map_bind, callK_bind]
      rfl
    | false => rfl
   ·rfl
  ·rfl
 ·cases h1
theorem inl_dfs {f : FuncId} {fn : Func} {vs : List V} {st : St} {q : Step} (h : inlK pg f fn vs st (fun v s => some (Step.val v s)) (fun v s => some (Step.pan v s)) = some q) :
  (∀ v s, q = .val v s -> s.df = st.df ∧ s.pn = st.pn) ∧ ∀ v s, q = .pan v s -> s.df = st.df ∧ s.pn = st.pn := by
 have h1 : inlK pg f fn vs { st with df := st.df, pn := st.pn } (fun v s => some (Step.val v s)) (fun v s => some (Step.pan v s)) = some q := h
 rw [inlK_bare] at h1
 have h2 : (inlK pg f fn vs st (fun v s => some (Step.val v s)) (fun v s => some (Step.pan v s))).bind (fun q => match q with | .val v s => some (Step.val v { s with df := st.df, pn := st.pn }) | .pan v s => some (Step.pan v { s with df := st.df, pn := st.pn })) = some q := by
  rw [inlK_bind]; exact h1
 rw [h, Option.bind_some] at h2
 cases q with
 | val v s =>
  simp only [Option.some.injEq, Step.val.injEq] at h2
  refine ⟨fun v2 s2 he => ?_, fun v2 s2 he => (by cases he)⟩
  cases he
  rw [<- h2.2]; exact ⟨rfl, rfl⟩
 | pan v s =>
  simp only [Option.some.injEq, Step.pan.injEq] at h2
  refine ⟨fun v2 s2 he => (by cases he), fun v2 s2 he => ?_⟩
  cases he
  rw [<- h2.2]; exact ⟨rfl, rfl⟩
theorem inl_df {f : FuncId} {fn : Func} {vs : List V} {st st' : St} {v : V} (h : inlK pg f fn vs st (fun v s => some (Step.val v s)) (fun v s => some (Step.pan v s)) = some (.val v st')) : st'.df = st.df ∧ st'.pn = st.pn := (inl_dfs h).1 v st' rfl
theorem inl_dfp {f : FuncId} {fn : Func} {vs : List V} {st st' : St} {v : V} (h : inlK pg f fn vs st (fun v s => some (Step.val v s)) (fun v s => some (Step.pan v s)) = some (.pan v st')) : st'.df = st.df ∧ st'.pn = st.pn := (inl_dfs h).2 v st' rfl
theorem step1_df {f : FuncId} {o : Oper} {v : V} {st st' : St} (h1 : isRow o = true) (h2 : notDrawn o = false) (h : step1 pg D f env o st = some (.val v st')) : st'.df = st.df ∧ st'.pn = st.pn := by
 unfold step1 opS at h
 unfold isRow at h1
 unfold notDrawn at h2
 have app : ∀ {e s x d} {k : V -> St -> Option Step}, appendS pg e s x d st k = some (.val v st') -> (∀ v s, k v s = some (.val v s)) -> st'.df = st.df ∧ st'.pn = st.pn := by
  intro e s x d k h hk
  have go : ∀ {old es}, appGo pg e x d st k old es = some (.val v st') -> st'.df = st.df ∧ st'.pn = st.pn := by
   intro old es h
   unfold appGo at h
   obtain ⟨_, h1⟩ := condL_some h
   split at h1
   ·obtain ⟨_, h2⟩ := condL_some h1
    obtain ⟨_, h3⟩ := iteL_some h2
    rw [hk] at h3; cases h3; exact ⟨rfl, rfl⟩
   ·split at h1
    ·obtain ⟨_, h2⟩ := condL_some h1
     obtain ⟨_, h3⟩ := iteL_some h2
     rw [hk] at h3; cases h3; exact ⟨rfl, rfl⟩
    ·cases h1
   ·split at h1
    ·obtain ⟨_, h2⟩ := condR_some h1
     obtain ⟨_, h3⟩ := iteL_some h2
     rw [hk] at h3; cases h3; exact ⟨rfl, rfl⟩
    ·cases h1
   ·cases h1
  unfold appendS at h
  split at h
  ·obtain ⟨_, h1⟩ := condL_some h; exact go h1
  ·obtain ⟨_, h1⟩ := condL_some h; exact go h1
  ·cases h
 split at h
 ·split at h
  ·cases h
  ·cases h
 ·split at h
  ·split at h
   ·obtain ⟨_, h3⟩ := condL_some h
    exact app h3 fun _ _ => rfl
   ·cases h
  ·cases h
 ·rename_i args ts ho; rw [ho] at h2; cases h2
 ·rename_i args ts ho; rw [ho] at h2; cases h2
 ·split at h
  ·split at h
   ·obtain ⟨_, h3⟩ := condL_some h
    rcases cond_some h3 with ⟨_, h3⟩ | ⟨_, h3⟩
    ·exact inl_df h3
    unfold callK at h3
    split at h3
    ·cases h3
    split at h3
    ·cases h3
    split at h3
    ·cases h3
    split at h3
    ·cases h3
    split at h3
    ·cases h3
    obtain ⟨_, h4⟩ := condR_some h3
    obtain ⟨res, _, h5⟩ := Option.bind_eq_some_iff.1 h4
    have key : ∀ {nt h bs} {xs : List (Nat × Nat × Option TypeId)} {ws i bl p} {k : List (Nat × Blk) -> Nat -> Option Step} {r}, backAll pg nt h bs i xs ws bl p k = some r -> ∃ bl' p', k bl' p' = some r := by
     intro nt h bs xs ws i bl p k r hb
     have h1 := backAll_bind (R := (List (Nat × Blk)) × Nat) (fun q => k q.1 q.2) pg nt h bs xs ws i bl p (fun l p => some (l, p))
     simp only [Option.bind_some] at h1
     rw [hb] at h1
     obtain ⟨q, _, h2⟩ := Option.bind_eq_some_iff.1 h1
     exact ⟨q.1, q.2, h2⟩
    obtain ⟨bl', p', h6⟩ := key h5
    obtain ⟨_, h7⟩ := condR_some h6
    split at h7
    ·obtain ⟨v1, _, h8⟩ := onRet_some h7
     obtain ⟨v2, h9, _⟩ := decRes_vrep h8
     cases h9; exact ⟨rfl, rfl⟩
    ·rcases onOut_some h7 with ⟨v1, _, h8⟩ | ⟨v1, _, h8⟩
     ·obtain ⟨v2, h9, _⟩ := decRes_vrep h8
      cases h9; exact ⟨rfl, rfl⟩
     ·obtain ⟨w2, rfl, h9⟩ := asIface_some h8
      obtain ⟨w3, h10, _⟩ := decR_vrep h9
      cases h10
   ·cases h
  ·cases h
 ·rename_i args ts ho; rw [ho] at h2; cases h2
 ·have h3 : opB pg f env o st.bl (fun v bl' => some (Step.val v { st with bl := bl' })) = some (.val v st') := h
  rw [opB_step] at h3
  obtain ⟨q, _, h4⟩ := Option.bind_eq_some_iff.1 h3
  cases h4; exact ⟨rfl, rfl⟩
theorem step1_dfp {f : FuncId} {o : Oper} {v : V} {st st' : St} (h1 : isRow o = true) (h2 : notDrawn o = false) (h : step1 pg D f env o st = some (.pan v st')) : st'.df = st.df ∧ st'.pn = st.pn := by
 unfold step1 opS at h
 unfold isRow at h1
 unfold notDrawn at h2
 have app : ∀ {e s x d} {k : V -> St -> Option Step}, appendS pg e s x d st k = some (.pan v st') -> (∀ v s, k v s = some (.val v s)) -> st'.df = st.df ∧ st'.pn = st.pn := by
  intro e s x d k h hk
  have go : ∀ {old es}, appGo pg e x d st k old es = some (.pan v st') -> st'.df = st.df ∧ st'.pn = st.pn := by
   intro old es h
   unfold appGo at h
   obtain ⟨_, h1⟩ := condL_some h
   split at h1
   ·obtain ⟨_, h2⟩ := condL_some h1
    obtain ⟨_, h3⟩ := iteL_some h2
    rw [hk] at h3; cases h3
   ·split at h1
    ·obtain ⟨_, h2⟩ := condL_some h1
     obtain ⟨_, h3⟩ := iteL_some h2
     rw [hk] at h3; cases h3
    ·cases h1
   ·split at h1
    ·obtain ⟨_, h2⟩ := condR_some h1
     obtain ⟨_, h3⟩ := iteL_some h2
     rw [hk] at h3; cases h3
    ·cases h1
   ·cases h1
  unfold appendS at h
  split at h
  ·obtain ⟨_, h1⟩ := condL_some h; exact go h1
  ·obtain ⟨_, h1⟩ := condL_some h; exact go h1
  ·cases h
 split at h
 ·split at h
  ·cases h; exact ⟨rfl, rfl⟩
  ·cases h
 ·split at h
  ·split at h
   ·obtain ⟨_, h3⟩ := condL_some h
    exact app h3 fun _ _ => rfl
   ·cases h
  ·cases h
 ·rename_i args ts ho; rw [ho] at h2; cases h2
 ·rename_i args ts ho; rw [ho] at h2; cases h2
 ·split at h
  ·split at h
   ·obtain ⟨_, h3⟩ := condL_some h
    rcases cond_some h3 with ⟨_, h3⟩ | ⟨_, h3⟩
    ·exact inl_dfp h3
    unfold callK at h3
    split at h3
    ·cases h3
    split at h3
    ·cases h3
    split at h3
    ·cases h3
    split at h3
    ·cases h3
    split at h3
    ·cases h3
    obtain ⟨_, h4⟩ := condR_some h3
    obtain ⟨res, _, h5⟩ := Option.bind_eq_some_iff.1 h4
    have key : ∀ {nt h bs} {xs : List (Nat × Nat × Option TypeId)} {ws i bl p} {k : List (Nat × Blk) -> Nat -> Option Step} {r}, backAll pg nt h bs i xs ws bl p k = some r -> ∃ bl' p', k bl' p' = some r := by
     intro nt h bs xs ws i bl p k r hb
     have h1 := backAll_bind (R := (List (Nat × Blk)) × Nat) (fun q => k q.1 q.2) pg nt h bs xs ws i bl p (fun l p => some (l, p))
     simp only [Option.bind_some] at h1
     rw [hb] at h1
     obtain ⟨q, _, h2⟩ := Option.bind_eq_some_iff.1 h1
     exact ⟨q.1, q.2, h2⟩
    obtain ⟨bl', p', h6⟩ := key h5
    obtain ⟨_, h7⟩ := condR_some h6
    split at h7
    ·obtain ⟨v1, _, h8⟩ := onRet_some h7
     obtain ⟨v2, h9, _⟩ := decRes_vrep h8
     cases h9
    ·rcases onOut_some h7 with ⟨v1, _, h8⟩ | ⟨v1, _, h8⟩
     ·obtain ⟨v2, h9, _⟩ := decRes_vrep h8
      cases h9
     ·obtain ⟨w2, rfl, h9⟩ := asIface_some h8
      obtain ⟨w3, h10, _⟩ := decR_vrep h9
      cases h10; exact ⟨rfl, rfl⟩
   ·cases h
  ·cases h
 ·rename_i args ts ho; rw [ho] at h2; cases h2
 ·have h3 : opB pg f env o st.bl (fun v bl' => some (Step.val v { st with bl := bl' })) = some (.pan v st') := h
  rw [opB_step] at h3
  obtain ⟨q, _, h4⟩ := Option.bind_eq_some_iff.1 h3
  cases h4
theorem preds_lt (htopo : okTopo 0 ops.toList = true) : ∀ (n j : Nat), j < n -> ∀ k, k ∈ (predsOf ops.toList).getD j [] -> k < j
 | 0, j, hj => by omega
 | n + 1, j, hj => fun k hk => by
  cases ho : ops[j]? with
  | none =>
   exfalso
   have hlen : ∀ (l : List Oper) (acc : List (List Nat)), (l.foldl (fun acc o => acc ++ [dedup ((o.after.toList.filter (Region.binds .any)).map fun e => e.on :: acc.getD e.on []).flatten]) acc).length = acc.length + l.length := by
    intro l
    induction l with
    | nil => intro acc; rfl
    | cons a l ih => intro acc; rw [List.foldl_cons, ih]; simp; omega
   have h1 : (predsOf ops.toList).length = ops.size := by unfold predsOf; rw [hlen]; simp
   have h2 : ops.size <= j := by simpa using ho
   rw [List.getD_eq_getElem?_getD, List.getElem?_eq_none (by omega)] at hk
   cases hk
  | some o =>
   have hoj : ops.toList[j]? = some o := by rw [Array.getElem?_toList]; exact ho
   obtain ⟨e, h1, h2, h3⟩ := preds_spec hoj hk
   have h4 := topo_spec htopo j o hoj e h1 h2
   rcases h3 with rfl | ⟨h5, h6⟩
   ·omega
   ·have := preds_lt htopo n e.on (by omega) k h6
    omega
def Md.at (md : Md) : Option Nat := match md with | none => none | some m => some m.1
structure Pre (pg : Pg) (D : DSem) (f : FuncId) (nt : Nat) (ops : Array Oper) (n0 : List Nat) (df0 : List (FuncId × List V)) (p0 : Option (Option V)) (s0 : FS) (pre : List (Oper × Eff)) (tr : List (Nat × Oper × Ft)) (md : Md) (env : Env) (st : St) : Prop where
 tr : ∀ (j : Nat) x, pre[j]? = some x -> alB (predsOf ops.toList) md.at j = true ∨ md.at = some j -> (j, x.1, x.2.ft) ∈ tr
 same : SameF env st (runL (alB (predsOf ops.toList) md.at) 0 pre s0)
 df : st.df = df0
 pn : st.pn = p0
 op : ∀ (j : Nat) x, pre[j]? = some x -> alB (predsOf ops.toList) md.at j = true -> OpF pg D f nt ops (runL (fun m => Nat.blt m j && alB (predsOf ops.toList) md.at m) 0 pre s0) x
 ind : ∀ (i j : Nat) x y, i < j -> pre[i]? = some x -> pre[j]? = some y -> alB (predsOf ops.toList) md.at i = true ∨ md.at = some i -> alB (predsOf ops.toList) md.at j = true ∨ md.at = some j -> i ∉ (predsOf ops.toList).getD j [] -> ApartW ops x y
 rc : ∀ (i j : Nat) x y, i < j -> pre[i]? = some x -> pre[j]? = some y -> alB (predsOf ops.toList) md.at i = true -> alB (predsOf ops.toList) md.at j = true -> i ∉ (predsOf ops.toList).getD j [] -> x.2.ft.apart y.2.ft = false -> Rc pg D f nt ops (alB (predsOf ops.toList) md.at) pre s0 i j x
 pan : ∀ m, md = some m -> ∃ x, pre[m.1]? = some x ∧ PanF pg D f ops (runL (fun j => Nat.blt j m.1 && alB (predsOf ops.toList) md.at j) 0 pre s0) x m.2.1 ∧
  (∀ id, getB m.2.2.bl id = (app x (runL (fun j => Nat.blt j m.1 && alB (predsOf ops.toList) md.at j) 0 pre s0)).g id) ∧ m.2.2.used = x.2.u ∧ m.2.2.dead = x.2.d ∧ m.2.2.df = df0 ∧ m.2.2.pn = p0
 far : ∀ m, md = some m -> ∀ (j : Nat) x, pre[j]? = some x -> alB (predsOf ops.toList) md.at j = true -> j ∉ (predsOf ops.toList).getD m.1 [] -> meets x.2.ft.wr n0 = false
section
variable {n0 : List Nat} {pre : List (Oper × Eff)} {tr : List (Nat × Oper × Ft)} {md : Md} {o : Oper} {E : Eff}
theorem snoc_get {x : Oper × Eff} {j : Nat} {y : Oper × Eff} (hj : (pre ++ [x])[j]? = some y) : (j < pre.length ∧ pre[j]? = some y) ∨ (j = pre.length ∧ y = x) := by
 rcases Nat.lt_or_ge j pre.length with hlt | hge
 ·rw [List.getElem?_append_left hlt] at hj; exact .inl ⟨hlt, hj⟩
 ·rw [List.getElem?_append_right hge] at hj
  have h0 : j - pre.length = 0 := by
   rcases Nat.eq_zero_or_pos (j - pre.length) with h0 | h0
   ·exact h0
   ·rw [List.getElem?_eq_none (by simp; omega)] at hj; cases hj
  rw [h0] at hj
  simp at hj
  exact .inr ⟨by omega, hj.symm⟩
theorem snoc_old {x y : Oper × Eff} {j : Nat} (hj : pre[j]? = some y) : (pre ++ [x])[j]? = some y := by
 rw [List.getElem?_append_left (List.getElem?_eq_some_iff.1 hj).1]; exact hj
theorem snoc_cut {q : Nat -> Bool} {x : Oper × Eff} {j : Nat} (hj : j <= pre.length) : runL (fun m => Nat.blt m j && q m) 0 (pre ++ [x]) s0 = runL (fun m => Nat.blt m j && q m) 0 pre s0 := by
 rw [runL_append]
 have : Nat.blt (0 + pre.length) j = false := by
  cases hb : Nat.blt (0 + pre.length) j with
  | false => rfl
  | true => rw [Nat.blt_eq] at hb; omega
 rw [this]; rfl
theorem snoc_all {q : Nat -> Bool} : runL (fun m => Nat.blt m pre.length && q m) 0 pre s0 = runL q 0 pre s0 := funext fun loc => runL_agree rfl fun m y hy hne => by
 exfalso
 apply hne
 have h1 := (List.getElem?_eq_some_iff.1 hy).1
 have h2 : Nat.blt (0 + m) pre.length = true := by rw [Nat.blt_eq]; omega
 rw [h2, Bool.true_and]
theorem okDraw_at (hok : okDraw ops ((predsOf ops.toList).getD pre.length []) o E.ft tr = true) {i : Nat} {x : Oper × Eff} (hx : (i, x.1, x.2.ft) ∈ tr) (hn : i ∉ (predsOf ops.toList).getD pre.length []) :
  ApartW ops x (o, E) ∧ (x.2.ft.apart E.ft = false -> between ops ((predsOf ops.toList).getD pre.length []) (i, x.1, x.2.ft) tr = true) := by
 unfold okDraw at hok
 have h5 := List.all_eq_true.1 hok _ hx
 have h6 : ((predsOf ops.toList).getD pre.length []).contains i = false := by
  cases hc : ((predsOf ops.toList).getD pre.length []).contains i with
  | false => rfl
  | true => exact absurd (List.contains_iff_mem.1 hc) hn
 dsimp only at h5
 rw [h6, Bool.false_or, Bool.and_eq_true, Bool.or_eq_true, Bool.and_eq_true] at h5
 refine ⟨⟨h5.1, h5.2.imp id fun h => ?_⟩, fun hf => ?_⟩
 ·have h7 := h.1
  unfold Ft.still at h7
  rw [Bool.and_eq_true, List.isEmpty_iff, Bool.not_eq_true'] at h7
  exact h7
 ·rcases h5.2 with h | h
  ·rw [hf] at h; cases h
  ·exact h.2
theorem runL_slot {q : Nat -> Bool} {d : Tmp} : ∀ {l : List (Oper × Eff)} {i0 j0 : Nat} {s : FS} {x : Oper × Eff}, l[j0]? = some x -> q (i0 + j0) = true -> x.1.dst = some d -> (∀ (m : Nat) z, j0 < m -> l[m]? = some z -> q (i0 + m) = true -> z.1.dst ≠ some d) -> (runL q i0 l s).e d = x.2.v
 | [], i0, j0, s, x, h, _, _, _ => by simp at h
 | y :: l, i0, 0, s, x, h, hq, hd, hm => by
  simp at h
  subst h
  unfold runL
  rw [Nat.add_zero] at hq
  rw [hq, cond_true]
  have h1 : (runL q (i0 + 1) l (app y s)) (.slot d) = (app y s) (.slot d) := runL_same fun m z hz hqm hw => hm (m + 1) z (by omega) (by simpa using hz) (by rw [show i0 + (m + 1) = i0 + 1 + m by omega]; exact hqm) hw
  rw [FS.e_eq h1, app_e, if_pos hd]
 | y :: l, i0, j0 + 1, s, x, h, hq, hd, hm => by
  unfold runL
  exact runL_slot (i0 := i0 + 1) (j0 := j0) (by simpa using h) (by rw [show i0 + 1 + j0 = i0 + (j0 + 1) by omega]; exact hq) hd fun m z hjm hz hqm => hm (m + 1) z (by omega) (by simpa using hz) (by rw [show i0 + (m + 1) = i0 + 1 + m by omega]; exact hqm)
theorem Pre.lt (hP : Pre pg D f nt ops n0 df0 p0 s0 pre tr md env st) {i : Nat} (hm : md.at = some i) : i < pre.length := by
 cases md with
 | none => cases hm
 | some m =>
  cases hm
  obtain ⟨x, h1, _⟩ := hP.pan m rfl
  exact (List.getElem?_eq_some_iff.1 h1).1
theorem Rc.snoc {q : Nat -> Bool} {i j : Nat} {x z : Oper × Eff} (h : Rc pg D f nt ops q pre s0 i j x) (hj : j < pre.length) : Rc pg D f nt ops q (pre ++ [z]) s0 i j x := by
 refine ⟨?_, fun k y hik hk hy => h.btw k y hik hk (by rw [List.getElem?_append_left (by omega)] at hy; exact hy)⟩
 rw [snoc_cut (by omega)]
 exact h.op
theorem Rc.as {q q' : Nat -> Bool} {i j : Nat} {x : Oper × Eff} (h : Rc pg D f nt ops q pre s0 i j x) (hq : ∀ k, k <= j -> q' k = q k) : Rc pg D f nt ops q' pre s0 i j x := by
 refine ⟨?_, fun k y hik hk hy hqk => h.btw k y hik hk hy (by rw [<- hq k (by omega)]; exact hqk)⟩
 have : runL (fun m => Nat.blt m (j + 1) && q' m) 0 pre s0 = runL (fun m => Nat.blt m (j + 1) && q m) 0 pre s0 := funext fun loc => runL_agree rfl fun m y hy hne => by
  exfalso
  apply hne
  rw [Nat.zero_add]
  cases hb : Nat.blt m (j + 1) with
  | false => rfl
  | true =>
   rw [Nat.blt_eq] at hb
   rw [hq m (by omega)]
 rw [this]
 exact h.op
theorem recheck_spec {env1 : Env} {st1 : St} (hP : Pre pg D f nt ops n0 df0 p0 s0 pre tr md env st) (hal : alB (predsOf ops.toList) md.at pre.length = true) (hok : okDraw ops ((predsOf ops.toList).getD pre.length []) o E.ft tr = true)
  (hs1 : SameF env1 st1 (app (o, E) (runL (alB (predsOf ops.toList) md.at) 0 pre s0))) (hre : recheck pg f ((predsOf ops.toList).getD pre.length []) env1 st1.bl E.ft ((pre.length, o, E.ft) :: tr) tr = true) :
  ∀ (i : Nat) x, pre[i]? = some x -> alB (predsOf ops.toList) md.at i = true -> i ∉ (predsOf ops.toList).getD pre.length [] -> x.2.ft.apart E.ft = false -> Rc pg D f nt ops (alB (predsOf ops.toList) md.at) (pre ++ [(o, E)]) s0 i pre.length x := by
 intro i x hx hi hn hap
 have hlt := (List.getElem?_eq_some_iff.1 hx).1
 have htr := hP.tr i x hx (.inl hi)
 obtain ⟨hA, hbt⟩ := okDraw_at hok htr hn
 have hbt := hbt hap
 obtain ⟨hwr, hrw⟩ : x.2.ft.wr = [] ∧ x.2.ft.row = false := by
  rcases hA.2 with h | h
  ·rw [show (o, E).2.ft = E.ft from rfl, hap] at h; cases h
  ·exact h
 have hag : again pg f env1 st1.bl (i, x.1, x.2.ft) ((pre.length, o, E.ft) :: tr) = true := by
  have h1 := List.all_eq_true.1 hre _ htr
  have h2 : ((predsOf ops.toList).getD pre.length []).contains i = false := by
   cases hc : ((predsOf ops.toList).getD pre.length []).contains i with
   | false => rfl
   | true => exact absurd (List.contains_iff_mem.1 hc) hn
  dsimp only at h1
  rw [h2, hap, Bool.false_or, Bool.false_or] at h1
  exact h1
 have hbtw : ∀ (m : Nat) z, i <= m -> m < pre.length -> pre[m]? = some z -> alB (predsOf ops.toList) md.at m = true -> (∀ t, z.1.dst = some t -> t ∉ x.1.looksAt ops) ∧ (m ∈ (predsOf ops.toList).getD pre.length [] ∨ meets z.2.ft.wr x.2.ft.rd = false) := by
  intro m z him hm hz ham
  have h1 := List.all_eq_true.1 hbt _ (hP.tr m z hz (.inl ham))
  dsimp only at h1
  have h2 : Nat.blt m i = false := by
   cases hb : Nat.blt m i with
   | false => rfl
   | true => rw [Nat.blt_eq] at hb; omega
  rw [h2, Bool.false_or, Bool.and_eq_true, Bool.or_eq_true, Bool.not_eq_true', Bool.not_eq_true'] at h1
  refine ⟨fun t ht hmem => ?_, h1.2.imp (fun h => List.contains_iff_mem.1 h) id⟩
  have h3 := h1.1
  unfold dstIn at h3
  rw [ht] at h3
  have h4 : (x.1.looksAt ops).contains t = true := List.contains_iff_mem.2 hmem
  exact absurd (h4.symm.trans h3) nofun
 have hold := hP.op i x hx hi
 have hon : x.2.on = true := by
  cases h : x.2.on with
  | true => rfl
  | false =>
   have h1 := (hold.skip h).2
   rw [h1, Ft.nil_apart] at hap; cases hap
 obtain ⟨hnd, hFt, _⟩ := hold.go hon
 have hstate : runL (fun m => Nat.blt m (pre.length + 1) && alB (predsOf ops.toList) md.at m) 0 (pre ++ [(o, E)]) s0 = app (o, E) (runL (alB (predsOf ops.toList) md.at) 0 pre s0) := by
  have h1 : runL (fun m => Nat.blt m (pre.length + 1) && alB (predsOf ops.toList) md.at m) 0 (pre ++ [(o, E)]) s0 = runL (alB (predsOf ops.toList) md.at) 0 (pre ++ [(o, E)]) s0 := funext fun loc => runL_agree rfl fun m y hy hne => by
   exfalso
   apply hne
   have h2 := (List.getElem?_eq_some_iff.1 hy).1
   have h3 : Nat.blt (0 + m) (pre.length + 1) = true := by rw [Nat.blt_eq]; simp at h2; omega
   rw [h3, Bool.true_and]
  rw [h1, runL_append, Nat.zero_add, hal]; rfl
 have hslot : ∀ t, t ∈ x.1.looksAt ops -> (runL (fun m => Nat.blt m i && alB (predsOf ops.toList) md.at m) 0 pre s0).e t = (app (o, E) (runL (alB (predsOf ops.toList) md.at) 0 pre s0)).e t := fun t ht => by
  rw [app_e, if_neg fun hd => hA.slot.2.2 t hd ht]
  refine FS.e_eq (runL_agree rfl fun m z hz hne hw => ?_)
  rw [Nat.zero_add] at hne
  have hm := (List.getElem?_eq_some_iff.1 hz).1
  rcases Nat.lt_or_ge m i with hmi | hmi
  ·have h1 : Nat.blt m i = true := by rw [Nat.blt_eq]; exact hmi
   rw [h1, Bool.true_and] at hne
   exact hne rfl
  ·have h1 : Nat.blt m i = false := by
    cases hb : Nat.blt m i with
    | false => rfl
    | true => rw [Nat.blt_eq] at hb; omega
   have ham : alB (predsOf ops.toList) md.at m = true := by
    cases h : alB (predsOf ops.toList) md.at m with
    | true => rfl
    | false => rw [h1, h] at hne; exact absurd rfl hne
   exact (hbtw m z hmi hm hz ham).1 t hw ht
 unfold again at hag
 dsimp only at hag
 split at hag
 ·cases hag
 ·rename_i d hd
  rw [Bool.and_eq_true] at hag
  obtain ⟨hlast, hag⟩ := hag
  split at hag
  ·rename_i v bl' hst
   rw [Bool.and_eq_true] at hag
   obtain ⟨hkeys, hv⟩ := hag
   have hv := beqV_eq hv
   have hd1 : env1.get d = x.2.v := by
    rw [hs1.e]
    have h1 : app (o, E) (runL (alB (predsOf ops.toList) md.at) 0 pre s0) = runL (alB (predsOf ops.toList) md.at) 0 (pre ++ [(o, E)]) s0 := by
     rw [runL_append, Nat.zero_add, hal]; rfl
    rw [h1]
    refine runL_slot (j0 := i) (snoc_old hx) (by rw [Nat.zero_add]; exact hi) hd fun m z him hz hqm hzd => ?_
    rw [Nat.zero_add] at hqm
    have hin : (m, z.1, z.2.ft) ∈ (pre.length, o, E.ft) :: tr := by
     rcases snoc_get hz with ⟨_, h3⟩ | ⟨rfl, rfl⟩
     ·exact List.mem_cons_of_mem _ (hP.tr m z h3 (.inl hqm))
     ·exact List.mem_cons_self ..
    have h2 := List.all_eq_true.1 hlast _ hin
    dsimp only at h2
    have h3 : Nat.blt i m = true := by rw [Nat.blt_eq]; exact him
    rw [h3, hzd] at h2
    simp at h2
   rw [hd1] at hv
   refine ⟨⟨⟨true, x.2.v, bl', [], [], x.2.ft⟩, rfl, hon.symm, rfl, ?_⟩, fun m z him hm hz ham hnp loc hrd hw => ?_⟩
   ·rw [hstate]
    refine ⟨?_, hold.dst, fun _ => ⟨hnd, ⟨hFt.row, hFt.rd, hFt.wr, hFt.made, fun id kk hk => ?_⟩, envF env1 (tmpsOf x.1), subB st1.bl (dedup (x.2.ft.rd ++ x.2.ft.wr)), fun t ht => ?_, fun id => ?_, fun hr => ?_, fun _ => ?_⟩, fun h => by cases h⟩
    ·have hg := hold.guard
     rw [hon] at hg
     unfold GuardF at hg ⊢
     cases hgd : x.1.guard with
     | none => rfl
     | some gw =>
      obtain ⟨g, want⟩ := gw
      rw [hgd] at hg
      obtain ⟨t, h1, h2⟩ := hg
      have ht := hslot t (by
       refine List.mem_append_right _ ?_
       rw [hgd]
       show t ∈ ((ops[g]?).bind (·.dst)).toList
       unfold dstOf at h1
       rw [Array.getElem?_toList] at h1
       cases ho : ops[g]? with
       | none => rw [ho] at h1; cases h1
       | some o' =>
        rw [ho] at h1
        have h1' : o'.dst = some t := h1
        simp [h1'])
      exact ⟨t, h1, by rw [<- ht]; exact h2⟩
    ·have := keys_of hkeys hk
     rw [mem_dedup, List.mem_append] at this
     exact this
    ·rw [envF_get env1 ht, hs1.e]
    ·rw [getB_subB, hs1.g]
     have : id ∈ dedup (x.2.ft.rd ++ x.2.ft.wr) ↔ (id ∈ x.2.ft.rd ∨ id ∈ x.2.ft.wr) := by rw [mem_dedup, List.mem_append]
     by_cases h3 : id ∈ x.2.ft.rd ∨ id ∈ x.2.ft.wr
     ·rw [if_pos (this.2 h3), if_pos h3]
     ·rw [if_neg fun h => h3 (this.1 h), if_neg h3]
    ·have h1 := hFt.row
     rw [hrw] at h1
     rw [hr] at h1; cases h1
    ·show stepB pg f _ x.1 _ = some (x.2.v, bl')
     rw [hv]; exact hst
   ·rw [List.getElem?_append_left hm] at hz
    obtain ⟨h1, h2⟩ := hbtw m z him hm hz ham
    cases loc with
    | slot t => exact h1 t hw hrd
    | blk id =>
     have h3 := h2.resolve_left hnp
     rcases hrd with hrd | hrd
     ·exact meets_false h3 hw hrd
     ·rw [hwr] at hrd; cases hrd
    | rows => rw [show RdF ops x .rows = (x.2.ft.row = true) from rfl, hrw] at hrd; cases hrd
  ·cases hag
theorem Pre.push {env1 : Env} {st1 : St} (hP : Pre pg D f nt ops n0 df0 p0 s0 pre tr md env st) (hal : alB (predsOf ops.toList) md.at pre.length = true) (hO : OpF pg D f nt ops (runL (alB (predsOf ops.toList) md.at) 0 pre s0) (o, E))
  (hok : okDraw ops ((predsOf ops.toList).getD pre.length []) o E.ft tr = true) (hmd : md.at ≠ none -> meets E.ft.wr n0 = false) (hs1 : SameF env1 st1 (app (o, E) (runL (alB (predsOf ops.toList) md.at) 0 pre s0))) (hd : st1.df = df0) (hp : st1.pn = p0)
  (hrc : ∀ (i : Nat) x, pre[i]? = some x -> alB (predsOf ops.toList) md.at i = true -> i ∉ (predsOf ops.toList).getD pre.length [] -> x.2.ft.apart E.ft = false -> Rc pg D f nt ops (alB (predsOf ops.toList) md.at) (pre ++ [(o, E)]) s0 i pre.length x) :
  Pre pg D f nt ops n0 df0 p0 s0 (pre ++ [(o, E)]) ((pre.length, o, E.ft) :: tr) md env1 st1 := by
 refine ⟨fun j x hj ha => ?_, ?_, hd, hp, fun j x hj ha => ?_, fun i1 j1 x y hij hx hy hi1 hj1 hn => ?_, fun i1 j1 x y hij hx hy hi1 hj1 hn hap => ?_, fun m hm => ?_, fun m hm j x hj ha hn => ?_⟩
 ·rcases snoc_get hj with ⟨_, h3⟩ | ⟨rfl, rfl⟩
  ·exact List.mem_cons_of_mem _ (hP.tr j x h3 ha)
  ·exact List.mem_cons_self ..
 ·rw [runL_append, Nat.zero_add, hal]; exact hs1
 ·rcases snoc_get hj with ⟨hlt, h3⟩ | ⟨rfl, rfl⟩
  ·rw [snoc_cut (by omega)]; exact hP.op j x h3 ha
  ·rw [snoc_cut (Nat.le_refl _), snoc_all]; exact hO
 ·rcases snoc_get hy with ⟨hlt, h3⟩ | ⟨rfl, rfl⟩
  ·rcases snoc_get hx with ⟨_, h4⟩ | ⟨h4, _⟩
   ·exact hP.ind i1 j1 x y hij h4 h3 hi1 hj1 hn
   ·omega
  ·rcases snoc_get hx with ⟨_, h4⟩ | ⟨h4, _⟩
   ·exact (okDraw_at hok (hP.tr i1 x h4 hi1) hn).1
   ·omega
 ·rcases snoc_get hy with ⟨hlt, h3⟩ | ⟨rfl, rfl⟩
  ·rcases snoc_get hx with ⟨_, h4⟩ | ⟨h4, _⟩
   ·exact (hP.rc i1 j1 x y hij h4 h3 hi1 hj1 hn hap).snoc hlt
   ·omega
  ·rcases snoc_get hx with ⟨_, h4⟩ | ⟨h4, _⟩
   ·exact hrc i1 x h4 hi1 hn hap
   ·omega
 ·obtain ⟨x, h1, h2, h3⟩ := hP.pan m hm
  have hlt := (List.getElem?_eq_some_iff.1 h1).1
  refine ⟨x, snoc_old h1, ?_⟩
  rw [snoc_cut (by omega)]
  exact ⟨h2, h3⟩
 ·rcases snoc_get hj with ⟨hlt, h3⟩ | ⟨rfl, rfl⟩
  ·exact hP.far m hm j x h3 ha hn
  ·exact hmd (by rw [hm]; nofun)
theorem Pre.pass (hP : Pre pg D f nt ops n0 df0 p0 s0 pre tr md env st) (hal : alB (predsOf ops.toList) md.at pre.length = false) :
  Pre pg D f nt ops n0 df0 p0 s0 (pre ++ [(o, E)]) tr md env st := by
 have hne : md.at ≠ some pre.length := fun h => absurd (hP.lt h) (by omega)
 have nal : ∀ {P : Prop}, alB (predsOf ops.toList) md.at pre.length = true ∨ md.at = some pre.length -> P := fun h => by
  rcases h with h | h
  ·rw [hal] at h; cases h
  ·exact absurd h hne
 refine ⟨fun j x hj ha => ?_, ?_, hP.df, hP.pn, fun j x hj ha => ?_, fun i1 j1 x y hij hx hy hi1 hj1 hn => ?_, fun i1 j1 x y hij hx hy hi1 hj1 hn hap => ?_, fun m hm => ?_, fun m hm j x hj ha hn => ?_⟩
 ·rcases snoc_get hj with ⟨_, h3⟩ | ⟨rfl, rfl⟩
  ·exact hP.tr j x h3 ha
  ·exact nal ha
 ·rw [runL_append, Nat.zero_add, hal]; exact hP.same
 ·rcases snoc_get hj with ⟨hlt, h3⟩ | ⟨rfl, rfl⟩
  ·rw [snoc_cut (by omega)]; exact hP.op j x h3 ha
  ·exact nal (.inl ha)
 ·rcases snoc_get hy with ⟨hlt, h3⟩ | ⟨rfl, rfl⟩
  ·rcases snoc_get hx with ⟨_, h4⟩ | ⟨h4, _⟩
   ·exact hP.ind i1 j1 x y hij h4 h3 hi1 hj1 hn
   ·omega
  ·exact nal hj1
 ·rcases snoc_get hy with ⟨hlt, h3⟩ | ⟨rfl, rfl⟩
  ·rcases snoc_get hx with ⟨_, h4⟩ | ⟨h4, _⟩
   ·exact (hP.rc i1 j1 x y hij h4 h3 hi1 hj1 hn hap).snoc hlt
   ·omega
  ·exact nal (.inl hj1)
 ·obtain ⟨x, h1, h2, h3⟩ := hP.pan m hm
  have hlt := (List.getElem?_eq_some_iff.1 h1).1
  refine ⟨x, snoc_old h1, ?_⟩
  rw [snoc_cut (by omega)]
  exact ⟨h2, h3⟩
 ·rcases snoc_get hj with ⟨hlt, h3⟩ | ⟨rfl, rfl⟩
  ·exact hP.far m hm j x h3 ha hn
  ·exact nal (.inl ha)
theorem Pre.die {v : V} {st' : St} (htopo : okTopo 0 ops.toList = true) (hP : Pre pg D f nt ops n0 df0 p0 s0 pre tr none env st) (hO : PanF pg D f ops (runL (fun _ => true) 0 pre s0) (o, E) v)
  (hok : okDraw ops ((predsOf ops.toList).getD pre.length []) o E.ft tr = true) (hpan : okPan (predsOf ops.toList) n0 pre.length tr = true) (hs1 : ∀ id, getB st'.bl id = (app (o, E) (runL (fun _ => true) 0 pre s0)).g id)
  (hu : st'.used = E.u) (hdd : st'.dead = E.d) (hd : st'.df = df0) (hp : st'.pn = p0) :
  Pre pg D f nt ops n0 df0 p0 s0 (pre ++ [(o, E)]) ((pre.length, o, E.ft) :: tr) (some (pre.length, v, st')) env st := by
 have hal : ∀ j, j < pre.length -> alB (predsOf ops.toList) (some pre.length) j = true := fun j hj => by
  have h1 : ((predsOf ops.toList).getD j []).contains pre.length = false := by
   cases hc : ((predsOf ops.toList).getD j []).contains pre.length with
   | false => rfl
   | true =>
    have := preds_lt htopo (j + 1) j (by omega) _ (List.contains_iff_mem.1 hc)
    omega
  show (!(j == pre.length) && !((predsOf ops.toList).getD j []).contains pre.length) = true
  rw [h1]
  have : j ≠ pre.length := by omega
  simp [this]
 have hsame : ∀ {i : Nat}, i <= pre.length -> runL (fun m => Nat.blt m i && alB (predsOf ops.toList) (some pre.length) m) 0 pre s0 = runL (fun m => Nat.blt m i && alB (predsOf ops.toList) none m) 0 pre s0 := fun {i} hi => funext fun loc => runL_agree rfl fun m y hy hne => by
  exfalso
  apply hne
  have h1 := (List.getElem?_eq_some_iff.1 hy).1
  rw [hal (0 + m) (by omega)]; rfl
 have hall : runL (fun m => Nat.blt m pre.length && alB (predsOf ops.toList) (some pre.length) m) 0 pre s0 = runL (fun _ => true) 0 pre s0 := by
  rw [hsame (Nat.le_refl _), snoc_all]; rfl
 have hself : alB (predsOf ops.toList) (some pre.length) pre.length = false := alB_self
 refine ⟨fun j x hj ha => ?_, ?_, hP.df, hP.pn, fun j x hj ha => ?_, fun i1 j1 x y hij hx hy hi1 hj1 hn => ?_, fun i1 j1 x y hij hx hy hi1 hj1 hn hap => ?_, fun m hm => ?_, fun m hm j x hj ha hn => ?_⟩
 ·rcases snoc_get hj with ⟨_, h3⟩ | ⟨rfl, rfl⟩
  ·exact List.mem_cons_of_mem _ (hP.tr j x h3 (.inl rfl))
  ·exact List.mem_cons_self ..
 ·show SameF env st (runL (alB (predsOf ops.toList) (some pre.length)) 0 (pre ++ [(o, E)]) s0)
  rw [runL_append, Nat.zero_add, hself]
  have : runL (alB (predsOf ops.toList) (some pre.length)) 0 pre s0 = runL (fun _ => true) 0 pre s0 := by rw [<- snoc_all (pre := pre) (q := alB (predsOf ops.toList) (some pre.length)), hall]
  rw [this]; exact hP.same
 ·rcases snoc_get hj with ⟨hlt, h3⟩ | ⟨rfl, rfl⟩
  ·rw [snoc_cut (by omega)]
   show OpF pg D f nt ops (runL (fun m => Nat.blt m j && alB (predsOf ops.toList) (some pre.length) m) 0 pre s0) x
   rw [hsame (by omega)]; exact hP.op j x h3 rfl
  ·have ha' : alB (predsOf ops.toList) (some pre.length) pre.length = true := ha
   rw [hself] at ha'; cases ha'
 ·rcases snoc_get hy with ⟨hlt, h3⟩ | ⟨rfl, rfl⟩
  ·rcases snoc_get hx with ⟨_, h4⟩ | ⟨h4, _⟩
   ·exact hP.ind i1 j1 x y hij h4 h3 (.inl rfl) (.inl rfl) hn
   ·omega
  ·rcases snoc_get hx with ⟨_, h4⟩ | ⟨h4, _⟩
   ·exact (okDraw_at hok (hP.tr i1 x h4 (.inl rfl)) hn).1
   ·omega
 ·rcases snoc_get hy with ⟨hlt, h3⟩ | ⟨rfl, rfl⟩
  ·rcases snoc_get hx with ⟨_, h4⟩ | ⟨h4, _⟩
   ·refine ((hP.rc i1 j1 x y hij h4 h3 rfl rfl hn hap).as (q' := alB (predsOf ops.toList) (some pre.length)) fun k hk => ?_).snoc hlt
    rw [hal k (by omega)]; rfl
   ·omega
  ·have hj1' : alB (predsOf ops.toList) (some pre.length) pre.length = true := hj1
   rw [hself] at hj1'; cases hj1'
 ·cases hm
  refine ⟨(o, E), by simp, ?_⟩
  rw [snoc_cut (Nat.le_refl _)]
  show PanF pg D f ops (runL (fun m => Nat.blt m pre.length && alB (predsOf ops.toList) (some pre.length) m) 0 pre s0) _ _ ∧ (∀ id, _ = (app (o, E) (runL (fun m => Nat.blt m pre.length && alB (predsOf ops.toList) (some pre.length) m) 0 pre s0)).g id) ∧ _
  rw [hall]
  exact ⟨hO, hs1, hu, hdd, hd, hp⟩
 ·cases hm
  rcases snoc_get hj with ⟨hlt, h3⟩ | ⟨rfl, rfl⟩
  ·have h5 := List.all_eq_true.1 hpan _ (hP.tr j x h3 (.inl rfl))
   have h6 : ((predsOf ops.toList).getD pre.length []).contains j = false := by
    cases hc : ((predsOf ops.toList).getD pre.length []).contains j with
    | false => rfl
    | true => exact absurd (List.contains_iff_mem.1 hc) hn
   dsimp only at h5
   rw [h6, Bool.false_or, Bool.not_eq_true'] at h5
   exact h5
  ·have ha' : alB (predsOf ops.toList) (some pre.length) pre.length = true := ha
   rw [hself] at ha'; cases ha'
theorem evDraw_run (htopo : okTopo 0 ops.toList = true) : ∀ (rest : List Oper) (i : Nat) (env : Env) (st : St) (tr : List (Nat × Oper × Ft)) (md : Md) (pre : List (Oper × Eff)), evDraw pg D f nt ops (predsOf ops.toList) n0 i rest env st tr md k = some r ->
  pre.length = i -> Pre pg D f nt ops n0 df0 p0 s0 pre tr md env st ->
  ∃ l env' st' tr' md', l.map (·.1) = pre.map (·.1) ++ rest ∧ Pre pg D f nt ops n0 df0 p0 s0 l tr' md' env' st' ∧
   match md' with | none => k .normal env' st' = some r | some m => ∃ y, canon pg f n0 (undefE ops env', m.2.2) = some y ∧ k (.pan m.2.1) y.1 y.2 = some r
 | [], i, env, st, tr, md, pre, h, hl, hP => by
  refine ⟨pre, env, st, tr, md, by simp, hP, ?_⟩
  unfold evDraw at h
  cases md with
  | none => exact h
  | some m =>
   dsimp only at h
   split at h
   ·exact ⟨_, ‹_›, h⟩
   ·cases h
 | o :: rest, i, env, st, tr, md, pre, h, hl, hP => by
  subst hl
  have next : ∀ {E : Eff} {env1 : Env} {st1 : St} {tr1 : List (Nat × Oper × Ft)} {md1 : Md}, evDraw pg D f nt ops (predsOf ops.toList) n0 (pre.length + 1) rest env1 st1 tr1 md1 k = some r -> Pre pg D f nt ops n0 df0 p0 s0 (pre ++ [(o, E)]) tr1 md1 env1 st1 ->
    ∃ l env' st' tr' md', l.map (·.1) = pre.map (·.1) ++ (o :: rest) ∧ Pre pg D f nt ops n0 df0 p0 s0 l tr' md' env' st' ∧
     match md' with | none => k .normal env' st' = some r | some m => ∃ y, canon pg f n0 (undefE ops env', m.2.2) = some y ∧ k (.pan m.2.1) y.1 y.2 = some r := by
   intro E env1 st1 tr1 md1 hrest hP1
   obtain ⟨l, env', st', tr', md', g1, g2⟩ := evDraw_run htopo rest (pre.length + 1) env1 st1 tr1 md1 (pre ++ [(o, E)]) hrest (by simp) hP1
   exact ⟨l, env', st', tr', md', by rw [g1]; simp, g2⟩
  have hs := hP.same
  unfold evDraw at h
  rcases cond_some h with ⟨hw, h⟩ | ⟨hw, h⟩
  ·refine next (E := ⟨false, .hole, [], [], [], ⟨[], [], false⟩⟩) h (hP.pass ?_)
   cases md with
   | none => cases hw
   | some m =>
    show (!(pre.length == m.1) && !((predsOf ops.toList).getD pre.length []).contains m.1) = false
    have hw' : ((predsOf ops.toList).getD pre.length []).contains m.1 = true := hw
    rw [hw']; simp
  have hal : alB (predsOf ops.toList) md.at pre.length = true := by
   cases md with
   | none => rfl
   | some m =>
    have hw' : ((predsOf ops.toList).getD pre.length []).contains m.1 = false := hw
    have hlt := hP.lt (i := m.1) rfl
    show (!(pre.length == m.1) && !((predsOf ops.toList).getD pre.length []).contains m.1) = true
    rw [hw']
    have : pre.length ≠ m.1 := by omega
    simp [this]
  have skip : ∀ {env2 : Env}, (∀ t, env2.get t = env.get t) -> GuardF ops (runL (alB (predsOf ops.toList) md.at) 0 pre s0) o false ->
    (bif !okDraw ops ((predsOf ops.toList).getD pre.length []) o ⟨[], [], false⟩ tr || notDrawn o then none else
     (match putE nt env2 o.dst .hole with | some env' => evDraw pg D f nt ops (predsOf ops.toList) n0 (pre.length + 1) rest env' st ((pre.length, o, ⟨[], [], false⟩) :: tr) md k | none => none)) = some r ->
    ∃ l env' st' tr' md', l.map (·.1) = pre.map (·.1) ++ (o :: rest) ∧ Pre pg D f nt ops n0 df0 p0 s0 l tr' md' env' st' ∧
     match md' with | none => k .normal env' st' = some r | some m => ∃ y, canon pg f n0 (undefE ops env', m.2.2) = some y ∧ k (.pan m.2.1) y.1 y.2 = some r := by
   intro env2 he hg hh
   obtain ⟨hc, hh2⟩ := condR_some hh
   simp only [Bool.or_eq_false_iff, Bool.not_eq_false'] at hc
   split at hh2
   ·rename_i env1 hp
    obtain ⟨h3, h4⟩ := putE_get hp
    refine next hh2 (hP.push (E := ⟨false, .hole, [], [], [], ⟨[], [], false⟩⟩) hal ⟨hg, h4, (fun hon => by cases hon), fun _ => ⟨rfl, rfl⟩⟩ hc.1 (fun _ => rfl) ⟨fun t => ?_, fun id => ?_, ?_, ?_⟩ hP.df hP.pn fun i x _ _ _ hap => by rw [Ft.apart_nil] at hap; cases hap)
    ·rw [h3, app_e, he, hs.e]
    ·rw [app_g]; simpa using hs.g id
    ·rw [app_u]; simpa using hs.u
    ·rw [app_d]; simpa using hs.d
   ·cases hh2
  have go : ∀ {env2 : Env}, (∀ t, env2.get t = env.get t) -> GuardF ops (runL (alB (predsOf ops.toList) md.at) 0 pre s0) o true ->
    goDraw pg D f (envF env2 (tmpsOf o)) o (footOf (envF env2 (tmpsOf o)) st.bl o) (fun ft => okDraw ops ((predsOf ops.toList).getD pre.length []) o ft tr && md.ok n0 o ft) st (fun ft v st' => match putE nt env2 o.dst v with
     | some env' => bif recheck pg f ((predsOf ops.toList).getD pre.length []) env' st'.bl ft ((pre.length, o, ft) :: tr) tr then evDraw pg D f nt ops (predsOf ops.toList) n0 (pre.length + 1) rest env' st' ((pre.length, o, ft) :: tr) md k else none
     | none => none)
     (fun ft v st' => bif okPan (predsOf ops.toList) n0 pre.length tr then (match pur pg [] pdeep v with
     | some v' => evDraw pg D f nt ops (predsOf ops.toList) n0 (pre.length + 1) rest env2 st ((pre.length, o, ft) :: tr) (some (pre.length, v', st')) k
     | none => none) else none) = some r ->
    ∃ l env' st' tr' md', l.map (·.1) = pre.map (·.1) ++ (o :: rest) ∧ Pre pg D f nt ops n0 df0 p0 s0 l tr' md' env' st' ∧
     match md' with | none => k .normal env' st' = some r | some m => ∃ y, canon pg f n0 (undefE ops env', m.2.2) = some y ∧ k (.pan m.2.1) y.1 y.2 = some r := by
   intro env2 he hg hh
   generalize hft : footOf (envF env2 (tmpsOf o)) st.bl o = ft at hh
   have hrow : ft.row = isRow o := by rw [<- hft]; exact footOf_row
   unfold goDraw at hh
   obtain ⟨hc, hh2⟩ := condR_some hh
   simp only [Bool.or_eq_false_iff, Bool.not_eq_false', Bool.and_eq_true] at hc
   obtain ⟨⟨hok, hmok⟩, hnd⟩ := hc
   have hmok' : md.at ≠ none -> isRow o = false ∧ meets ft.wr n0 = false := fun hne => by
    cases md with
    | none => exact absurd rfl hne
    | some m =>
     have h1 : (!isRow o && !meets ft.wr n0) = true := hmok
     rw [Bool.and_eq_true, Bool.not_eq_true', Bool.not_eq_true'] at h1
     exact h1
   have hB : ∀ id, getB (subB st.bl (dedup (ft.rd ++ ft.wr))) id = if id ∈ ft.rd ∨ id ∈ ft.wr then (runL (alB (predsOf ops.toList) md.at) 0 pre s0).g id else none := fun id => by
    rw [getB_subB, hs.g]
    have : id ∈ dedup (ft.rd ++ ft.wr) ↔ (id ∈ ft.rd ∨ id ∈ ft.wr) := by rw [mem_dedup, List.mem_append]
    by_cases h3 : id ∈ ft.rd ∨ id ∈ ft.wr
    ·rw [if_pos (this.2 h3), if_pos h3]
    ·rw [if_neg fun h => h3 (this.1 h), if_neg h3]
   have henv : ∀ t, t ∈ tmpsOf o -> Env.get (envF env2 (tmpsOf o)) t = (runL (alB (predsOf ops.toList) md.at) 0 pre s0).e t := fun t ht => by rw [envF_get env2 ht, he, hs.e]
   have hkeys : ∀ {bl' : List (Nat × Blk)}, (bl'.all fun p => (dedup (ft.rd ++ ft.wr)).contains p.1) = true -> ∀ id kk, getB bl' id = some kk -> id ∈ ft.rd ∨ id ∈ ft.wr := fun hb id kk hk => by
    have := keys_of hb hk
    rw [mem_dedup, List.mem_append] at this
    exact this
   have hFt : ∀ {v : V} {bl' : List (Nat × Blk)} {u d : List Nat}, (bl'.all fun p => (dedup (ft.rd ++ ft.wr)).contains p.1) = true -> FtOk o ⟨true, v, bl', u, d, ft⟩ := fun hb =>
    ⟨hrow, fun hrd => by rw [<- hft]; exact footOf_rd hrd, fun hrd => by rw [<- hft]; exact footOf_wr hrd, fun ha d hd => by rw [<- hft]; exact footOf_mk ha hd, hkeys hb⟩
   rcases cond_some hh2 with ⟨hr, hh3⟩ | ⟨hr, hh3⟩
   ·have hmd : md = none := by
     cases md with
     | none => rfl
     | some m => have := (hmok' nofun).1; rw [hr] at this; cases this
    rw [opS_step] at hh3
    obtain ⟨q, hq, hh4⟩ := Option.bind_eq_some_iff.1 hh3
    cases q with
    | pan v st' =>
     subst hmd
     obtain ⟨hb, hh5⟩ := condL_some (hh4 : (bif (st'.bl.all fun p => (dedup (ft.rd ++ ft.wr)).contains p.1) then _ else none) = some r)
     obtain ⟨hpan, hh6⟩ := condL_some hh5
     split at hh6
     ·rename_i v' hv'
      obtain ⟨h5, h6⟩ := step1_dfp hr hnd hq
      have hq' : step1 pg D f (envF env2 (tmpsOf o)) o ⟨subB st.bl (dedup (ft.rd ++ ft.wr)), (runL (fun _ => true) 0 pre s0).u, (runL (fun _ => true) 0 pre s0).d, [], none⟩ = some (.pan v ⟨st'.bl, st'.used, st'.dead, [], none⟩) := by
       have hsu := hs.u
       have hsd := hs.d
       have h8 := step1_bare (pg := pg) (D := D) (f := f) (o := o) (env := envF env2 (tmpsOf o)) (st := { st with bl := subB st.bl (dedup (ft.rd ++ ft.wr)) }) [] none hr hnd
       rw [hq] at h8
       show step1 pg D f (envF env2 (tmpsOf o)) o ⟨subB st.bl (dedup (ft.rd ++ ft.wr)), (runL (alB (predsOf ops.toList) (Md.at none)) 0 pre s0).u, (runL (alB (predsOf ops.toList) (Md.at none)) 0 pre s0).d, [], none⟩ = _
       rw [<- hsu, <- hsd]
       exact h8
      have hdie := Pre.die (o := o) (E := ⟨true, .undef, st'.bl, st'.used, st'.dead, ft⟩) (v := v') (st' := { st' with bl := overB st.bl st'.bl ft.wr }) htopo hP
       ⟨hg, hnd, hr, hFt hb, v, _, _, hv', henv, hB, hq'⟩ hok hpan (fun id => by
        rw [app_g]
        show getB (overB st.bl st'.bl ft.wr) id = _
        rw [getB_overB, hs.g] <;> rfl) rfl rfl (h5.trans hP.df) (h6.trans hP.pn)
      refine next hh6 ⟨hdie.tr, ⟨fun t => (he t).trans (hdie.same.e t), hdie.same.g, hdie.same.u, hdie.same.d⟩, hdie.df, hdie.pn, hdie.op, hdie.ind, hdie.rc, hdie.pan, hdie.far⟩
     ·cases hh6
    | val v st' =>
     obtain ⟨hb, hh5⟩ := condL_some (hh4 : (bif (st'.bl.all fun p => (dedup (ft.rd ++ ft.wr)).contains p.1) then _ else none) = some r)
     dsimp only at hh5
     split at hh5
     ·rename_i env1 hp
      obtain ⟨h3, h4⟩ := putE_get hp
      obtain ⟨h5, h6⟩ := step1_df hr hnd hq
      have hq' : step1 pg D f (envF env2 (tmpsOf o)) o ⟨subB st.bl (dedup (ft.rd ++ ft.wr)), (runL (alB (predsOf ops.toList) md.at) 0 pre s0).u, (runL (alB (predsOf ops.toList) md.at) 0 pre s0).d, [], none⟩ = some (.val v ⟨st'.bl, st'.used, st'.dead, [], none⟩) := by
       rw [<- hs.u, <- hs.d]
       have h8 := step1_bare (pg := pg) (D := D) (f := f) (o := o) (env := envF env2 (tmpsOf o)) (st := { st with bl := subB st.bl (dedup (ft.rd ++ ft.wr)) }) [] none hr hnd
       rw [hq] at h8
       exact h8
      obtain ⟨hre, hh6⟩ := condL_some hh5
      have hs1 : SameF env1 { st' with bl := overB st.bl st'.bl ft.wr } (app (o, ⟨true, v, st'.bl, st'.used, st'.dead, ft⟩) (runL (alB (predsOf ops.toList) md.at) 0 pre s0)) := by
       refine ⟨fun t => ?_, fun id => ?_, ?_, ?_⟩
       ·rw [h3, app_e, he, hs.e]
       ·rw [app_g]
        show getB (overB st.bl st'.bl ft.wr) id = _
        rw [getB_overB, hs.g] <;> rfl
       ·rw [app_u, if_pos (by rw [hrow]; exact hr)]
       ·rw [app_d, if_pos (by rw [hrow]; exact hr)]
      exact next hh6 (hP.push (E := ⟨true, v, st'.bl, st'.used, st'.dead, ft⟩) hal ⟨hg, h4, fun _ => ⟨hnd, hFt hb, _, _, henv, hB, fun _ => hq', (fun hnr => by rw [hr] at hnr; cases hnr)⟩, (fun hon => by cases hon)⟩ hok (fun hne => (hmok' hne).2)
       hs1 (h5.trans hP.df) (h6.trans hP.pn) (recheck_spec hP hal hok hs1 hre))
     ·cases hh5
   ·rw [opB_step] at hh3
    obtain ⟨q, hq, hh4⟩ := Option.bind_eq_some_iff.1 hh3
    obtain ⟨v, bl'⟩ := q
    obtain ⟨hb, hh5⟩ := condL_some (hh4 : (bif (bl'.all fun p => (dedup (ft.rd ++ ft.wr)).contains p.1) then _ else none) = some r)
    dsimp only at hh5
    split at hh5
    ·rename_i env1 hp
     obtain ⟨h3, h4⟩ := putE_get hp
     obtain ⟨hre, hh6⟩ := condL_some hh5
     have hs1 : SameF env1 { st with bl := overB st.bl bl' ft.wr } (app (o, ⟨true, v, bl', [], [], ft⟩) (runL (alB (predsOf ops.toList) md.at) 0 pre s0)) := by
      refine ⟨fun t => ?_, fun id => ?_, ?_, ?_⟩
      ·rw [h3, app_e, he, hs.e]
      ·rw [app_g]
       show getB (overB st.bl bl' ft.wr) id = _
       rw [getB_overB, hs.g] <;> rfl
      ·rw [app_u, if_neg (by rw [hrow, hr]; nofun)]; exact hs.u
      ·rw [app_d, if_neg (by rw [hrow, hr]; nofun)]; exact hs.d
     exact next hh6 (hP.push (E := ⟨true, v, bl', [], [], ft⟩) hal ⟨hg, h4, fun _ => ⟨hnd, hFt hb, _, _, henv, hB, (fun hnr => by rw [hr] at hnr; cases hnr), fun _ => hq⟩, (fun hon => by cases hon)⟩ hok (fun hne => (hmok' hne).2)
      hs1 hP.df hP.pn (recheck_spec hP hal hok hs1 hre))
    ·cases hh5
  dsimp only at h
  split at h
  ·rename_i hg
   exact go (fun _ => rfl) (by unfold GuardF; rw [hg]) h
  ·rename_i g want hg
   split at h
   ·cases h
   ·rename_i t ht
    have hget : ∀ b, env.get t = .bool b -> ∀ t', Env.get ((t, .bool b) :: env) t' = env.get t' := fun b hb t' => by
     show (bif Nat.beq t t' then V.bool b else env.get t') = _
     by_cases htt : t = t'
     ·subst htt; rw [Nat.beq_refl, hb]; rfl
     ·rw [nbeq htt]; rfl
    have hG : ∀ (b : Bool), env.get t = .bool b -> ∀ on, on = (b == want) -> GuardF ops (runL (alB (predsOf ops.toList) md.at) 0 pre s0) o on := fun b hb on hon => by
     unfold GuardF
     rw [hg]
     exact ⟨t, ht, .inl ⟨b, by rw [<- hs.e]; exact hb, hon⟩⟩
    split at h
    ·rename_i b hb
     cases b <;> cases want
     ·exact go (hget _ hb) (hG _ hb _ rfl) h
     ·exact skip (hget _ hb) (hG _ hb _ rfl) h
     ·exact skip (hget _ hb) (hG _ hb _ rfl) h
     ·exact go (hget _ hb) (hG _ hb _ rfl) h
    ·rename_i hb
     refine skip (fun _ => rfl) ?_ h
     unfold GuardF
     rw [hg]
     exact ⟨t, ht, .inr ⟨by rw [<- hs.e]; exact hb, rfl⟩⟩
    ·cases h
end
theorem getB_keys {bl : List (Nat × Blk)} {id : Nat} {b : Blk} (h : getB bl id = some b) : id ∈ keysOf bl := by
 induction bl with
 | nil => cases h
 | cons p l ih =>
  obtain ⟨i, b'⟩ := p
  unfold getB at h
  by_cases hi : i = id
  ·subst hi; exact List.mem_cons_self ..
  ·rw [nbeq hi] at h
   exact List.mem_cons_of_mem _ (ih h)
theorem DefRep.cut {P : Program} {n0 : List Nat} {rows : Nat -> Option (Value × TypeId × Nat)} {l : List (FuncId × List V)} {ds : List Deferred} (h : DefRep P c l ds) (hn : (l.all fun p => capIn n0 p.2) = true) : DefRep P (c.cut n0 rows) l ds := by
 induction h with
 | nil => exact .nil
 | cons hl h _ ih =>
  rw [List.all_cons, Bool.and_eq_true] at hn
  refine .cons hl (fun j hj => ?_) (ih hn.2)
  obtain ⟨id, off, h1, h2⟩ := capIn_at hn.1 hj
  have h3 := h j hj
  rw [h1] at h3 ⊢
  obtain ⟨b, o, n, h4, h5⟩ := h3.ref_inv
  rw [h5]
  exact .ref off (show (if n0.contains id then c.blk id else none) = some (b, o, n) by rw [if_pos h2]; exact h4)
theorem At.canon {n0 : List Nat} {y : Env × St} (hA : At pg p0 c0 own0 nt c own env st a) (h : canon pg f n0 (env, st) = some y) (hn : ∀ i r, c0.blk i = some r -> i ∈ n0) : ∃ c1 own1, c1.w = c.w ∧ c1.prot = c.prot ∧ At pg p0 c0 own0 nt c1 own1 y.1 y.2 a := by
 obtain ⟨env', st'⟩ := y
 obtain ⟨c1, own1, h1, h2, h3, h4, h5, h6, h7, h8, h9, ⟨rows, h10⟩, h11⟩ := canon_sound hA.inv hA.env h
 refine ⟨c1, own1, h1, h2, h3, h4, hA.size, (by rw [h6, h10]; exact hA.defs.cut h11), h7.trans hA.pn, hA.after.trans ⟨?_, fun b x _ hn => h5 b x hn, fun b x hp => ⟨by rw [h2]; exact hp, by rw [h1]⟩, fun b x hp => .inl (by rw [<- h2]; exact hp), h9, fun id r ho => absurd ho (hA.out id)⟩, fun i r hr => h8 i r (hn i r hr) (hA.blk i r hr), fun id => by rw [h9]; exact hA.out id⟩
 rw [h1]; exact Frame.refl _ _
theorem At.keys (hA : At pg p0 c0 own0 nt c own env st a) : ∀ i r, c0.blk i = some r -> i ∈ keysOf st.bl := fun i r hr => by
 rcases hA.inv.inv.dom i r (hA.blk i r hr) with ⟨b, hb⟩ | ho
 ·exact getB_keys hb
 ·exact absurd ho (hA.out i)
theorem takeB_congr {bl bl' : List (Nat × Blk)} : ∀ {n0 : List Nat}, (∀ id, id ∈ n0 -> getB bl id = getB bl' id) -> takeB bl n0 = takeB bl' n0
 | [], _ => rfl
 | id :: n0, h => by
  unfold takeB
  rw [h id (List.mem_cons_self ..), takeB_congr fun i hi => h i (List.mem_cons_of_mem _ hi)]
theorem canon_congr {n0 : List Nat} {st st' : St} {y : Env × St} (hb : ∀ id, id ∈ n0 -> getB st.bl id = getB st'.bl id) (hdd : st.dead = st'.dead) (hdf : st.df = st'.df) (hpn : st.pn = st'.pn) (h : canon pg f n0 (env, st) = some y) : canon pg f n0 (env, st') = some y := by
 obtain ⟨bl, u, d, df, pn⟩ := st
 obtain ⟨bl', u', d', df', pn'⟩ := st'
 dsimp only at hb hdd hdf hpn
 subst hdd; subst hdf; subst hpn
 unfold canon at h ⊢
 dsimp only at h ⊢
 rw [<- takeB_congr hb]
 exact h
theorem undefE_get {env : Env} {t : Tmp} : (undefE ops env).get t = .undef ∨ ((undefE ops env).get t = env.get t ∧ ∀ o, o ∈ ops.toList -> o.dst ≠ some t) := by
 unfold undefE
 have gen : ∀ (l : List Oper), Env.get ((l.filterMap (·.dst)).map (fun t => (t, V.undef)) ++ env) t = .undef ∨ (Env.get ((l.filterMap (·.dst)).map (fun t => (t, V.undef)) ++ env) t = env.get t ∧ ∀ o, o ∈ l -> o.dst ≠ some t) := by
  intro l
  induction l with
  | nil => exact .inr ⟨rfl, fun o h => by cases h⟩
  | cons o l ih =>
   cases hd : o.dst with
   | none =>
    rw [List.filterMap_cons, hd]
    rcases ih with h | ⟨h1, h2⟩
    ·exact .inl h
    ·exact .inr ⟨h1, fun o' ho' => by
      rcases List.mem_cons.1 ho' with rfl | ho'
      ·rw [hd]; nofun
      ·exact h2 o' ho'⟩
   | some d =>
    rw [List.filterMap_cons, hd]
    by_cases hdt : d = t
    ·subst hdt
     left
     show (bif Nat.beq d d then V.undef else _) = _
     rw [Nat.beq_refl]; rfl
    ·have e : Env.get (((d, V.undef) :: (l.filterMap (·.dst)).map (fun t => (t, V.undef))) ++ env) t = Env.get ((l.filterMap (·.dst)).map (fun t => (t, V.undef)) ++ env) t := by
      show (bif Nat.beq d t then V.undef else _) = _
      rw [nbeq hdt]; rfl
     show Env.get (((d, V.undef) :: (l.filterMap (·.dst)).map (fun t => (t, V.undef))) ++ env) t = .undef ∨ _
     rcases ih with h | ⟨h1, h2⟩
     ·exact .inl (e.trans h)
     ·exact .inr ⟨e.trans h1, fun o' ho' => by
       rcases List.mem_cons.1 ho' with rfl | ho'
       ·rw [hd]; intro h; cases h; exact hdt rfl
       ·exact h2 o' ho'⟩
 exact gen ops.toList
def FS.fin (s : FS) : Prop := ∃ bl, ∀ id, getB bl id = s.g id
theorem FS.fin_app {s : FS} {x : Oper × Eff} (h : s.fin) : (app x s).fin := by
 obtain ⟨bl, h⟩ := h
 exact ⟨overB bl x.2.bl x.2.ft.wr, fun id => by rw [app_g, getB_overB, h] <;> rfl⟩
theorem FS.fin_run {p : Nat -> Bool} : ∀ {l : List (Oper × Eff)} {i : Nat} {s : FS}, s.fin -> (runL p i l s).fin
 | [], i, s, h => h
 | x :: l, i, s, h => by
  unfold runL
  cases p i with
  | true => exact FS.fin_run (FS.fin_app h)
  | false => exact FS.fin_run h
theorem evReg_sound {id : Nat} {draw : Bool} (hD : DSound pg D) (hmix : pg.P.follows .mixedOrders = true) (hk : KOk pg p0 r c0 own0 nt k Q) (h : evReg pg D f nt ops draw env st k = some r) (hA : At pg p0 c0 own0 nt c own env st a) :
  (Code.region id ops draw).wp pg.P Q a c.w := by
 unfold evReg at h
 cases draw with
 | false => exact wp_region_list (evOps_sound hD hk _ _ _ _ _ _ h hA)
 | true =>
  obtain ⟨htopo, h1⟩ := condL_some h
  obtain ⟨l, env', st', tr', md', g1, g2, g3⟩ := evDraw_run (s0 := FS.of env st) htopo ops.toList 0 env st [] none [] h1 rfl
   ⟨fun j x h => by simp at h, SameF.of env st, rfl, hA.pn, fun j x h => by simp at h, fun i j x y _ h => by simp at h, fun i j x y _ h => by simp at h, (fun m hm => by cases hm), (fun m hm => by cases hm)⟩
  have hsame : l.map (·.1) = ops.toList := by simpa using g1
  have hR : RunT pg D f nt ops l (FS.of env st) md'.at := ⟨hsame, g2.op, g2.ind, g2.rc⟩
  refine wp_region_any hmix ?_
  have hF := hA.toF (SameF.of env st)
  have hF' : FAt pg st.df c0 own0 nt c.drw own (FS.of env st) a :=
   ⟨hF.inv.drw, hF.domr, fun t => (hF.env t).mono (Ext.drw c), hF.size, hF.defs.mono (Ext.drw c), hF.after.trans (After.drw c own), hF.blk, hF.out⟩
  refine any_sound (df0 := st.df) (c0 := c0) (own0 := own0) (c := c.drw) (own := own) hD hR htopo (fun hmd c1 own1 a1 hF1 => ?_) (fun i0 hmd => ?_) ops.size _ a (by simp) (cnt_le _ _) (fun j hj => ?_) (fun j o hj hL => ?_) ?_
  ·cases md' with
   | some m => cases hmd
   | none => exact hk .normal env' st' c1 own1 a1 g3 (hF1.toA g2.same g2.df g2.pn)
  ·cases md' with
   | none => cases hmd
   | some m =>
    cases hmd
    obtain ⟨y, g4, g5⟩ := g3
    obtain ⟨x, g6, g7, g8, g9, g10, g11, g12⟩ := g2.pan m rfl
    refine ⟨x, m.2.1, g6, g7, fun L c1 own1 a1 c2 own2 z hF1 hal hpr hI2 hd2 ha2 hx2 hz => ?_⟩
    have hrow : x.2.ft.row = true := by rw [g7.ft.row]; exact g7.row
    have hagree : ∀ id, id ∈ keysOf st.bl -> (runL L 0 l (FS.of env st)).g id = (runL (fun j => Nat.blt j m.1 && alB (predsOf ops.toList) (Md.at (some m)) j) 0 l (FS.of env st)).g id := fun id hid => FS.g_eq (runL_agree rfl fun j y hy hne hw => by
     rw [Nat.zero_add] at hne
     have hnm : ∀ {y : Oper × Eff}, l[j]? = some y -> alB (predsOf ops.toList) (Md.at (some m)) j = true -> j ∉ (predsOf ops.toList).getD m.1 [] -> id ∈ y.2.ft.wr -> False := fun hy ha hn hw => meets_false (g2.far m rfl j _ hy ha hn) hw hid
     cases hL : L j with
     | true =>
      have ha := hal j hL
      rw [hL, ha, Bool.and_true] at hne
      have hnl : ¬ j < m.1 := fun h => hne (by symm; rw [Nat.blt_eq]; exact h)
      exact hnm hy ha (fun hp => hnl (preds_lt htopo (m.1 + 1) m.1 (by omega) _ hp)) hw
     | false =>
      rw [hL] at hne
      cases ha : alB (predsOf ops.toList) (Md.at (some m)) j with
      | false => rw [ha, Bool.and_false] at hne; exact absurd rfl hne
      | true => exact hnm hy ha (fun hp => by rw [hpr j hp] at hL; cases hL) hw)
    obtain ⟨bl, hbl⟩ : (app x (runL L 0 l (FS.of env st))).fin := FS.fin_app (FS.fin_run ⟨st.bl, fun id => rfl⟩)
    have hbf : getB bl = (app x (runL L 0 l (FS.of env st))).g := funext hbl
    have hlive : Live ⟨bl, m.2.2.used, m.2.2.dead, m.2.2.df, m.2.2.pn⟩ = (app x (runL L 0 l (FS.of env st))).live := by
     unfold Live FS.live
     rw [app_u, app_d, if_pos hrow, if_pos hrow, g9, g10]
    have hA2 : At pg p0 c0 own0 nt c2 own2 (undefE ops env') ⟨bl, m.2.2.used, m.2.2.dead, m.2.2.df, m.2.2.pn⟩ a1 := by
     refine ⟨⟨by show Inv pg c2 own2 (getB bl) _; rw [hbf, hlive]; exact hI2, fun t r hr => ?_⟩, fun t => ?_, hF1.size, ?_, g12, hF1.after.trans ha2, fun i r hr => hx2.blk _ _ (hF1.blk i r hr), fun id => by rw [ha2.far.1]; exact hF1.out id⟩
     ·have := hd2 t r hr
      rw [app_u, if_pos hrow] at this
      show m.2.2.used.contains t = true
      rw [g9]; exact this
     ·rcases undefE_get (ops := ops) (env := env') (t := t) with h | ⟨h, hnd⟩
      ·rw [h]; exact .undef _
      ·rw [h]
       have e1 : env'.get t = (runL L 0 l (FS.of env st)).e t := by
        rw [g2.same.e]
        refine FS.e_eq (runL_agree rfl fun j y hy _ hw => ?_)
        exact hnd y.1 (by rw [<- hsame]; exact List.mem_map_of_mem (List.mem_of_getElem? hy)) hw
       rw [e1]
       exact (hF1.env t).mono hx2
     ·show DefRep pg.P c2 m.2.2.df a1.defers
      rw [g11]; exact hF1.defs.mono hx2
    have hcan : canon pg f (keysOf st.bl) (undefE ops env', ⟨bl, m.2.2.used, m.2.2.dead, m.2.2.df, m.2.2.pn⟩) = some y := canon_congr (st := m.2.2) (fun id hid => by
     show getB m.2.2.bl id = getB bl id
     rw [g8, hbl, app_g, app_g, hagree id hid]) rfl rfl rfl g4
    obtain ⟨c3, own3, h3, h4, hA3⟩ := hA2.canon hcan hA.keys
    have := hk (.pan m.2.1) y.1 y.2 c3 own3 a1 g5 hA3 z (.pure (by rw [h3, h4]; exact hz))
    rw [h3] at this
    exact this
  ·have : (Array.replicate ops.size false).getD j false = false := by
    simp [Array.getD_eq_getD_getElem?, Array.getElem?_replicate]
    split <;> rfl
   rw [this] at hj; cases hj
  ·have : (Array.replicate ops.size false).getD j false = false := by
    simp [Array.getD_eq_getD_getElem?, Array.getElem?_replicate]
    split <;> rfl
   have hL' : (Array.replicate ops.size false).getD j false = true := hL
   rw [this] at hL'; cases hL'
  ·have : runL (fun j => (Array.replicate ops.size false).getD j false) 0 l (FS.of env st) = FS.of env st := funext fun loc => runL_same fun j x hj hp => by
    have h2 : (Array.replicate ops.size false).getD (0 + j) false = false := by
     simp [Array.getD_eq_getD_getElem?, Array.getElem?_replicate]
     split <;> rfl
    rw [h2] at hp; cases hp
   rw [this]; exact hF'
end
end Go.Proofs.Ab
namespace Go.Proofs.Ab
open Go
section
variable {p0 : Option (Option V)} {df0 : List (FuncId × List V)} {pg : Pg} {D : DSem} {f : FuncId} {c0 c : Cx} {own0 own : Own} {nt : Nat} {ops : Array Oper} {Q : Exit -> Act -> World -> Prop} {env : Env} {st : St} {r : Res} {k : K} {a : Act}
theorem lfp_some {X R : Type} {Φ : (X -> Option R) -> X -> Option R} {x : X} {r : R} (h : lfp Φ x = some r) : ∃ n, iter Φ n x = some r := by
 unfold lfp at h
 split at h
 ·rename_i hex
  cases h
  exact Classical.choose_spec hex
 ·cases h
theorem At.setC {o : Operand} {b : Bool} (hA : At pg p0 c0 own0 nt c own env st a) (h : evO pg env 0 o = .bool b) : At pg p0 c0 own0 nt c own (setC env o b) st a := by
 cases o with
 | tmp t => exact hA.known h
 | _ => exact hA
theorem ev_sound (hD : DSound pg D) (hmix : pg.P.follows .mixedOrders = true) : ∀ (code : Code) {k : K} {Q : Exit -> Act -> World -> Prop} {env : Env} {st : St} {c : Cx} {own : Own} {a : Act}, KOk pg p0 r c0 own0 nt k Q -> ev pg D f nt code env st k = some r ->
  At pg p0 c0 own0 nt c own env st a -> code.wp pg.P Q a c.w := by
 intro code
 induction code with
 | skip => intro k Q env st c own a hk h hA; exact wp_skip (hk .normal env st c own a h hA)
 | label l => intro k Q env st c own a hk h hA; exact wp_label (hk .normal env st c own a h hA)
 | region id ops draw =>
  intro k Q env st c own a hk h hA
  unfold ev at h
  rcases cond_some h with ⟨hj, h1⟩ | ⟨hj, h1⟩
  ·split at h1
   ·rename_i x hx
    obtain ⟨c1, own1, hw, _, hA1⟩ := hA.canon hx hA.keys
    rw [<- hw]
    rw [JR_eq] at h1
    exact evReg_sound hD hmix hk h1 hA1
   ·cases h1
  ·exact evReg_sound hD hmix hk h1 hA
 | seq x y ihx ihy =>
  intro k Q env st c own a hk h hA
  unfold ev at h
  refine wp_seq (ihx (k := kSeq (ev pg D f nt y) k) (fun ex env st c own a h hA => ?_) h hA)
  cases ex with
  | normal => exact ihy hk h hA
  | exit id => exact hk (.exit id) env st c own a h hA
  | ret => exact hk .ret env st c own a h hA
  | pan v => exact hk (.pan v) env st c own a h hA
 | cond o x y ihx ihy =>
  intro k Q env st c own a hk h hA
  unfold ev at h
  split at h
  ·rename_i b hb
   have hv := hA.env.eval hA.inv.inv 0 o
   rw [hb] at hv
   refine wp_cond hv.bool_inv ?_
   cases b with
   | true => exact ihx hk h (hA.setC hb)
   | false => exact ihy hk h (hA.setC hb)
  ·cases h
 | block id x ih =>
  intro k Q env st c own a hk h hA
  unfold ev at h
  refine wp_block (ih (k := kBlk id k) (fun ex env st c own a h hA => ?_) h hA)
  cases ex with
  | normal => exact hk .normal env st c own a h hA
  | exit id' =>
   show (if id' = id then Q .normal a c.w else Q (.exit id') a c.w)
   rcases cond_some (h : (bif Nat.beq id' id then k .normal env st else k (.exit id') env st) = some r) with ⟨hi, h1⟩ | ⟨hi, h1⟩
   ·rw [if_pos (by simpa using hi)]
    exact hk .normal env st c own a h1 hA
   ·rw [if_neg (by intro he; subst he; simp at hi)]
    exact hk (.exit id') env st c own a h1 hA
  | ret => exact hk .ret env st c own a h hA
  | pan v => exact hk (.pan v) env st c own a h hA
 | loop x ih =>
  intro k Q env st c own a hk h hA
  unfold ev at h
  split at h
  ·rename_i y hy
   have hn := hA.keys
   obtain ⟨c1, own1, hw, _, hA1⟩ := hA.canon hy hn
   obtain ⟨n, hit⟩ : ∃ n, iter (fun rec x_1 => ev pg D f nt x x_1.1 x_1.2 (kLoop (canon pg f (keysOf st.bl)) rec k)) n y = some r := by
    rcases cond_some h with ⟨_, h⟩ | ⟨_, h⟩
    ·exact lfp_some h
    ·exact ⟨_, h⟩
   have key : ∀ (n : Nat) (y : Env × St) (c1 : Cx) (own1 : Own) (a : Act), At pg p0 c0 own0 nt c1 own1 y.1 y.2 a ->
     iter (fun rec x_1 => ev pg D f nt x x_1.1 x_1.2 (kLoop (canon pg f (keysOf st.bl)) rec k)) n y = some r -> Code.rounds pg.P x Q n a c1.w := by
    intro n
    induction n with
    | zero => intro y c1 own1 a hA1 hit; cases hit
    | succ n ihn =>
     intro y c1 own1 a hA1 hit
     rw [rounds_succ]
     refine ih (k := kLoop (canon pg f (keysOf st.bl)) (iter (fun rec x_1 => ev pg D f nt x x_1.1 x_1.2 (kLoop (canon pg f (keysOf st.bl)) rec k)) n) k) (fun ex env1 st1 c2 own2 a2 h2 hA2 => ?_) hit hA1
     cases ex with
     | normal =>
      dsimp only [kLoop] at h2
      split at h2
      ·rename_i z hz
       obtain ⟨c3, own3, hw3, _, hA3⟩ := hA2.canon hz hn
       show Code.rounds pg.P x Q n a2 c2.w
       rw [<- hw3]
       exact ihn z c3 own3 a2 hA3 h2
      ·cases h2
     | exit id => exact hk (.exit id) env1 st1 c2 own2 a2 h2 hA2
     | ret => exact hk .ret env1 st1 c2 own2 a2 h2 hA2
     | pan v => exact hk (.pan v) env1 st1 c2 own2 a2 h2 hA2
   rw [<- hw]
   exact wp_loop_rounds n (key n y c1 own1 a hA1 hit)
  ·cases h
 | rangeFunc f p x y ihx ihy => intro k Q env st c own a hk h hA; unfold ev at h; cases h
 | exit id => intro k Q env st c own a hk h hA; exact wp_exit (hk (.exit id) env st c own a h hA)
 | scope x ih =>
  intro k Q env st c own a hk h hA
  unfold ev at h
  refine wp_scope_straight (ih (k := k) (fun ex env st c own a h hA => ?_) h hA)
  cases ex with
  | normal => exact hk .normal env st c own a h hA
  | exit id => exact hk (.exit id) env st c own a h hA
  | ret => exact hk .ret env st c own a h hA
  | pan v => exact hk (.pan v) env st c own a h hA
 | goto l => intro k Q env st c own a hk h hA; unfold ev at h; cases h
 | ret => intro k Q env st c own a hk h hA; exact wp_ret (hk .ret env st c own a h hA)
 | refuse s => intro k Q env st c own a hk h hA; unfold ev at h; cases h
end
end Go.Proofs.Ab
namespace Go.Proofs.Ab
open Go
section
variable {p0 : Option (Option V)} {df0 : List (FuncId × List V)} {pg : Pg} {D : DSem} {f : FuncId} {c0 c : Cx} {own0 own : Own} {nt : Nat} {Q : Exit -> Act -> World -> Prop} {env : Env} {st : St} {r : Res} {k : K} {a : Act} {fn : Func} {live : Nat -> Prop}
theorem canCells_border {n0 dead ownl : List Nat} : ∀ {cs cs' : List V} {j0 : Nat} {gv gv' : Gv}, canCells pg true n0 dead ownl j0 cs gv = some (cs', gv') -> ∀ n, border (cs'.getD n .undef) = cs'.getD n .undef
 | [], cs', j0, gv, gv', h, n => by cases h; simp [border]
 | v :: cs, cs', j0, gv, gv', h, n => by
  unfold canCells at h
  rcases cond_some h with ⟨ho, h1⟩ | ⟨ho, h1⟩
  ·split at h1
   ·rename_i v' g1 hgo
    split at h1
    ·rename_i cs1 g2 hrest
     cases h1
     cases n with
     | zero =>
      unfold giveOwn at hgo
      split at hgo
      ·cases hgo; rfl
      ·obtain ⟨_, h2⟩ := condR_some hgo; cases h2; rfl
      ·cases hgo
     | succ n => simpa using canCells_border hrest n
    ·cases h1
   ·cases h1
  ·split at h1
   ·rename_i cs1 g2 hrest
    cases h1
    cases n with
    | zero => exact border_idem _
    | succ n => simpa using canCells_border hrest n
   ·cases h1
theorem canBlks_border {n0 dead : List Nat} : ∀ {ks ks' : List Blk} {gv gv' : Gv}, canBlks pg true n0 dead ks gv = some (ks', gv') ->
  ∀ (i : Nat) (t : TypeId) (cs : List V) (fz : Bool) (j : Nat), ks'[i]? = some (.cells t cs fz) -> border (cs.getD j .undef) = cs.getD j .undef
 | [], ks', gv, gv', h, i, t, cs, fz, j, hi => by cases h; simp at hi
 | k0 :: ks, ks', gv, gv', h, i, t, cs, fz, j, hi => by
  unfold canBlks at h
  split at h
  ·rename_i k1 g1 hk
   split at h
   ·rename_i ks1 g2 hrest
    cases h
    cases i with
    | zero =>
     simp at hi
     subst hi
     unfold canBlk at hk
     split at hk
     ·split at hk
      ·rename_i cs' g' hc
       cases hk
       exact canCells_border hc j
      ·cases hk
     ·cases hk
     ·cases hk
    | succ i => exact canBlks_border hrest i t cs fz j (by simpa using hi)
   ·cases h
  ·cases h
theorem leave_sound {m : Nat} {mk : V -> Out} {v : V} {x : Value} (hA : At pg p0 c0 own0 nt c own env st a) (hm : ∀ i r, i < m -> c0.blk i = some r -> True) (h : leave pg m st mk v = some r) (hv : VRep pg.P c v x) :
  ∃ c1 own1 v', r.pn = st.pn ∧ c1.w = c.w ∧ r.out = mk v' ∧ PRep pg.P c1.w c1.prot v' x ∧ After c0 own0 c1 own1 ∧ (∀ i r, i < m -> c0.blk i = some r -> c1.blk i = some r) ∧ Inv pg c1 own1 (fun i => r.bl[i]?) (fun p => ∃ r, c1.row p = some r) ∧
   ∀ (i : Nat) (t : TypeId) (cs : List V) (fz : Bool) (j : Nat), r.bl[i]? = some (.cells t cs fz) -> border (cs.getD j .undef) = cs.getD j .undef := by
 unfold leave at h
 split at h
 ·rename_i v' bl hp
  split at h
  ·rename_i bs hb
   split at h
   ·rename_i bl' gv hc
    cases h
    obtain ⟨c1, own1, hw1, hI1, ha1, hx1, hb1, hr1, hvl, hvr, hkeep⟩ := purAll_sound hA.inv.inv hp
    have hpr := hvr 0 x (by simp) (by simpa using hv)
    obtain ⟨hbl, hbg⟩ := takeB_some hb
    have hbl' : bs.length = m := by simpa using hbl
    obtain ⟨tags, recs, hG, hl2, hm2, hI2⟩ := canBlks_inv hI1 (fun t r h1 h2 => ⟨hA.inv.domr t r (by rw [<- hr1]; exact h1), h2⟩) (by omega) (fun i kk hi => by
     have hlt := (List.getElem?_eq_some_iff.1 hi).1
     obtain ⟨k2, h3, h4⟩ := hbg i i (List.getElem?_range (by omega))
     rw [hi] at h4
     cases h4
     exact h3) (fun i r hi _ => by omega) hc
    refine ⟨c1.cut (List.range m) (fun p => recs[p]?), own1.retag (List.range m) tags, v', rfl, hw1, rfl, (show PRep pg.P c1.w c1.prot v' x from hpr), ?_, fun i r hi hr => ?_, ?_, canBlks_border hc⟩
    ·have hfar : Far c1 (c1.cut (List.range m) (fun p => recs[p]?)) := ⟨rfl, fun id r ho _ => by
      exfalso
      have : c1.out id := ho
      rw [ha1.far.1] at this
      exact hA.out id this⟩
     exact hA.after.trans (ha1.trans ⟨Frame.refl _ _, fun b x _ hn => Own.retag_none hn, fun b x hp => ⟨hp, rfl⟩, fun b x hp => .inl hp, hfar⟩)
    ·show (if (List.range m).contains i then c1.blk i else none) = some r
     rw [if_pos (by simpa using hi), hb1]
     exact hA.blk i r hr
    ·refine hI2.less fun p hp => ?_
     obtain ⟨q, hq⟩ := hp
     rw [<- hG.rl]
     exact (List.getElem?_eq_some_iff.1 (show recs[p]? = some q from hq)).1
   ·cases h
  ·cases h
 ·cases h
theorem resVals_sound (hA : At pg p0 c0 own0 nt c own env st a) : ∀ {l : List ResultVar} {kk : List V -> Option Res}, resVals pg env st l kk = some r ->
  ∃ vs xs, kk vs = some r ∧ vs.length = l.length ∧ (l.mapM fun | .tmp t => pure (a.tmps.getD t Go.undef) | .cell b t => do loadVar t (<- asAddr (a.tmps.getD b Go.undef)) : Sem (List Value)).run pg.P c.w = .ok xs c.w ∧ xs.length = l.length ∧
   ∀ j, j < l.length -> VRep pg.P c (vs.getD j .undef) (xs.getD j Go.undef)
 | [], kk, h => ⟨[], [], h, rfl, by simp, rfl, fun j hj => absurd hj (Nat.not_lt_zero _)⟩
 | .tmp t :: l, kk, h => by
  unfold resVals at h
  obtain ⟨vs, xs, h1, h2, h3, h4, h5⟩ := resVals_sound hA h
  refine ⟨_ :: vs, a.tmps.getD t Go.undef :: xs, h1, by simp [h2], ?_, by simp [h4], fun j hj => ?_⟩
  ·rw [List.mapM_cons]
   simp only [Sem.run_bind, Sem.run_pure, Result.andThen_ok, h3]
  ·cases j with
   | zero => exact hA.env t
   | succ j => simpa using h5 j (by simpa using hj)
 | .cell b t :: l, kk, h => by
  unfold resVals at h
  obtain ⟨v, x, h1, h2, h3⟩ := loadS_sound hA.inv.inv h (hA.env b)
  obtain ⟨vs, xs, h4, h5, h6, h7, h8⟩ := resVals_sound hA h1
  have hload : (do loadVar t (<- asAddr (a.tmps.getD b Go.undef)) : Sem Value).run pg.P c.w = .ok x c.w := by
   have h9 := h2
   unfold Instr.loadAt at h9
   cases hq : a.tmps.getD b Go.undef with
   | pointer p =>
    rw [hq] at h9
    cases p with
    | some ad => exact h9
    | none => exfalso; simp [Instr.sureAddr, stuck] at h9
   | _ => rw [hq] at h9; exfalso; simp [Instr.sureAddr, stuck] at h9
  refine ⟨_ :: vs, x :: xs, h4, by simp [h5], ?_, by simp [h7], fun j hj => ?_⟩
  ·rw [List.mapM_cons]
   simp only [Sem.run_bind] at hload
   simp only [Sem.run_bind, Sem.run_pure, hload, Result.andThen_ok, h6]
  ·cases j with
   | zero => exact h3
   | succ j => simpa using h8 j (by simpa using hj)
theorem fin_ret {m : Nat} (hA : At pg p0 c0 own0 nt c own env st a) (h : kFin.fin pg fn m env none st = some r) : ∃ v, (results fn a.tmps).run pg.P c.w = .ok v c.w ∧ Ends pg c0 own0 m r (.returned v) c.w ∧ r.pn = p0 := by
 obtain ⟨vs, xs, h1, h2, h3, h4, h5⟩ := resVals_sound hA (l := fn.results.toList) h
 have hrun : (results fn a.tmps).run pg.P c.w = .ok (if hh : xs.toArray.size = 1 then xs.toArray[0] else .tuple xs.toArray) c.w := by
  unfold results
  rw [Array.mapM_eq_mapM_toList]
  simp only [Sem.run_bind, Sem.run_map]
  erw [h3]
  rfl
 refine ⟨_, hrun, ?_⟩
 have hv : VRep pg.P c (match vs with | [v] => v | vs => .tup vs) (if hh : xs.toArray.size = 1 then xs.toArray[0] else .tuple xs.toArray) := by
  by_cases hone : xs.length = 1
  ·obtain ⟨x, rfl⟩ := List.length_eq_one_iff.1 hone
   obtain ⟨v, rfl⟩ := List.length_eq_one_iff.1 (h2.trans (h4.symm.trans hone))
   have := h5 0 (by omega)
   simpa using this
  ·have hne : ∀ v, vs ≠ [v] := fun v hv => hone (by rw [h4, <- h2, hv]; rfl)
   have hsz : ¬ xs.toArray.size = 1 := by simpa using hone
   rw [dif_neg hsz]
   have hm : (match vs with | [v] => v | vs => .tup vs) = V.tup vs := by
    split
    ·rename_i v; exact absurd rfl (hne v)
    ·rfl
   rw [hm]
   exact .tup (by simp; omega) fun j hj => by simpa [List.getD, Array.getD_eq_getD_getElem?] using h5 j (by omega)
 obtain ⟨c1, own1, v', g0, g1, g2, g3, g4, g5, g6, g7⟩ := leave_sound hA (fun _ _ _ _ => trivial) h1 hv
 refine ⟨⟨c1, own1, g1, g4, g5, g6, g7, ?_⟩, g0.trans hA.pn⟩
 rw [g2]
 exact g3
theorem fin_pan {m : Nat} {v : V} {x : Value} (hA : At pg p0 c0 own0 nt c own env st a) (h : kFin.fin pg fn m env (some v) st = some r) (hx : VRep pg.P c v x) : Ends pg c0 own0 m r (.panicked [{ v := x, recovered := false }]) c.w ∧ r.pn = p0 := by
 have h'' : leave pg m st .pan v = some r := h
 obtain ⟨c1, own1, v', g0, g1, g2, g3, g4, g5, g6, g7⟩ := leave_sound hA (fun _ _ _ _ => trivial) h'' hx
 refine ⟨⟨c1, own1, g1, g4, g5, g6, g7, ?_⟩, g0.trans hA.pn⟩
 rw [g2]
 exact ⟨x, rfl, g3⟩
def EndsP (pg : Pg) (p0 : Option (Option V)) (c : Cx) (own : Own) (n : Nat) (res : Res) (e : Ending) (w' : World) : Prop := Ends pg c own n res e w' ∧ res.pn = p0
theorem runDef_sound (hD : DSoundD pg D) {m : Nat} : ∀ (l : List (FuncId × List V)) (ds : List Deferred) (cur : Option V) (u : FrameMode) (st : St) (c : Cx) (own : Own), DefRep pg.P c l ds -> ModeOk pg c cur u ->
  (∀ a', a'.tmps = a.tmps -> a'.defers = [] -> At pg p0 c0 own0 nt c own env st a') -> st.df = [] -> runDef pg D cur l st (kFin.fin pg fn m env) = some r -> Leaves pg.P fn a.tmps (EndsP pg p0 c0 own0 m r) ds u c.w
 | [], ds, cur, u, st, c, own, hd, hu, hA, hdf, h => by
  cases hd
  have hA' := hA { a with defers := [] } rfl rfl
  cases cur with
  | none =>
   cases hu
   obtain ⟨v, h1, h2⟩ := fin_ret hA' h
   exact ⟨v, h1, h2⟩
  | some v =>
   obtain ⟨x, rfl, hx⟩ := hu
   exact fin_pan hA' h (.pure hx)
 | (f, cap) :: l, ds, cur, u, st, c, own, hd, hu, hA, hdf, h => by
  cases hd with
  | @cons _ _ xs _ ds hl hcap hr =>
   have hA0 := hA { a with defers := [] } rfl rfl
   have h' : callK pg D f cap 100000 st (some cur) (fun _ st' res => res.onPn (runDef pg D none l st' (kFin.fin pg fn m env)) (fun _ => runDef pg D cur l st' (kFin.fin pg fn m env))) (fun _ _ => none) = some r := h
   obtain ⟨hbod, hcall⟩ := callD_sound hD hA0.inv hu h' hl hcap
   have hnr : u ≠ .run := by
    cases cur with
    | none => cases hu; nofun
    | some v => obtain ⟨x, rfl, _⟩ := hu; nofun
   refine leaves_cons (args := xs) hnr ?_ (hcall.mono fun e u' w' hE => ?_)
   ·show (callFunc f (#[] ++ xs)).run pg.P c.w = _
    rw [callFunc_enter hbod]
    simp
   ·obtain ⟨res, ⟨c', own', st', rfl, hS, ha, hx, e1, e2, hout⟩, hmode⟩ := hE
    have next : ∀ a', a'.tmps = a.tmps -> a'.defers = [] -> At pg p0 c0 own0 nt c' own' env st' a' := fun a' h1 h2 => by
     have := (hA a' h1 h2).stay hS ha hx e1 e2
     exact this
    cases e with
    | panicked ch => obtain ⟨v, x, h1, _⟩ := hout; cases h1
    | outgrown => exact hout.elim
    | returned x =>
     obtain ⟨v, hk0, _⟩ := hout
     have hk : res.onPn (runDef pg D none l st' (kFin.fin pg fn m env)) (fun _ => runDef pg D cur l st' (kFin.fin pg fn m env)) = some r := hk0
     show Leaves pg.P fn a.tmps _ ds (settle u') c'.w
     rcases hmode with ⟨h1, rfl⟩ | ⟨h1, h2⟩
     ·unfold Res.onPn at hk
      rw [h1] at hk
      cases cur with
      | none =>
       cases hu
       exact runDef_sound hD l ds none .returning st' c' own' (hr.mono hx) rfl next (e1.trans hdf) hk
      | some v =>
       obtain ⟨y, rfl, hy⟩ := hu
       exact runDef_sound hD l ds (some v) _ st' c' own' (hr.mono hx) ⟨y, rfl, hy.mono hx.prot⟩ next (e1.trans hdf) hk
     ·unfold Res.onPn at hk
      rw [h1] at hk
      rw [h2]
      exact runDef_sound hD l ds none .returning st' c' own' (hr.mono hx) rfl next (e1.trans hdf) hk
theorem kFin_sound (hD : DSoundD pg D) {m : Nat} : KOk pg p0 r c0 own0 nt (kFin pg D fn m) (bodyPostD pg.P fn (EndsP pg p0 c0 own0 m r)) := by
 intro ex env st c own a h hA
 have bare : ∀ a', a'.tmps = a.tmps -> a'.defers = [] -> At pg p0 c0 own0 nt c own env { st with df := [] } a' := fun a' h1 h2 =>
  ⟨⟨hA.inv.inv, hA.inv.domr⟩, fun t => by rw [h1]; exact hA.env t, by rw [h1]; exact hA.size, by rw [h2]; exact .nil, hA.pn, hA.after, hA.blk, hA.out⟩
 cases ex with
 | normal =>
  have h' : runDef pg D none st.df { st with df := [] } (kFin.fin pg fn m env) = some r := h
  exact runDef_sound hD st.df a.defers none .returning _ c own hA.defs rfl bare rfl h'
 | ret =>
  have h' : runDef pg D none st.df { st with df := [] } (kFin.fin pg fn m env) = some r := h
  exact runDef_sound hD st.df a.defers none .returning _ c own hA.defs rfl bare rfl h'
 | exit id => cases h
 | pan v =>
  intro x hx
  show Leaves pg.P fn a.tmps _ a.defers _ c.w
  unfold kFin at h
  dsimp only at h
  split at h
  ·rename_i hdf
   have hd := hA.defs
   rw [hdf] at hd
   cases hq : a.defers with
   | nil => exact fin_pan hA h hx
   | cons d ds => rw [hq] at hd; cases hd
  ·rename_i d l hdf
   split at h
   ·rename_i v' bl hp
    obtain ⟨c1, own1, hw1, hI1, ha1, hx1, hb1, hr1, hvl, hvr, hkeep⟩ := purAll_sound hA.inv.inv hp
    have hpr := hvr 0 x (by simp) (by simpa using hx)
    have hpr' : PRep pg.P c1.w c1.prot v' x := hpr
    rw [<- hw1]
    rw [<- hdf] at h
    refine runDef_sound (nt := nt) hD st.df a.defers (some v') _ { st with df := [], bl := bl } c1 own1 (hA.defs.mono hx1) ⟨x, rfl, hpr'⟩ (fun a' h1 h2 => ?_) rfl h
    have hS1 : SInv pg c1 own1 { st with df := [], bl := bl } := ⟨hI1, fun t r h3 => hA.inv.domr t r (by rw [<- hr1]; exact h3)⟩
    exact ⟨hS1, fun t => by rw [h1]; exact (hA.env t).mono hx1, by rw [h1]; exact hA.size, by rw [h2]; exact .nil, hA.pn, hA.after.trans ha1, fun i r hr => by rw [hb1]; exact hA.blk i r hr, fun id => by rw [ha1.far.1]; exact hA.out id⟩
   ·cases h
end
end Go.Proofs.Ab
namespace Go.Proofs.Ab
open Go
section
variable {pg : Pg} {D : DSem}
def NatOk (pg : Pg) (f : FuncId) (g : List V -> List Blk -> Option Res) : Prop :=
 ∀ vs bl res, g vs bl = some res -> Bodied pg.P f ∧ ∀ (c : Cx) (own : Own) (xs : Array Value),
  Inv pg c own (fun i => bl[i]?) (fun p => p < rowsOf pg bl) -> (∀ p r, c.row p = some r -> p < rowsOf pg bl) -> (∀ id, ¬ c.out id) -> vs.length = xs.size -> (∀ j, j < vs.length -> VRep pg.P c (vs.getD j .undef) (xs.getD j Go.undef)) ->
  Calls pg.P f xs c.w (Ends pg c own bl.length res)
structure PgOk (pg : Pg) : Prop where
 mix : pg.P.follows .mixedOrders = true
 nat : ∀ f g, pg.nat f = some g -> NatOk pg f g
theorem getB_range (bl : List Blk) (i : Nat) : getB ((List.range bl.length).zip bl) i = bl[i]? := by
 cases h : getB ((List.range bl.length).zip bl) i with
 | some b =>
  obtain ⟨j, h1, h2⟩ := getB_zip h
  have hj : j < bl.length := (List.getElem?_eq_some_iff.1 h2).1
  rw [List.getElem?_range hj] at h1
  cases h1
  exact h2.symm
 | none =>
  cases h2 : bl[i]? with
  | none => rfl
  | some b =>
   have hi : i < bl.length := (List.getElem?_eq_some_iff.1 h2).1
   obtain ⟨k, hk⟩ := getB_zip_of (ids := List.range bl.length) (bs := bl) (id := i) (by simp) (by simpa using hi)
   rw [h] at hk; cases hk
theorem args0_get : ∀ (vs : List V) (n t : Nat), (args0 n vs).get t = if n <= t ∧ t < n + vs.length then vs.getD (t - n) .undef else .undef
 | [], n, t => by
  have : ¬ (n <= t ∧ t < n + ([] : List V).length) := by rw [List.length_nil]; omega
  rw [if_neg this]; rfl
 | v :: vs, n, t => by
  show (bif Nat.beq n t then v else (args0 (n + 1) vs).get t) = _
  by_cases h : n = t
  ·subst h
   rw [Nat.beq_refl, cond_true, if_pos (by simp)]
   simp
  ·rw [nbeq h, cond_false, args0_get vs (n + 1) t]
   by_cases h1 : n + 1 <= t ∧ t < n + 1 + vs.length
   ·rw [if_pos h1, if_pos (by simp; omega)]
    have : t - n = (t - (n + 1)) + 1 := by omega
    rw [this]; simp
   ·rw [if_neg h1, if_neg (by simp; omega)]
theorem args0_env {c : Cx} {vs : List V} {xs : Array Value} {n : Nat} (hl : vs.length = xs.size) (hlen : vs.length <= n) (hx : ∀ j, j < vs.length -> VRep pg.P c (vs.getD j .undef) (xs.getD j Go.undef)) :
  EnvRep pg.P c (args0 0 vs) { tmps := xs ++ Array.replicate (n - xs.size) Go.undef, defers := [] } := fun t => by
 rw [args0_get]
 by_cases ht : 0 <= t ∧ t < 0 + vs.length
 ·rw [if_pos ht]
  have htl : t < vs.length := by omega
  have h2 : (xs ++ Array.replicate (n - xs.size) Go.undef).getD t Go.undef = xs.getD t Go.undef := by
   have h3 : t < xs.size := by omega
   have h4 : t < xs.size + (n - xs.size) := by omega
   simp [Array.getD, h3, h4, Array.getElem_append]
  show VRep pg.P c _ ((xs ++ Array.replicate (n - xs.size) Go.undef).getD t Go.undef)
  rw [h2]
  exact hx t htl
 ·rw [if_neg ht]; exact .undef _
theorem At.enter {c : Cx} {own : Own} {vs : List V} {bl : List Blk} {xs : Array Value} {n : Nat} (p0 : Option (Option V)) (hI : Inv pg c own (fun i => bl[i]?) (fun p => p < rowsOf pg bl)) (hdom : ∀ p r, c.row p = some r -> p < rowsOf pg bl) (hout : ∀ id, ¬ c.out id)
  (hl : vs.length = xs.size) (hlen : vs.length <= n) (hx : ∀ j, j < vs.length -> VRep pg.P c (vs.getD j .undef) (xs.getD j Go.undef)) :
  At pg p0 c own n c own (args0 0 vs) { bl := (List.range bl.length).zip bl, used := List.range (rowsOf pg bl), dead := [], df := [], pn := p0 } { tmps := xs ++ Array.replicate (n - xs.size) Go.undef, defers := [] } := by
 have hg : getB ((List.range bl.length).zip bl) = fun i => bl[i]? := funext (getB_range bl)
 refine ⟨⟨?_, fun t r hr => by simpa using hdom t r hr⟩, args0_env hl hlen hx, by simp; omega, .nil, rfl, After.refl _ _, fun _ _ h => h, hout⟩
 rw [hg]
 exact hI.less fun p hp => by simpa using hp.1
theorem nblt {a b : Nat} (h : Nat.blt a b = false) : b <= a := by
 rcases Nat.lt_or_ge a b with hlt | hge
 ·have h9 : Nat.blt a b = true := by rw [Nat.blt_eq]; exact hlt
  rw [h9] at h; cases h
 ·exact hge
theorem evF_sound (hD : DSound pg D) (hDD : DSoundD pg D) (hP : PgOk pg) : DSound pg fun f vs bl pn => evF pg D f vs bl pn := by
 intro f vs bl res h
 dsimp only at h
 unfold evF at h
 cases hg : pg.nat f with
 | some g =>
  rw [hg] at h
  exact hP.nat f g hg vs bl res h
 | none =>
 rw [hg] at h
 dsimp only at h
 split at h
 ·rename_i fn hfn
  obtain ⟨hc, h1⟩ := condR_some h
  simp only [Bool.or_eq_false_iff] at hc
  obtain ⟨⟨hb, hname⟩, hlen⟩ := hc
  refine ⟨⟨fn, hfn, hb, hname⟩, fun c own xs hI hdom hout hl hx => ?_⟩
  cases hbody : fn.body with
  | none => rw [hbody] at hb; cases hb
  | some code =>
   have hbo : bodyOf fn = code := by unfold bodyOf; rw [hbody]
   rw [hbo] at h1
   have hw := calls_of_wp_defers hfn hbody (args := xs) (R := EndsP pg none c own bl.length res) (ev_sound hD hP.mix code (kFin_sound hDD) h1 (At.enter none hI hdom hout hl (nblt hlen) hx))
   exact hw.mono fun e w' hE => hE.1
 ·cases h
theorem upon_S {P : Program} {ops : Array Oper} {rest : List Nat} {a : Act} {cs : List Go.Frame} {w : World} {o : Oper} {Q : Exit -> Act -> List Go.Frame -> World -> Prop} (h : o.wp P a w (fun a' w' => wpOpsS P ops Q rest a' cs w') (fun e a' w' => Q e a' cs w')) :
  match (execOp a.eval o).run P w with
  | .ok .recover w' =>
   (match recoverD cs with
   | some (v, cs') => wpOpsS P ops Q rest (a.put o.dst v) cs' w'
   | none => wpOpsS P ops Q rest (a.put o.dst .nilIface) cs w')
  | r => o.upon P a (fun a' w' => wpOpsS P ops Q rest a' cs w') (fun e a' w' => Q e a' cs w') r := by
 unfold Oper.wp at h
 generalize (execOp a.eval o).run P w = r at h ⊢
 split
 ·exact (h : False).elim
 ·exact h
section
variable {p0 : Option (Option V)} {c0 : Cx} {own0 : Own} {nt : Nat} {f : FuncId} {k : K} {r : Res} {cs : List Go.Frame} {QS : Exit -> Act -> List Go.Frame -> World -> Prop} {ops : Array Oper}
theorem evOpsS_sound (hD : DSound pg D) (hk : KOk pg p0 r c0 own0 nt k (fun e a w => QS e a cs w)) : ∀ (rest : List Oper) (i : Nat) (env : Env) (st : St) (c : Cx) (own : Own) (a : Act), (∀ j, rest[j]? = ops[i + j]?) -> evOps pg D f nt ops.toList rest env st k = some r ->
  At pg p0 c0 own0 nt c own env st a -> wpOpsS pg.P ops QS (List.range' i rest.length) a cs c.w
 | [], i, env, st, c, own, a, hi, h, hA => hk .normal env st c own a h hA
 | o :: rest, i, env, st, c, own, a, hi, h, hA => by
  have h0 : ops[i]? = some o := by simpa using (hi 0).symm
  have hi' : ∀ j, rest[j]? = ops[i + 1 + j]? := fun j => by have := hi (j + 1); simpa [Nat.add_assoc, Nat.add_comm 1 j] using this
  show wpOpsS pg.P ops QS (i :: List.range' (i + 1) rest.length) a cs c.w
  unfold wpOpsS
  rw [h0]
  dsimp only
  have go : ∀ {env : Env}, opS pg D f env o st (fun v st' => match putE nt env o.dst v with | some env' => evOps pg D f nt ops.toList rest env' st' k | none => none) (fun v st' => k (.pan v) env st') = some r ->
    At pg p0 c0 own0 nt c own env st a -> (match (execOp a.eval o).run pg.P c.w with
     | .ok .recover w' =>
      (match recoverD cs with
      | some (v, cs') => wpOpsS pg.P ops QS (List.range' (i + 1) rest.length) (a.put o.dst v) cs' w'
      | none => wpOpsS pg.P ops QS (List.range' (i + 1) rest.length) (a.put o.dst .nilIface) cs w')
     | r => o.upon pg.P a (fun a' w' => wpOpsS pg.P ops QS (List.range' (i + 1) rest.length) a' cs w') (fun e a' w' => QS e a' cs w') r) := by
   intro env h hA
   refine upon_S ?_
   by_cases hdf : ∃ c, o.op = .defer c
   ·obtain ⟨cl, ho⟩ := hdf
    obtain ⟨fv, f2, cap, xs, h1, hrun, h3, h4⟩ := opS_defer hA ho h
    unfold Oper.wp
    rw [hrun]
    split at h1
    ·rename_i env' hp
     refine evOpsS_sound hD hk rest (i + 1) env' _ c own _ hi' h1 ?_
     exact ⟨⟨hA.inv.inv, hA.inv.domr⟩, EnvRep.put (a := { a with defers := { target := .fn (.func f2) xs, args := #[] } :: a.defers }) hA.env hA.size hp (.undef _), (put_size _ o.dst _).trans hA.size, (by rw [put_defers]; exact .cons h3 h4 hA.defs), hA.pn, hA.after, hA.blk, hA.out⟩
    ·cases h1
   refine opS_sound hD (fun c hc => hdf ⟨c, hc⟩) hA.inv (fun _ d _ => hA.out _) h (fun x _ t => hA.env.eval hA.inv.inv t x) (fun v st' c' own' x h1 hv hS ha hx e1 e2 => ?_) (fun v st' c' own' x h1 hv hS ha hx e1 e2 => ?_)
   ·split at h1
    ·rename_i env' hp
     exact evOpsS_sound hD hk rest (i + 1) _ _ _ _ _ hi' h1 (hA.step hS ha hx e1 e2 hp hv)
    ·cases h1
   ·exact hk (.pan v) env st' c' own' a h1 (hA.stay hS ha hx e1 e2) x hv
  have skip : ∀ {env : Env}, (match putE nt env o.dst .hole with | some env' => evOps pg D f nt ops.toList rest env' st k | none => none) = some r -> At pg p0 c0 own0 nt c own env st a -> wpOpsS pg.P ops QS (List.range' (i + 1) rest.length) (a.put o.dst Go.undef) cs c.w := by
   intro env h hA
   split at h
   ·rename_i env' hp
    exact evOpsS_sound hD hk rest (i + 1) _ _ _ _ _ hi' h (hA.step hA.inv (After.refl _ _) (Ext.refl _) rfl rfl hp .hole)
   ·cases h
  unfold evOps at h
  dsimp only at h
  split at h
  ·rename_i hg
   rw [if_pos (by unfold Region.wanted; rw [hg])]
   exact go h hA
  ·rename_i g want hg
   split at h
   ·cases h
   ·rename_i t ht
    split at h
    ·rename_i b hb
     have hx := hA.env t
     rw [hb] at hx
     have hw := wanted_of (P := pg.P) (a := a) hg ht (x := some b) hx.bool_inv
     have hA' := hA.known hb
     rw [hw]
     cases b <;> cases want
     ·rw [if_pos (by rfl)]; exact go h hA'
     ·rw [if_neg (by nofun)]; exact skip h hA'
     ·rw [if_neg (by nofun)]; exact skip h hA'
     ·rw [if_pos (by rfl)]; exact go h hA'
    ·rename_i hb
     have hx := hA.env t
     rw [hb] at hx
     have hw := wanted_of (P := pg.P) (a := a) hg ht (x := none) hx.hole_inv
     rw [hw, if_neg (by nofun)]
     exact skip h hA
    ·cases h
end
theorem kFinD_sound (hD : DSoundD pg D) {p0 : Option (Option V)} {r : Res} {c0 : Cx} {own0 : Own} {nt : Nat} {fn : Func} {m : Nat} : KOk pg p0 r c0 own0 nt (kFinD pg D fn m) (bodyPost pg.P fn (EndsP pg p0 c0 own0 m r)) := by
 intro ex env st c own a h hA
 unfold kFinD at h
 split at h
 ·rename_i hdf
  have hd := hA.defs
  rw [hdf] at hd
  have hq : a.defers = [] := by cases hq : a.defers with | nil => rfl | cons d ds => rw [hq] at hd; cases hd
  have h1 := kFin_sound hD (r := r) (c0 := c0) (own0 := own0) (nt := nt) (p0 := p0) ex env st c own a h hA
  cases ex with
  | normal =>
   have h2 : Leaves pg.P fn a.tmps (EndsP pg p0 c0 own0 m r) a.defers .returning c.w := h1
   rw [hq] at h2
   exact ⟨hq, h2⟩
  | ret =>
   have h2 : Leaves pg.P fn a.tmps (EndsP pg p0 c0 own0 m r) a.defers .returning c.w := h1
   rw [hq] at h2
   exact ⟨hq, h2⟩
  | exit id => exact h1.elim
  | pan v =>
   intro x hx
   have h2 : Leaves pg.P fn a.tmps (EndsP pg p0 c0 own0 m r) a.defers (.panicking [{ v := x, recovered := false }]) c.w := h1 x hx
   rw [hq] at h2
   exact ⟨hq, h2⟩
 ·cases h
theorem KOk.mono {p0 : Option (Option V)} {r : Res} {c0 : Cx} {own0 : Own} {nt : Nat} {k : K} {Q Q' : Exit -> Act -> World -> Prop} (h : KOk pg p0 r c0 own0 nt k Q) (hq : ∀ e a w, Q e a w -> Q' e a w) : KOk pg p0 r c0 own0 nt k Q' := by
 intro ex env st c own a h1 hA
 have h2 := h ex env st c own a h1 hA
 cases ex with
 | normal => exact hq _ _ _ h2
 | exit id => exact hq _ _ _ h2
 | ret => exact hq _ _ _ h2
 | pan v => exact fun x hx => hq _ _ _ (h2 x hx)
theorem recHead_some {code : Code} {o : Oper} {ops : Array Oper} {rest : Code} (h : recHead code = some (o, ops, rest)) : ∃ id os, code = .seq (.region id ops false) rest ∧ ops.toList = o :: os ∧ o.guard = none ∧ ∃ ts, o.op = .call { callee := .builtin .recover, args := #[], argTypes := ts } := by
 unfold recHead at h
 split at h
 ·rename_i id ops' rest'
  split at h
  ·rename_i o' os hos
   split at h
   ·rename_i args ts ho hg
    obtain ⟨hz, h1⟩ := condL_some h
    cases h1
    have ha : args = #[] := Array.size_eq_zero_iff.1 (Nat.eq_of_beq_eq_true hz)
    subst ha
    exact ⟨id, os, rfl, hos, hg, ts, ho⟩
   ·cases h
  ·cases h
 ·cases h
theorem evF_soundD (hD : DSound pg D) (hDD : DSoundD pg D) (hP : PgOk pg) : DSoundD pg fun f vs bl pn => evF pg D f vs bl pn := by
 intro f vs bl cur res h
 dsimp only at h
 unfold evF at h
 cases hg : pg.nat f with
 | some g => rw [hg] at h; cases h
 | none =>
 rw [hg] at h
 dsimp only at h
 split at h
 ·rename_i fn hfn
  obtain ⟨hc, h1⟩ := condR_some h
  simp only [Bool.or_eq_false_iff] at hc
  obtain ⟨⟨hb, hname⟩, hlen⟩ := hc
  refine ⟨⟨fn, hfn, hb, hname⟩, fun c own xs u hI hdom hout hl hx hu => ?_⟩
  cases hbody : fn.body with
  | none => rw [hbody] at hb; cases hb
  | some code =>
   have hbo : bodyOf fn = code := by unfold bodyOf; rw [hbody]
   rw [hbo] at h1
   split at h1
   ·rename_i o ops rest hrec
    obtain ⟨id, os, rfl, hops, hg, ts, ho⟩ := recHead_some hrec
    split at h1
    ·rename_i env hp
     have hA0 := At.enter (some none) hI hdom hout hl (nblt hlen) hx
     rw [hops, List.drop_one, List.tail_cons] at h1
     refine callsD_of_wpS hfn hbody fun c₀ cs hc0 => ?_
     have hc0' : ({ c₀ with mode := u } : Go.Frame) = c₀ := by subst hc0; rfl
     refine wpS_seq (wpS_region ?_)
     have hsz : List.range ops.size = 0 :: List.range' 1 os.length := by
      have : ops.size = os.length + 1 := by rw [<- Array.length_toList, hops]; rfl
      rw [this, List.range_eq_range']; rfl
     rw [hsz]
     have ho0 : ops[0]? = some o := by rw [<- Array.getElem?_toList, hops]; rfl
     unfold wpOpsS
     rw [ho0]
     dsimp only
     rw [if_pos (by unfold Region.wanted; rw [hg])]
     generalize ha0 : ({ tmps := xs ++ Array.replicate (fn.ntmps - xs.size) Go.undef, defers := [] } : Act) = a0 at hA0 ⊢
     have hrun : (execOp a0.eval o).run pg.P c.w = .ok .recover c.w := by
      simp [execOp, ho, resolve, invoke, builtin]
     rw [hrun]
     dsimp only
     have go : ∀ (u1 : FrameMode) (x : Value) (v : V), settle u1 = .returning -> VRep pg.P c v x -> putE fn.ntmps (args0 0 vs) o.dst v = some env ->
       wpOpsS pg.P ops (Exit.thenS (rest.wpS pg.P (bodyPostS pg.P fn c₀ cs (fun e u' w' => Ends pg c own bl.length res e w' ∧ ((res.pn = some cur ∧ u' = u) ∨ (res.pn = some none ∧ settle u' = .returning))))) (bodyPostS pg.P fn c₀ cs (fun e u' w' => Ends pg c own bl.length res e w' ∧ ((res.pn = some cur ∧ u' = u) ∨ (res.pn = some none ∧ settle u' = .returning))))) (List.range' 1 os.length) (a0.put o.dst x) ({ c₀ with mode := u1 } :: cs) c.w := by
      intro u1 x v hset hv hp'
      have hfin : KOk pg (some none) res c own fn.ntmps (kFinD pg D fn bl.length) (fun e a w => bodyPostS pg.P fn c₀ cs (fun e u' w' => Ends pg c own bl.length res e w' ∧ ((res.pn = some cur ∧ u' = u) ∨ (res.pn = some none ∧ settle u' = .returning))) e a ({ c₀ with mode := u1 } :: cs) w) :=
       (kFinD_sound hDD).mono fun e a w hq => by
        cases e with
        | normal => obtain ⟨g1, v, g2, g3⟩ := hq; exact ⟨g1, u1, rfl, v, g2, g3.1, .inr ⟨g3.2, hset⟩⟩
        | ret => obtain ⟨g1, v, g2, g3⟩ := hq; exact ⟨g1, u1, rfl, v, g2, g3.1, .inr ⟨g3.2, hset⟩⟩
        | panic ch => obtain ⟨g1, g3⟩ := hq; exact ⟨g1, u1, rfl, g3.1, .inr ⟨g3.2, hset⟩⟩
        | outgrown => exact ⟨u1, hq.1, .inr ⟨hq.2, hset⟩⟩
        | exit i => exact hq
        | goto l => exact hq
      rw [<- hops] at h1
      refine evOpsS_sound (c0 := c) (own0 := own) (nt := fn.ntmps) (p0 := some none) (r := res) (k := kSeq (ev pg D f fn.ntmps rest) (kFinD pg D fn bl.length)) hD (fun ex env st c1 own1 a h hA => ?_) os 1 env _ c own _ (fun j => ?_) h1 (hA0.step hA0.inv (After.refl _ _) (Ext.refl _) rfl rfl hp' hv)
      ·cases ex with
       | normal => exact wpS_of_wp (ev_sound hD hP.mix rest hfin h hA)
       | exit i => exact hfin (.exit i) env st c1 own1 a h hA
       | ret => exact hfin .ret env st c1 own1 a h hA
       | pan v => exact hfin (.pan v) env st c1 own1 a h hA
      ·rw [<- Array.getElem?_toList, hops, Nat.add_comm]; rfl
     cases cur with
     | none =>
      have hu' : u = .returning := hu
      have hrec : recoverD (c₀ :: cs) = none := by
       have hm : c₀.mode = .returning := hc0.trans hu'
       unfold recoverD
       dsimp only
       split
       ·rename_i he; rw [hm] at he; cases he
       ·rfl
      rw [hrec]
      dsimp only
      have := go u .nilIface .nili (by rw [hu']; rfl) (.pure .nili) hp
      rw [hc0'] at this
      exact this
     | some v =>
      obtain ⟨x, hu', hx'⟩ := hu
      have hrec : recoverD (c₀ :: cs) = some (x, { c₀ with mode := .panicking [{ v := x, recovered := true }] } :: cs) := by
       have hm : c₀.mode = .panicking [{ v := x, recovered := false }] := hc0.trans hu'
       unfold recoverD
       dsimp only
       split
       ·rename_i he; rw [hm] at he; cases he; rfl
       ·rename_i he; exact absurd hm (he _ _)
      rw [hrec]
      dsimp only
      exact go (.panicking [{ v := x, recovered := true }]) x v rfl (.pure hx') hp
    ·cases h1
   ·
    have hw := callsD_of_wp (u := u) hfn hbody (args := xs) (R := EndsP pg (some cur) c own bl.length res) (ev_sound hD hP.mix code (kFinD_sound hDD) h1 (At.enter (some cur) hI hdom hout hl (nblt hlen) hx))
    exact hw.mono fun e u' w' hE => ⟨hE.2.1, .inl ⟨hE.2.2, hE.1⟩⟩
 ·cases h
theorem call_sound' (hP : PgOk pg) : ∀ n, DSound pg (call pg n) ∧ DSoundD pg (call pg n)
 | 0 => ⟨(fun f vs bl res h => by cases h), (fun f vs bl cur res h => by cases h)⟩
 | n + 1 => ⟨evF_sound (call_sound' hP n).1 (call_sound' hP n).2 hP, evF_soundD (call_sound' hP n).1 (call_sound' hP n).2 hP⟩
theorem den_sound (hP : PgOk pg) : DSound pg (den pg) := by
 intro f vs bl res h
 unfold den at h
 split at h
 ·rename_i hex
  cases h
  obtain ⟨n, hn⟩ := Classical.choose_spec hex
  exact (call_sound' hP n).1 f vs bl _ hn
 ·cases h
end
end Go.Proofs.Ab
namespace Go.Proofs.Ab
open Go Go.RowKit
def Before (W : World) : Nat -> Nat -> Prop := fun b _ => b < W.heap.size
theorem cell_lt {W : World} {b x : Nat} {y : Value} (h : W.cell? ⟨b, x, none⟩ = some y) : b < W.heap.size := by
 unfold World.cell? at h
 cases hb : W.heap[b]? with
 | none => simp [hb] at h
 | some o => exact (Array.getElem?_eq_some_iff.1 hb).1
theorem Frame.below {own : Own} {w w' : World} (h : Frame own w w') (ho : ∀ b x, own b x = none) : Below w.heap.size w w' := by
 refine ⟨h.os, h.tape, h.output, h.size, fun k hk => ?_⟩
 obtain ⟨o, hb⟩ : ∃ o, w.heap[k]? = some o := ⟨_, Array.getElem?_eq_getElem hk⟩
 rcases h.blk k o hb with h1 | ⟨a, a', e, fr, rfl, h1, h2, h3⟩ | ⟨es, n, es', n', _, _, h1⟩
 ·rw [h1, hb]
 ·have : a' = a := Array.ext_getElem? fun i => h3 i (ho k i)
  subst this
  rw [h1, hb]
 ·exact absurd (ho k 0) h1
theorem law_calls {pg : Pg} (hP : PgOk pg) {f : FuncId} {vs : List V} {v : V} {bl' : List Blk} {pn' : Option (Option V)} (h : den pg f vs [] none = some ⟨.ret v, bl', pn'⟩) {W : World}
  (hgl : ∀ i cs, pg.gl i = some cs -> ∀ j, j < cs.length -> ∃ x, W.cell? ⟨i, j, none⟩ = some x ∧ x.oneCell' = true ∧ PRep pg.P W (Before W) (cs.getD j .undef) x) {xs : Array Value} (hl : vs.length = xs.size)
  (hx : ∀ j, j < vs.length -> PRep pg.P W (Before W) (vs.getD j .undef) (xs.getD j Go.undef)) :
  Calls pg.P f xs W fun e W' => Below W.heap.size W W' ∧ ∃ x prot, e = .returned x ∧ PRep pg.P W' prot v x := by
 let c : Cx := ⟨W, fun _ => none, fun _ => none, Before W, fun _ => False⟩
 have hrows : rowsOf pg [] = 0 := rfl
 have hI : Inv pg c (fun _ _ => none) (fun i => ([] : List Blk)[i]?) (fun p => p < rowsOf pg []) := by
  refine ⟨fun id k hk => by simp at hk, fun t ht => by rw [hrows] at ht; omega, fun b x hp => ⟨rfl, hp⟩, fun b x hn => absurd rfl hn, (fun id r hr => by cases hr), fun i cs hg => ?_⟩
  have hc := hgl i cs hg
  refine .ptr (fun j => if hj : j < cs.length then Classical.choose (hc j hj) else Go.undef) i 0 (fun j hj => ?_) (fun j hj => ?_)
  ·have hs := Classical.choose_spec (hc j hj)
   simp only [hj, dif_pos, Nat.zero_add]
   exact ⟨cell_lt hs.1, hs.1, hs.2.1⟩
  ·have hs := Classical.choose_spec (hc j hj)
   simp only [hj, dif_pos]
   exact hs.2.2
 obtain ⟨_, hcall⟩ := den_sound hP f vs [] _ h
 refine (hcall c (fun _ _ => none) xs hI (fun p r hr => by cases hr) (fun _ h => h) hl fun j hj => .pure (hx j hj)).mono fun e W' hE => ?_
 obtain ⟨c', own', rfl, ha, _, _, _, hout⟩ := hE
 refine ⟨ha.frame.below fun _ _ => rfl, ?_⟩
 cases e with
 | returned x => exact ⟨x, c'.prot, rfl, hout⟩
 | panicked ch => exact hout.elim
 | outgrown => exact hout.elim
theorem law_true {pg : Pg} (hP : PgOk pg) {f : FuncId} {vs : List V} {bl' : List Blk} {pn' : Option (Option V)} (h : den pg f vs [] none = some ⟨.ret (.bool true), bl', pn'⟩) {W : World}
  (hgl : ∀ i cs, pg.gl i = some cs -> ∀ j, j < cs.length -> ∃ x, W.cell? ⟨i, j, none⟩ = some x ∧ x.oneCell' = true ∧ PRep pg.P W (Before W) (cs.getD j .undef) x) {xs : Array Value} (hl : vs.length = xs.size)
  (hx : ∀ j, j < vs.length -> PRep pg.P W (Before W) (vs.getD j .undef) (xs.getD j Go.undef)) :
  Calls pg.P f xs W fun e W' => e = .returned (.bool true) ∧ Below W.heap.size W W' :=
 (law_calls hP h hgl hl hx).mono fun e W' ⟨hb, x, prot, he, hp⟩ => by
  cases hp
  exact ⟨he, hb⟩
end Go.Proofs.Ab
namespace Go.Proofs.Ab
open Go
section
variable (pg : Pg)
theorem ev_mono {D D' : DSem} {f : FuncId} {nt : Nat} {c : Code} {k k' : K} (hD : ∀ f vs bl pn r, D f vs bl pn = some r -> D' f vs bl pn = some r) (hk : ∀ ex env st r, k ex env st = some r -> k' ex env st = some r) {env : Env} {st : St} {r : Res}
  (h : ev pg D f nt c env st k = some r) : ev pg D' f nt c env st k' = some r := by
 have hDs : LimD (fun j => if j = 0 then D else D') D' := fun f vs bl pn => by
  refine ⟨fun j r hj => ?_, fun r => ⟨fun h => ⟨1, h⟩, fun ⟨j, hj⟩ => ?_⟩⟩
  ·by_cases h0 : j = 0
   ·subst h0; simpa using hD _ _ _ _ _ (by simpa using hj)
   ·simpa [h0] using hj
  ·by_cases h0 : j = 0
   ·subst h0; exact hD _ _ _ _ _ (by simpa using hj)
   ·simpa [h0] using hj
 have hks : LimK (fun j => if j = 0 then k else k') k' := fun ex env st => by
  refine ⟨fun j r hj => ?_, fun r => ⟨fun h => ⟨1, h⟩, fun ⟨j, hj⟩ => ?_⟩⟩
  ·by_cases h0 : j = 0
   ·subst h0; simpa using hk _ _ _ _ (by simpa using hj)
   ·simpa [h0] using hj
  ·by_cases h0 : j = 0
   ·subst h0; exact hk _ _ _ _ (by simpa using hj)
   ·simpa [h0] using hj
 exact ((ev_lim pg f nt c hDs hks env st).to r).2 ⟨0, by simpa using h⟩
variable (N : Nat)
section
variable (D : DSem) (f : FuncId) (nt : Nat)
def evN : Code -> Env -> St -> K -> Option Res
 | .skip, env, st, k => k .normal env st
 | .label _, env, st, k => k .normal env st
 | .seq a b, env, st, k => evN a env st (kSeq (evN b) k)
 | .cond c a b, env, st, k => (match evO pg env 0 c with
  | .bool t => bif t then evN a (setC env c true) st k else evN b (setC env c false) st k
  | _ => none)
 | .block id c, env, st, k => evN c env st (kBlk id k)
 | .loop c, env, st, k => (match canon pg f (keysOf st.bl) (env, st) with
  | some x => iter (fun rec y => evN c y.1 y.2 (kLoop (canon pg f (keysOf st.bl)) rec k)) (bif Nat.beq (pg.unr f (headId c)) 0 then N else pg.unr f (headId c)) x
  | none => none)
 | .scope c, env, st, k => evN c env st k
 | .exit id, env, st, k => k (.exit id) env st
 | .ret, env, st, k => k .ret env st
 | .region id ops draw, env, st, k =>
  bif (pg.joins f).contains id then (match canon pg f (keysOf st.bl) (env, st) with
   | some x => evReg pg D f nt ops draw x.1 x.2 k
   | none => none)
  else evReg pg D f nt ops draw env st k
 | _, _, _, _ => none
theorem evN_le : ∀ (c : Code) {k : K} {env : Env} {st : St} {r : Res}, evN pg N D f nt c env st k = some r -> ev pg D f nt c env st k = some r := by
 intro c
 induction c with
 | skip => intro k env st r h; exact h
 | label l => intro k env st r h; exact h
 | seq a b iha ihb =>
  intro k env st r h
  show ev pg D f nt a env st (kSeq (ev pg D f nt b) k) = some r
  refine ev_mono pg (fun _ _ _ _ _ h => h) (k := kSeq (evN pg N D f nt b) k) (k' := kSeq (ev pg D f nt b) k) (fun ex env st r h => ?_) (iha h)
  cases ex with
  | normal => exact ihb h
  | _ => exact h
 | cond c a b iha ihb =>
  intro k env st r h
  simp only [evN] at h
  simp only [ev]
  split at h
  ·rename_i t ht
   rw [ht]
   cases t with
   | true => exact iha h
   | false => exact ihb h
  ·cases h
 | block id c ih => intro k env st r h; exact ih h
 | loop c ih =>
  intro k env st r h
  simp only [evN] at h
  simp only [ev]
  split at h
  ·rename_i x hx
   rw [hx]
   have key : ∀ m x r, iter (fun rec y => evN pg N D f nt c y.1 y.2 (kLoop (canon pg f (keysOf st.bl)) rec k)) m x = some r -> LP (ev pg D f nt c) (canon pg f (keysOf st.bl)) k x = some r := by
    intro m
    induction m with
    | zero => intro x r h; cases h
    | succ m ihm =>
     intro x r h
     rw [LP_eq]
     refine ev_mono pg (fun _ _ _ _ _ h => h) (k := kLoop (canon pg f (keysOf st.bl)) (iter (fun rec y => evN pg N D f nt c y.1 y.2 (kLoop (canon pg f (keysOf st.bl)) rec k)) m) k) (fun ex env st r' h => ?_) (ih h)
     cases ex with
     | normal =>
      dsimp only [kLp, kLoop] at h ⊢
      split at h
      ·rename_i y hy
       exact ihm y r' h
      ·cases h
     | _ => exact h
   dsimp only
   cases hu : Nat.beq (pg.unr f (headId c)) 0 with
   | true => rw [hu] at h; exact key N x r h
   | false =>
    rw [hu] at h
    have key2 : ∀ m x r, iter (fun rec y => evN pg N D f nt c y.1 y.2 (kLoop (canon pg f (keysOf st.bl)) rec k)) m x = some r -> iter (fun rec y => ev pg D f nt c y.1 y.2 (kLoop (canon pg f (keysOf st.bl)) rec k)) m x = some r := by
     intro m
     induction m with
     | zero => intro x r h; cases h
     | succ m ihm =>
      intro x r h
      refine ev_mono pg (fun _ _ _ _ _ h => h) (k := kLoop (canon pg f (keysOf st.bl)) (iter (fun rec y => evN pg N D f nt c y.1 y.2 (kLoop (canon pg f (keysOf st.bl)) rec k)) m) k) (fun ex env st r' h => ?_) (ih h)
      cases ex with
      | normal =>
       dsimp only [kLoop] at h ⊢
       split at h
       ·rename_i y hy
        exact ihm y r' h
       ·cases h
      | _ => exact h
    exact key2 _ x r h
  ·cases h
 | scope c ih => intro k env st r h; exact ih h
 | exit id => intro k env st r h; exact h
 | ret => intro k env st r h; exact h
 | region id ops draw =>
  intro k env st r h
  simp only [evN] at h
  simp only [ev, JR_eq]
  exact h
 | goto l => intro k env st r h; cases h
 | rangeFunc g ps a b iha ihb => intro k env st r h; cases h
 | refuse w => intro k env st r h; cases h
end
def evFN (D : DSem) (f : FuncId) (vs : List V) (bl : List Blk) (pn : Option (Option V)) : Option Res :=
 match pg.nat f with
 | some g => (match pn with | none => g vs bl | some _ => none)
 | none =>
 match pg.P.funcs[f]? with
 | some fn => bif fn.body.isNone || fn.name == "runtime.NumGoroutine" || Nat.blt fn.ntmps vs.length then none else
   (match pn with
   | none => evN pg N D f fn.ntmps (bodyOf fn) (args0 0 vs) { bl := (List.range bl.length).zip bl, used := List.range (rowsOf pg bl), dead := [], df := [], pn := none } (kFin pg D fn bl.length)
   | some cur => (match recHead (bodyOf fn) with
    | some (o, ops, rest) => (match putE fn.ntmps (args0 0 vs) o.dst (curV cur) with
     | some env => evOps pg D f fn.ntmps ops.toList (ops.toList.drop 1) env { bl := (List.range bl.length).zip bl, used := List.range (rowsOf pg bl), dead := [], df := [], pn := some none } (kSeq (evN pg N D f fn.ntmps rest) (kFinD pg D fn bl.length))
     | none => none)
    | none => evN pg N D f fn.ntmps (bodyOf fn) (args0 0 vs) { bl := (List.range bl.length).zip bl, used := List.range (rowsOf pg bl), dead := [], df := [], pn := some cur } (kFinD pg D fn bl.length)))
 | none => none
def callN : Nat -> DSem
 | 0 => fun _ _ _ _ => none
 | n + 1 => evFN pg N (callN n)
theorem kFin_mono {D D' : DSem} (hD : ∀ f vs bl pn r, D f vs bl pn = some r -> D' f vs bl pn = some r) {fn : Func} {m : Nat} {ex : Ex} {env : Env} {st : St} {r : Res} (h : kFin pg D fn m ex env st = some r) : kFin pg D' fn m ex env st = some r := by
 have hDs : LimD (fun j => if j = 0 then D else D') D' := fun f vs bl pn => by
  refine ⟨fun j r hj => ?_, fun r => ⟨fun h => ⟨1, h⟩, fun ⟨j, hj⟩ => ?_⟩⟩
  ·by_cases h0 : j = 0
   ·subst h0; simpa using hD _ _ _ _ _ (by simpa using hj)
   ·simpa [h0] using hj
  ·by_cases h0 : j = 0
   ·subst h0; exact hD _ _ _ _ _ (by simpa using hj)
   ·simpa [h0] using hj
 exact ((kFin_lim pg hDs fn m ex env st).to r).2 ⟨0, by simpa using h⟩
theorem kFinD_mono {D D' : DSem} (hD : ∀ f vs bl pn r, D f vs bl pn = some r -> D' f vs bl pn = some r) {fn : Func} {m : Nat} {ex : Ex} {env : Env} {st : St} {r : Res} (h : kFinD pg D fn m ex env st = some r) : kFinD pg D' fn m ex env st = some r := by
 unfold kFinD at h ⊢
 split at h
 ·exact kFin_mono pg hD h
 ·cases h
theorem evOps_mono {D D' : DSem} {f : FuncId} {nt : Nat} {k k' : K} (hD : ∀ f vs bl pn r, D f vs bl pn = some r -> D' f vs bl pn = some r) (hk : ∀ ex env st r, k ex env st = some r -> k' ex env st = some r) {all os : List Oper} {env : Env} {st : St} {r : Res}
  (h : evOps pg D f nt all os env st k = some r) : evOps pg D' f nt all os env st k' = some r := by
 have hDs : LimD (fun j => if j = 0 then D else D') D' := fun f vs bl pn => by
  refine ⟨fun j r hj => ?_, fun r => ⟨fun h => ⟨1, h⟩, fun ⟨j, hj⟩ => ?_⟩⟩
  ·by_cases h0 : j = 0
   ·subst h0; simpa using hD _ _ _ _ _ (by simpa using hj)
   ·simpa [h0] using hj
  ·by_cases h0 : j = 0
   ·subst h0; exact hD _ _ _ _ _ (by simpa using hj)
   ·simpa [h0] using hj
 have hks : LimK (fun j => if j = 0 then k else k') k' := fun ex env st => by
  refine ⟨fun j r hj => ?_, fun r => ⟨fun h => ⟨1, h⟩, fun ⟨j, hj⟩ => ?_⟩⟩
  ·by_cases h0 : j = 0
   ·subst h0; simpa using hk _ _ _ _ (by simpa using hj)
   ·simpa [h0] using hj
  ·by_cases h0 : j = 0
   ·subst h0; exact hk _ _ _ _ (by simpa using hj)
   ·simpa [h0] using hj
 exact ((evOps_lim pg hDs hks f nt all os env st).to r).2 ⟨0, by simpa using h⟩
theorem callN_le : ∀ n {f : FuncId} {vs : List V} {bl : List Blk} {pn : Option (Option V)} {r : Res}, callN pg N n f vs bl pn = some r -> den pg f vs bl pn = some r
 | 0, f, vs, bl, pn, r, h => by cases h
 | n + 1, f, vs, bl, pn, r, h => by
  rw [den_eq]
  have h' : evFN pg N (callN pg N n) f vs bl pn = some r := h
  unfold evFN at h'
  unfold evF
  cases hg : pg.nat f with
  | some g =>
   rw [hg] at h'
   cases pn with
   | none => exact h'
   | some c => cases h'
  | none =>
  rw [hg] at h'
  dsimp only at h' ⊢
  split at h'
  ·rename_i fn hf
   rw [hf]
   dsimp only
   cases hc : (fn.body.isNone || fn.name == "runtime.NumGoroutine" || Nat.blt fn.ntmps vs.length) with
   | true => rw [hc] at h'; cases h'
   | false =>
    rw [hc] at h'
    rw [cond_false] at h' ⊢
    have up : ∀ f vs bl pn r, callN pg N n f vs bl pn = some r -> den pg f vs bl pn = some r := fun f vs bl pn r h => callN_le n h
    split at h'
    ·exact ev_mono pg (D := callN pg N n) (k := kFin pg (callN pg N n) fn bl.length) up (fun ex env st r h => kFin_mono pg up h) (evN_le pg N (callN pg N n) f fn.ntmps _ h')
    ·rename_i cur
     dsimp only
     split at h'
     ·rename_i o ops rest hrec
      rw [hrec]
      dsimp only
      split at h'
      ·rename_i env hp
       rw [hp]
       dsimp only
       refine evOps_mono pg up (k := kSeq (evN pg N (callN pg N n) f fn.ntmps rest) (kFinD pg (callN pg N n) fn bl.length)) (fun ex env st r h => ?_) h'
       cases ex with
       | normal => exact ev_mono pg (D := callN pg N n) (k := kFinD pg (callN pg N n) fn bl.length) up (fun ex env st r h => kFinD_mono pg up h) (evN_le pg N (callN pg N n) f fn.ntmps _ h)
       | exit i => exact kFinD_mono pg up h
       | ret => exact kFinD_mono pg up h
       | pan v => exact kFinD_mono pg up h
      ·cases h'
     ·rename_i hrec
      rw [hrec]
      dsimp only
      exact ev_mono pg (D := callN pg N n) (k := kFinD pg (callN pg N n) fn bl.length) up (fun ex env st r h => kFinD_mono pg up h) (evN_le pg N (callN pg N n) f fn.ntmps _ h')
  ·cases h'
end
end Go.Proofs.Ab
namespace Go.Proofs.Ab
open Go Go.RowKit
theorem strsOf_some : ∀ {es : List (List V)} {xs : List ByteArray}, strsOf es = some xs -> es = xs.map fun s => [.str s]
 | [], xs, h => by cases h; rfl
 | e :: l, xs, h => by
  unfold strsOf at h
  split at h
  ·rename_i h0; cases h0
  ·rename_i s l' h0
   cases h0
   split at h
   ·rename_i r hr
    cases h
    rw [strsOf_some hr]; rfl
   ·cases h
  ·cases h
theorem natJoin_ok {pg : Pg} {f : FuncId} {e : TypeId} (hb : Bodied pg.P f) (hs : sz pg.P e = 1)
  (h0 : ∀ (a : Option Addr) (c : Nat) (sep : ByteArray) (w : World), Calls pg.P f #[.slice a 0 c, .string sep] w fun e w' => e = .returned (.string ⟨#[]⟩) ∧ w' = w)
  (h1 : ∀ (bk o c : Nat) (xs : List ByteArray) (sep : ByteArray) (w : World), (∀ (j : Nat) x, xs[j]? = some x -> w.cell? ⟨bk, o + j, none⟩ = some (.string x)) -> bk < w.heap.size -> xs.length <= 140737488355328 -> xs.length <= c ->
   (Lib.join (xs.map (·.data.toList)) sep.data.toList).length <= 140737488355328 ->
   Calls pg.P f #[.slice (some ⟨bk, o, none⟩) xs.length c, .string sep] w fun e w' => e = .returned (.string ⟨(Lib.join (xs.map (·.data.toList)) sep.data.toList).toArray⟩) ∧ Below w.heap.size w w') : NatOk pg f (natJoin e) := by
 intro vs bl res h
 unfold natJoin at h
 split at h
 ·rename_i tok e' es sep
  obtain ⟨he, h1'⟩ := condL_some h
  have he : e = e' := by simpa using he
  subst he
  clear h
  split at h1'
  ·rename_i xs hxs
   obtain ⟨⟨hm1, hm2⟩, h2'⟩ := iteL_some h1'
   cases h2'
   refine ⟨hb, fun c own args hI hdom hout hl hx => ?_⟩
   obtain ⟨x0, x1, rfl⟩ : ∃ x0 x1, args = #[x0, x1] := by
    obtain ⟨l⟩ := args
    match l, hl with
    | [a, b], _ => exact ⟨a, b, rfl⟩
   have hx0 := hx 0 (by simp)
   have hx1 := hx 1 (by simp)
   have hx0 : VRep pg.P c (.sl tok e es) x0 := by simpa using hx0
   have hx1 : VRep pg.P c (.str sep) x1 := by simpa using hx1
   obtain rfl := hx1.str_inv
   obtain ⟨base, cap, arr, rfl, hcap, hfl, hcell⟩ := sl_flat hx0.sl_inv
   have hes := strsOf_some hxs
   have hlen : es.length = xs.length := by rw [hes, List.length_map]
   have fin : ∀ (w' : World), Below c.w.heap.size c.w w' -> Ends pg c own 0 ⟨.ret (.str (joinB xs sep)), [], none⟩ (.returned (.string (joinB xs sep))) w' := by
    intro w' hB
    have hf : Frame (fun _ _ => none) c.w w' := ⟨hB.os, hB.tape, hB.output, hB.size, fun b o hb => .inl (by rw [hB.block b (Array.getElem?_eq_some_iff.1 hb).1]; exact hb)⟩
    have hext : Ext c { c with w := w' } := ⟨fun b x hp => ⟨hp, hf.cell rfl (hI.np b x hp).2⟩, fun _ _ h => h, fun _ _ h => h⟩
    have hf' : Frame own c.w w' := ⟨hB.os, hB.tape, hB.output, hB.size, fun b o hb => .inl (by rw [hB.block b (Array.getElem?_eq_some_iff.1 hb).1]; exact hb)⟩
    refine ⟨{ c with w := w' }, own, rfl, ⟨hf', fun _ _ _ h => h, hext.prot, fun _ _ h => .inl h, .of rfl rfl⟩, fun i r hi => absurd hi (Nat.not_lt_zero _), ⟨fun id k hk => ?_, fun t ht => ?_, fun b x hp => ⟨(hI.np b x hp).1, Nat.lt_of_lt_of_le (hI.np b x hp).2 hB.size⟩, fun b x hn => Nat.lt_of_lt_of_le (hI.fresh b x hn) hB.size, fun id r hr => hI.dom id r hr, fun i cs hg => (hI.gl i cs hg).mono hext.prot⟩, fun i t cs fz j hi => ?_, .str _⟩
    ·simp at hk
    ·obtain ⟨r, hr⟩ := ht
     exact absurd (hdom t r hr) (Nat.not_lt_zero _)
    ·simp at hi
   by_cases hn : xs = []
   ·subst hn
    have hz : es.length = 0 := by rw [hlen]; rfl
    rw [hz]
    refine (h0 base cap sep c.w).mono fun e w' ⟨he, hw⟩ => ?_
    subst he; subst hw
    exact fin _ (Below.refl _ _)
   ·have hne : es ≠ [] := by intro h; rw [h] at hlen; exact hn (List.length_eq_zero_iff.1 hlen.symm)
    obtain ⟨b, o, rfl, hc⟩ := hcell hne
    have hpos : 0 < xs.length := List.length_pos_iff.2 hn
    have hsz : arr.size = xs.length := by rw [hfl.1, hs, hlen, Nat.mul_one]
    have hjl : (Lib.join (xs.map (·.data.toList)) sep.data.toList).length <= 140737488355328 := by
     have h9 : (joinB xs sep).size = (Lib.join (xs.map (·.data.toList)) sep.data.toList).length := by
      show (List.toArray _).size = _
      rw [List.size_toArray]; rfl
     have : most <= 140737488355328 := by decide
     omega
    have hm : xs.length <= 140737488355328 := Nat.le_trans hm1 (by decide)
    rw [hlen] at hcap ⊢
    refine (h1 b o cap xs sep c.w (fun j x hj => ?_) ?_ hm hcap hjl).mono fun e w' ⟨he, hw⟩ => ?_
    ·have hjl : j < xs.length := (List.getElem?_eq_some_iff.1 hj).1
     have h3 := (hc j (by omega)).2
     have h4 := ((hfl.2 j (by omega)).2 0 (by omega)).1
     rw [hs, Nat.mul_one, Nat.add_zero] at h4
     have h5 : (es.getD j []).getD 0 .undef = .str x := by
      rw [hes]
      simp [List.getD, hj]
     rw [h5] at h4
     rw [h3]
     generalize arr.getD j Go.undef = y at h4 ⊢
     cases h4; rfl
    ·have := (hI.np _ _ (hc 0 (by omega)).1).2
     exact this
    ·subst he
     exact fin w' hw
  ·cases h1'
 ·cases h
end Go.Proofs.Ab
