/- Own texts under the law SynBrackets, merged, without what it does not lean on: part 2 of 6 (the abstract machine and its proof; residual forms; contracts; the plain law). -/
import Derived.Test.YtennkhdlpbggkaaDoorSynBracketsPackA
import Derived.Deep.MidRow
import Derived.MapKept
import Derived.Laws.MakeOwn
import Derived.Laws.IdiomStrings
import Derived.Deep.AppendSrc
import Derived.Deep.Upon
import Derived.Recover
set_option linter.unusedVariables false
set_option linter.unusedSimpArgs false
set_option linter.unusedSectionVars false
set_option maxRecDepth 100000
namespace Go.Proofs.Ab
open Go
abbrev Own := Nat -> Nat -> Option (Bool × Nat)
def Blk.len (P : Program) : Blk -> Nat
 | .cells _ cs _ => cs.length
 | .vec e es _ => es.length * sz P e
 | .mp _ _ _ _ => 1
def Blk.num : Blk -> Nat
 | .cells _ cs _ => cs.length
 | .vec _ es _ => es.length
 | .mp _ _ _ _ => 1
def Blk.fz : Blk -> Bool
 | .cells _ _ fz => fz
 | .vec _ _ fz => fz
 | .mp _ _ _ fz => fz
def CellsRep (P : Program) (c : Cx) (b o : Nat) : Blk -> Prop
 | .cells _ cs _ => ∀ j, j < cs.length -> ∃ x, c.w.cell? ⟨b, o + j, none⟩ = some x ∧ (cs.getD j .undef ≠ .undef -> x.oneCell' = true) ∧ VRep P c (cs.getD j .undef) x
 | .vec e es _ => ∀ i, i < es.length -> (es.getD i []).length = sz P e ∧ ∀ j, j < sz P e -> ∃ x, c.w.cell? ⟨b, o + i * sz P e + j, none⟩ = some x ∧ x.oneCell' = true ∧ PRep P c.w c.prot ((es.getD i []).getD j .undef) x
 | .mp _ _ _ _ => True
def MapRep (P : Program) (w : World) (b : Nat) (kt : TypeId) (es : List (V × V)) : Prop :=
 ∃ ents clock, w.heap[b]? = some (.map ents clock) ∧ ents.toList.map (fun x => (x.key, x.val)) = es.map (fun p => (p.1.val, p.2.val)) ∧ ∀ p ∈ es, keyOk P kt p.1 = true ∧ p.2.prim = true
def Lies (P : Program) (w : World) (b o : Nat) : Blk -> Prop
 | .mp kt _ es _ => o = 0 ∧ MapRep P w b kt es
 | k => ∃ arr e, w.heap[b]? = some (.cells arr e (0, 0)) ∧ o + k.len P <= arr.size
def Blk.isMp : Blk -> Bool
 | .mp _ _ _ _ => true
 | _ => false
theorem Lies.row {P : Program} {w : World} {b o : Nat} {k : Blk} (hm : k.isMp = false) (h : Lies P w b o k) : ∃ arr e, w.heap[b]? = some (.cells arr e (0, 0)) ∧ o + k.len P <= arr.size := by
 cases k with
 | cells e cs fz => exact h
 | vec e es fz => exact h
 | mp kt et es fz => cases hm
theorem Lies.of {P : Program} {w : World} {b o : Nat} {k : Blk} (hm : k.isMp = false) (h : ∃ arr e, w.heap[b]? = some (.cells arr e (0, 0)) ∧ o + k.len P <= arr.size) : Lies P w b o k := by
 cases k with
 | cells e cs fz => exact h
 | vec e es fz => exact h
 | mp kt et es fz => cases hm
theorem Lies.lt {P : Program} {w : World} {b o : Nat} {k : Blk} (h : Lies P w b o k) : b < w.heap.size := by
 cases k with
 | cells e cs fz => obtain ⟨a, e, h, _⟩ := h; exact (Array.getElem?_eq_some_iff.1 h).1
 | vec e es fz => obtain ⟨a, e, h, _⟩ := h; exact (Array.getElem?_eq_some_iff.1 h).1
 | mp kt et es fz => obtain ⟨_, a, e, h, _⟩ := h; exact (Array.getElem?_eq_some_iff.1 h).1
structure BRep (P : Program) (c : Cx) (own : Own) (id : Nat) (k : Blk) (b o : Nat) : Prop where
 cells : CellsRep P c b o k
 opn : k.fz = false -> Lies P c.w b o k ∧ ∀ x, x < k.len P -> own b (o + x) = some (false, id)
 shut : k.fz = true -> ∀ x, x < k.len P -> c.prot b (o + x)
def RRepF (P : Program) (c : Cx) (own : Own) (t : Nat) : Prop :=
 ∃ v e n xs, c.row t = some (v, e, n) ∧ c.w.ownsRow 0 e (sz P e) v n xs ∧ ∀ b, v.ownBlock = some b -> ∀ x, (n * sz P e <= x -> own b x = some (true, t)) ∧ (x < n * sz P e -> c.prot b x)
def InnRep (w : World) (own : Own) (t : Nat) (eI : TypeId) (hv : Value) (ns : List Int) : Option Nat -> Prop
 | none => hv = .slice none 0 0 ∧ ns = []
 | some ib => ∃ icap icur eT, hv = .slice (some ⟨ib, 0, none⟩) ns.length icap ∧ w.heap[ib]? = some (.cells icur eT (0, 0)) ∧ ns.length <= icap ∧ icur.size = icap ∧ (∀ y, own ib y = some (true, t)) ∧
   ∀ (y : Nat) n, ns[y]? = some n -> icur[y]? = some (.int .i64 n)
def DeepRep (w : World) (own : Own) (t : Nat) (x : Value) (ps : List (List Int)) (eO eI : TypeId) : Prop :=
 (x = .slice none 0 0 ∧ ps = []) ∨ ∃ (gb cap : Nat) (cur : Array Value) (ib : Nat -> Option Nat), x = .slice (some ⟨gb, 0, none⟩) ps.length cap ∧ w.heap[gb]? = some (.cells cur eO (0, 0)) ∧ ps.length <= cap ∧ cur.size = cap ∧ (∀ y, own gb y = some (true, t)) ∧
  ∀ (i : Nat) ns, ps[i]? = some ns -> ∃ hv, cur[i]? = some hv ∧ InnRep w own t eI hv ns (ib i) ∧ ib i ≠ some gb ∧ ∀ j, j < ps.length -> j ≠ i -> ib j = ib i -> ib i = none
def RRepD (c : Cx) (own : Own) (t : Nat) : Prop := ∃ x ps eO eI, c.row t = some (.tuple #[x, encP ps], eO, eI) ∧ DeepRep c.w own t x ps eO eI
def RRep (P : Program) (c : Cx) (own : Own) (t : Nat) : Prop := RRepF P c own t ∨ RRepD c own t
theorem RRep.flat {P : Program} {c : Cx} {own : Own} {t : Nat} (h : RRep P c own t) {a : Option Addr} {l cap : Nat} {e : TypeId} {n : Nat} (hr : c.row t = some (.slice a l cap, e, n)) : RRepF P c own t := by
 rcases h with h | ⟨x, ps, eO, eI, h1, _⟩
 ·exact h
 ·rw [hr] at h1; cases h1
theorem RRep.deep {P : Program} {c : Cx} {own : Own} {t : Nat} (h : RRep P c own t) {x : Value} {ps : List (List Int)} {eO eI : TypeId} (hr : c.row t = some (.tuple #[x, encP ps], eO, eI)) : DeepRep c.w own t x ps eO eI := by
 rcases h with ⟨v, e, n, xs, h1, h2, _⟩ | ⟨x', ps', eO', eI', h1, h2⟩
 ·rw [hr] at h1
  cases h1
  rcases h2.2 with ⟨h3, _⟩ | ⟨_, _, _, h3, _⟩ <;> cases h3
 ·rw [hr] at h1
  injection h1 with h1
  injection h1 with h1 h3
  injection h1 with h1
  injection h3 with h3 h4
  have h5 := congrArg Array.toList h1
  simp at h5
  obtain ⟨rfl, h6⟩ := h5
  have := encP_inj h6
  subst this; subst h3; subst h4
  exact h2
theorem InnRep.to {w w' : World} {own own' : Own} {t t' : Nat} {eI : TypeId} {hv : Value} {ns : List Int} {ib : Option Nat} (h : InnRep w own t eI hv ns ib) (hh : ∀ b o, (∀ y, own b y = some (true, t)) -> w.heap[b]? = some o -> w'.heap[b]? = some o) (ho : ∀ b y, own b y = some (true, t) -> own' b y = some (true, t')) :
  InnRep w' own' t' eI hv ns ib := by
 cases ib with
 | none => exact h
 | some ib =>
  obtain ⟨icap, icur, eT, h1, h2, h3, h4, h5, h6⟩ := h
  exact ⟨icap, icur, eT, h1, hh _ _ h5 h2, h3, h4, fun y => ho _ _ (h5 y), h6⟩
theorem DeepRep.to {w w' : World} {own own' : Own} {t t' : Nat} {x : Value} {ps : List (List Int)} {eO eI : TypeId} (h : DeepRep w own t x ps eO eI) (hh : ∀ b o, (∀ y, own b y = some (true, t)) -> w.heap[b]? = some o -> w'.heap[b]? = some o) (ho : ∀ b y, own b y = some (true, t) -> own' b y = some (true, t')) :
  DeepRep w' own' t' x ps eO eI := by
 rcases h with h | ⟨gb, cap, cur, ib, h1, h2, h3, h4, h5, h7⟩
 ·exact .inl h
 ·refine .inr ⟨gb, cap, cur, ib, h1, hh _ _ h5 h2, h3, h4, fun y => ho _ _ (h5 y), fun i ns hi => ?_⟩
  obtain ⟨hv, g1, g2, g3⟩ := h7 i ns hi
  exact ⟨hv, g1, g2.to hh ho, g3⟩
theorem heap_kept {own : Own} {w w' : World} {b : Nat} {o : Obj} (hb : w.heap[b]? = some o) (hf : w'.heap[b]? = some o ∨ (∃ a a' e fr, o = .cells a e fr ∧ w'.heap[b]? = some (.cells a' e fr) ∧ a'.size = a.size ∧ ∀ x, own b x = none -> a'[x]? = a[x]?) ∨ ∃ es n es' n', o = .map es n ∧ w'.heap[b]? = some (.map es' n') ∧ own b 0 ≠ none)
  (h0 : ∀ x, own b x = none) : w'.heap[b]? = some o := by
 rcases hf with h | ⟨a, a', e, fr, rfl, h1, h2, h3⟩ | ⟨_, _, _, _, _, _, h1⟩
 ·exact h
 ·have : a' = a := Array.ext_getElem? fun i => h3 i (h0 i)
  rw [h1, this]
 ·exact absurd (h0 0) h1
structure Inv (pg : Pg) (c : Cx) (own : Own) (g : Nat -> Option Blk) (live : Nat -> Prop) : Prop where
 blk : ∀ id k, g id = some k -> ∃ b o, c.blk id = some (b, o, k.num) ∧ BRep pg.P c own id k b o
 row : ∀ t, live t -> RRep pg.P c own t
 np : ∀ b x, c.prot b x -> own b x = none ∧ b < c.w.heap.size
 fresh : ∀ b x, own b x ≠ none -> b < c.w.heap.size
 dom : ∀ id r, c.blk id = some r -> (∃ k, g id = some k) ∨ c.out id
 gl : ∀ i cs, pg.gl i = some cs -> PRep pg.P c.w c.prot (.ptr cs 0) (.pointer (some ⟨i, 0, none⟩))
structure Frame (own : Own) (w w' : World) : Prop where
 os : w'.os = w.os
 tape : w'.tape = w.tape
 output : w'.output = w.output
 size : w.heap.size <= w'.heap.size
 blk : ∀ b o, w.heap[b]? = some o -> w'.heap[b]? = some o ∨ (∃ a a' e fr, o = .cells a e fr ∧ w'.heap[b]? = some (.cells a' e fr) ∧ a'.size = a.size ∧ ∀ x, own b x = none -> a'[x]? = a[x]?) ∨ ∃ es n es' n', o = .map es n ∧ w'.heap[b]? = some (.map es' n') ∧ own b 0 ≠ none
def Far (c c' : Cx) : Prop := c'.out = c.out ∧ ∀ id r, c.out id -> c'.blk id = some r -> c.blk id = some r
theorem Far.of {c c' : Cx} (h1 : c'.out = c.out) (h2 : c'.blk = c.blk) : Far c c' := ⟨h1, fun id r _ h => by rw [<- h2]; exact h⟩
theorem Far.trans {a b c : Cx} (h : Far a b) (k : Far b c) : Far a c := ⟨k.1.trans h.1, fun id r ho hr => h.2 id r ho (k.2 id r (by rw [h.1]; exact ho) hr)⟩
structure After (c : Cx) (own : Own) (c' : Cx) (own' : Own) : Prop where
 frame : Frame own c.w c'.w
 keep : ∀ b x, b < c.w.heap.size -> own b x = none -> own' b x = none
 prot : ∀ b x, c.prot b x -> c'.prot b x ∧ c'.w.cell? ⟨b, x, none⟩ = c.w.cell? ⟨b, x, none⟩
 prot' : ∀ b x, c'.prot b x -> c.prot b x ∨ own b x ≠ none ∨ c.w.heap.size <= b
 far : Far c c'
theorem Frame.refl (own : Own) (w : World) : Frame own w w := ⟨rfl, rfl, rfl, Nat.le_refl _, fun b o h => .inl h⟩
theorem Frame.trans {own own' : Own} {w w' w'' : World} (h : Frame own w w') (k : Frame own' w' w'') (ho : ∀ b x, b < w.heap.size -> own b x = none -> own' b x = none) : Frame own w w'' := by
 refine ⟨k.os.trans h.os, k.tape.trans h.tape, k.output.trans h.output, Nat.le_trans h.size k.size, fun b o hb => ?_⟩
 have hlt : b < w.heap.size := (Array.getElem?_eq_some_iff.1 hb).1
 rcases h.blk b o hb with h1 | ⟨a, a', e, fr, rfl, h1, h2, h3⟩ | ⟨es, n, es', n', rfl, h1, h2⟩
 ·rcases k.blk b o h1 with h4 | ⟨a, a', e, fr, rfl, h4, h5, h6⟩ | ⟨es, n, es', n', rfl, h4, h5⟩
  ·exact .inl h4
  ·exact .inr (.inl ⟨a, a', e, fr, rfl, h4, h5, fun x hx => h6 x (ho b x hlt hx)⟩)
  ·exact .inr (.inr ⟨es, n, es', n', rfl, h4, fun hx => h5 (ho b 0 hlt hx)⟩)
 ·rcases k.blk b _ h1 with h4 | ⟨b1, b2, e', fr', h4, h5, h6, h7⟩ | ⟨es, n, es', n', h4, _⟩
  ·exact .inr (.inl ⟨a, a', e, fr, rfl, h4, h2, h3⟩)
  ·cases h4
   exact .inr (.inl ⟨a, b2, e, fr, rfl, h5, h6.trans h2, fun x hx => (h7 x (ho b x hlt hx)).trans (h3 x hx)⟩)
  ·cases h4
 ·rcases k.blk b _ h1 with h4 | ⟨b1, b2, e', fr', h4, _⟩ | ⟨es2, n2, es3, n3, h4, h5, _⟩
  ·exact .inr (.inr ⟨es, n, es', n', rfl, h4, h2⟩)
  ·cases h4
  ·exact .inr (.inr ⟨es, n, es3, n3, rfl, h5, h2⟩)
theorem Frame.cell {own : Own} {w w' : World} (h : Frame own w w') {b x : Nat} (hx : own b x = none) (hb : b < w.heap.size) : w'.cell? ⟨b, x, none⟩ = w.cell? ⟨b, x, none⟩ := by
 obtain ⟨o, ho⟩ : ∃ o, w.heap[b]? = some o := ⟨_, Array.getElem?_eq_getElem hb⟩
 rcases h.blk b o ho with h1 | ⟨a, a', e, fr, rfl, h1, h2, h3⟩ | ⟨es, n, es', n', rfl, h1, _⟩
 ·simp [World.cell?, h1, ho]
 ·simp [World.cell?, h1, ho, h3 x hx]
 ·simp [World.cell?, h1, ho]
theorem After.refl (c : Cx) (own : Own) : After c own c own := ⟨Frame.refl _ _, fun _ _ _ h => h, fun _ _ h => ⟨h, rfl⟩, fun _ _ h => .inl h, .of rfl rfl⟩
theorem After.trans {c c' c'' : Cx} {own own' own'' : Own} (h : After c own c' own') (k : After c' own' c'' own'') : After c own c'' own'' := by
 refine ⟨h.frame.trans k.frame h.keep, fun b x hb hx => k.keep b x (Nat.lt_of_lt_of_le hb h.frame.size) (h.keep b x hb hx), fun b x hp => ?_, fun b x hp => ?_, h.far.trans k.far⟩
 ·exact ⟨(k.prot b x (h.prot b x hp).1).1, (k.prot b x (h.prot b x hp).1).2.trans (h.prot b x hp).2⟩
 ·rcases k.prot' b x hp with h1 | h1 | h1
  ·exact h.prot' b x h1
  ·rcases Nat.lt_or_ge b c.w.heap.size with hlt | hge
   ·right; left; intro hn; exact h1 (h.keep b x hlt hn)
   ·exact .inr (.inr hge)
  ·exact .inr (.inr (Nat.le_trans h.frame.size h1))
section
variable {P : Program} {c c' : Cx} {own own' : Own} {b o : Nat} {k : Blk}
theorem CellsRep.mono (hx : Ext c c') (hc : ∀ x, x < k.len P -> c'.w.cell? ⟨b, o + x, none⟩ = c.w.cell? ⟨b, o + x, none⟩) (h : CellsRep P c b o k) : CellsRep P c' b o k := by
 cases k with
 | cells e cs fz =>
  intro j hj
  obtain ⟨x, h1, h2, h3⟩ := h j hj
  exact ⟨x, (hc j hj).trans h1, h2, h3.mono hx⟩
 | vec e es fz =>
  intro i hi
  refine ⟨(h i hi).1, fun j hj => ?_⟩
  obtain ⟨x, h1, h2, h3⟩ := (h i hi).2 j hj
  have hlt : i * sz P e + j < es.length * sz P e := by
   have : (i + 1) * sz P e <= es.length * sz P e := Nat.mul_le_mul_right _ hi
   rw [Nat.add_mul] at this; omega
  have := hc (i * sz P e + j) hlt
  rw [<- Nat.add_assoc] at this
  exact ⟨x, this.trans h1, h2, h3.mono hx.prot⟩
 | mp kt et es fz => trivial
theorem Lies.kept {own : Own} {w w' : World} (hf : Frame own w w') (h : Lies P w b o k) (h1 : ∀ x, x < k.len P -> own b (o + x) = none) : Lies P w' b o k := by
 have gen : ∀ k : Blk, k.isMp = false -> Lies P w b o k -> Lies P w' b o k := fun k hm h => by
  obtain ⟨arr, e, h8, h2⟩ := h.row hm
  refine .of hm ?_
  rcases hf.blk b _ h8 with h4 | ⟨a, a', e', fr, h4, h5, h6, _⟩ | ⟨es, n, es', n', h4, _⟩
  ·exact ⟨arr, e, h4, h2⟩
  ·cases h4
   exact ⟨a', e, h5, by omega⟩
  ·cases h4
 cases k with
 | cells e cs fz => exact gen _ rfl h
 | vec e es fz => exact gen _ rfl h
 | mp kt et es fz =>
  obtain ⟨rfl, ents, clock, h2, h3⟩ := h
  refine ⟨rfl, ?_⟩
  rcases hf.blk b _ h2 with h4 | ⟨a, a', e', fr, h4, _⟩ | ⟨es, n, es', n', h4, _, h5⟩
  ·exact ⟨ents, clock, h4, h3⟩
  ·cases h4
  ·exact absurd (h1 0 Nat.one_pos) h5
theorem BRep.kept {id : Nat} (h : BRep P c own id k b o) (hx : Ext c c') {own1 : Own} (hf : Frame own1 c.w c'.w) (h1 : ∀ b x, own b x = some (false, id) -> own1 b x = none)
  (ho : ∀ b x, own b x = some (false, id) -> own' b x = some (false, id)) : BRep P c' own' id k b o := by
 have hcell : ∀ x, x < k.len P -> c'.w.cell? ⟨b, o + x, none⟩ = c.w.cell? ⟨b, o + x, none⟩ := fun x hxl => by
  cases hfz : k.fz with
  | false =>
   obtain ⟨h2, h3⟩ := h.opn hfz
   exact hf.cell (h1 _ _ (h3 x hxl)) h2.lt
  | true => exact (hx.prot _ _ (h.shut hfz x hxl)).2
 refine ⟨h.cells.mono hx hcell, fun hfz => ?_, fun hfz x hxl => (hx.prot _ _ (h.shut hfz x hxl)).1⟩
 obtain ⟨h8, h3⟩ := h.opn hfz
 exact ⟨h8.kept hf fun x hxl => h1 _ _ (h3 x hxl), fun x hxl => ho _ _ (h3 x hxl)⟩
theorem RRep.kept {t : Nat} (h : RRep P c own t) (hx : Ext c c') {own1 : Own} (hf : Frame own1 c.w c'.w) (h1 : ∀ b x, own b x = some (true, t) -> own1 b x = none)
  (hp : ∀ b x, c.prot b x -> own1 b x = none) (ho : ∀ b x, own b x = some (true, t) -> own' b x = some (true, t)) : RRep P c' own' t := by
 rcases h with ⟨v, e, n, xs, h2, h3, h4⟩ | ⟨x, ps, eO, eI, h2, h3⟩
 rotate_left
 ·exact .inr ⟨x, ps, eO, eI, hx.row _ _ h2, h3.to (fun b o hb hh => heap_kept hh (hf.blk b o hh) fun y => h1 b y (hb y)) ho⟩
 refine .inl ⟨v, e, n, xs, hx.row _ _ h2, ⟨h3.1, ?_⟩, fun b hb x => ⟨fun hx1 => ho _ _ ((h4 b hb x).1 hx1), fun hx1 => (hx.prot _ _ ((h4 b hb x).2 hx1)).1⟩⟩
 rcases h3.2 with hn | ⟨g, cap, cur, rfl, hb, hg, h5, h6, h7, h8⟩
 ·exact .inl hn
 ·right
  have hsame : ∀ x, own1 g x = none := fun x => by
   rcases Nat.lt_or_ge x (n * sz P e) with hx | hx
   ·exact hp _ _ ((h4 g rfl x).2 hx)
   ·exact h1 _ _ ((h4 g rfl x).1 hx)
  rcases hf.blk g _ hg with h9 | ⟨a, a', e', fr, h9, h10, h11, h12⟩ | ⟨es, n, es', n', h9, _⟩
  ·exact ⟨g, cap, cur, rfl, hb, h9, h5, h6, h7, h8⟩
  ·cases h9
   have : a' = cur := Array.ext_getElem? fun i => h12 i (hsame i)
   subst this
   exact ⟨g, cap, a', rfl, hb, h10, h5, h6, h7, h8⟩
  ·cases h9
end
end Go.Proofs.Ab
namespace Go.Proofs.Ab
open Go
section
variable {R : Type} {r : R} {pg : Pg} {c : Cx} {own : Own} {live : Nat -> Prop} {ρ : Operand -> Value} {env : Env} {bl : List (Nat × Blk)}
theorem run_loadVar_cells {P : Program} {w : World} {t : TypeId} {b o : Nat} {n : Nat} {f : Nat -> Value} (hk : kn P t = true) (hn : isAg P t = true -> sz P t <= n) (hn1 : isAg P t = false -> 0 < n)
  (hc : ∀ j, j < n -> w.cell? ⟨b, o + j, none⟩ = some (f j)) : (loadVar t ⟨b, o, none⟩).run P w = .ok (bif isAg P t then .agg ((List.range (sz P t)).map f).toArray else f 0) w := by
 obtain ⟨d, hd⟩ := kn_some hk
 cases ha : isAg P t with
 | true =>
  unfold loadVar
  simp only [Sem.run_bind, run_isAgg' hd, Result.andThen_ok, ha, if_true, run_sizeOf_u hd]
  rw [run_loadCells w ⟨b, o, none⟩ (sz P t) f fun j hj => by rw [Addr.add_lit]; exact hc j (by have := hn ha; omega)]
  rfl
 | false =>
  unfold loadVar
  have := hc 0 (hn1 ha)
  simp only [Nat.add_zero] at this
  simp [Sem.run_bind, run_isAgg' hd, ha, this]
theorem cells_fun {P : Program} {b o : Nat} {e : TypeId} {cs : List V} {fz : Bool} (h : CellsRep P c b o (.cells e cs fz)) :
  ∃ f : Nat -> Value, ∀ j, j < cs.length -> c.w.cell? ⟨b, o + j, none⟩ = some (f j) ∧ (cs.getD j .undef ≠ .undef -> (f j).oneCell' = true) ∧ VRep P c (cs.getD j .undef) (f j) := by
 refine ⟨fun j => (c.w.cell? ⟨b, o + j, none⟩).getD Go.undef, fun j hj => ?_⟩
 obtain ⟨x, h1, h2, h3⟩ := h j hj
 simp only [h1]
 exact ⟨rfl, h2, h3⟩
theorem vec_fun {P : Program} {b o : Nat} {e : TypeId} {es : List (List V)} {fz : Bool} (h : CellsRep P c b o (.vec e es fz)) :
  ∃ f : Nat -> Nat -> Value, ∀ i, i < es.length -> (es.getD i []).length = sz P e ∧ ∀ j, j < sz P e -> c.w.cell? ⟨b, o + i * sz P e + j, none⟩ = some (f i j) ∧ (f i j).oneCell' = true ∧ PRep P c.w c.prot ((es.getD i []).getD j .undef) (f i j) := by
 refine ⟨fun i j => (c.w.cell? ⟨b, o + i * sz P e + j, none⟩).getD Go.undef, fun i hi => ⟨(h i hi).1, fun j hj => ?_⟩⟩
 obtain ⟨x, h1, h2, h3⟩ := (h i hi).2 j hj
 simp only [h1]
 exact ⟨rfl, h2, h3⟩
theorem Inv.at {g : Nat -> Option Blk} (hI : Inv pg c own g live) {id : Nat} {k : Blk} (hk : g id = some k) {b o n : Nat} (hb : c.blk id = some (b, o, n)) : n = k.num ∧ BRep pg.P c own id k b o := by
 obtain ⟨b', o', h1, h2⟩ := hI.blk id k hk
 rw [hb] at h1
 cases h1
 exact ⟨rfl, h2⟩
theorem prim_rep {P : Program} {w : World} {prot : Nat -> Nat -> Prop} {v : V} (h : v.prim = true) : PRep P w prot v v.val := by
 cases v <;> first | exact .int _ _ | exact .bool _ | exact .str _ | cases h
theorem prim_inv {P : Program} {v : V} {x : Value} (h : v.prim = true) (hx : VRep P c v x) : x = v.val := by
 cases v <;> first | exact hx.int_inv | exact hx.bool_inv | exact hx.str_inv | cases h
theorem keyOk_some {P : Program} {kt : TypeId} {v : V} (h : keyOk P kt v = true) : v.prim = true ∧ ∃ d, P.underlying kt = some d ∧ MapKept.IsKey d v.val := by
 unfold keyOk at h
 split at h
 ·rename_i hu; have h := of_decide_eq_true h; exact ⟨rfl, _, hu, h⟩
 ·rename_i hu; exact ⟨rfl, _, hu, trivial⟩
 ·rename_i hu; exact ⟨rfl, _, hu, trivial⟩
 ·cases h
theorem same_now {P : Program} {kt : TypeId} {a b : V} {d : TypeDesc} (hd : P.underlying kt = some d) (ha : keyOk P kt a = true) (hb : keyOk P kt b = true) :
  Instr.sameNow d a.val b.val = some (a.same b) ∧ (a.same b = true -> a.val = b.val) := by
 unfold keyOk at ha hb
 rw [hd] at ha hb
 split at ha
 ·rename_i k k' n hu
  cases hu
  split at hb
  ·rename_i k2 k3 n2 hu
   cases hu
   obtain rfl := of_decide_eq_true ha
   obtain rfl := of_decide_eq_true hb
   refine ⟨by simp [Instr.sameNow, V.val, V.same], fun h => ?_⟩
   have : n = n2 := by simpa [V.same] using h
   rw [this]
  ·rename_i hu; cases hu
  ·rename_i hu; cases hu
  ·cases hb
 ·rename_i x hu
  cases hu
  split at hb
  ·rename_i hu; cases hu
  ·rename_i y hu
   refine ⟨by simp [Instr.sameNow, V.val, V.same], fun h => ?_⟩
   have : x = y := by simpa [V.same] using h
   rw [this]
  ·rename_i hu; cases hu
  ·cases hb
 ·rename_i x hu
  cases hu
  split at hb
  ·rename_i hu; cases hu
  ·rename_i hu; cases hu
  ·rename_i y hu
   refine ⟨?_, fun h => ?_⟩
   ·simp only [Instr.sameNow, V.val, V.same, Option.some.injEq]
    cases h : decide (x = y) with
    | true => exact (MapKept.bytes_beq x y).2 (of_decide_eq_true h)
    | false => 
     cases h2 : x == y with
     | false => rfl
     | true => exact absurd ((MapKept.bytes_beq x y).1 h2) (of_decide_eq_false h)
   ·have : x = y := by simpa [V.same] using h
    rw [this]
  ·cases hb
 ·cases ha
theorem find_rep {P : Program} {kt : TypeId} {k : V} {d : TypeDesc} (hd : P.underlying kt = some d) (hk : keyOk P kt k = true) : ∀ (l : List MapEntry) (es : List (V × V)) (i : Nat),
  l.map (fun x => (x.key, x.val)) = es.map (fun p => (p.1.val, p.2.val)) -> (∀ p ∈ es, keyOk P kt p.1 = true ∧ p.2.prim = true) ->
  (mpHas k es = false ∧ Instr.findNow d k.val l i = some none ∧ (∀ z, mpGet k z es = z) ∧ ∀ v, mpSet k v es = es ++ [(k, v)]) ∨
  ∃ j e p, mpHas k es = true ∧ l[j]? = some e ∧ es[j]? = some p ∧ Instr.findNow d k.val l i = some (some (i + j, p.2.val)) ∧ (∀ z, mpGet k z es = p.2) ∧ e.key = k.val ∧ ∀ v, mpSet k v es = es.set j (k, v)
 | [], [], i, _, _ => .inl ⟨rfl, rfl, fun _ => rfl, fun _ => rfl⟩
 | [], _ :: _, _, h, _ => by cases h
 | _ :: _, [], _, h, _ => by cases h
 | e :: l, p :: es, i, h, ho => by
  simp only [List.map_cons, List.cons.injEq, Prod.mk.injEq] at h
  obtain ⟨⟨h1, h2⟩, h3⟩ := h
  obtain ⟨h4, h5⟩ := same_now hd hk (ho p (.head _)).1
  cases hs : k.same p.1 with
  | true =>
   refine .inr ⟨0, e, p, by simp [mpHas, hs], rfl, rfl, ?_, fun z => by simp [mpGet, hs], by rw [h1, h5 hs], fun v => by simp [mpSet, hs]⟩
   simp [Instr.findNow, h1, h4, hs, h2]
  | false =>
   rcases find_rep hd hk l es (i + 1) h3 (fun q hq => ho q (.tail _ hq)) with ⟨h6, h7, h8, h9⟩ | ⟨j, e', p', h6, h7, h8, h9, h10, h11, h12⟩
   ·refine .inl ⟨by simp [mpHas, hs, h6], ?_, fun z => by simp [mpGet, hs, h8], fun v => by simp [mpSet, hs, h9]⟩
    simp [Instr.findNow, h1, h4, hs, h7]
   ·refine .inr ⟨j + 1, e', p', by simp [mpHas, hs, h6], by simpa using h7, by simpa using h8, ?_, fun z => by simp [mpGet, hs, h10], h11, fun v => by simp [mpSet, hs, h12]⟩
    simp [Instr.findNow, h1, h4, hs, h9]; omega
theorem mpGet_prim {P : Program} {kt : TypeId} {k z : V} (hz : z.prim = true) : ∀ (es : List (V × V)), (∀ p ∈ es, keyOk P kt p.1 = true ∧ p.2.prim = true) -> (mpGet k z es).prim = true
 | [], _ => hz
 | p :: es, h => by
  unfold mpGet
  cases k.same p.1 with
  | true => exact (h p (.head _)).2
  | false => exact mpGet_prim hz es fun q hq => h q (.tail _ hq)
theorem run_lookup_map {P : Program} {w : World} {t kt et : TypeId} {b : Nat} {es : List (V × V)} {k z : V} {ok : Bool} (hu : P.underlying t = some (.map kt et)) (hk : keyOk P kt k = true) (hM : MapRep P w b kt es)
  (hz : zeroV P et = some z) (hzp : z.prim = true) :
  (Instr.lookup t (.map (some b)) k.val ok).run P w = .ok (bif ok then .tuple #[(mpGet k z es).val, .bool (mpHas k es)] else (mpGet k z es).val) w := by
 obtain ⟨_, d, hd, hi⟩ := keyOk_some hk
 obtain ⟨ents, clock, hb, hl, ho⟩ := hM
 obtain ⟨i, zv, h1, h2, h3⟩ := zeroV_some hz
 have hzv : zv = z.val := by
  have c : Cx := ⟨w, fun _ => none, fun _ => none, fun _ _ => False, fun _ => False⟩
  have := cvK_rep (P := P) (c := c) et zv
  rw [<- h3] at this
  exact prim_inv hzp this
 have hzr : (zeroValue et).run P w = .ok z.val w := by simp [zeroValue, typeInfo, h1, h2, hzv]
 rcases find_rep hd hk ents.toList es 0 hl ho with ⟨h6, h7, h8, _⟩ | ⟨j, e', p', h6, h7, h8, h9, h10, h11, _⟩
 ·simp only [Instr.lookup, Sem.run_bind, run_underlying hu, MapKept.run_getObj_map hb, MapKept.run_checkKey hd hi, MapKept.run_findKey hd h7, hzr, Result.andThen_ok, Sem.run_pure, h8, h6]
  cases ok <;> rfl
 ·simp only [Instr.lookup, Sem.run_bind, run_underlying hu, MapKept.run_getObj_map hb, MapKept.run_checkKey hd hi, MapKept.run_findKey hd h9, hzr, Result.andThen_ok, Sem.run_pure, h10, h6]
  cases ok <;> rfl
theorem loadS_sound {t : TypeId} {a : V} {k : V -> Option R} {y : Value} (hI : Inv pg c own (getB bl) live) (h : loadS pg t a bl k = some r) (hy : VRep pg.P c a y) :
  ∃ v x, k v = some r ∧ (Instr.loadAt t y).run pg.P c.w = .ok x c.w ∧ VRep pg.P c v x := by
 unfold loadS at h
 split at h
 ·rename_i id off
  obtain ⟨b, o, n, hb, rfl⟩ := hy.ref_inv
  split at h
  ·rename_i e cs fz hg
   obtain ⟨hc, h1⟩ := condL_some h
   simp only [Bool.and_eq_true] at hc
   obtain ⟨hle, hkn⟩ := hc
   have hle : off + sz pg.P t <= cs.length := by simpa using hle
   obtain ⟨rfl, hB⟩ := hI.at hg hb
   obtain ⟨f, hf⟩ := cells_fun hB.cells
   rcases cond_some h1 with ⟨ha, h2⟩ | ⟨ha, h2⟩
   ·have hr := run_loadVar_cells (w := c.w) (b := b) (o := o + off) (n := sz pg.P t) (f := fun j => f (off + j)) hkn (fun _ => Nat.le_refl _) (fun h => by rw [ha] at h; cases h) (fun j hj => by rw [Nat.add_assoc]; exact (hf (off + j) (by omega)).1)
    refine ⟨_, _, h2, by simp only [Instr.loadAt, Instr.sureAddr, Sem.run_bind, Sem.run_pure, Result.andThen_ok, hr]; rfl, ?_⟩
    rw [ha]
    refine .agg (by simp; omega) fun j hj => ?_
    have hj' : j < sz pg.P t ∧ off + j < cs.length := by simp at hj; omega
    have := (hf (off + j) hj'.2).2.2
    simpa [List.getD, hj'.1] using this
   ·split at h2
    ·cases h2
    ·rename_i hne
     have hlt := getD_of_ne hne
     have hr := run_loadVar_cells (w := c.w) (b := b) (o := o + off) (n := 1) (f := fun j => f (off + j)) hkn (fun h => by rw [ha] at h; cases h) (fun _ => Nat.one_pos) (fun j hj => by rw [Nat.add_assoc]; exact (hf (off + j) (by omega)).1)
     refine ⟨_, _, h2, by simp only [Instr.loadAt, Instr.sureAddr, Sem.run_bind, Sem.run_pure, Result.andThen_ok, hr]; rfl, ?_⟩
     rw [ha]
     exact (hf off hlt).2.2
  ·rename_i e es fz hg
   obtain ⟨hc, h1⟩ := condL_some h
   simp only [Bool.and_eq_true] at hc
   obtain ⟨⟨ha, hs⟩, hfl⟩ := hc
   have hs : sz pg.P e = 1 := by simpa using hs
   have hfl : (flat pg.P deep t).length = sz pg.P t := by simpa using hfl
   obtain ⟨rfl, hB⟩ := hI.at hg hb
   obtain ⟨f, hf⟩ := vec_fun hB.cells
   obtain ⟨d, hd⟩ := isAg_kn ha
   obtain ⟨vs, h2, h3, h4⟩ := decL_vrep h1
   have hlt : ∀ j, j < sz pg.P t -> off + j < es.length := fun j hj => by
    have := (h4 j (by omega)).1
    rcases Nat.lt_or_ge (off + j) es.length with h | h
    ·exact h
    ·exfalso; apply this; simp [List.getD, List.getElem?_eq_none h]
   have hr := run_loadVar_cells (w := c.w) (b := b) (o := o + off) (n := sz pg.P t) (f := fun j => f (off + j) 0) (t := t) (by unfold kn; rw [hd]; rfl) (fun _ => Nat.le_refl _) (fun h => by rw [ha] at h; cases h)
    (fun j hj => by have := ((hf (off + j) (hlt j hj)).2 0 (by omega)).1; rw [hs] at this; rw [Nat.add_assoc]; simpa using this)
   refine ⟨_, _, h2, by simp only [Instr.loadAt, Instr.sureAddr, Sem.run_bind, Sem.run_pure, Result.andThen_ok, hr]; rfl, ?_⟩
   rw [ha]
   refine .agg (by simp; omega) fun j hj => ?_
   have hj' : j < sz pg.P t := by omega
   have := (h4 j (by omega)).2 c (f (off + j) 0) (.pure (by simpa using ((hf (off + j) (hlt j hj')).2 0 (by omega)).2.2))
   simpa [hj'] using this
  ·cases h
  ·cases h
 ·rename_i id e1 i j
  obtain ⟨b, o, n, hb, rfl⟩ := hy.el_inv
  split at h
  ·rename_i e es fz hg
   obtain ⟨he, h1⟩ := condR_some h
   have he : e = e1 := by simpa using he
   subst he
   obtain ⟨rfl, hB⟩ := hI.at hg hb
   obtain ⟨f, hf⟩ := vec_fun hB.cells
   by_cases hi : i < es.length
   ·obtain ⟨v, x, h2, h3, h4⟩ := run_loadVar_ptr (w := c.w) (prot := c.prot) (b := b) (o := o + i * sz pg.P e + j) (f := fun x => f i (j + x)) (n := sz pg.P e - j) h1
     (fun x hx => by have := getD_of_ne hx; rw [(hf i hi).1] at this; omega) (fun x hx => by rw [Nat.add_assoc]; exact ((hf i hi).2 (j + x) (by omega)).1) (fun x hx => ((hf i hi).2 (j + x) (by omega)).2.2)
    exact ⟨v, x, h2, by simp only [Instr.loadAt, Instr.sureAddr, Sem.run_bind, Sem.run_pure, Result.andThen_ok, h3], .pure h4⟩
   ·obtain ⟨v, x, h2, h3, h4⟩ := run_loadVar_ptr (w := c.w) (prot := c.prot) (b := b) (o := o + i * sz pg.P e + j) (f := fun x => Go.undef) (n := 0) h1
     (fun x hx => by exfalso; apply hx; simp [List.getD, List.getElem?_eq_none (Nat.le_of_not_lt hi)]) (fun x hx => by cases hx) (fun x hx => by cases hx)
    exact ⟨v, x, h2, by simp only [Instr.loadAt, Instr.sureAddr, Sem.run_bind, Sem.run_pure, Result.andThen_ok, h3], .pure h4⟩
  ·cases h
 ·cases h
theorem pickI_some {R : Type} {r : R} {i : Int} : ∀ {n : Nat} {k : Nat -> Option R}, pickI i n k = some r -> ∃ j, j < n ∧ i = (j : Int) ∧ k j = some r
 | 0, _, h => by cases h
 | n + 1, k, h => by
  unfold pickI at h
  split at h
  ·rename_i hi; exact ⟨n, Nat.lt_succ_self n, hi, h⟩
  ·obtain ⟨j, hj, h1, h2⟩ := pickI_some h
   exact ⟨j, Nat.lt_succ_of_lt hj, h1, h2⟩
theorem opR_sound {o : Oper} {k : V -> Option R} (hI : Inv pg c own (getB bl) live) (h : opR pg env o bl k = some r) (hρ : ∀ x ∈ o.op.operands, ∀ t, VRep pg.P c (evO pg env t x) (ρ x)) :
  ∃ v x, k v = some r ∧ (execOp ρ o).run pg.P c.w = .ok (.value x) c.w ∧ VRep pg.P c v x := by
 unfold opR at h
 split at h
 ·rename_i t a ho
  rw [ho] at hρ
  have h0 := hρ a (by simp [Op.operands]) 0
  split at h
  ·rename_i cs off hx
   rw [hx] at h0
   have h1 := h0.ptr_inv
   generalize hy : ρ a = y at h1
   cases h1 with
   | ptr f b o' hc hr =>
    obtain ⟨v, z, h2, h3, h4⟩ := run_loadVar_ptr (w := c.w) (prot := c.prot) (b := b) (o := o' + off) (f := fun j => f (off + j)) (n := cs.length - off) h
     (fun j hj => by have := getD_of_ne hj; omega) (fun j hj => by rw [Nat.add_assoc]; exact (hc (off + j) (by omega)).2.1) (fun j hj => hr (off + j) (by omega))
    refine ⟨v, z, h2, ?_, .pure h4⟩
    simp only [execOp, ho, hy]
    simp [Instr.loadAt, Instr.sureAddr, h3]
  ·obtain ⟨v, z, h1, h2, h3⟩ := loadS_sound hI h h0
   exact ⟨v, z, h1, by simp only [execOp, ho]; rw [Sem.run_bind, h2]; rfl, h3⟩
 ·rename_i f first cap ho
  rw [ho] at hρ
  split at h
  ·rename_i hf
   have hf : first = #[] := Array.toList_eq_nil_iff.1 hf
   subst hf
   refine ⟨_, .func (.func f) #[] (cap.map ρ), h, by simp [execOp, ho, Instr.makeFunc], .fn f (by simp) fun j hj => ?_⟩
   have hj' : j < cap.size := by simpa using hj
   have := hρ cap[j] (by simp [Op.operands]) 0
   simpa [List.getD, Array.getD, hj'] using this
  ·cases h
 ·rename_i t x ix ho
  rw [ho] at hρ
  have h0 := hρ x (by simp [Op.operands]) t
  have h1 := hρ ix (by simp [Op.operands]) 0
  split at h
  ·rename_i id e kd i hx hi
   rw [hx] at h0
   rw [hi] at h1
   obtain ⟨b, o', n, cap, hb, hx'⟩ := h0.arr_inv
   have hi' := h1.int_inv
   split at h
   ·rename_i e' e'' es fz hu hg
    obtain ⟨hc, h2⟩ := condL_some h
    simp only [Bool.and_eq_true] at hc
    obtain ⟨⟨he1, he2⟩, hk⟩ := hc
    have he1 : e = e' := by simpa using he1
    have he2 : e = e'' := by simpa using he2
    subst he1; subst he2
    obtain ⟨hir, h3⟩ := iteL_some h2
    obtain ⟨rfl, hB⟩ := hI.at hg hb
    obtain ⟨d, hd⟩ := kn_some hk
    refine ⟨_, .pointer (some ⟨b, o' + i.toNat * sz pg.P e + 0, none⟩), h3, ?_, .el e _ 0 hb (by show i.toNat < es.length; omega)⟩
    simp only [execOp, ho, hx', hi']
    have hir2 : 0 <= i ∧ i < ((Blk.vec e es fz).num : Int) := hir
    simp [Instr.indexAt, asIntOf, run_underlying hu, hir2, run_sizeOf_u hd, Addr.add_lit]
   ·cases h
  ·rename_i id off kd i hx hi
   rw [hx] at h0
   rw [hi] at h1
   obtain ⟨b, o', n, hb, hx'⟩ := h0.ref_inv
   have hi' := h1.int_inv
   split at h
   ·rename_i m e' e'' es fz hu hg
    obtain ⟨hc, h2⟩ := condL_some h
    simp only [Bool.and_eq_true] at hc
    obtain ⟨⟨he1, he2⟩, hk⟩ := hc
    have he1 : e' = e'' := by simpa using he1
    have he2 : off = 0 := by simpa using he2
    subst he1; subst he2
    obtain ⟨hir, h3⟩ := iteL_some h2
    obtain ⟨d, hd⟩ := kn_some hk
    obtain ⟨rfl, hB⟩ := hI.at hg hb
    refine ⟨_, .pointer (some ⟨b, o' + i.toNat * sz pg.P e' + 0, none⟩), h3, ?_, .el e' _ 0 hb (by show i.toNat < es.length; omega)⟩
    simp only [execOp, ho, hx', hi']
    have hir : 0 <= i ∧ i < (m : Int) := ⟨hir.1, hir.2.1⟩
    simp [Instr.indexAt, asIntOf, Instr.sureAddr, run_underlying hu, hir, run_sizeOf_u hd, Addr.add_lit]
   ·rename_i m e' e'' es fz hu hg
    obtain ⟨hc, h2⟩ := condL_some h
    simp only [Bool.and_eq_true] at hc
    obtain ⟨hk, _⟩ := hc
    obtain ⟨j, hj, hij, h3⟩ := pickI_some h2
    obtain ⟨d, hd⟩ := kn_some hk
    refine ⟨_, .pointer (some ⟨b, o' + (off + j * sz pg.P e'), none⟩), h3, ?_, .ref _ hb⟩
    subst hij
    simp only [execOp, ho, hx', hi']
    have hir : 0 <= (j : Int) ∧ (j : Int) < (m : Int) := ⟨by omega, by omega⟩
    simp [Instr.indexAt, asIntOf, Instr.sureAddr, run_underlying hu, hir, hj, run_sizeOf_u hd, Addr.add_lit, Nat.add_assoc]
   ·cases h
  ·obtain ⟨v, z, h2, h3, h4⟩ := indexAddrK_sound h h0 h1
   exact ⟨v, z, h2, by simp only [execOp, ho]; rw [Sem.run_bind, h3]; rfl, h4⟩
 ·rename_i t x lo hi mx ho
  rw [ho] at hρ
  have h0 := hρ x (by simp [Op.operands]) t
  split at h
  ·rename_i id off hx
   rw [hx] at h0
   obtain ⟨b, o', n, hb, hx'⟩ := h0.ref_inv
   split at h
   ·rename_i m e' e'' es fz hu hg
    obtain ⟨hc, h2⟩ := condL_some h
    simp only [Bool.and_eq_true] at hc
    obtain ⟨⟨he1, he2⟩, hk⟩ := hc
    have he1 : e' = e'' := by simpa using he1
    have he2 : off = 0 := by simpa using he2
    subst he1; subst he2
    obtain ⟨d, hd⟩ := kn_some hk
    obtain ⟨l, h3, hl⟩ := bnd_sound h2 (fun y hy => hρ y (by simp [Op.operands, hy]) _)
    obtain ⟨⟨h4, hlen⟩, h5⟩ := iteL_some h3
    obtain ⟨rfl, hB⟩ := hI.at hg hb
    have hbd := run_bounds (w := c.w) (P := pg.P) (ρ := ρ) (lo := lo) (hi := none) (b := false) (len := m) (cap := m) (l := l) (h := m) hl (.inl ⟨rfl, rfl⟩) h4 (Nat.le_refl _)
    refine ⟨_, .slice (some ⟨b, o' + (if m - l = 0 then 0 else l * sz pg.P e'), none⟩) (m - l) (m - l), h5, ?_, .sub e' l (m - l) _ hb (by show l + (m - l) <= es.length; omega)⟩
    simp only [execOp, ho, hx', Option.map_none]
    simp only [Option.map_none] at hbd
    simp [Instr.sliceAt, run_underlying hu, Instr.sureAddr, hbd, run_sizeOf_u hd]
    by_cases hml : m = l
    ·subst hml; simp
    ·have : ¬ (m - l = 0) := by omega
     simp [hml, this, Addr.add_lit]
   ·cases h
  ·obtain ⟨v, z, h1, h2, h3⟩ := sliceK_sound h h0 (fun y hy => hρ y (by simp [Op.operands, hy]) _) (fun y hy => hρ y (by simp [Op.operands, hy]) _)
   exact ⟨v, z, h1, by simp only [execOp, ho]; rw [Sem.run_bind, h2]; rfl, h3⟩
 ·rename_i src dst x ho
  rw [ho] at hρ
  have h0 := hρ x (by simp [Op.operands]) src
  split at h
  ·rename_i id e o' l hx
   rw [hx] at h0
   obtain ⟨b, o2, n, cap, hb, hle, hx'⟩ := h0.sub_inv
   split at h
   ·rename_i e1 e2 es fz hs hd hg he
    obtain ⟨hc, h2⟩ := condL_some h
    simp only [Bool.and_eq_true] at hc
    obtain ⟨he1, he2⟩ := hc
    have he1 : e = e1 := by simpa using he1
    have he2 : e = e2 := by simpa using he2
    subst he1; subst he2
    obtain ⟨⟨hby, hol⟩, h3⟩ := iteL_some h2
    obtain ⟨rfl, hB⟩ := hI.at hg hb
    obtain ⟨f, hf⟩ := vec_fun hB.cells
    have hlen : ((es.drop o').take l).length = l := by simp; omega
    have hget : ∀ i, i < l -> ((es.drop o').take l).getD i [] = es.getD (o' + i) [] := fun i hi => by simp [List.getD, hi]
    have key := run_convert_cells (w := c.w) hs he hd hby (some ⟨b, o2 + (if l = 0 then 0 else o' * sz pg.P e), none⟩) cap (b := b) (o := o2 + o' * sz pg.P e) (fun hne => by
      have : l ≠ 0 := by intro h0; subst h0; simp at hne
      rw [if_neg this]) (fun i => f (o' + i) 0) (fun i hi => by
      rw [hlen] at hi
      obtain ⟨h5, h6⟩ := hf (o' + i) (by omega)
      have hone : sz pg.P e = 1 := by
       obtain ⟨xs, _, _, h7⟩ := bytes_of hby
       rw [<- h5, <- hget i hi, h7 i (by omega)]; rfl
      have := (h6 0 (by omega)).1
      rw [hone] at this ⊢
      rw [show o2 + o' * 1 + i = o2 + (o' + i) * 1 + 0 by omega]; exact this) (fun i n hi hn => by
      rw [hlen] at hi
      obtain ⟨h5, h6⟩ := hf (o' + i) (by omega)
      rw [hget i hi] at hn
      have hone : sz pg.P e = 1 := by rw [<- h5, hn]; rfl
      have := (h6 0 (by omega)).2.2
      rw [hn] at this
      generalize f (o' + i) 0 = y at this
      cases this; rfl)
    rw [hlen] at key
    exact ⟨_, _, h3, by simp only [execOp, ho, hx']; rw [Sem.run_bind, key]; rfl, .pure (.str _)⟩
   ·cases h
  ·obtain ⟨v, z, h1, h2, h3⟩ := convK_sound h h0
   exact ⟨v, z, h1, by simp only [execOp, ho]; rw [Sem.run_bind, h2]; rfl, h3⟩
 ·rename_i args ts ho
  rw [ho] at hρ
  split at h
  ·rename_i x t hargs hts
   have hargs : args = #[x] := by rw [<- Array.toList_inj]; simpa using hargs
   have hts : ts = #[t] := by rw [<- Array.toList_inj]; simpa using hts
   subst hargs; subst hts
   have h0 := hρ x (by simp [Op.operands, Call.operands]) t
   split at h
   ·rename_i id e hx
    rw [hx] at h0
    obtain ⟨b, o', n, cap, hb, hx'⟩ := h0.arr_inv
    split at h
    ·rename_i e0 e' es fz hu hg
     obtain ⟨_, h2⟩ := condL_some h
     obtain ⟨rfl, hB⟩ := hI.at hg hb
     refine ⟨_, _, h2, ?_, .pure (.int _ _)⟩
     simp [execOp, ho, resolve, invoke, builtin, Builtin.len_, hx', run_underlying hu, goInt]
     rfl
    ·cases h
   ·obtain ⟨v, z, h1, h2, h3⟩ := lenK_sound (w := c.w) (ty := o.type) (ts := #[t]) (xs := #[ρ x]) h h0 rfl rfl
    exact ⟨v, z, h1, by simp [execOp, ho, resolve, invoke, builtin, h2], h3⟩
  ·cases h
 ·rename_i t x ix ok ho
  rw [ho] at hρ
  have h0 := hρ x (by simp [Op.operands]) t
  split at h
  ·rename_i id hx
   rw [hx] at h0
   obtain ⟨b, n, hb, hx'⟩ := h0.mp_inv
   split at h
   ·rename_i kt et kt' et' es hu hg
    obtain ⟨hc, h2⟩ := condL_some h
    simp only [Bool.and_eq_true] at hc
    obtain ⟨⟨he1, he2⟩, hk⟩ := hc
    have he1 : kt = kt' := by simpa using he1
    have he2 : et = et' := by simpa using he2
    subst he1; subst he2
    split at h2
    ·rename_i z hz
     obtain ⟨hzp, h3⟩ := condL_some h2
     obtain ⟨_, hB⟩ := hI.at hg hb
     obtain ⟨_, hM⟩ := (hB.opn rfl).1
     obtain ⟨hkp, _⟩ := keyOk_some hk
     have hix := prim_inv hkp (hρ ix (by simp [Op.operands]) kt)
     have hrun := run_lookup_map (w := c.w) (ok := ok) hu hk hM hz hzp
     obtain ⟨v', h4, _, _, h5⟩ := dec1_vrep h3
     have h6 := h5 c _ (.pure (prim_rep (mpGet_prim hzp es hM.choose_spec.choose_spec.2.2)))
     rw [<- hix] at hrun
     cases ok with
     | true =>
      refine ⟨_, _, h4, by simp only [execOp, ho, hx']; rw [Sem.run_bind, hrun]; rfl, .tup rfl fun j hj => ?_⟩
      match j, hj with
      | 0, _ => exact h6
      | 1, _ => exact .pure (.bool _)
     | false => exact ⟨_, _, h4, by simp only [execOp, ho, hx']; rw [Sem.run_bind, hrun]; rfl, h6⟩
    ·cases h2
   ·cases h
  ·cases h
 ·exact opQ_sound h hρ
end
end Go.Proofs.Ab
namespace Go.Proofs.Ab
open Go
theorem nbeq {a b : Nat} (h : a ≠ b) : Nat.beq a b = false := by
 cases h' : Nat.beq a b with
 | false => rfl
 | true => exact absurd (Nat.eq_of_beq_eq_true h') h
theorem getB_setB (t : Nat) (b : Blk) : ∀ (bl : List (Nat × Blk)) (t' : Nat), getB (setB bl t b) t' = if t' = t then some b else getB bl t'
 | [], t' => by
  by_cases h : t = t'
  ·subst h; simp [setB, getB]
  ·simp only [setB, getB, Nat.beq_eq_true_eq]
   have h1 : Nat.beq t t' = false := nbeq h
   simp [h1, Ne.symm h]
 | (k, c) :: bl, t' => by
  by_cases hk : k = t
  ·subst hk
   by_cases h : k = t'
   ·subst h; simp [setB, getB]
   ·have h1 : Nat.beq k t' = false := nbeq h
    have h2 : ¬ t' = k := fun e => h e.symm
    simp [setB, getB, h1, h2]
  ·have h1 : Nat.beq k t = false := nbeq hk
   simp only [setB, h1, cond_false, getB]
   by_cases h : k = t'
   ·subst h; simp [hk]
   ·have h2 : Nat.beq k t' = false := nbeq h
    simp only [h2, cond_false]
    exact getB_setB t b bl t'
theorem freeze_idem (b : Blk) : b.freeze.freeze = b.freeze := by cases b <;> rfl
theorem getB_freeze (ids : List Nat) : ∀ (bl : List (Nat × Blk)) (t : Nat), getB (freeze bl ids) t = if t ∈ ids then (getB bl t).map Blk.freeze else getB bl t := by
 induction ids with
 | nil => intro bl t; rfl
 | cons id ids ih =>
  intro bl t
  have key : getB (freeze bl (id :: ids)) t = if t ∈ ids then (if t = id then (getB bl t).map Blk.freeze else getB bl t).map Blk.freeze else (if t = id then (getB bl t).map Blk.freeze else getB bl t) := by
   cases hb : getB bl id with
   | none =>
    simp only [freeze, hb]
    rw [ih]
    by_cases ht : t = id
    ·subst ht; simp [hb]
    ·simp [ht]
   | some b =>
    simp only [freeze, hb]
    rw [ih, getB_setB]
    by_cases ht : t = id
    ·subst ht; simp [hb]
    ·simp [ht]
  rw [key]
  by_cases h1 : t = id
  ·subst h1
   by_cases h2 : t ∈ ids
   ·simp only [h2, if_true, List.mem_cons, or_true]
    cases getB bl t with
    | none => rfl
    | some b => simp [freeze_idem]
   ·simp [h2]
  ·simp [h1]
section
variable {pg : Pg} {c : Cx} {own : Own} {live : Nat -> Prop} {g : Nat -> Option Blk}
def Cx.frz (c : Cx) (own : Own) (ids : List Nat) : Cx := { c with prot := fun b x => c.prot b x ∨ ∃ id, id ∈ ids ∧ own b x = some (false, id) }
open Classical in
noncomputable def Own.frz (own : Own) (ids : List Nat) : Own := fun b x => if ∃ id, id ∈ ids ∧ own b x = some (false, id) then none else own b x
theorem Own.frz_none {ids : List Nat} {b x : Nat} (h : own b x = none) : own.frz ids b x = none := by
 unfold Own.frz; split
 ·rfl
 ·exact h
theorem Own.frz_row {ids : List Nat} {b x t : Nat} (h : own b x = some (true, t)) : own.frz ids b x = some (true, t) := by
 unfold Own.frz
 rw [if_neg, h]
 rintro ⟨id, _, h2⟩
 rw [h] at h2; cases h2
theorem Own.frz_blk {ids : List Nat} {b x id : Nat} (h : own b x = some (false, id)) (hn : id ∉ ids) : own.frz ids b x = some (false, id) := by
 unfold Own.frz
 rw [if_neg, h]
 rintro ⟨id', h1, h2⟩
 rw [h] at h2; cases h2; exact hn h1
theorem Own.frz_in {ids : List Nat} {b x id : Nat} (h : own b x = some (false, id)) (hn : id ∈ ids) : own.frz ids b x = none := by
 unfold Own.frz; rw [if_pos ⟨id, hn, h⟩]
theorem Ext.frz (c : Cx) (own : Own) (ids : List Nat) : Ext c (c.frz own ids) := ⟨fun b x h => ⟨.inl h, rfl⟩, fun _ _ h => h, fun _ _ h => h⟩
theorem After.frz (c : Cx) (own : Own) (ids : List Nat) : After c own (c.frz own ids) (own.frz ids) :=
 ⟨Frame.refl _ _, fun b x _ h => Own.frz_none h, fun b x h => ⟨.inl h, rfl⟩, fun b x h => by
  rcases h with h | ⟨id, _, h⟩
  ·exact .inl h
  ·exact .inr (.inl (by rw [h]; nofun)), .of rfl rfl⟩
theorem Blk.freeze_num (k : Blk) : k.freeze.num = k.num := by cases k <;> rfl
theorem Blk.freeze_len (P : Program) (k : Blk) : k.freeze.len P = k.len P := by cases k <;> rfl
theorem Blk.freeze_fz (k : Blk) : k.freeze.fz = true := by cases k <;> rfl
theorem CellsRep.freeze {P : Program} {b o : Nat} {k : Blk} (h : CellsRep P c b o k) : CellsRep P c b o k.freeze := by cases k <;> first | exact h | trivial
theorem Inv.frz (hI : Inv pg c own g live) (ids : List Nat) : Inv pg (c.frz own ids) (own.frz ids) (fun t => if t ∈ ids then (g t).map Blk.freeze else g t) live := by
 have hx := Ext.frz c own ids
 refine ⟨fun id k hk => ?_, fun t ht => ?_, fun b x hp => ?_, fun b x hn => ?_, fun id r hr => ?_, fun i cs hg => (hI.gl i cs hg).mono hx.prot⟩
 ·by_cases hid : id ∈ ids
  ·simp only [hid, if_true] at hk
   cases hg : g id with
   | none => rw [hg] at hk; cases hk
   | some k0 =>
    rw [hg] at hk
    cases hk
    obtain ⟨b, o, h1, h2⟩ := hI.blk id k0 hg
    refine ⟨b, o, (by rw [Blk.freeze_num]; exact h1), (h2.cells.mono hx fun _ _ => rfl).freeze, fun hf => (by rw [Blk.freeze_fz] at hf; cases hf), fun _ x hx1 => ?_⟩
    rw [Blk.freeze_len] at hx1
    cases hfz : k0.fz with
    | true => exact .inl (h2.shut hfz x hx1)
    | false => exact .inr ⟨id, hid, (h2.opn hfz).2 x hx1⟩
  ·simp only [hid, if_false] at hk
   obtain ⟨b, o, h1, h2⟩ := hI.blk id k hk
   exact ⟨b, o, h1, (h2.cells.mono hx fun _ _ => rfl), fun hf => ⟨(h2.opn hf).1, fun x hx1 => Own.frz_blk ((h2.opn hf).2 x hx1) hid⟩, fun hf x hx1 => .inl (h2.shut hf x hx1)⟩
 ·rcases hI.row t ht with ⟨v, e, n, xs, h2, h3, h4⟩ | ⟨x, ps, eO, eI, h2, h3⟩
  rotate_left
  ·exact .inr ⟨x, ps, eO, eI, h2, h3.to (fun b o _ hh => hh) fun b y h => Own.frz_row h⟩
  exact .inl ⟨v, e, n, xs, h2, h3, fun b hb x => ⟨fun hx1 => Own.frz_row ((h4 b hb x).1 hx1), fun hx1 => .inl ((h4 b hb x).2 hx1)⟩⟩
 ·rcases hp with hp | ⟨id, h1, h2⟩
  ·exact ⟨Own.frz_none (hI.np b x hp).1, (hI.np b x hp).2⟩
  ·exact ⟨Own.frz_in h2 h1, hI.fresh b x (by rw [h2]; nofun)⟩
 ·exact hI.fresh b x fun h => hn (Own.frz_none h)
 ·rcases hI.dom id r hr with ⟨k, hk⟩ | ho
  ·by_cases hid : id ∈ ids
   ·exact .inl ⟨k.freeze, by simp [hid, hk]⟩
   ·exact .inl ⟨k, by simp [hid, hk]⟩
  ·exact .inr ho
theorem mapO_some {α β : Type} {f : α -> Option β} : ∀ {l : List α} {l' : List β}, mapO f l = some l' -> l'.length = l.length ∧ ∀ j (d : α) (d' : β), j < l.length -> f (l.getD j d) = some (l'.getD j d')
 | [], l', h => by cases h; exact ⟨rfl, fun j d d' hj => by cases hj⟩
 | a :: l, l', h => by
  unfold mapO at h
  split at h
  ·rename_i b hb
   split at h
   ·rename_i bs hbs
    cases h
    obtain ⟨h1, h2⟩ := mapO_some hbs
    refine ⟨by simp [h1], fun j d d' hj => ?_⟩
    cases j with
    | zero => exact hb
    | succ j => simpa using h2 j d d' (by simpa using hj)
   ·cases h
  ·cases h
theorem tok_fit {tok : Tok} {e : TypeId} {es : List (List V)} {x : Value} (pz : Bool) (h : VRep pg.P c (.sl tok e es) x) : PRep pg.P c.w c.prot (.sl (tokOf pz tok es) e es) x := by
 cases pz with
 | false => exact h.sl_inv
 | true =>
  cases h with
  | pure h =>
   cases h with
   | sl f b o ht hb hl hc hr =>
    refine .sl f b o ?_ hb hl hc hr
    cases tok with
    | no => trivial
    | nil => exact ht
    | nn => exact ht
    | row t => exact ht.elim
  | @row t _ _ base cap h hr hn =>
   cases h with
   | sl f b o ht hb hl hc hr =>
    refine .sl f b o ?_ hb hl hc hr
    cases es with
    | nil => exact ⟨(hn rfl).1, (hn rfl).2, rfl⟩
    | cons a l => show base ≠ none; rw [hb.1 nofun]; nofun
theorem pur_sound {bl : List (Nat × Blk)} (hI : Inv pg c own (getB bl) live) (ids : List Nat) : ∀ (n : Nat) {v v' : V} {x : Value}, pur pg bl n v = some v' -> VRep pg.P c v x -> (∀ id, id ∈ idsOf bl n v -> id ∈ ids) ->
  PRep pg.P c.w (c.frz own ids).prot v' x
 | 0, v, v', x, h, _, _ => by cases h
 | n + 1, v, v', x, h, hx, hid => by
  have mono : ∀ {v : V} {x : Value}, PRep pg.P c.w c.prot v x -> PRep pg.P c.w (c.frz own ids).prot v x := fun hp => hp.mono (Ext.frz c own ids).prot
  have hlist : ∀ {cs cs' : List V} {xs : Array Value}, mapO (pur pg bl n) cs = some cs' -> cs.length = xs.size -> (∀ j, j < cs.length -> VRep pg.P c (cs.getD j .undef) (xs.getD j Go.undef)) -> (∀ id, id ∈ (cs.map (idsOf bl n)).flatten -> id ∈ ids) ->
    cs'.length = xs.size ∧ ∀ j, j < cs'.length -> PRep pg.P c.w (c.frz own ids).prot (cs'.getD j .undef) (xs.getD j Go.undef) := by
   intro cs cs' xs hm hl hr hi
   obtain ⟨h1, h2⟩ := mapO_some hm
   refine ⟨by omega, fun j hj => ?_⟩
   refine pur_sound hI ids n (h2 j .undef .undef (by omega)) (hr j (by omega)) fun id hid => hi id ?_
   have hj' : j < cs.length := by omega
   simp only [List.mem_flatten, List.mem_map]
   refine ⟨idsOf bl n cs[j], ⟨cs[j], List.getElem_mem hj', rfl⟩, ?_⟩
   simpa [List.getD, hj'] using hid
  unfold pur at h
  split at h
  ·cases h; exact mono (tok_fit _ hx)
  ·rename_i id e
   split at h
   ·rename_i e' es fz hg
    obtain ⟨he, h1⟩ := condL_some h
    have he : e = e' := by simpa using he
    subst he
    cases h1
    obtain ⟨b, o, m, cap, hb, rfl, hcap⟩ := hx.arr_inv'
    obtain ⟨rfl, hB⟩ := hI.at hg hb
    obtain ⟨f, hf⟩ := vec_fun hB.cells
    have hin : id ∈ ids := hid id (by simp [idsOf])
    have hprot : ∀ x, x < es.length * sz pg.P e -> (c.frz own ids).prot b (o + x) := fun x hxl => by
     cases fz with
     | true => exact .inl (hB.shut rfl x hxl)
     | false => exact .inr ⟨id, hin, (hB.opn rfl).2 x hxl⟩
    refine .sl f b o ?_ ⟨fun _ => rfl, hcap⟩ (fun i hi => (hf i hi).1) (fun i j hi hj => ⟨?_, ((hf i hi).2 j hj).1, ((hf i hi).2 j hj).2.1⟩) (fun i j hi hj => mono ((hf i hi).2 j hj).2.2)
    ·cases pg.pz e
     ·trivial
     ·exact nofun
    ·rw [Nat.add_assoc]
     apply hprot
     have : (i + 1) * sz pg.P e <= es.length * sz pg.P e := Nat.mul_le_mul_right _ hi
     rw [Nat.add_mul] at this; omega
   ·cases h
  ·rename_i id off
   split at h
   ·rename_i e cs fz hg
    obtain ⟨cs', hm, rfl⟩ := Option.map_eq_some_iff.1 h
    obtain ⟨b, o, m, hb, rfl⟩ := hx.ref_inv
    obtain ⟨rfl, hB⟩ := hI.at hg hb
    obtain ⟨f, hf⟩ := cells_fun hB.cells
    have hids : ∀ id', id' ∈ idsOf bl (n + 1) (.ref id off) -> id' ∈ ids := hid
    simp only [idsOf, hg] at hids
    have hin : id ∈ ids := hids id (by simp)
    have hprot : ∀ x, x < cs.length -> (c.frz own ids).prot b (o + x) := fun x hxl => by
     cases fz with
     | true => exact .inl (hB.shut rfl x hxl)
     | false => exact .inr ⟨id, hin, (hB.opn rfl).2 x hxl⟩
    obtain ⟨h1, h2⟩ := mapO_some hm
    refine .ptr f b o (fun j hj => ⟨hprot j (by omega), (hf j (by omega)).1, (hf j (by omega)).2.1 fun hu => by have := h2 j .undef .undef (by omega); rw [hu] at this; cases n <;> cases this⟩) (fun j hj => ?_)
    refine pur_sound hI ids n (h2 j .undef .undef (by omega)) (hf j (by omega)).2.2 fun id' hid' => hids id' ?_
    have hj' : j < cs.length := by omega
    simp only [List.mem_cons, List.mem_flatten, List.mem_map]
    refine .inr ⟨idsOf bl n cs[j], ⟨cs[j], List.getElem_mem hj', rfl⟩, ?_⟩
    simpa [List.getD, hj'] using hid'
   ·cases h
  ·obtain ⟨cs', hm, rfl⟩ := Option.map_eq_some_iff.1 h
   obtain ⟨xs, rfl, hl, hr⟩ := hx.agg_inv
   obtain ⟨h1, h2⟩ := hlist hm hl hr (fun id hi => hid id (by simpa [idsOf] using hi))
   exact .agg h1 h2
  ·obtain ⟨cs', hm, rfl⟩ := Option.map_eq_some_iff.1 h
   obtain ⟨xs, rfl, hl, hr⟩ := hx.tup_inv
   obtain ⟨h1, h2⟩ := hlist hm hl hr (fun id hi => hid id (by simpa [idsOf] using hi))
   exact .tup h1 h2
  ·obtain ⟨w', hm, rfl⟩ := Option.map_eq_some_iff.1 h
   obtain ⟨y, rfl, hy⟩ := hx.iface_inv
   exact .iface _ (pur_sound hI ids n hm hy (fun id hi => hid id (by simpa [idsOf] using hi)))
  ·split at h
   ·cases h
    obtain ⟨xs, rfl, hl, _⟩ := hx.fn_inv
    have : xs = #[] := Array.size_eq_zero_iff.1 hl.symm
    subst this
    exact .fn _
   ·cases h
  all_goals first | cases h | skip
  cases hx with
  | pure hp => exact mono hp
  | el e i j h => exact ((‹∀ (id' : Nat) (e' : TypeId) (i' j' : Nat), V.el _ e i j = V.el id' e' i' j' -> False› : _) _ _ _ _ rfl).elim
  | mp h => exact ((‹∀ (id' : Nat), V.mp _ = V.mp id' -> False› : _) _ rfl).elim
  | fr hr h1 => exact ((‹∀ (t' : Nat) (ps' : List (List Int)), V.fr _ _ = V.fr t' ps' -> False› : _) _ _ rfl).elim
  | sub e off len cap h hl => exact ((‹∀ (id' : Nat) (e' : TypeId) (o' l' : Nat), V.sub _ e off len = V.sub id' e' o' l' -> False› : _) _ _ _ _ rfl).elim
  | _ => exfalso; simp_all
theorem purE_sound : ∀ (n : Nat) {v v' : V} {x : Value}, pur pg [] n v = some v' -> VRep pg.P c v x -> PRep pg.P c.w c.prot v' x
 | 0, v, v', x, h, _ => by cases h
 | n + 1, v, v', x, h, hx => by
  have hlist : ∀ {cs cs' : List V} {xs : Array Value}, mapO (pur pg [] n) cs = some cs' -> cs.length = xs.size -> (∀ j, j < cs.length -> VRep pg.P c (cs.getD j .undef) (xs.getD j Go.undef)) ->
    cs'.length = xs.size ∧ ∀ j, j < cs'.length -> PRep pg.P c.w c.prot (cs'.getD j .undef) (xs.getD j Go.undef) := by
   intro cs cs' xs hm hl hr
   obtain ⟨h1, h2⟩ := mapO_some hm
   exact ⟨by omega, fun j hj => purE_sound n (h2 j .undef .undef (by omega)) (hr j (by omega))⟩
  unfold pur at h
  split at h
  ·cases h; exact tok_fit _ hx
  ·simp [getB] at h
  ·simp [getB] at h
  ·obtain ⟨cs', hm, rfl⟩ := Option.map_eq_some_iff.1 h
   obtain ⟨xs, rfl, hl, hr⟩ := hx.agg_inv
   obtain ⟨h1, h2⟩ := hlist hm hl hr
   exact .agg h1 h2
  ·obtain ⟨cs', hm, rfl⟩ := Option.map_eq_some_iff.1 h
   obtain ⟨xs, rfl, hl, hr⟩ := hx.tup_inv
   obtain ⟨h1, h2⟩ := hlist hm hl hr
   exact .tup h1 h2
  ·obtain ⟨w', hm, rfl⟩ := Option.map_eq_some_iff.1 h
   obtain ⟨y, rfl, hy⟩ := hx.iface_inv
   exact .iface _ (purE_sound n hm hy)
  ·split at h
   ·cases h
    obtain ⟨xs, rfl, hl, _⟩ := hx.fn_inv
    have : xs = #[] := Array.size_eq_zero_iff.1 hl.symm
    subst this
    exact .fn _
   ·cases h
  all_goals first | cases h | skip
  cases hx with
  | pure hp => exact hp
  | el e i j h => exact ((‹∀ (id' : Nat) (e' : TypeId) (i' j' : Nat), V.el _ e i j = V.el id' e' i' j' -> False› : _) _ _ _ _ rfl).elim
  | mp h => exact ((‹∀ (id' : Nat), V.mp _ = V.mp id' -> False› : _) _ rfl).elim
  | fr hr h1 => exact ((‹∀ (t' : Nat) (ps' : List (List Int)), V.fr _ _ = V.fr t' ps' -> False› : _) _ _ rfl).elim
  | sub e off len cap h hl => exact ((‹∀ (id' : Nat) (e' : TypeId) (o' l' : Nat), V.sub _ e off len = V.sub id' e' o' l' -> False› : _) _ _ _ _ rfl).elim
  | _ => exfalso; simp_all
end
end Go.Proofs.Ab
namespace Go.Proofs.Ab
open Go
section
variable {pg : Pg} {c : Cx} {own : Own} {live : Nat -> Prop} {g : Nat -> Option Blk}
def Cx.new (c : Cx) (id num : Nat) (o : Obj) : Cx := { c with w := c.w.alloc o, blk := fun i => if i = id then some (c.w.heap.size, 0, num) else c.blk i }
def Own.new (own : Own) (b id : Nat) : Own := fun b' x => if b' = b then some (false, id) else own b' x
theorem Frame.alloc (own : Own) (w : World) (o : Obj) : Frame own w (w.alloc o) :=
 ⟨rfl, rfl, rfl, by simp, fun b o' h => .inl (by rw [World.alloc]; simp only []; rw [Array.getElem?_push_lt (Array.getElem?_eq_some_iff.1 h).1, <- Array.getElem?_eq_getElem]; exact h)⟩
theorem Ext.new (hI : Inv pg c own g live) {id : Nat} (hid : g id = none) (hout : ¬ c.out id) (num : Nat) (o : Obj) : Ext c (c.new id num o) := by
 refine ⟨fun b x h => ⟨h, (Frame.alloc (fun _ _ => none) c.w o).cell rfl (hI.np b x h).2⟩, fun i r h => ?_, fun t r h => h⟩
 have hne : i ≠ id := by
  rintro rfl
  rcases hI.dom i r h with ⟨k, hk⟩ | ho
  ·rw [hid] at hk; cases hk
  ·exact hout ho
 show (if i = id then _ else c.blk i) = some r
 rw [if_neg hne]; exact h
theorem After.new (hI : Inv pg c own g live) {id : Nat} (hid : g id = none) (hout : ¬ c.out id) (num : Nat) (o : Obj) : After c own (c.new id num o) (own.new c.w.heap.size id) := by
 refine ⟨Frame.alloc own c.w o, fun b x hb h => ?_, (Ext.new hI hid hout num o).prot, fun b x h => .inl h, rfl, fun i r ho hr => ?_⟩
 ·show (if b = c.w.heap.size then _ else own b x) = none
  rw [if_neg (by omega)]; exact h
 ·have h1 : (if i = id then some (c.w.heap.size, 0, num) else c.blk i) = some r := hr
  rw [if_neg (by rintro rfl; exact hout ho)] at h1
  exact h1
theorem Inv.newO (hI : Inv pg c own g live) {id : Nat} (hid : g id = none) (hout : ¬ c.out id) {k : Blk} (hfz : k.fz = false) {o : Obj} (hl : Lies pg.P (c.w.alloc o) c.w.heap.size 0 k)
  (hc : CellsRep pg.P (c.new id k.num o) c.w.heap.size 0 k) :
  Inv pg (c.new id k.num o) (own.new c.w.heap.size id) (fun t => if t = id then some k else g t) live := by
 have hx := Ext.new hI hid hout k.num o
 have hfr := Frame.alloc (fun _ _ => none) c.w o
 have hown : ∀ b x T, own b x = some T -> own.new c.w.heap.size id b x = some T := fun b x T h => by
  show (if b = c.w.heap.size then _ else own b x) = some T
  rw [if_neg, h]
  have := hI.fresh b x (by rw [h]; nofun)
  omega
 refine ⟨fun i k' hk => ?_, fun t ht => (hI.row t ht).kept hx hfr (fun _ _ _ => rfl) (fun _ _ _ => rfl) (fun b x h => hown b x _ h), fun b x hp => ?_, fun b x hn => ?_, fun i r hr => ?_, fun i cs hg => (hI.gl i cs hg).mono hx.prot⟩
 ·by_cases hi : i = id
  ·subst hi
   simp only [if_true] at hk
   cases hk
   refine ⟨c.w.heap.size, 0, by show (if i = i then _ else _) = _; rw [if_pos rfl], hc, fun _ => ⟨hl, fun x _ => ?_⟩, fun h => by rw [hfz] at h; cases h⟩
   show (if _ = _ then _ else _) = _
   rw [if_pos rfl]
  ·simp only [hi, if_false] at hk
   obtain ⟨b, o, h1, h2⟩ := hI.blk i k' hk
   exact ⟨b, o, hx.blk _ _ h1, h2.kept hx hfr (fun _ _ _ => rfl) (fun b x h => hown b x _ h)⟩
 ·obtain ⟨h1, h2⟩ := hI.np b x hp
  refine ⟨?_, by show b < (c.w.alloc _).heap.size; simp; omega⟩
  show (if b = c.w.heap.size then _ else own b x) = none
  rw [if_neg (by omega)]; exact h1
 ·show b < (c.w.alloc _).heap.size
  simp
  by_cases hb : b = c.w.heap.size
  ·omega
  ·have : own b x ≠ none := by
    intro h
    apply hn
    show (if b = c.w.heap.size then _ else own b x) = none
    rw [if_neg hb]; exact h
   have := hI.fresh b x this
   omega
 ·by_cases hi : i = id
  ·exact .inl ⟨k, by simp [hi]⟩
  ·have : c.blk i = some r := by
    have h0 : (if i = id then some (c.w.heap.size, 0, k.num) else c.blk i) = some r := hr
    rwa [if_neg hi] at h0
   rcases hI.dom i r this with ⟨k', hk'⟩ | ho
   ·exact .inl ⟨k', by simp [hi, hk']⟩
   ·exact .inr ho
theorem Inv.new (hI : Inv pg c own g live) {id : Nat} (hid : g id = none) (hout : ¬ c.out id) {k : Blk} (hm : k.isMp = false) (hfz : k.fz = false) {arr : Array Value} {e' : TypeId} (hl : k.len pg.P <= arr.size)
  (hc : CellsRep pg.P (c.new id k.num (.cells arr e')) c.w.heap.size 0 k) :
  Inv pg (c.new id k.num (.cells arr e')) (own.new c.w.heap.size id) (fun t => if t = id then some k else g t) live :=
 Inv.newO hI hid hout hfz (.of hm ⟨arr, e', heap_alloc_new c.w _, by omega⟩) hc
def Cx.put (c : Cx) (o : Obj) : Cx := { c with w := c.w.alloc o, prot := fun b x => c.prot b x ∨ (b = c.w.heap.size) }
theorem Ext.put (hI : Inv pg c own g live) (o : Obj) : Ext c (c.put o) :=
 ⟨fun b x h => ⟨.inl h, (Frame.alloc (fun _ _ => none) c.w o).cell rfl (hI.np b x h).2⟩, fun i r h => h, fun t r h => h⟩
theorem After.put (hI : Inv pg c own g live) (o : Obj) : After c own (c.put o) own :=
 ⟨Frame.alloc own c.w o, fun b x hb h => h, (Ext.put hI o).prot, fun b x h => h.elim .inl fun h => .inr (.inr (Nat.le_of_eq h.symm)), .of rfl rfl⟩
theorem Inv.put (hI : Inv pg c own g live) (o : Obj) : Inv pg (c.put o) own g live := by
 have hx := Ext.put hI o
 have hfr := Frame.alloc (fun _ _ => none) c.w o
 refine ⟨fun i k hk => ?_, fun t ht => (hI.row t ht).kept hx hfr (fun _ _ _ => rfl) (fun _ _ _ => rfl) (fun b x h => h), fun b x hp => ?_, fun b x hn => ?_, hI.dom, fun i cs hg => (hI.gl i cs hg).mono hx.prot⟩
 ·obtain ⟨b, o, h1, h2⟩ := hI.blk i k hk
  exact ⟨b, o, h1, h2.kept hx hfr (fun _ _ _ => rfl) (fun b x h => h)⟩
 ·rcases hp with hp | hp
  ·obtain ⟨h1, h2⟩ := hI.np b x hp
   exact ⟨h1, by show b < (c.w.alloc _).heap.size; simp; omega⟩
  ·subst hp
   refine ⟨?_, by show c.w.heap.size < (c.w.alloc _).heap.size; simp⟩
   cases h : own c.w.heap.size x with
   | none => rfl
   | some T => have := hI.fresh _ x (by rw [h]; nofun); omega
 ·have := hI.fresh b x hn
  show b < (c.w.alloc _).heap.size
  simp; omega
theorem setCells_heap {w : World} {b : Nat} {e : TypeId} {fr : Nat × Nat} : ∀ (vs : List Value) (o : Nat) (w : World) (arr : Array Value), w.heap[b]? = some (.cells arr e fr) ->
  ∃ arr', (w.setCells b o vs).heap[b]? = some (.cells arr' e fr) ∧ arr'.size = arr.size ∧ (∀ x, (x < o ∨ o + vs.length <= x) -> arr'[x]? = arr[x]?) ∧
   (∀ k, k ≠ b -> (w.setCells b o vs).heap[k]? = w.heap[k]?) ∧ (w.setCells b o vs).heap.size = w.heap.size ∧ (w.setCells b o vs).os = w.os ∧ (w.setCells b o vs).tape = w.tape ∧ (w.setCells b o vs).output = w.output
 | [], o, w, arr, h => ⟨arr, h, rfl, fun _ _ => rfl, fun _ _ => rfl, rfl, rfl, rfl, rfl⟩
 | v :: vs, o, w, arr, h => by
  have h1 : (w.setCell ⟨b, o, none⟩ v).heap[b]? = some (.cells (arr.setIfInBounds o v) e fr) := by
   rw [setCell_eq_setRow w b o arr e fr v h]
   exact setRow_heap w b arr _ e fr h
  obtain ⟨arr', h2, h3, h4, h5, h6, h7, h8, h9⟩ := setCells_heap (w := w) vs (o + 1) (w.setCell ⟨b, o, none⟩ v) _ h1
  rw [setCell_eq_setRow w b o arr e fr v h] at h5 h6 h7 h8 h9
  refine ⟨arr', h2, by simpa using h3, fun x hx => ?_, fun k hk => ?_, ?_, ?_, ?_, ?_⟩
  ·rw [h4 x (by simp at hx; omega)]
   have : o ≠ x := by simp at hx; omega
   simp [Array.getElem?_setIfInBounds_ne this]
  ·rw [World.setCells, setCell_eq_setRow w b o arr e fr v h, h5 k hk, setRow_other w b k _ hk]
  ·rw [World.setCells, setCell_eq_setRow w b o arr e fr v h, h6]; simp
  ·rw [World.setCells, setCell_eq_setRow w b o arr e fr v h, h7]; simp
  ·rw [World.setCells, setCell_eq_setRow w b o arr e fr v h, h8]; simp
  ·rw [World.setCells, setCell_eq_setRow w b o arr e fr v h, h9]; simp
def Own.only (own : Own) (id : Nat) : Own := fun b x => if own b x = some (false, id) then some (false, id) else none
theorem Own.only_ne {b x id : Nat} (h : own b x ≠ some (false, id)) : own.only id b x = none := by unfold Own.only; rw [if_neg h]
theorem Inv.touchO (hI : Inv pg c own g live) {id : Nat} {k k' : Blk} (hk : g id = some k) (hnum : k'.num = k.num) (hlen : k'.len pg.P = k.len pg.P) (hfz : k.fz = false) (hfz' : k'.fz = false) {w' : World} (hf : Frame (own.only id) c.w w')
  (hsz : w'.heap.size = c.w.heap.size) (hL : ∀ b o, c.blk id = some (b, o, k.num) -> Lies pg.P c.w b o k -> Lies pg.P w' b o k') (hc : ∀ b o, c.blk id = some (b, o, k.num) -> CellsRep pg.P { c with w := w' } b o k') :
  Inv pg { c with w := w' } own (fun t => if t = id then some k' else g t) live ∧ After c own { c with w := w' } own ∧ Ext c { c with w := w' } := by
 have hx : Ext c { c with w := w' } := ⟨fun b x h => ⟨h, hf.cell (Own.only_ne (by rw [(hI.np b x h).1]; nofun)) (hI.np b x h).2⟩, fun i r h => h, fun t r h => h⟩
 refine ⟨⟨fun i k2 hk2 => ?_, fun t ht => (hI.row t ht).kept hx hf (fun b x h => Own.only_ne (by rw [h]; nofun)) (fun b x h => Own.only_ne (by rw [(hI.np b x h).1]; nofun)) (fun b x h => h),
  fun b x hp => ⟨(hI.np b x hp).1, by show b < w'.heap.size; rw [hsz]; exact (hI.np b x hp).2⟩, fun b x hn => by show b < w'.heap.size; rw [hsz]; exact hI.fresh b x hn, fun i r hr => ?_, fun i cs hg => (hI.gl i cs hg).mono hx.prot⟩, ?_, hx⟩
 ·by_cases hi : i = id
  ·subst hi
   simp only [if_true] at hk2
   cases hk2
   obtain ⟨b, o, h1, h2⟩ := hI.blk i k hk
   refine ⟨b, o, by rw [hnum]; exact h1, hc b o h1, fun _ => ?_, fun h => by rw [hfz'] at h; cases h⟩
   obtain ⟨h3, h5⟩ := h2.opn hfz
   exact ⟨hL b o h1 h3, fun x hxl => h5 x (by omega)⟩
  ·simp only [hi, if_false] at hk2
   obtain ⟨b, o, h1, h2⟩ := hI.blk i k2 hk2
   exact ⟨b, o, h1, h2.kept hx hf (fun b x h => Own.only_ne (by rw [h]; intro h3; cases h3; exact hi rfl)) (fun b x h => h)⟩
 ·rcases hI.dom i r hr with ⟨k2, hk2⟩ | ho
  ·by_cases hi : i = id
   ·exact .inl ⟨k', by simp [hi]⟩
   ·exact .inl ⟨k2, by simp [hi, hk2]⟩
  ·exact .inr ho
 ·refine ⟨⟨hf.os, hf.tape, hf.output, hf.size, fun b o h => ?_⟩, fun b x _ h => h, hx.prot, fun b x h => .inl h, .of rfl rfl⟩
  rcases hf.blk b o h with h1 | ⟨a, a', e, fr, h1, h2, h3, h4⟩ | ⟨es, n, es', n', h1, h2, h3⟩
  ·exact .inl h1
  ·exact .inr (.inl ⟨a, a', e, fr, h1, h2, h3, fun x hx => h4 x (Own.only_ne (by rw [hx]; nofun))⟩)
  ·exact .inr (.inr ⟨es, n, es', n', h1, h2, fun hx => h3 (Own.only_ne (by rw [hx]; nofun))⟩)
theorem Inv.touch (hI : Inv pg c own g live) {id : Nat} {k k' : Blk} (hk : g id = some k) (hm : k.isMp = false) (hm' : k'.isMp = false) (hnum : k'.num = k.num) (hlen : k'.len pg.P = k.len pg.P) (hfz : k.fz = false) (hfz' : k'.fz = false) {w' : World} (hf : Frame (own.only id) c.w w')
  (hsz : w'.heap.size = c.w.heap.size) (hc : ∀ b o, c.blk id = some (b, o, k.num) -> CellsRep pg.P { c with w := w' } b o k') :
  Inv pg { c with w := w' } own (fun t => if t = id then some k' else g t) live ∧ After c own { c with w := w' } own ∧ Ext c { c with w := w' } :=
 Inv.touchO hI hk hnum hlen hfz hfz' hf hsz (fun b o _ h => by
  obtain ⟨arr, e, h3, h4⟩ := h.row hm
  refine .of hm' ?_
  rcases hf.blk b _ h3 with h6 | ⟨a, a', e', fr, h6, h7, h8, _⟩ | ⟨es, n, es', n', h6, _⟩
  ·exact ⟨arr, e, h6, by omega⟩
  ·cases h6; exact ⟨a', e, h7, by omega⟩
  ·cases h6) hc
end
end Go.Proofs.Ab
namespace Go.Proofs.Ab
open Go
section
variable {R : Type} {r : R} {pg : Pg} {c : Cx} {own : Own} {live : Nat -> Prop} {g : Nat -> Option Blk} {ρ : Operand -> Value} {env : Env} {bl : List (Nat × Blk)}
theorem pur1_sound {P : Program} {v : V} {x : Value} (h : VRep P c v x) (h1 : pur1 v = true) : PRep P c.w c.prot v x ∧ x.oneCell' = true := by
 have h2 : one v = true := by
  unfold pur1 at h1
  split at h1 <;> first | rfl | cases h1
 refine ⟨?_, h.one h2⟩
 cases h with
 | pure h => exact h
 | nils => cases h1
 | fn f hl h =>
  rename_i cap xs
  cases cap with
  | nil =>
   have : xs = #[] := Array.size_eq_zero_iff.1 hl.symm
   subst this
   exact .fn f
  | cons a l => cases h1
 | _ => cases h1
theorem cvC_one {P : Program} {t : TypeId} {v : Value} (h : cvC P t v ≠ .undef) : v.oneCell' = true := by
 unfold cvC at h
 split at h <;> first | rfl | exact absurd rfl h
theorem cvL_one {P : Program} : ∀ (ts : List TypeId) (vs : List Value) (j : Nat), (cvL P ts vs).getD j .undef ≠ .undef -> (vs.getD j Go.undef).oneCell' = true
 | [], vs, j, h => absurd (by simp [cvL]) h
 | _ :: _, [], j, h => absurd (by simp [cvL]) h
 | t :: ts, v :: vs, 0, h => by simp [cvL] at h; exact cvC_one h
 | t :: ts, v :: vs, j + 1, h => by
  simp only [cvL, List.getD_cons_succ] at h ⊢
  exact cvL_one ts vs j h
theorem zeroL_one {P : Program} {t : TypeId} {vs : List V} (h : zeroL P t = some vs) : ∃ i z, P.info? t = some i ∧ i.zero = some z ∧ vs.length = z.cells.size ∧ (∀ c j, VRep P c (vs.getD j .undef) (z.cells.getD j Go.undef)) ∧
  ∀ j, vs.getD j .undef ≠ .undef -> (z.cells.getD j Go.undef).oneCell' = true := by
 obtain ⟨i, z, h1, h2, h3, h4⟩ := zeroL_some h
 refine ⟨i, z, h1, h2, h3, h4, fun j hj => ?_⟩
 unfold zeroL at h
 rw [h1] at h
 simp only [h2] at h
 obtain ⟨_, h5⟩ := condL_some h
 cases h5
 rw [<- arr_getD]
 exact cvL_one _ _ j hj
theorem newB_some {d : Tmp} {b : Blk} {k : List (Nat × Blk) -> Option R} (h : newB d b bl k = some r) : getB bl (aid d) = none ∧ k (setB bl (aid d) b) = some r := by
 unfold newB at h
 split at h
 ·cases h
 ·exact ⟨‹_›, h⟩
theorem getB_setB_fun (bl : List (Nat × Blk)) (t : Nat) (b : Blk) : getB (setB bl t b) = fun t' => if t' = t then some b else getB bl t' := funext fun t' => getB_setB t b bl t'
theorem group_get (s n : Nat) (l : List V) {i : Nat} (hi : i < n) : (group s n l).getD i [] = (l.drop (i * s)).take s := by
 simp [group, List.getD, hi]
theorem newBlk_sound {cl : Bool} {t : TypeId} {vs : List V} {k : Blk} (h : newBlk pg cl t vs = some k) {xs : Array Value} (hl : vs.length = xs.size)
  (hr : ∀ j, j < vs.length -> VRep pg.P c (vs.getD j .undef) (xs.getD j Go.undef) ∧ (vs.getD j .undef ≠ .undef -> (xs.getD j Go.undef).oneCell' = true)) :
  k.isMp = false ∧ k.fz = false ∧ k.len pg.P <= xs.size ∧ ∀ c' : Cx, Ext c c' -> ∀ b, (∀ j, j < xs.size -> c'.w.cell? ⟨b, j, none⟩ = some (xs.getD j Go.undef)) -> CellsRep pg.P c' b 0 k := by
 unfold newBlk at h
 split at h
 ·rename_i n e hu
  rcases cond_some h with ⟨_, h⟩ | ⟨_, h⟩
  ·cases h
   refine ⟨rfl, rfl, by show vs.length <= _; omega, fun c' hx b hc j hj => ⟨xs.getD j Go.undef, (by rw [Nat.zero_add]; exact hc j (by omega)), (hr j hj).2, (hr j hj).1.mono hx⟩⟩
  obtain ⟨hc, h1⟩ := condL_some h
  cases h1
  simp only [Bool.and_eq_true] at hc
  obtain ⟨hp, hn⟩ := hc
  have hn : vs.length = n * sz pg.P e := by simpa using hn
  have hgl : (group (sz pg.P e) n vs).length = n := by simp [group]
  refine ⟨rfl, rfl, by show (group (sz pg.P e) n vs).length * sz pg.P e <= xs.size; rw [hgl]; omega, fun c' hx b hc => ?_⟩
  intro i hi
  rw [hgl] at hi
  rw [group_get _ _ _ hi]
  have hle : (i + 1) * sz pg.P e <= n * sz pg.P e := Nat.mul_le_mul_right _ hi
  rw [Nat.add_mul] at hle
  refine ⟨by simp; omega, fun j hj => ?_⟩
  have hlt : i * sz pg.P e + j < vs.length := by omega
  refine ⟨xs.getD (i * sz pg.P e + j) Go.undef, (by rw [show 0 + i * sz pg.P e + j = i * sz pg.P e + j by omega]; exact hc (i * sz pg.P e + j) (by omega)), ?_⟩
  have hpv : pur1 (vs.getD (i * sz pg.P e + j) .undef) = true := by
   have := List.all_eq_true.1 hp _ (List.getElem_mem hlt)
   simpa [List.getD, hlt] using this
  obtain ⟨h2, h3⟩ := pur1_sound (hr _ hlt).1 hpv
  refine ⟨h3, ?_⟩
  have e1 : ((vs.drop (i * sz pg.P e)).take (sz pg.P e)).getD j .undef = vs.getD (i * sz pg.P e + j) .undef := by simp [List.getD, hj]
  rw [e1]
  exact h2.mono hx.prot
 ·cases h
  refine ⟨rfl, rfl, by show vs.length <= _; omega, fun c' hx b hc j hj => ⟨xs.getD j Go.undef, (by rw [Nat.zero_add]; exact hc j (by omega)), (hr j hj).2, (hr j hj).1.mono hx⟩⟩
 ·cases h
def Done (pg : Pg) (c : Cx) (own : Own) (live : Nat -> Prop) (r : R) (k : V -> List (Nat × Blk) -> Option R) (m : Sem Next) : Prop :=
 ∃ v bl' c' own' x nx, k v bl' = some r ∧ m.run pg.P c.w = .ok nx c'.w ∧ (nx = .value x ∨ nx = .skip ∧ x = Go.undef) ∧ VRep pg.P c' v x ∧ Inv pg c' own' (getB bl') live ∧ After c own c' own' ∧ Ext c c' ∧ c'.row = c.row
theorem alloc_done {d : Tmp} {k0 : Blk} {k : V -> List (Nat × Blk) -> Option R} (hI : Inv pg c own (getB bl) live) (hout : ¬ c.out (aid d)) (h : newB d k0 bl (fun bl' => k (.ref (aid d) 0) bl') = some r) {cl : Bool} {t : TypeId} {vs : List V} (hb : newBlk pg cl t vs = some k0) {xs : Array Value} (hl : vs.length = xs.size)
  (hr : ∀ j, j < vs.length -> VRep pg.P c (vs.getD j .undef) (xs.getD j Go.undef) ∧ (vs.getD j .undef ≠ .undef -> (xs.getD j Go.undef).oneCell' = true)) {m : Sem Next} {e' : TypeId}
  (hm : m.run pg.P c.w = .ok (.value (.pointer (some ⟨c.w.heap.size, 0, none⟩))) (c.w.alloc (.cells xs e'))) : Done pg c own live r k m := by
 obtain ⟨hid, h1⟩ := newB_some h
 obtain ⟨hmp, hfz, hlen, hc⟩ := newBlk_sound hb hl hr
 have hx := Ext.new hI hid hout k0.num (.cells xs e')
 have hC := hc (c.new (aid d) k0.num (.cells xs e')) hx c.w.heap.size (fun j hj => by
  show (c.w.alloc _).cell? _ = _
  have := heap_alloc_new c.w (.cells xs e')
  simp only [World.cell?, this]
  simp [Array.getD, hj])
 refine ⟨_, _, c.new (aid d) k0.num (.cells xs e'), own.new c.w.heap.size (aid d), _, _, h1, hm, .inl rfl, ?_, ?_, After.new hI hid hout _ _, hx, rfl⟩
 ·have : (c.new (aid d) k0.num (.cells xs e')).blk (aid d) = some (c.w.heap.size, 0, k0.num) := by show (if _ = _ then _ else _) = _; rw [if_pos rfl]
  exact .ref 0 this
 ·rw [getB_setB_fun]
  exact Inv.new hI hid hout hmp hfz hlen hC
theorem setAt_get : ∀ (vs l : List V) (off j : Nat), (setAt l off vs).getD j .undef = if off <= j ∧ j < off + vs.length ∧ j < l.length then vs.getD (j - off) .undef else l.getD j .undef
 | [], l, off, j => by simp [setAt]; intro h1 h2; omega
 | v :: vs, l, off, j => by
  rw [setAt, setAt_get vs (l.set off v) (off + 1) j]
  by_cases h1 : j = off
  ·subst h1
   by_cases h2 : j < l.length
   ·have h3 : ¬ (j + 1 <= j ∧ j < j + 1 + vs.length ∧ j < (l.set j v).length) := by omega
    have h4 : j <= j ∧ j < j + (v :: vs).length ∧ j < l.length := by simp; omega
    rw [if_neg h3, if_pos h4]
    simp [List.getD, h2]
   ·have h3 : ¬ (j + 1 <= j ∧ j < j + 1 + vs.length ∧ j < (l.set j v).length) := by omega
    have h4 : ¬ (j <= j ∧ j < j + (v :: vs).length ∧ j < l.length) := by omega
    rw [if_neg h3, if_neg h4]
    simp [List.getD, h2]
  ·have h3 : (l.set off v).getD j .undef = l.getD j .undef := by simp [List.getD, List.getElem?_set_ne (Ne.symm h1)]
   rw [h3]
   by_cases h4 : off + 1 <= j ∧ j < off + 1 + vs.length ∧ j < (l.set off v).length
   ·have h5 : off <= j ∧ j < off + (v :: vs).length ∧ j < l.length := by simp at h4 ⊢; omega
    rw [if_pos h4, if_pos h5, show j - off = (j - (off + 1)) + 1 by omega]
    simp
   ·have h5 : ¬ (off <= j ∧ j < off + (v :: vs).length ∧ j < l.length) := by simp at h4 ⊢; omega
    rw [if_neg h4, if_neg h5]
theorem store_mem {t : TypeId} {id b o n : Nat} {k : Blk} {off : Nat} (hI : Inv pg c own g live) (hk : g id = some k) (hb : c.blk id = some (b, o, n)) (hm : k.isMp = false) (hfz : k.fz = false) {y : Value} (hkn : kn pg.P t = true)
  (hs : y.cells.size = sz pg.P t) (hle : off + y.cells.size <= k.len pg.P) (h1 : ∀ j, j < y.cells.size -> (y.cells.getD j Go.undef).oneCell' = true) :
  ∃ w', (Instr.storeAt t (.pointer (some ⟨b, o + off, none⟩)) y).run pg.P c.w = .ok () w' ∧ Frame (own.only id) c.w w' ∧ w'.heap.size = c.w.heap.size ∧
   ∀ x, x < k.len pg.P -> w'.cell? ⟨b, o + x, none⟩ = if off <= x ∧ x < off + y.cells.size then some (y.cells.getD (x - off) Go.undef) else c.w.cell? ⟨b, o + x, none⟩ := by
 obtain ⟨rfl, hB⟩ := hI.at hk hb
 obtain ⟨h23, h4⟩ := hB.opn hfz
 obtain ⟨arr, e, h2, h3⟩ := h23.row hm
 obtain ⟨d, hd⟩ := kn_some hkn
 have hcell : ∀ x, x < arr.size -> (c.w.cell? ⟨b, x, none⟩).isSome = true := fun x hx => by simp [World.cell?, h2, hx]
 have hrun := run_storeCells_cells (P := pg.P) b (o + off) y.cells.toList 0 c.w (fun j hj => by rw [Nat.add_zero]; exact hcell _ (by simp at hj; omega)) (fun j hj => by simp [World.frozen?, h2]) (fun v hv => by
  obtain ⟨j, hj, rfl⟩ := List.getElem_of_mem hv
  have hj' : j < y.cells.size := by simpa using hj
  have := h1 j hj'
  simpa [Array.getD, hj'] using this)
 rw [Nat.add_zero] at hrun
 obtain ⟨arr', h5, h6, h7, h8, h9, h10, h11, h12⟩ := setCells_heap (w := c.w) y.cells.toList (o + off) c.w arr h2
 refine ⟨c.w.setCells b (o + off) y.cells.toList, ?_, ⟨h10, h11, h12, by omega, fun b' o' hb' => ?_⟩, h9, fun x hx => ?_⟩
 ·simp only [Instr.storeAt, Instr.sureAddr, storeVar, Sem.run_bind, Sem.run_pure, Result.andThen_ok, run_sizeOf_u hd]
  have : ¬ (y.cells.size ≠ sz pg.P t) := fun h => h hs
  simp only [if_neg this, Sem.run_bind, Sem.run_pure, Result.andThen_ok]
  exact hrun
 ·by_cases hbb : b' = b
  ·subst hbb
   rw [h2] at hb'
   cases hb'
   refine .inr (.inl ⟨arr, arr', e, (0, 0), rfl, h5, h6, fun x hx => h7 x ?_⟩)
   rcases Nat.lt_or_ge x (o + off) with h | h
   ·exact .inl h
   ·rcases Nat.lt_or_ge x (o + off + y.cells.toList.length) with h' | h'
    ·exfalso
     simp at h'
     have := h4 (x - o) (by omega)
     rw [show o + (x - o) = x by omega] at this
     simp [Own.only, this] at hx
    ·exact .inr h'
  ·exact .inl (by rw [h8 b' hbb]; exact hb')
 ·by_cases hin : off <= x ∧ x < off + y.cells.size
  ·rw [if_pos hin]
   have := World.cell?_setCells_in b y.cells.toList (o + off) c.w (fun j hj => hcell _ (by simp at hj; omega)) (x - off) (by simp; omega)
   rw [show o + off + (x - off) = o + x by omega] at this
   rw [this]
   have hlt : x - off < y.cells.size := by omega
   simp [Array.getD, hlt]
  ·rw [if_neg hin]
   exact World.cell?_setCells_out b y.cells.toList (o + off) c.w _ (fun _ _ => by simp; omega)
end
end Go.Proofs.Ab
namespace Go.Proofs.Ab
open Go
section
variable {R : Type} {r : R} {pg : Pg} {c : Cx} {own : Own} {live : Nat -> Prop} {g : Nat -> Option Blk} {ρ : Operand -> Value} {env : Env} {bl : List (Nat × Blk)}
theorem purAll_sound {vs vs' : List V} {bl' : List (Nat × Blk)} (hI : Inv pg c own (getB bl) live) (h : purAll pg bl vs = some (vs', bl')) :
  ∃ c' own', c'.w = c.w ∧ Inv pg c' own' (getB bl') live ∧ After c own c' own' ∧ Ext c c' ∧ c'.blk = c.blk ∧ c'.row = c.row ∧ vs'.length = vs.length ∧
   (∀ j x, j < vs.length -> VRep pg.P c (vs.getD j .undef) x -> PRep pg.P c'.w c'.prot (vs'.getD j .undef) x) ∧ ∀ id, id ∉ (vs.map (idsOf bl pdeep)).flatten -> getB bl' id = getB bl id := by
 unfold purAll at h
 split at h
 ·rename_i vs2 hm
  cases h
  obtain ⟨h1, h2⟩ := mapO_some hm
  have hI' := hI.frz (vs.map (idsOf bl pdeep)).flatten
  have e : getB (freeze bl (vs.map (idsOf bl pdeep)).flatten) = fun t => if t ∈ (vs.map (idsOf bl pdeep)).flatten then (getB bl t).map Blk.freeze else getB bl t := funext fun t => getB_freeze _ bl t
  refine ⟨c.frz own (vs.map (idsOf bl pdeep)).flatten, own.frz (vs.map (idsOf bl pdeep)).flatten, rfl, by rw [e]; exact hI', After.frz c own _, Ext.frz c own _, rfl, rfl, h1, fun j x hj hx => ?_, fun id hid => by rw [e]; simp only []; rw [if_neg hid]⟩
  refine pur_sound hI _ pdeep (h2 j .undef .undef hj) hx fun id hid => ?_
  simp only [List.mem_flatten, List.mem_map]
  refine ⟨idsOf bl pdeep vs[j], ⟨vs[j], List.getElem_mem hj, rfl⟩, ?_⟩
  simpa [List.getD, hj] using hid
 ·cases h
theorem Done.mono {c0 : Cx} {own0 : Own} {k : V -> List (Nat × Blk) -> Option R} {m : Sem Next} (hw : c.w = c0.w) (ha : After c0 own0 c own) (hx : Ext c0 c) (hr : c.row = c0.row) (h : Done pg c own live r k m) : Done pg c0 own0 live r k m := by
 obtain ⟨v, bl', c', own', x, nx, h1, h2, h3, h4, h5, h6, h7, h8⟩ := h
 exact ⟨v, bl', c', own', x, nx, h1, by rw [<- hw]; exact h2, h3, h4, h5, ha.trans h6, hx.trans h7, h8.trans hr⟩
theorem cells_all_one {v : V} (h : (cellsOf v).all one = true) {y : Value} (hy : VRep pg.P c v y) : (cellsOf v).length = y.cells.size ∧
  ∀ j, j < (cellsOf v).length -> VRep pg.P c ((cellsOf v).getD j .undef) (y.cells.getD j Go.undef) ∧ (y.cells.getD j Go.undef).oneCell' = true := by
 obtain ⟨n1, n2, n3⟩ := one_cells h
 obtain ⟨h1, h2⟩ := hy.cells n1 n2 n3
 refine ⟨h1, fun j hj => ⟨h2 j hj, (h2 j hj).one ?_⟩⟩
 have := List.all_eq_true.1 h _ (List.getElem_mem hj)
 simpa [List.getD, hj] using this
theorem Inv.stored {id b o n off : Nat} {k k' : Blk} {t : TypeId} {y : Value} (hI : Inv pg c own (getB bl) live) (hk : getB bl id = some k) (hb : c.blk id = some (b, o, n)) (hfz : k.fz = false) (hkn : kn pg.P t = true)
  (hs : y.cells.size = sz pg.P t) (hle : off + y.cells.size <= k.len pg.P) (h1 : ∀ j, j < y.cells.size -> (y.cells.getD j Go.undef).oneCell' = true)
  (hnum : k'.num = k.num) (hlen : k'.len pg.P = k.len pg.P) (hfz' : k'.fz = false)
  (hc : ∀ w', Ext c { c with w := w' } -> (∀ x, x < k.len pg.P -> w'.cell? ⟨b, o + x, none⟩ = if off <= x ∧ x < off + y.cells.size then some (y.cells.getD (x - off) Go.undef) else c.w.cell? ⟨b, o + x, none⟩) -> CellsRep pg.P { c with w := w' } b o k') (hm : k.isMp = false := by rfl) (hm' : k'.isMp = false := by rfl) :
  ∃ c', (Instr.storeAt t (.pointer (some ⟨b, o + off, none⟩)) y).run pg.P c.w = .ok () c'.w ∧ Inv pg c' own (getB (setB bl id k')) live ∧ After c own c' own ∧ Ext c c' ∧ c'.row = c.row := by
 obtain ⟨w', h2, h3, h4, h5⟩ := store_mem hI hk hb hm hfz hkn hs hle h1
 have hx : Ext c { c with w := w' } := ⟨fun b x h => ⟨h, h3.cell (Own.only_ne (by rw [(hI.np b x h).1]; nofun)) (hI.np b x h).2⟩, fun i r h => h, fun t r h => h⟩
 obtain ⟨h6, h7, h8⟩ := Inv.touch hI hk hm hm' hnum hlen hfz hfz' h3 h4 (fun b' o' hb' => by
  rw [hb] at hb'
  cases hb'
  exact hc w' hx h5)
 exact ⟨_, h2, by rw [getB_setB_fun]; exact h6, h7, h8, rfl⟩
theorem storeS_sound {t : TypeId} {va v : V} {A y : Value} {k : List (Nat × Blk) -> Option R} (hI : Inv pg c own (getB bl) live) (h : storeS pg t va v bl k = some r) (hA : VRep pg.P c va A) (hy : VRep pg.P c v y) :
  ∃ bl' c' own', k bl' = some r ∧ (Instr.storeAt t A y).run pg.P c.w = .ok () c'.w ∧ Inv pg c' own' (getB bl') live ∧ After c own c' own' ∧ Ext c c' ∧ c'.row = c.row := by
 unfold storeS at h
 obtain ⟨hc0, h0⟩ := condL_some h
 clear h
 have h := h0
 clear h0
 simp only [Bool.and_eq_true] at hc0
 obtain ⟨⟨hlen0, hone⟩, hkn⟩ := hc0
 have hlen : (cellsOf v).length = sz pg.P t := by simpa using hlen0
 clear hlen0
 obtain ⟨hcl, hcr⟩ := cells_all_one hone hy
 have hys : y.cells.size = sz pg.P t := by omega
 split at h
 ·rename_i id off
  obtain ⟨b, o, n, hb, rfl⟩ := hA.ref_inv
  split at h
  ·rename_i e cs hg
   obtain ⟨hle, h2⟩ := condL_some h
   have hle : off + sz pg.P t <= cs.length := by simpa using hle
   obtain ⟨rfl, hB⟩ := hI.at hg hb
   obtain ⟨c', h3, h4, h5, h6, h7⟩ := Inv.stored (k' := .cells e (setAt cs off (cellsOf v)) false) hI hg hb rfl hkn hys (by show off + _ <= cs.length; omega) (fun j hj => (hcr j (by omega)).2)
    (by show (setAt cs off (cellsOf v)).length = _; rw [setAt_length]; rfl) (by show (setAt cs off (cellsOf v)).length = _; rw [setAt_length]; rfl) rfl (fun w' hx hw j hj => by
     rw [setAt_length] at hj
     have hw := hw j hj
     rw [setAt_get]
     by_cases hin : off <= j ∧ j < off + y.cells.size
     ·rw [if_pos hin] at hw
      rw [if_pos ⟨hin.1, by omega, hj⟩]
      exact ⟨_, hw, fun _ => (hcr (j - off) (by omega)).2, (hcr (j - off) (by omega)).1.mono hx⟩
     ·rw [if_neg hin] at hw
      rw [if_neg (by omega)]
      obtain ⟨x, h8, h9, h10⟩ := hB.cells j hj
      exact ⟨x, hw.trans h8, h9, h10.mono hx⟩)
   exact ⟨_, c', own, h2, h3, h4, h5, h6, h7⟩
  ·rename_i e es hg
   obtain ⟨hc, h2⟩ := condL_some h
   simp only [Bool.and_eq_true] at hc
   have hoff : off = 0 := by simpa using hc.1
   have hs1 : sz pg.P e = 1 := by simpa using hc.2
   subst hoff
   obtain ⟨hel, h3⟩ := iteL_some h2
   split at h3
   ·rename_i vs bl' hp
    obtain ⟨hid, h4⟩ := condR_some h3
    have hid : id ∉ ((cellsOf v).map (idsOf bl pdeep)).flatten := by simpa [List.elem_eq_mem] using hid
    obtain ⟨c1, own1, hw1, hI1, ha1, hx1, hb1, hr1, hvl, hvr, hkeep⟩ := purAll_sound hI hp
    have hg1 : getB bl' id = some (.vec e es false) := by rw [hkeep id hid]; exact hg
    obtain ⟨c', h5, h6, h7, h8, h9⟩ := Inv.stored (k' := .vec e (vs.map fun c => [c]) false) (off := 0) (y := y) (t := t) hI1 hg1 (by rw [hb1]; exact hb) rfl hkn hys
     (by show 0 + _ <= es.length * sz pg.P e; rw [hs1]; omega) (fun j hj => (hcr j (by omega)).2)
     (by show (vs.map fun c => [c]).length = es.length; simp; omega) (by show (vs.map fun c => [c]).length * _ = es.length * _; rw [List.length_map, hvl, hel]) rfl (fun w' hx hw i hi => by
      have hi' : i < vs.length := by simpa using hi
      have hw := hw i (by show i < es.length * sz pg.P e; rw [hs1]; omega)
      rw [if_pos ⟨Nat.zero_le _, by omega⟩] at hw
      refine ⟨by simp [List.getD, hi', hs1], fun j hj => ?_⟩
      have : j = 0 := by omega
      subst this
      refine ⟨_, by rw [hs1, Nat.mul_one]; exact hw, (hcr i (by omega)).2, ?_⟩
      have := (hvr i _ (by omega) (hcr i (by omega)).1).mono hx.prot
      simpa [List.getD, hi'] using this)
    refine ⟨_, c', own1, h4, ?_, h6, ha1.trans h7, hx1.trans h8, h9.trans hr1⟩
    rw [<- hw1]; exact h5
   ·cases h3
  ·cases h
 ·rename_i id e1 i j
  obtain ⟨b, o, n, hb, rfl, hin⟩ := hA.el_inv'
  split at h
  ·rename_i e es hg
   obtain ⟨he, h2⟩ := condR_some h
   have he : e = e1 := by simpa using he
   subst he
   obtain ⟨rfl, hB⟩ := hI.at hg hb
   have hin : i < es.length := hin
   split at h2
   ·rename_i vs bl' hp
    obtain ⟨hid, h3⟩ := condR_some h2
    have hid : id ∉ ((cellsOf v).map (idsOf bl pdeep)).flatten := by simpa [List.elem_eq_mem] using hid
    obtain ⟨c1, own1, hw1, hI1, ha1, hx1, hb1, hr1, hvl, hvr, hkeep⟩ := purAll_sound hI hp
    have hg1 : getB bl' id = some (.vec e es false) := by rw [hkeep id hid]; exact hg
    have hle1 : (i + 1) * sz pg.P e <= es.length * sz pg.P e := Nat.mul_le_mul_right _ hin
    have hle1 : i * sz pg.P e + sz pg.P e <= es.length * sz pg.P e := by rw [Nat.add_mul] at hle1; omega
    have hb1' : c1.blk id = some (b, o, (Blk.vec e es false).num) := by rw [hb1]; exact hb
    obtain ⟨_, hB1⟩ := hI1.at hg1 hb1'
    have gen : ∀ el : List V, j + sz pg.P t <= sz pg.P e -> el.length = sz pg.P e -> (∀ x, x < sz pg.P e -> el.getD x .undef = if j <= x ∧ x < j + sz pg.P t then vs.getD (x - j) .undef else (es.getD i []).getD x .undef) ->
      ∃ c', (Instr.storeAt t (.pointer (some ⟨b, o + (i * sz pg.P e + j), none⟩)) y).run pg.P c1.w = .ok () c'.w ∧ Inv pg c' own1 (getB (setB bl' id (.vec e (es.set i el) false))) live ∧ After c1 own1 c' own1 ∧ Ext c1 c' ∧ c'.row = c1.row := by
     intro el hj hell hel
     refine Inv.stored (k' := .vec e (es.set i el) false) (off := i * sz pg.P e + j) (y := y) (t := t) hI1 hg1 hb1' rfl hkn hys
      (by show i * sz pg.P e + j + _ <= es.length * sz pg.P e; omega) (fun j hj => (hcr j (by omega)).2)
      (by show (es.set i el).length = es.length; simp) (by show (es.set i el).length * _ = es.length * _; simp) rfl (fun w' hx hw i' hi' => ?_)
     have hi2 : i' < es.length := by simpa using hi'
     have hlei : (i' + 1) * sz pg.P e <= es.length * sz pg.P e := Nat.mul_le_mul_right _ hi2
     rw [Nat.add_mul] at hlei
     by_cases hii : i' = i
     ·subst hii
      have hgl : (es.set i' el).getD i' [] = el := by simp [List.getD, hi2]
      rw [hgl]
      refine ⟨hell, fun x hxl => ?_⟩
      have hw := hw (i' * sz pg.P e + x) (by show _ < es.length * sz pg.P e; omega)
      rw [Nat.add_assoc, hel x hxl]
      by_cases hc : j <= x ∧ x < j + sz pg.P t
      ·rw [if_pos (by omega), show i' * sz pg.P e + x - (i' * sz pg.P e + j) = x - j by omega] at hw
       rw [if_pos hc]
       exact ⟨_, hw, (hcr (x - j) (by omega)).2, (hvr (x - j) _ (by omega) (hcr (x - j) (by omega)).1).mono hx.prot⟩
      ·rw [if_neg (by omega)] at hw
       rw [if_neg hc]
       obtain ⟨z, h8, h9, h10⟩ := (hB1.cells i' hi2).2 x hxl
       rw [Nat.add_assoc] at h8
       exact ⟨z, hw.trans h8, h9, h10.mono hx.prot⟩
     ·have hgl : (es.set i el).getD i' [] = es.getD i' [] := by simp [List.getD, List.getElem?_set_ne (Ne.symm hii)]
      rw [hgl]
      refine ⟨(hB1.cells i' hi2).1, fun x hxl => ?_⟩
      have hw := hw (i' * sz pg.P e + x) (by show _ < es.length * sz pg.P e; omega)
      have hne : ¬ (i * sz pg.P e + j <= i' * sz pg.P e + x ∧ i' * sz pg.P e + x < i * sz pg.P e + j + y.cells.size) := by
       rcases Nat.lt_or_ge i' i with hlt | hge
       ·have : (i' + 1) * sz pg.P e <= i * sz pg.P e := Nat.mul_le_mul_right _ hlt
        rw [Nat.add_mul] at this
        omega
       ·have : (i + 1) * sz pg.P e <= i' * sz pg.P e := Nat.mul_le_mul_right _ (by omega)
        rw [Nat.add_mul] at this
        omega
      rw [if_neg hne] at hw
      obtain ⟨z, h8, h9, h10⟩ := (hB1.cells i' hi2).2 x hxl
      rw [Nat.add_assoc] at h8 ⊢
      exact ⟨z, hw.trans h8, h9, h10.mono hx.prot⟩
    rw [Nat.add_assoc]
    rcases cond_some h3 with ⟨hc, h4⟩ | ⟨hc, h4⟩
    ·simp only [Bool.and_eq_true] at hc
     have hj0 : j = 0 := by simpa using hc.1
     have hst : sz pg.P t = sz pg.P e := by simpa using hc.2
     obtain ⟨c', h5, h6, h7, h8, h9⟩ := gen vs (by omega) (by omega) (fun x hx => by subst hj0; rw [if_pos (by omega)]; simp)
     exact ⟨_, c', own1, h4, by rw [<- hw1]; exact h5, h6, ha1.trans h7, hx1.trans h8, h9.trans hr1⟩
    ·obtain ⟨hle, h5⟩ := condL_some h4
     have hle : j + sz pg.P t <= sz pg.P e := by simpa using hle
     have hel := (hB.cells i hin).1
     obtain ⟨c', h6, h7, h8, h9, h10⟩ := gen (setAt (es.getD i []) j vs) hle (by rw [setAt_length]; exact hel) (fun x hx => by
      rw [setAt_get]
      by_cases hc : j <= x ∧ x < j + sz pg.P t
      ·rw [if_pos hc, if_pos (by rw [hel]; omega)]
      ·rw [if_neg hc, if_neg (by omega)])
     exact ⟨_, c', own1, h5, by rw [<- hw1]; exact h6, h7, ha1.trans h8, hx1.trans h9, h10.trans hr1⟩
   ·cases h2
  ·cases h
 ·cases h
end
end Go.Proofs.Ab
namespace Go.Proofs.Ab
open Go
section
variable {R : Type} {r : R} {pg : Pg} {c : Cx} {own : Own} {live : Nat -> Prop} {g : Nat -> Option Blk} {ρ : Operand -> Value} {env : Env} {bl : List (Nat × Blk)}
def FlatRep (P : Program) (c : Cx) (s : Nat) (es : List (List V)) (arr : Array Value) : Prop :=
 arr.size = es.length * s ∧ ∀ i, i < es.length -> (es.getD i []).length = s ∧ ∀ j, j < s -> PRep P c.w c.prot ((es.getD i []).getD j .undef) (arr.getD (i * s + j) Go.undef) ∧ (arr.getD (i * s + j) Go.undef).oneCell' = true
theorem flat_le {i n s : Nat} (hi : i < n) : i * s + s <= n * s := by
 have : (i + 1) * s <= n * s := Nat.mul_le_mul_right _ hi
 rw [Nat.add_mul] at this; omega
theorem madeCells_get (z : Array Value) {n s : Nat} (hz : z.size = s) {i j : Nat} (hi : i < n) (hj : j < s) : (madeCells z (n * s)).getD (i * s + j) Go.undef = z.getD j Go.undef := by
 have hlt : i * s + j < n * s := by have := flat_le (s := s) hi; omega
 have hm : (i * s + j) % z.size = j := by rw [hz, Nat.mul_comm, Nat.mul_add_mod]; exact Nat.mod_eq_of_lt hj
 have hlt2 : i * s + j < (madeCells z (n * s)).size := by rw [size_madeCells]; exact hlt
 simp only [Array.getD, hlt2, dif_pos]
 have hjz : j < z.size := by omega
 simp [madeCells, hm, hjz]
theorem flat_made {P : Program} {z : List V} {zs : Array Value} {n s : Nat} (hz : z.length = zs.size) (hs : zs.size = s) (hr : ∀ j, VRep P c (z.getD j .undef) (zs.getD j Go.undef)) (hp : z.all pur1 = true) :
  FlatRep P c s (List.replicate n z) (madeCells zs (n * s)) := by
 refine ⟨by simp [size_madeCells], fun i hi => ?_⟩
 have hi' : i < n := by simpa using hi
 have e : (List.replicate n z).getD i [] = z := by simp [List.getD, hi']
 rw [e]
 refine ⟨by omega, fun j hj => ?_⟩
 rw [madeCells_get zs hs hi' hj]
 have hjz : j < z.length := by omega
 have hpv : pur1 (z.getD j .undef) = true := by
  have := List.all_eq_true.1 hp _ (List.getElem_mem hjz)
  simpa [List.getD, hjz] using this
 exact pur1_sound (hr j) hpv
theorem flat_cells {P : Program} {es : List (List V)} {e : TypeId} {arr : Array Value} {c' : Cx} (h : FlatRep P c (sz P e) es arr) (hx : Ext c c') {b : Nat} (hc : ∀ j, j < arr.size -> c'.w.cell? ⟨b, j, none⟩ = some (arr.getD j Go.undef)) (fz : Bool) :
  CellsRep P c' b 0 (.vec e es fz) := by
 intro i hi
 refine ⟨(h.2 i hi).1, fun j hj => ?_⟩
 have hlt : i * sz P e + j < arr.size := by rw [h.1]; have := flat_le (s := sz P e) hi; omega
 refine ⟨arr.getD (i * sz P e + j) Go.undef, (by rw [show 0 + i * sz P e + j = i * sz P e + j by omega]; exact hc _ hlt), ((h.2 i hi).2 j hj).2, ((h.2 i hi).2 j hj).1.mono hx.prot⟩
theorem new_cell {w : World} {arr : Array Value} {e : TypeId} {fr : Nat × Nat} {j : Nat} (hj : j < arr.size) : (w.alloc (.cells arr e fr)).cell? ⟨w.heap.size, j, none⟩ = some (arr.getD j Go.undef) := by
 have := heap_alloc_new w (.cells arr e fr)
 simp only [World.cell?, this]
 simp [Array.getD, hj]
theorem arr_done {d : Tmp} {e : TypeId} {es : List (List V)} {arr : Array Value} {k : V -> List (Nat × Blk) -> Option R} (hI : Inv pg c own (getB bl) live) (hout : ¬ c.out (aid d)) (h : newB d (.vec e es false) bl (fun bl' => k (.arr (aid d) e) bl') = some r)
  (hf : FlatRep pg.P c (sz pg.P e) es arr) {m : Sem Next} {n : Nat} (hn : n = es.length) {e' : TypeId} (hm : m.run pg.P c.w = .ok (.value (.slice (some ⟨c.w.heap.size, 0, none⟩) n n)) (c.w.alloc (.cells arr e'))) : Done pg c own live r k m := by
 subst hn
 obtain ⟨hid, h1⟩ := newB_some h
 have hx := Ext.new hI hid hout (Blk.vec e es false).num (.cells arr e')
 have hC : CellsRep pg.P (c.new (aid d) (Blk.vec e es false).num (.cells arr e')) c.w.heap.size 0 (.vec e es false) := flat_cells hf hx (fun j hj => new_cell hj) false
 refine ⟨_, _, c.new (aid d) (Blk.vec e es false).num (.cells arr e'), own.new c.w.heap.size (aid d), _, _, h1, hm, .inl rfl, ?_, ?_, After.new hI hid hout _ _, hx, rfl⟩
 ·have : (c.new (aid d) (Blk.vec e es false).num (.cells arr e')).blk (aid d) = some (c.w.heap.size, 0, es.length) := by show (if _ = _ then _ else _) = _; rw [if_pos rfl]; rfl
  exact .arr e _ this (Nat.le_refl _)
 ·rw [getB_setB_fun]
  exact Inv.new hI hid hout rfl rfl (by show es.length * _ <= _; rw [hf.1]; exact Nat.le_refl _) hC
theorem sl_done {c0 : Cx} {own0 : Own} (ha : After c0 own0 c own) (hx0 : Ext c0 c) (hr0 : c.row = c0.row) {tok : Tok} {e : TypeId} {es : List (List V)} {arr : Array Value} {k : V -> List (Nat × Blk) -> Option R} (hI : Inv pg c own (getB bl) live) (h : k (.sl tok e es) bl = some r) (ht : tok = .no ∨ tok = .nn)
  (hf : FlatRep pg.P c (sz pg.P e) es arr) {pad : Array Value} {m : Sem Next} {n cap : Nat} (hn : n = es.length) (hcap : n <= cap) {e' : TypeId} {fr : Nat × Nat}
  (hm : m.run pg.P c0.w = .ok (.value (.slice (some ⟨c.w.heap.size, 0, none⟩) n cap)) (c.w.alloc (.cells (arr ++ pad) e' fr))) : Done pg c0 own0 live r k m := by
 subst hn
 have hx := Ext.put hI (.cells (arr ++ pad) e' fr)
 refine ⟨_, _, c.put (.cells (arr ++ pad) e' fr), own, _, _, h, hm, .inl rfl, .pure ?_, Inv.put hI _, ha.trans (After.put hI _), hx0.trans hx, hr0⟩
 refine .sl (fun i j => arr.getD (i * sz pg.P e + j) Go.undef) c.w.heap.size 0 ?_ ⟨fun _ => rfl, hcap⟩ (fun i hi => (hf.2 i hi).1) (fun i j hi hj => ⟨.inr rfl, ?_, ((hf.2 i hi).2 j hj).2⟩) (fun i j hi hj => ((hf.2 i hi).2 j hj).1.mono hx.prot)
 ·rcases ht with rfl | rfl
  ·trivial
  ·exact nofun
 ·have hlt : i * sz pg.P e + j < arr.size := by rw [hf.1]; have := flat_le (s := sz pg.P e) hi; omega
  rw [show 0 + i * sz pg.P e + j = i * sz pg.P e + j by omega]
  show (c.w.alloc _).cell? _ = _
  rw [new_cell (by simp; omega)]
  have h2 : i * sz pg.P e + j < (arr ++ pad).size := by simp; omega
  simp [Array.getD, hlt, h2, Array.getElem_append_left hlt]
  intro h3; omega
theorem PRep.cells_one {P : Program} {w : World} {prot : Nat -> Nat -> Prop} {v : V} {x : Value} (h : PRep P w prot v x) (h1 : (cellsOf v).all one = true) :
  (cellsOf v).length = x.cells.size ∧ ∀ j, j < (cellsOf v).length -> PRep P w prot ((cellsOf v).getD j .undef) (x.cells.getD j Go.undef) ∧ (x.cells.getD j Go.undef).oneCell' = true := by
 have hv : VRep P ⟨w, fun _ => none, fun _ => none, prot, fun _ => False⟩ v x := .pure h
 obtain ⟨n1, n2, n3⟩ := one_cells h1
 obtain ⟨h2, h3⟩ := hv.cells n1 n2 n3
 refine ⟨h2, fun j hj => ⟨?_, (h3 j hj).one (by have := List.all_eq_true.1 h1 _ (List.getElem_mem hj); simpa [List.getD, hj] using this)⟩⟩
 cases h with
 | agg hl hr => exact hr j hj
 | tup hl hr => exact absurd rfl (n2 _)
 | _ =>
  have : j = 0 := by simpa [cellsOf] using hj
  subst this
  simp only [cellsOf, Value.cells]
  first
   | exact .int _ _ | exact .bool _ | exact .str _ | exact .nilp | exact .nili | exact .nilf | exact .fn _
   | exact .iface _ (by assumption)
   | exact .sl _ _ _ (by assumption) (by assumption) (by assumption) (by assumption) (by assumption)
   | exact .ptr _ _ _ (by assumption) (by assumption)
theorem put_get (off : Nat) : ∀ (ys : List Value) (s : Nat) (xs : Array Value) (x : Nat), ((ys.zipIdx s).foldl (fun cs (p : Value × Nat) => cs.setIfInBounds (off + p.2) p.1) xs).getD x Go.undef =
  if off + s <= x ∧ x < off + s + ys.length ∧ x < xs.size then ys.getD (x - (off + s)) Go.undef else xs.getD x Go.undef
 | [], s, xs, x => by rw [if_neg (by simp; omega)]; rfl
 | y :: ys, s, xs, x => by
  simp only [List.zipIdx_cons, List.foldl_cons]
  rw [put_get off ys (s + 1) _ x]
  by_cases h1 : x = off + s
  ·subst h1
   rw [if_neg (by omega)]
   by_cases h2 : off + s < xs.size
   ·rw [if_pos (by simp; omega)]
    simp [Array.getD, h2]
   ·rw [if_neg (by omega)]
    simp [Array.getD, h2]
  ·have h3 : (xs.setIfInBounds (off + s) y).getD x Go.undef = xs.getD x Go.undef := by
    by_cases h2 : x < xs.size
    ·simp only [Array.getD, Array.size_setIfInBounds, h2, dif_pos]
     have := Array.getElem?_setIfInBounds_ne (xs := xs) (a := y) (show off + s ≠ x from fun e => h1 e.symm)
     simpa [h2] using this
    ·simp [Array.getD, h2]
   rw [h3]
   by_cases h4 : off + (s + 1) <= x ∧ x < off + (s + 1) + ys.length ∧ x < (xs.setIfInBounds (off + s) y).size
   ·rw [if_pos h4, if_pos (by simp at h4 ⊢; omega), show x - (off + s) = (x - (off + (s + 1))) + 1 by omega]
    simp
   ·rw [if_neg h4, if_neg (by simp at h4 ⊢; omega)]
theorem fillS_sound {P : Program} {s n : Nat} : ∀ {idx : List Nat} {vs : List V} {xs : List Value} {es es' : List (List V)} {arr : Array Value}, fillS s n es idx (vs.map cellsOf) = some es' -> es.length = n -> vs.length = xs.length ->
  (∀ j, j < vs.length -> PRep P c.w c.prot (vs.getD j .undef) (xs.getD j Go.undef)) -> FlatRep P c s es arr ->
  ∃ ys, Instr.fill (fun i => some (i * s, s)) arr (idx.zip xs) = some ys ∧ FlatRep P c s es' ys ∧ es'.length = n
 | [], [], [], es, es', arr, h, hn, _, _, hf => by cases h; exact ⟨arr, rfl, hf, hn⟩
 | [], v :: vs, xs, es, es', arr, h, _, _, _, _ => by cases h
 | i :: idx, [], xs, es, es', arr, h, _, _, _, _ => by cases h
 | i :: idx, v :: vs, x :: xs, es, es', arr, h, hn, hl, hr, hf => by
  simp only [List.map_cons, fillS] at h
  obtain ⟨hc, h1⟩ := condL_some h
  simp only [Bool.and_eq_true] at hc
  obtain ⟨⟨hi, hs⟩, hone⟩ := hc
  have hi : i < n := by simpa [Nat.blt_eq] using hi
  have hs : (cellsOf v).length = s := by simpa using hs
  obtain ⟨h2, h3⟩ := (hr 0 (by simp)).cells_one hone
  simp only [List.getD_cons_zero] at h2 h3
  have hle := flat_le (s := s) hi
  have hsz : arr.size = n * s := by rw [hf.1, hn]
  have hf' : FlatRep P c s (es.set i (cellsOf v)) ((x.cells.toList.zipIdx 0).foldl (fun cs (p : Value × Nat) => cs.setIfInBounds (i * s + p.2) p.1) arr) := by
   refine ⟨by rw [put_foldl]; simpa using hf.1, fun i' hi' => ?_⟩
   have hi2 : i' < es.length := by simpa using hi'
   have hle' := flat_le (s := s) (show i' < n by omega)
   by_cases hii : i' = i
   ·subst hii
    rw [show (es.set i' (cellsOf v)).getD i' [] = cellsOf v by simp [List.getD, hi2]]
    refine ⟨hs, fun j hj => ?_⟩
    rw [put_get, if_pos (by simp; omega), arr_getD, show i' * s + j - (i' * s + 0) = j by omega]
    exact h3 j (by omega)
   ·rw [show (es.set i (cellsOf v)).getD i' [] = es.getD i' [] by simp [List.getD, List.getElem?_set_ne (Ne.symm hii)]]
    refine ⟨(hf.2 i' hi2).1, fun j hj => ?_⟩
    rw [put_get, if_neg]
    ·exact (hf.2 i' hi2).2 j hj
    ·have : x.cells.toList.length = s := by simp; omega
     rw [this]
     rcases Nat.lt_or_ge i' i with hlt | hge
     ·have := flat_le (s := s) hlt; omega
     ·have := flat_le (s := s) (show i < i' by omega); omega
  obtain ⟨ys, h4, h5, h6⟩ := fillS_sound (xs := xs) h1 (by simpa using hn) (by simpa using hl) (fun j hj => by have := hr (j + 1) (by simpa using hj); simpa using this) hf'
  refine ⟨ys, ?_, h5, h6⟩
  rw [List.zip_cons_cons]
  unfold Instr.fill
  have e2 : x.cells.size = s := by omega
  have e3 : ¬ (i * s + s > arr.size) := by omega
  simp only []
  rw [<- h4]
  simp [e2, e3]
  congr 1
  rw [show s = x.cells.zipIdx.size by simp [e2], <- Array.foldl_toList]
  simp
 | i :: idx, v :: vs, [], es, es', arr, h, _, hl, _, _ => by cases hl
theorem makeS_done {t : TypeId} {l cc : V} {d : Tmp} {k : V -> List (Nat × Blk) -> Option R} {L C : Value} (hI : Inv pg c own (getB bl) live) (hout : ¬ c.out (aid d)) (h : makeS pg t l cc d bl k = some r) (hL : VRep pg.P c l L) (hC : VRep pg.P c cc C) :
  Done pg c own live r k (do pure (.value (<- Instr.makeSlice t L C))) := by
 unfold makeS at h
 split at h
 ·rename_i e n m hu
  obtain rfl := hL.int_inv
  obtain rfl := hC.int_inv
  split at h
  ·rename_i z hz
   obtain ⟨hc, h1⟩ := condL_some h
   simp only [Bool.and_eq_true] at hc
   obtain ⟨⟨⟨hb, hs0⟩, hp⟩, hzl⟩ := hc
   obtain ⟨⟨rfl, h0, hm⟩, h2⟩ := iteL_some h1
   obtain ⟨i, zv, hi, hz1, hz2, hz3⟩ := zeroL_some hz
   have hsz : sz pg.P e = i.size := by simp [sz, hi]
   have hby : byt pg.P e = i.bytes := by simp [byt, hi]
   have hb : i.bytes <= 128 := by rw [<- hby]; simpa using hb
   have hzl : z.length = sz pg.P e := by simpa using hzl
   have hf := flat_made (c := c) (P := pg.P) (n := n.toNat) hz2 (by omega : zv.cells.size = sz pg.P e) (hz3 c) hp
   have hbb : (i.bytes : Int) * n <= 281474976710656 := by
    have h3 : n <= 1099511627776 := hm
    have h4 : (i.bytes : Int) * n <= 128 * n := Int.mul_le_mul_of_nonneg_right (by omega) h0
    omega
   have hrun := run_make (P := pg.P) c.w t e i zv hu hi hz1 .i64 .i64 n n h0 (Int.le_refl _) hbb (by have h3 : n <= 1099511627776 := hm; omega)
   refine arr_done hI hout h2 hf (by simp) (n := n.toNat) (e' := e) ?_
   rw [Sem.run_bind, hrun, hsz]; rfl
  ·cases h
 ·cases h
theorem buildSlice_done {f : FuncId} {t : TypeId} {n : Nat} {parts : Array (Nat × Operand)} {dst : Option Tmp} {k : V -> List (Nat × Blk) -> Option R} (hI : Inv pg c own (getB bl) live)
  (h : (match pg.P.underlying t with
  | some (.slice e) => (match zeroL pg.P e, purAll pg bl (parts.toList.map fun p => evO pg env e p.2) with
   | some z, some (vs, bl') => bif Nat.ble (n * sz pg.P e) 65536 && Nat.blt 0 (sz pg.P e) && z.all pur1 && Nat.beq z.length (sz pg.P e) then
     (match fillS (sz pg.P e) n (List.replicate n z) (parts.toList.map (·.1)) (vs.map cellsOf) with
     | some es => (match dst with
      | some d => bif (pg.mutl f).contains d then newB d (.vec e es false) bl' fun bl'' => k (.arr (aid d) e) bl'' else k (.sl (bif pg.pz e then .nn else .no) e es) bl'
      | none => none)
     | none => none) else none
   | _, _ => none)
  | _ => none) = some r) (hρ : ∀ p ∈ parts.toList, ∀ t, VRep pg.P c (evO pg env t p.2) (ρ p.2)) (hout : ∀ d, dst = some d -> (pg.mutl f).contains d = true -> ¬ c.out (aid d)) :
  Done pg c own live r k (do pure (.value (<- Instr.buildSlice t n (parts.map fun (i, x) => (i, ρ x))))) := by
 split at h
 ·rename_i e hu
  split at h
  ·rename_i z vs bl' hz hp
   obtain ⟨hc, h1⟩ := condL_some h
   simp only [Bool.and_eq_true] at hc
   obtain ⟨⟨⟨hb, hs0⟩, hpz⟩, hzl⟩ := hc
   have hb : n * sz pg.P e <= 65536 := by simpa using hb
   have hs0 : 0 < sz pg.P e := by simpa [Nat.blt_eq] using hs0
   have hzl : z.length = sz pg.P e := by simpa using hzl
   obtain ⟨i, zv, hi, hz1, hz2, hz3⟩ := zeroL_some hz
   have hsz : sz pg.P e = i.size := by simp [sz, hi]
   obtain ⟨c1, own1, hw1, hI1, ha1, hx1, hb1, hr1, hvl, hvr, hkeep⟩ := purAll_sound hI hp
   split at h1
   ·rename_i es hfs
    have hf0 := flat_made (c := c1) (P := pg.P) (n := n) hz2 (by omega : zv.cells.size = sz pg.P e) (hz3 c1) hpz
    have hl : vs.length = (parts.toList.map fun p => ρ p.2).length := by rw [hvl]; simp
    obtain ⟨ys, h2, h3, h4⟩ := fillS_sound (c := c1) (P := pg.P) (xs := parts.toList.map fun p => ρ p.2) hfs (by simp) hl (fun j hj => by
     have hj2 : j < parts.toList.length := by rw [hvl] at hj; simpa using hj
     have hj3 : j < parts.size := by simpa using hj2
     have := hvr j (ρ (parts.toList[j]).2) (by simpa using hj2) (by have := hρ _ (List.getElem_mem hj2) e; simpa [List.getD, hj3] using this)
     simpa [List.getD, hj3] using this) hf0
    have hzip : (parts.toList.map (·.1)).zip (parts.toList.map fun p => ρ p.2) = (parts.map fun (i, x) => (i, ρ x)).toList := by
     rw [List.zip_map']
     simp
    rw [hzip] at h2
    have hrun : (Instr.buildSlice t n (parts.map fun (i, x) => (i, ρ x))).run pg.P c1.w = .ok (.slice (some ⟨c1.w.heap.size, 0, none⟩) n n) (c1.w.alloc (.cells ys e)) := by
     rw [hsz] at h2 hb
     have hn2 : ¬ (n * i.size > 16777216) := by omega
     have hn3 : ¬ (16777216 < n * i.size) := by omega
     by_cases h0 : n * i.size = 0
     ·have hm : madeCells zv.cells (n * i.size) = #[] := by rw [h0]; exact Array.size_eq_zero_iff.1 (size_madeCells _ _)
      rw [hm] at h2
      have h2' : Instr.fill (fun j => some (j * i.size, i.size)) #[] (parts.toList.map fun p => (p.1, ρ p.2)) = some ys := by simpa using h2
      simp [Instr.buildSlice, run_underlying hu, sizeOf, typeInfo, hi, h0, newRow, Array.range_zero', h2']
     ·have h2' : Instr.fill (fun j => some (j * i.size, i.size)) (madeCells zv.cells (n * i.size)) (parts.toList.map fun p => (p.1, ρ p.2)) = some ys := by simpa using h2
      unfold madeCells at h2'
      simp [Instr.buildSlice, run_underlying hu, sizeOf, typeInfo, hi, h0, hn3, newRow, zeroValue, hz1, h2']
    split at h1
    ·rename_i d
     rcases cond_some h1 with ⟨hmu, h5⟩ | ⟨_, h5⟩
     ·refine Done.mono hw1 ha1 hx1 hr1 (arr_done hI1 (by rw [ha1.far.1]; exact hout d rfl hmu) h5 h3 h4.symm (e' := e) ?_)
      rw [Sem.run_bind, hrun]; rfl
     ·refine Done.mono hw1 ha1 hx1 hr1 (sl_done (After.refl _ _) (Ext.refl _) rfl (pad := #[]) hI1 h5 (by cases pg.pz e <;> simp) h3 h4.symm (Nat.le_refl _) (e' := e) (fr := (0, 0)) ?_)
      rw [Sem.run_bind, hrun, Array.append_empty]; rfl
    ·cases h1
   ·cases h1
  ·cases h
 ·cases h
theorem same_done {k : V -> List (Nat × Blk) -> Option R} {m : Sem Next} (hI : Inv pg c own (getB bl) live) (h : ∃ v x, k v bl = some r ∧ m.run pg.P c.w = .ok (.value x) c.w ∧ VRep pg.P c v x) : Done pg c own live r k m := by
 obtain ⟨v, x, h1, h2, h3⟩ := h
 exact ⟨v, bl, c, own, x, _, h1, h2, .inl rfl, h3, hI, After.refl _ _, Ext.refl _, rfl⟩
def Cx.drw (c : Cx) : Cx := { c with w := c.w.drew }
theorem Ext.drw (c : Cx) : Ext c c.drw := ⟨fun b x h => ⟨h, rfl⟩, fun _ _ h => h, fun _ _ h => h⟩
theorem After.drw (c : Cx) (own : Own) : After c own c.drw own := ⟨⟨rfl, rfl, rfl, Nat.le_refl _, fun b o h => .inl h⟩, fun b x _ h => h, fun b x h => ⟨h, rfl⟩, fun b x h => .inl h, .of rfl rfl⟩
theorem Inv.drw (hI : Inv pg c own g live) : Inv pg c.drw own g live := by
 have hx := Ext.drw c
 have hf : Frame (fun _ _ => none) c.w c.drw.w := ⟨rfl, rfl, rfl, Nat.le_refl _, fun b o h => .inl h⟩
 exact ⟨fun id k hk => let ⟨b, o, h1, h2⟩ := hI.blk id k hk; ⟨b, o, h1, h2.kept hx hf (fun _ _ _ => rfl) (fun _ _ h => h)⟩, fun t ht => (hI.row t ht).kept hx hf (fun _ _ _ => rfl) (fun _ _ _ => rfl) (fun _ _ h => h),
  hI.np, hI.fresh, hI.dom, fun i cs hg => (hI.gl i cs hg).mono hx.prot⟩
theorem flat_bytes {P : Program} {e : TypeId} (hs : sz P e = 1) (s : ByteArray) : FlatRep P c (sz P e) (ofBytes s) (s.data.map fun b => Value.int .u8 b.toNat) := by
 refine ⟨by simp [ofBytes, hs], fun i hi => ?_⟩
 have hi' : i < s.data.size := by simpa [ofBytes] using hi
 have hq : s.data[i]? = some s.data[i] := Array.getElem?_eq_getElem hi'
 have hi2 : i < s.size := hi'
 refine ⟨by simp [ofBytes, List.getD, hq, hs], fun j hj => ?_⟩
 have : j = 0 := by omega
 subst this
 rw [hs]
 simp [ofBytes, List.getD, Array.getD, hq, hi2]
 exact ⟨.int _ _, rfl⟩
theorem mp_done {d : Tmp} {kt et : TypeId} {k : V -> List (Nat × Blk) -> Option R} (hI : Inv pg c own (getB bl) live) (hout : ¬ c.out (aid d)) (h : newB d (.mp kt et [] false) bl (fun bl' => k (.mp (aid d)) bl') = some r)
  {m : Sem Next} (hm : m.run pg.P c.w = .ok (.value (.map (some c.w.heap.size))) (c.w.alloc (.map #[] 0))) : Done pg c own live r k m := by
 obtain ⟨hid, h1⟩ := newB_some h
 have hx := Ext.new hI hid hout (Blk.mp kt et [] false).num (.map #[] 0)
 refine ⟨_, _, c.new (aid d) (Blk.mp kt et [] false).num (.map #[] 0), own.new c.w.heap.size (aid d), _, _, h1, hm, .inl rfl, ?_, ?_, After.new hI hid hout _ _, hx, rfl⟩
 ·have : (c.new (aid d) (Blk.mp kt et [] false).num (.map #[] 0)).blk (aid d) = some (c.w.heap.size, 0, 1) := by show (if _ = _ then _ else _) = _; rw [if_pos rfl]; rfl
  exact .mp this
 ·rw [getB_setB_fun]
  exact Inv.newO hI hid hout rfl ⟨rfl, #[], 0, (MapKept.heap_alloc c.w _).1, rfl, fun p hp => by cases hp⟩ trivial
theorem map_modify {ents : Array MapEntry} {es : List (V × V)} {j : Nat} {k v : V} (h : ents.toList.map (fun x => (x.key, x.val)) = es.map (fun p => (p.1.val, p.2.val))) (hj : j < es.length) :
  (ents.modify j fun e => { e with key := k.val, val := v.val }).toList.map (fun x => (x.key, x.val)) = (es.set j (k, v)).map (fun p => (p.1.val, p.2.val)) := by
 apply List.ext_getElem?
 intro i
 have h2 : (ents.toList.map (fun x => (x.key, x.val)))[i]? = (es.map (fun p => (p.1.val, p.2.val)))[i]? := by rw [h]
 simp only [List.getElem?_map, Array.toList_modify, List.getElem?_modify, List.getElem?_set] at h2 ⊢
 by_cases hi : j = i
 ·subst hi
  rw [List.getElem?_eq_getElem hj] at h2
  simp only [hj, if_true]
  cases he : ents.toList[j]? with
  | none => rw [he] at h2; cases h2
  | some e => simp
 ·simp only [hi, if_false]
  rw [<- h2]
  cases ents.toList[i]? <;> rfl
theorem mpSet_done {id : Nat} {t kt et : TypeId} {es : List (V × V)} {kv v : V} {k : V -> List (Nat × Blk) -> Option R} (hI : Inv pg c own (getB bl) live) {b n : Nat} (hb : c.blk id = some (b, 0, n)) (hg : getB bl id = some (.mp kt et es false))
  (hu : pg.P.underlying t = some (.map kt et)) (hk : keyOk pg.P kt kv = true) (hv : v.prim = true) (h : k .undef (setB bl id (.mp kt et (mpSet kv v es) false)) = some r) :
  Done pg c own live r k (do let _ <- Instr.mapUpdate t (.map (some b)) kv.val v.val; pure .skip) := by
 obtain ⟨rfl, hB⟩ := hI.at hg hb
 obtain ⟨⟨_, ents, clock, hh, hl, ho⟩, hown⟩ := hB.opn rfl
 obtain ⟨_, d, hd, hi⟩ := keyOk_some hk
 have hlt : b < c.w.heap.size := (Array.getElem?_eq_some_iff.1 hh).1
 have gen : ∀ (ents' : Array MapEntry) (clock' : Nat), ents'.toList.map (fun x => (x.key, x.val)) = (mpSet kv v es).map (fun p => (p.1.val, p.2.val)) -> (∀ p ∈ mpSet kv v es, keyOk pg.P kt p.1 = true ∧ p.2.prim = true) ->
   (Instr.mapUpdate t (.map (some b)) kv.val v.val).run pg.P c.w = .ok () { c.w with heap := c.w.heap.setIfInBounds b (.map ents' clock') } ->
   Done pg c own live r k (do let _ <- Instr.mapUpdate t (.map (some b)) kv.val v.val; pure .skip) := by
  intro ents' clock' h1 h2 hrun
  have hs := MapKept.heap_set (o' := .map ents' clock') hh
  have hf : Frame (own.only id) c.w { c.w with heap := c.w.heap.setIfInBounds b (.map ents' clock') } := by
   refine ⟨rfl, rfl, rfl, by simp, fun b' o' hb' => ?_⟩
   by_cases hbb : b' = b
   ·subst hbb
    rw [hh] at hb'
    cases hb'
    refine .inr (.inr ⟨ents, clock, ents', clock', rfl, hs.1, ?_⟩)
    have := hown 0 Nat.one_pos
    simp [Own.only, this]
   ·exact .inl (by show (c.w.heap.setIfInBounds b _)[b']? = _; rw [hs.2 b' hbb]; exact hb')
  obtain ⟨h6, h7, h8⟩ := Inv.touchO (k' := .mp kt et (mpSet kv v es) false) hI hg rfl rfl rfl rfl hf (by simp) (fun b' o' hb' _ => by
   rw [hb] at hb'
   cases hb'
   exact ⟨rfl, ents', clock', hs.1, h1, h2⟩) (fun _ _ _ => trivial)
  exact ⟨_, _, _, own, Go.undef, .skip, h, by rw [Sem.run_bind, hrun]; rfl, .inr ⟨rfl, rfl⟩, .undef _, by rw [getB_setB_fun]; exact h6, h7, h8, rfl⟩
 rcases find_rep hd hk ents.toList es 0 hl ho with ⟨_, h7, _, h9⟩ | ⟨j, e', p', _, h7, h8, h9, _, h11, h12⟩
 ·refine gen (ents.push { key := kv.val, val := v.val, born := clock }) (clock + 1) (by rw [h9]; simp [hl]) (fun p hp => ?_) ?_
  ·rw [h9] at hp
   rcases List.mem_append.1 hp with hp | hp
   ·exact ho p hp
   ·rw [List.mem_singleton] at hp; subst hp; exact ⟨hk, hv⟩
  ·simp [Instr.mapUpdate, run_underlying hu, MapKept.run_getObj_map hh, MapKept.run_checkKey hd hi, MapKept.run_findKey hd h7, MapKept.run_setObj_map _ hh, Result.andThen]
 ·have hj : ents[j]? = some e' := by simpa using h7
  have hjl : j < es.length := (List.getElem?_eq_some_iff.1 h8).1
  refine gen (ents.modify j fun e => { e with key := kv.val, val := v.val }) clock (by rw [h12]; exact map_modify hl hjl) (fun p hp => ?_) ?_
  ·rw [h12] at hp
   rcases List.mem_or_eq_of_mem_set hp with hp | rfl
   ·exact ho p hp
   ·exact ⟨hk, hv⟩
  ·simp [Instr.mapUpdate, run_underlying hu, MapKept.run_getObj_map hh, MapKept.run_checkKey hd hi, MapKept.run_findKey hd h9, hj, h11, MapKept.run_keyThatStays hi, MapKept.run_setObj_map _ hh, Result.andThen]
def allocs (o : Oper) : Bool := match o.op with | .alloc _ => true | .box _ _ => true | .makeSlice _ _ _ => true | .buildSlice _ _ _ => true | .makeMap _ _ => true | _ => false
theorem ptr_done {cs : List V} {xs : Array Value} {k : V -> List (Nat × Blk) -> Option R} (hI : Inv pg c own (getB bl) live) (h : k (.ptr cs 0) bl = some r) (hl : cs.length = xs.size)
  (hr : ∀ j, j < cs.length -> PRep pg.P c.w c.prot (cs.getD j .undef) (xs.getD j Go.undef) ∧ (xs.getD j Go.undef).oneCell' = true) {m : Sem Next} {e' : TypeId}
  (hm : m.run pg.P c.w = .ok (.value (.pointer (some ⟨c.w.heap.size, 0, none⟩))) (c.w.alloc (.cells xs e'))) : Done pg c own live r k m := by
 have hx := Ext.put hI (.cells xs e')
 refine ⟨_, _, c.put (.cells xs e'), own, _, _, h, hm, .inl rfl, .pure ?_, Inv.put hI _, After.put hI _, hx, rfl⟩
 refine .ptr (off := 0) (fun j => xs.getD j Go.undef) c.w.heap.size 0 (fun j hj => ⟨.inr rfl, ?_, (hr j hj).2⟩) (fun j hj => (hr j hj).1.mono hx.prot)
 rw [Nat.zero_add]
 show (c.w.alloc _).cell? _ = _
 rw [new_cell (by omega)]
theorem opB_sound {f : FuncId} {o : Oper} {k : V -> List (Nat × Blk) -> Option R} (hI : Inv pg c own (getB bl) live) (hout : mkB pg f o = true -> ∀ d, o.dst = some d -> ¬ c.out (aid d)) (h : opB pg f env o bl k = some r) (hρ : ∀ x ∈ o.op.operands, ∀ t, VRep pg.P c (evO pg env t x) (ρ x)) :
  Done pg c own live r k (execOp ρ o) := by
 unfold opB at h
 split at h
 ·rename_i t ho
  split at h
  ·rename_i z d hz hd
   split at h
   ·rename_i b hb
    obtain ⟨i, zv, hi, hz1, hz2, hz3, hz4⟩ := zeroL_one hz
    refine alloc_done hI (hout (by unfold mkB; rw [ho]) d hd) h hb hz2 (fun j hj => ⟨hz3 c j, hz4 j⟩) (e' := t) ?_
    simp [execOp, ho, Instr.alloc, zeroValue, typeInfo, hi, hz1, newVar, newRow]
   ·cases h
  ·cases h
 ·rename_i t x ho
  rw [ho] at hρ
  have h0 := hρ x (by simp [Op.operands]) t
  split at h
  ·rename_i d hd
   rcases cond_some h with ⟨hnb, h⟩ | ⟨hnb, h⟩
   ·split at h
    ·rename_i v bl' hp
     obtain ⟨hc, h1⟩ := condL_some h
     simp only [Bool.and_eq_true] at hc
     obtain ⟨c1, own1, hw1, hI1, ha1, hx1, hb1, hr1, hvl, hvr, hkeep⟩ := purAll_sound hI hp
     have hv := hvr 0 (ρ x) (by simp) (by simpa using h0)
     have hv : PRep pg.P c1.w c1.prot v (ρ x) := by simpa using hv
     obtain ⟨h2, h3⟩ := hv.cells_one hc.2
     refine Done.mono hw1 ha1 hx1 hr1 (ptr_done hI1 h1 h2 h3 (e' := t) ?_)
     simp [execOp, ho, Instr.box, newVar, newRow]
    ·cases h
   dsimp only at h
   obtain ⟨hc, h1⟩ := condL_some h
   simp only [Bool.and_eq_true] at hc
   obtain ⟨h2, h3⟩ := cells_all_one hc.2 h0
   split at h1
   ·rename_i b hb
    refine alloc_done hI (hout (by unfold mkB; rw [ho, hd]; simpa using hnb) d hd) h1 hb h2 (fun j hj => ⟨(h3 j hj).1, fun _ => (h3 j hj).2⟩) (e' := t) ?_
    simp [execOp, ho, Instr.box, newVar, newRow]
   ·cases h1
  ·cases h
 ·rename_i t a x ho
  rw [ho] at hρ
  obtain ⟨bl', c', own', h1, h2, h3, h4, h5, h6⟩ := storeS_sound hI h (hρ a (by simp [Op.operands]) 0) (hρ x (by simp [Op.operands]) t)
  refine ⟨_, bl', c', own', Go.undef, .skip, h1, ?_, .inr ⟨rfl, rfl⟩, .undef _, h3, h4, h5, h6⟩
  simp only [execOp, ho, Sem.run_bind, h2, Result.andThen_ok, Sem.run_pure]
 ·rename_i xt x ho
  rw [ho] at hρ
  have gen : ∀ {v : V} {bl' : List (Nat × Blk)} {d : TypeDesc}, purAll pg bl [evO pg env xt x] = some ([v], bl') -> pg.P.underlying xt = some d -> (∀ ms, d ≠ .interface ms) -> k (.iface xt v) bl' = some r -> Done pg c own live r k (execOp ρ o) := by
   intro v bl' d hp hu hni hk
   obtain ⟨c1, own1, hw1, hI1, ha1, hx1, hb1, hr1, hvl, hvr, hkeep⟩ := purAll_sound hI hp
   have := hvr 0 (ρ x) (by simp) (by simpa using hρ x (by simp [Op.operands]) xt)
   refine ⟨_, bl', c1, own1, .iface xt (ρ x), _, hk, ?_, .inl rfl, .iface xt (.pure (by simpa using this)), hI1, ha1, hx1, hr1⟩
   have hm : (Instr.makeInterface xt (ρ x)).run pg.P c.w = .ok (.iface xt (ρ x)) c.w := by
    unfold Instr.makeInterface
    rw [Sem.run_bind, run_underlying hu]
    simp only [Result.andThen_ok]
    cases d <;> first | rfl | exact absurd rfl (hni _)
   simp only [execOp, ho, Sem.run_bind, hm, Result.andThen_ok, Sem.run_pure, hw1]
  split at h
  ·rename_i hp hu; exact gen hp hu (fun _ => nofun) h
  ·rename_i hp hu; exact gen hp hu (fun _ => nofun) h
  ·rename_i hp hu; exact gen hp hu (fun _ => nofun) h
  ·cases h
 ·rename_i t l cc ho
  rw [ho] at hρ
  split at h
  ·rename_i d hd
   have := makeS_done hI (hout (by unfold mkB; rw [ho]) d hd) h (hρ l (by simp [Op.operands]) 0) (hρ cc (by simp [Op.operands]) 0)
   have e : execOp ρ o = (do pure (.value (<- Instr.makeSlice t (ρ l) (ρ cc)))) := by simp only [execOp, ho]
   rw [e]; exact this
  ·cases h
 ·rename_i t n parts ho
  rw [ho] at hρ
  have := buildSlice_done (f := f) (n := n) (k := k) (ρ := ρ) hI h (fun p hp => hρ p.2 (by simp [Op.operands]; exact ⟨p.1, by simpa using hp⟩)) (fun d hd hmu => hout (by unfold mkB; rw [ho, hd]; exact hmu) d hd)
  have e : execOp ρ o = (do pure (.value (<- Instr.buildSlice t n (parts.map fun (i, x) => (i, ρ x))))) := by simp only [execOp, ho]
  rw [e]; exact this
 ·rename_i src dst x ho
  have hρ' := hρ
  rw [ho] at hρ
  have h0 := hρ x (by simp [Op.operands]) src
  split at h
  ·rename_i s hx
   rw [hx] at h0
   have h1 := h0.str_inv
   split at h
   ·rename_i e hs hd
    split at h
    ·rename_i he
     obtain ⟨hsz, h'⟩ := condL_some h
     have hsz : sz pg.P e = 1 := by simpa using hsz
     obtain ⟨hm, h2⟩ := iteL_some h'
     have hlen : s.size = (ofBytes s).length := by unfold ofBytes; rw [List.length_map, Array.length_toList]; rfl
     refine sl_done (c := c.drw) (pad := Array.replicate (grownCap c.w s.size 0 e - s.size) (.int .u8 0)) (After.drw c own) (Ext.drw c) rfl hI.drw h2 (by cases pg.pz e <;> simp) (flat_bytes hsz s) hlen (grownCap_ge c.w s.size 0 e) (e' := e) (fr := ((bytesRow s (grownCap c.w s.size 0 e)).size, (bytesRow s (grownCap c.w s.size 0 e)).size + 1)) ?_
     simp only [execOp, ho, h1]
     rw [Sem.run_bind, run_bytes_of_string c.w src dst e s hs hd he]
     rfl
    ·cases h
   ·obtain ⟨v, z, h2, h3, h4⟩ := convK_sound (k := fun v => k v bl) h h0
    refine same_done hI ⟨v, z, h2, ?_, h4⟩
    simp only [execOp, ho]; rw [Sem.run_bind, h3]; rfl
  ·exact same_done hI (opR_sound (k := fun v => k v bl) hI h hρ')
 ·rename_i t ho
  split at h
  ·rename_i kt et d hu hd
   refine mp_done hI (hout (by unfold mkB; rw [ho]) d hd) h ?_
   simp [execOp, ho, Instr.makeMap, Result.andThen]
  ·cases h
 ·rename_i t m key x ho
  rw [ho] at hρ
  split at h
  ·rename_i id hx
   have h0 := hρ m (by simp [Op.operands]) t
   rw [hx] at h0
   obtain ⟨b, n, hb, hx'⟩ := h0.mp_inv
   split at h
   ·rename_i kt et kt' et' es hu hg
    obtain ⟨hc, h2⟩ := condL_some h
    simp only [Bool.and_eq_true] at hc
    obtain ⟨⟨⟨he1, he2⟩, hk⟩, hv⟩ := hc
    have he1 : kt = kt' := by simpa using he1
    have he2 : et = et' := by simpa using he2
    subst he1; subst he2
    have hix := prim_inv (keyOk_some hk).1 (hρ key (by simp [Op.operands]) kt)
    have hiv := prim_inv hv (hρ x (by simp [Op.operands]) et)
    have := mpSet_done hI hb hg hu hk hv h2
    have e : execOp ρ o = (do let _ <- Instr.mapUpdate t (ρ m) (ρ key) (ρ x); pure .skip) := by simp only [execOp, ho]
    rw [e, hx', hix, hiv]; exact this
   ·cases h
  ·cases h
 ·exact same_done hI (opR_sound (k := fun v => k v bl) hI h hρ)
end
end Go.Proofs.Ab
namespace Go.Proofs.Ab
open Go
section
variable {R : Type} {r : R} {pg : Pg} {c : Cx} {own : Own} {live : Nat -> Prop} {g : Nat -> Option Blk} {ρ : Operand -> Value} {env : Env} {bl : List (Nat × Blk)}
theorem flat_of (n s : Nat) (f : Nat -> Nat -> Value) {i j : Nat} (hi : i < n) (hj : j < s) : (((List.range (n * s)).map fun k => f (k / s) (k % s)).toArray).getD (i * s + j) Go.undef = f i j := by
 have hlt : i * s + j < n * s := by have := flat_le (s := s) hi; omega
 have h1 : (i * s + j) / s = i := by rw [Nat.mul_comm, Nat.mul_add_div (by omega), Nat.div_eq_of_lt hj]; omega
 have h2 : (i * s + j) % s = j := by rw [Nat.mul_comm, Nat.mul_add_mod]; exact Nat.mod_eq_of_lt hj
 simp [Array.getD, hlt, h1, h2]
theorem sl_flat {P : Program} {tok : Tok} {e : TypeId} {es : List (List V)} {x : Value} (h : PRep P c.w c.prot (.sl tok e es) x) :
  ∃ base cap arr, x = .slice base es.length cap ∧ es.length <= cap ∧ FlatRep P c (sz P e) es arr ∧ (es ≠ [] -> ∃ b o, base = some ⟨b, o, none⟩ ∧ ∀ k, k < arr.size -> c.prot b (o + k) ∧ c.w.cell? ⟨b, o + k, none⟩ = some (arr.getD k Go.undef)) := by
 cases h with
 | @sl _ _ _ base cap f b o ht hb hl hc hr =>
  refine ⟨base, cap, ((List.range (es.length * sz P e)).map fun k => f (k / sz P e) (k % sz P e)).toArray, rfl, hb.2, ⟨by simp, fun i hi => ⟨hl i hi, fun j hj => ?_⟩⟩, fun hne => ⟨b, o, hb.1 hne, fun k hk => ?_⟩⟩
  ·rw [flat_of _ _ f hi hj]
   exact ⟨hr i j hi hj, (hc i j hi hj).2.2⟩
  ·have hk' : k < es.length * sz P e := by simpa using hk
   have hs : 0 < sz P e := by
    rcases Nat.eq_zero_or_pos (sz P e) with h0 | h0
    ·rw [h0] at hk'; simp at hk'
    ·exact h0
   have hi : k / sz P e < es.length := Nat.div_lt_of_lt_mul (by rw [Nat.mul_comm]; exact hk')
   have hj : k % sz P e < sz P e := Nat.mod_lt _ hs
   have he : k / sz P e * sz P e + k % sz P e = k := by rw [Nat.mul_comm]; exact Nat.div_add_mod _ _
   have h1 := hc _ _ hi hj
   rw [Nat.add_assoc, he] at h1
   have h2 := flat_of _ _ f hi hj
   rw [he] at h2
   rw [h2]
   exact ⟨h1.1, h1.2.1⟩
theorem FlatRep.one {P : Program} {s : Nat} {es : List (List V)} {arr : Array Value} (h : FlatRep P c s es arr) : ∀ u ∈ arr.toList, u.oneCell' = true := by
 intro u hu
 obtain ⟨k, hk, rfl⟩ := List.getElem_of_mem hu
 have hk' : k < es.length * s := by rw [<- h.1]; simpa using hk
 have hs : 0 < s := by
  rcases Nat.eq_zero_or_pos s with h0 | h0
  ·rw [h0] at hk'; simp at hk'
  ·exact h0
 have hi : k / s < es.length := Nat.div_lt_of_lt_mul (by rw [Nat.mul_comm]; exact hk')
 have hj : k % s < s := Nat.mod_lt _ hs
 have he : k / s * s + k % s = k := by rw [Nat.mul_comm]; exact Nat.div_add_mod _ _
 have := ((h.2 _ hi).2 _ hj).2
 rw [he] at this
 have hk2 : k < arr.size := by simpa using hk
 simpa [Array.getD, hk2] using this
theorem FlatRep.append {P : Program} {s : Nat} {es xs : List (List V)} {a b : Array Value} (h : FlatRep P c s es a) (k : FlatRep P c s xs b) : FlatRep P c s (es ++ xs) (a ++ b) := by
 refine ⟨by rw [Array.size_append, h.1, k.1, List.length_append, Nat.add_mul], fun i hi => ?_⟩
 rcases Nat.lt_or_ge i es.length with hlt | hge
 ·have e1 : (es ++ xs).getD i [] = es.getD i [] := by simp [List.getD, List.getElem?_append_left hlt]
  rw [e1]
  refine ⟨(h.2 i hlt).1, fun j hj => ?_⟩
  have hl := flat_le (s := s) hlt
  have h1 : i * s + j < a.size := by rw [h.1]; omega
  have h2 : i * s + j < (a ++ b).size := by rw [Array.size_append]; omega
  have e2 : (a ++ b).getD (i * s + j) Go.undef = a.getD (i * s + j) Go.undef := by
   rw [<- arr_getD, <- arr_getD, Array.toList_append, List.getD, List.getD, List.getElem?_append_left (by simpa using h1)]
  rw [e2]; exact (h.2 i hlt).2 j hj
 ·have hi2 : i - es.length < xs.length := by simp at hi; omega
  have e1 : (es ++ xs).getD i [] = xs.getD (i - es.length) [] := by simp [List.getD, List.getElem?_append_right hge]
  rw [e1]
  refine ⟨(k.2 _ hi2).1, fun j hj => ?_⟩
  have hl := flat_le (s := s) hi2
  have h0 : i * s + j = es.length * s + ((i - es.length) * s + j) := by
   have : i = es.length + (i - es.length) := by omega
   rw [this, Nat.add_mul, Nat.add_assoc]
   congr 2
   simp
  have h1 : (i - es.length) * s + j < b.size := by rw [k.1]; omega
  have h2 : i * s + j < (a ++ b).size := by rw [Array.size_append, h.1]; omega
  have h3 : a.size <= i * s + j := by rw [h.1]; omega
  have e2 : (a ++ b).getD (i * s + j) Go.undef = b.getD ((i - es.length) * s + j) Go.undef := by
   have h4 : i * s + j - a.size = (i - es.length) * s + j := by rw [h.1]; omega
   rw [<- arr_getD, <- arr_getD, Array.toList_append, List.getD, List.getD, List.getElem?_append_right (by simpa using h3), Array.length_toList, h4]
  rw [e2]; exact (k.2 _ hi2).2 j hj
theorem FlatRep.mono {P : Program} {s : Nat} {es : List (List V)} {a : Array Value} {c' : Cx} (h : FlatRep P c s es a) (hx : Ext c c') : FlatRep P c' s es a :=
 ⟨h.1, fun i hi => ⟨(h.2 i hi).1, fun j hj => ⟨((h.2 i hi).2 j hj).1.mono hx.prot, ((h.2 i hi).2 j hj).2⟩⟩⟩
theorem FlatRep.sl {P : Program} {e : TypeId} {es : List (List V)} {a : Array Value} (h : FlatRep P c (sz P e) es a) {b o cap : Nat} (hcap : es.length <= cap) (hc : ∀ k, k < a.size -> c.prot b (o + k) ∧ c.w.cell? ⟨b, o + k, none⟩ = some (a.getD k Go.undef)) :
  PRep P c.w c.prot (.sl .no e es) (.slice (some ⟨b, o, none⟩) es.length cap) := by
 refine .sl (fun i j => a.getD (i * sz P e + j) Go.undef) b o trivial ⟨fun _ => rfl, hcap⟩ (fun i hi => (h.2 i hi).1) (fun i j hi hj => ?_) (fun i j hi hj => ((h.2 i hi).2 j hj).1)
 have hl := flat_le (s := sz P e) hi
 have := hc (i * sz P e + j) (by rw [h.1]; omega)
 rw [<- Nat.add_assoc] at this
 exact ⟨this.1, this.2, ((h.2 i hi).2 j hj).2⟩
def Cx.grow (c : Cx) (w' : World) (t gb kk : Nat) (rec : Value × TypeId × Nat) : Cx :=
 { c with w := w', row := fun t' => if t' = t then some rec else c.row t', prot := fun b x => c.prot b x ∨ (b = gb ∧ x < kk) }
def Own.grow (own : Own) (t gb kk : Nat) : Own := fun b x => if b = gb then (if kk <= x then some (true, t) else none) else own b x
theorem Inv.grow {live' : Nat -> Prop} (hI : Inv pg c own g live) {t gb kk n : Nat} {e : TypeId} {v : Value} {xs : List Value} {w' : World} {own1 : Own} (hrow : c.row t = none) (hfr : Frame own1 c.w w')
  (hn1 : ∀ b x, own b x = none -> own1 b x = none) (hn2 : ∀ b x, b ≠ gb -> own1 b x = none) (hgb : gb < w'.heap.size) (hblk : ∀ x i, own gb x ≠ some (false, i))
  (hrw : ∀ t2 x, live' t2 -> t2 ≠ t -> own gb x ≠ some (true, t2)) (hlive : ∀ t2, live' t2 -> t2 = t ∨ live t2) (hpl : ∀ x, c.prot gb x -> x < kk) (ho : w'.ownsRow 0 e (sz pg.P e) v n xs) (hv : ∀ b, v.ownBlock = some b -> b = gb ∧ n * sz pg.P e = kk)
  (hsz : c.w.heap.size <= w'.heap.size) (hold : ∀ x, gb < c.w.heap.size -> x < kk -> c.prot gb x ∨ own gb x ≠ none) (hnew : ∀ x, kk <= x -> gb < c.w.heap.size -> own gb x ≠ none) :
  Inv pg (c.grow w' t gb kk (v, e, n)) (own.grow t gb kk) g live' ∧ After c own (c.grow w' t gb kk (v, e, n)) (own.grow t gb kk) ∧ Ext c (c.grow w' t gb kk (v, e, n)) := by
 have hx : Ext c (c.grow w' t gb kk (v, e, n)) := by
  refine ⟨fun b x h => ⟨.inl h, hfr.cell (hn1 _ _ (hI.np b x h).1) (hI.np b x h).2⟩, fun i r h => h, fun t2 r h => ?_⟩
  show (if t2 = t then _ else c.row t2) = some r
  rw [if_neg, h]
  rintro rfl
  rw [hrow] at h; cases h
 have hg : ∀ b x, b ≠ gb -> own.grow t gb kk b x = own b x := fun b x h => by unfold Own.grow; rw [if_neg h]
 refine ⟨⟨fun i k hk => ?_, fun t2 ht2 => ?_, fun b x hp => ?_, fun b x hn => ?_, fun i r hr => hI.dom i r hr, fun i cs hg => (hI.gl i cs hg).mono hx.prot⟩, ⟨?_, fun b x hb hn => ?_, hx.prot, fun b x hp => ?_, .of rfl rfl⟩, hx⟩
 ·obtain ⟨b, o, h1, h2⟩ := hI.blk i k hk
  refine ⟨b, o, h1, h2.kept hx hfr (fun b x h => hn2 b x ?_) (fun b x h => ?_)⟩
  ·rintro rfl; exact hblk x i h
  ·rw [hg b x (by rintro rfl; exact hblk x i h)]; exact h
 ·by_cases htt : t2 = t
  ·subst htt
   refine .inl ⟨v, e, n, xs, by show (if t2 = t2 then _ else _) = _; rw [if_pos rfl], ho, fun b hb x => ?_⟩
   obtain ⟨rfl, hkk⟩ := hv b hb
   refine ⟨fun hle => ?_, fun hlt => .inr ⟨rfl, by omega⟩⟩
   unfold Own.grow
   rw [if_pos rfl, if_pos (by omega)]
  ·refine (hI.row t2 ((hlive t2 ht2).resolve_left htt)).kept hx hfr (fun b x h => hn2 b x ?_) (fun b x h => hn1 _ _ (hI.np b x h).1) (fun b x h => ?_)
   ·rintro rfl; exact hrw t2 x ht2 htt h
   ·rw [hg b x (by rintro rfl; exact hrw t2 x ht2 htt h)]; exact h
 ·rcases hp with hp | ⟨rfl, hp⟩
  ·obtain ⟨h1, h2⟩ := hI.np b x hp
   refine ⟨?_, Nat.lt_of_lt_of_le h2 hsz⟩
   by_cases hb : b = gb
   ·subst hb
    unfold Own.grow
    rw [if_pos rfl, if_neg (by have := hpl x hp; omega)]
   ·rw [hg b x hb]; exact h1
  ·refine ⟨?_, hgb⟩
   unfold Own.grow
   rw [if_pos rfl, if_neg (by omega)]
 ·by_cases hb : b = gb
  ·subst hb; exact hgb
  ·rw [hg b x hb] at hn
   exact Nat.lt_of_lt_of_le (hI.fresh b x hn) hsz
 ·refine ⟨hfr.os, hfr.tape, hfr.output, hfr.size, fun b o h => ?_⟩
  rcases hfr.blk b o h with h1 | ⟨a, a', e, fr, h1, h2, h3, h4⟩ | ⟨es, n, es', n', h1, h2, h3⟩
  ·exact .inl h1
  ·exact .inr (.inl ⟨a, a', e, fr, h1, h2, h3, fun x hx => h4 x (hn1 b x hx)⟩)
  ·exact .inr (.inr ⟨es, n, es', n', h1, h2, fun hx => h3 (hn1 b 0 hx)⟩)
 ·by_cases hb' : b = gb
  ·subst hb'
   unfold Own.grow
   rw [if_pos rfl]
   by_cases hk : kk <= x
   ·exact absurd hn (hnew x hk hb)
   ·rw [if_neg hk]
  ·rw [hg b x hb']; exact hn
 ·rcases hp with hp | ⟨rfl, hp⟩
  ·exact .inl hp
  ·rcases Nat.lt_or_ge b c.w.heap.size with hlt | hge
   ·rcases hold x hlt hp with h | h
    ·exact .inl h
    ·exact .inr (.inl h)
   ·exact .inr (.inr hge)
end
end Go.Proofs.Ab
namespace Go.Proofs.Ab
open Go
section
variable {R : Type} {r : R} {pg : Pg} {c : Cx} {own : Own} {live : Nat -> Prop} {g : Nat -> Option Blk} {ρ : Operand -> Value} {env : Env} {bl : List (Nat × Blk)}
def Grown (pg : Pg) (c : Cx) (own : Own) (g : Nat -> Option Blk) (live' : Nat -> Prop) (t' : Nat) (V' : V) (m : Sem Value) : Prop :=
 ∃ c' own' v', m.run pg.P c.w = .ok v' c'.w ∧ VRep pg.P c' V' v' ∧ Inv pg c' own' g live' ∧ After c own c' own' ∧ Ext c c' ∧ ∀ t2 r, c'.row t2 = some r -> t2 = t' ∨ ∃ r', c.row t2 = some r'
theorem Inv.less {live' : Nat -> Prop} (hI : Inv pg c own g live) (h : ∀ t, live' t -> live t) : Inv pg c own g live' := ⟨hI.blk, fun t ht => hI.row t (h t ht), hI.np, hI.fresh, hI.dom, hI.gl⟩
theorem grown_nil {live' : Nat -> Prop} (hI : Inv pg c own g live) {t' : Nat} (hrow : c.row t' = none) (hlive : ∀ t2, live' t2 -> t2 = t' ∨ live t2) {e : TypeId} {m : Sem Value} (hm : m.run pg.P c.w = .ok (.slice none 0 0) c.w) :
  Grown pg c own g live' t' (.sl (.row t') e []) m := by
 have hx : Ext c { c with row := fun t => if t = t' then some (.slice none 0 0, e, 0) else c.row t } := ⟨fun b x h => ⟨h, rfl⟩, fun i r h => h, fun t r h => by
  show (if t = t' then _ else c.row t) = some r
  rw [if_neg, h]
  rintro rfl
  rw [hrow] at h; cases h⟩
 have hf : Frame (fun _ _ => none) c.w c.w := Frame.refl _ _
 refine ⟨{ c with row := fun t => if t = t' then some (.slice none 0 0, e, 0) else c.row t }, own, .slice none 0 0, hm, ?_, ⟨fun id k hk => ?_, fun t ht => ?_, hI.np, hI.fresh, hI.dom, hI.gl⟩, ⟨Frame.refl _ _, fun b x _ h => h, fun b x h => ⟨h, rfl⟩, fun b x h => .inl h, .of rfl rfl⟩, hx, fun t2 r h => ?_⟩
 ·refine .row (cap := 0) (base := none) ?_ (by show (if t' = t' then _ else _) = _; rw [if_pos rfl]; rfl) (fun _ => ⟨rfl, rfl⟩)
  exact .sl (es := []) (fun _ _ => Go.undef) 0 0 trivial ⟨fun h => absurd rfl h, Nat.le_refl _⟩ (fun i hi => by cases hi) (fun i j hi => by cases hi) (fun i j hi => by cases hi)
 ·obtain ⟨b, o, h1, h2⟩ := hI.blk id k hk
  exact ⟨b, o, h1, h2.kept hx hf (fun _ _ _ => rfl) (fun _ _ h => h)⟩
 ·by_cases htt : t = t'
  ·subst htt
   exact .inl ⟨.slice none 0 0, e, 0, [], by show (if t = t then _ else _) = _; rw [if_pos rfl], World.ownsRow_nil _ _ _ _, fun b hb => by cases hb⟩
  ·exact (hI.row t ((hlive t ht).resolve_left htt)).kept hx hf (fun _ _ _ => rfl) (fun _ _ _ => rfl) (fun _ _ h => h)
 ·by_cases h2 : t2 = t'
  ·exact .inl h2
  ·have h3 : (if t2 = t' then some (Value.slice none 0 0, e, 0) else c.row t2) = some r := h
   rw [if_neg h2] at h3
   exact .inr ⟨r, h3⟩
theorem VRep.row' {P : Program} {t n : Nat} {e : TypeId} {es : List (List V)} {base : Option Addr} {cap : Nat} (h : PRep P c.w c.prot (.sl .no e es) (.slice base n cap)) (hl : es.length = n) (hr : c.row t = some (.slice base n cap, e, n)) (hn : es = [] -> base = none ∧ cap = 0) :
  VRep P c (.sl (.row t) e es) (.slice base n cap) := by
 subst hl; exact .row h hr hn
def ToldOk (P : Program) (c : Cx) (own : Own) (told : Option Nat) (e : TypeId) (es : List (List V)) (base : Option Addr) (cap : Nat) : Prop :=
 match told with
 | none => base = none ∧ cap = 0 ∧ es = []
 | some t => c.row t = some (.slice base es.length cap, e, es.length) ∧ RRepF P c own t
theorem append_grown {live' : Nat -> Prop} (hI : Inv pg c own g live) {t' : Nat} (hrow : c.row t' = none) {told : Option Nat} (hlive : ∀ t2, live' t2 -> t2 = t' ∨ (live t2 ∧ some t2 ≠ told)) {e : TypeId} {es xs : List (List V)} {base : Option Addr} {cap : Nat}
  (hp : PRep pg.P c.w c.prot (.sl .no e es) (.slice base es.length cap)) (hnil : es = [] -> base = none ∧ cap = 0) (hrr : ToldOk pg.P c own told e es base cap)
  {t tx ty : TypeId} (ht : pg.P.underlying t = some (.slice e)) {x : Value} {news : Array Value} (hs : Src pg.P (sz pg.P e) tx x xs.length news.toList c.w) (hnew : FlatRep pg.P c (sz pg.P e) xs news)
  (hmost : es.length + xs.length <= most) (hby : byt pg.P e <= 128) (hsz : 0 < sz pg.P e) {z : List V} (hz : zeroL pg.P e = some z) (hzl : z.length = sz pg.P e) :
  Grown pg c own g live' t' (.sl (.row t') e (es ++ xs)) (Builtin.append_ #[t, tx] ty #[.slice base es.length cap, x]) := by
 obtain ⟨i, zv, hi, hz1, hz2, hz3⟩ := zeroL_some hz
 have hsi : sz pg.P e = i.size := by simp [sz, hi]
 have hbi : byt pg.P e = i.bytes := by simp [byt, hi]
 obtain ⟨base', cap', olds, he, hle, hold, hcell⟩ := sl_flat hp
 cases he
 have hmost' : es.length + xs.length <= 1099511627776 := hmost
 have hnl : news.size = xs.length * sz pg.P e := hnew.1
 have hol : olds.size = es.length * sz pg.P e := hold.1
 have grows : cap < es.length + xs.length -> Grown pg c own g live' t' (.sl (.row t') e (es ++ xs)) (Builtin.append_ #[t, tx] ty #[.slice base es.length cap, x]) := by
  intro hlt
  have hfirst : (Builtin.firstCells i.size es.length (.slice base es.length cap)).run pg.P c.w.drew = .ok olds.toList.toArray c.w.drew := by
   by_cases hes : es = []
   ·subst hes
    have ho : olds.toList = [] := by
     have : olds.size = 0 := by rw [hol]; simp
     simpa using this
    rw [ho]
    cases base with
    | none => exact run_firstCells_none _ _ _ _ _
    | some a => exact run_firstCells_some _ _ _ _ _ _ [] (by simp) (fun j u hj => by cases hj)
   ·obtain ⟨b, o, rfl, hc⟩ := hcell hes
    refine run_firstCells_some _ _ _ _ _ _ olds.toList (by rw [<- hsi]; simpa using hol) (fun j u hj => ?_)
    have hj' : j < olds.size := by
     have := (List.getElem?_eq_some_iff.1 hj).1
     simpa using this
    rw [Addr.add_lit]
    show c.w.cell? _ = _
    rw [(hc j hj').2]
    simp [hj'] at hj
    simp [Array.getD, hj', hj]
  have hbytes : (es.length + xs.length) * i.bytes <= 140737488355328 := by
   have h1 : (es.length + xs.length) * i.bytes <= (es.length + xs.length) * 128 := Nat.mul_le_mul_left _ (by omega)
   omega
  have hrun := run_append_grow_src (P := pg.P) c.w t tx ty e i zv ht hi hz1 base es.length cap olds.toList hfirst x xs.length news.toList (by rw [<- hsi]; exact hs) hlt (by omega) (growslice_fits (by omega) hbytes)
  have hge := grownCap_ge c.w (es.length + xs.length) cap e
  have hcm : grownCap c.w (es.length + xs.length) cap e <= maxLen := grownCap_le_maxLen c.w (es.length + xs.length) cap e (by unfold maxLen; omega)
  have hzz : zv.cells.size = sz pg.P e := by omega
  have hsize : ((olds.toList ++ news.toList).toArray ++ Builtin.zeroCells zv.cells (grownCap c.w (es.length + xs.length) cap e - (es.length + xs.length))).size = grownCap c.w (es.length + xs.length) cap e * sz pg.P e := by
   simp only [Array.size_append, List.size_toArray, List.length_append, Array.length_toList, size_zeroCells, hol, hnl, hzz, <- Nat.add_mul]
   congr 1
   omega
  have hflat := hold.append hnew
  have hgb : c.w.heap.size < (c.w.drew.alloc (.cells ((olds.toList ++ news.toList).toArray ++ Builtin.zeroCells zv.cells (grownCap c.w (es.length + xs.length) cap e - (es.length + xs.length))) e)).heap.size := by
   show _ < (c.w.heap.push _).size
   simp
  have hnofresh : ∀ x T, own c.w.heap.size x ≠ some T := fun x T h => by have := hI.fresh _ x (by rw [h]; nofun); omega
  obtain ⟨hI', hA', hX'⟩ := Inv.grow (live' := live') (t := t') (gb := c.w.heap.size) (kk := (es.length + xs.length) * sz pg.P e) (n := es.length + xs.length) (e := e) (v := .slice (some ⟨c.w.heap.size, 0, none⟩) (es.length + xs.length) (grownCap c.w (es.length + xs.length) cap e))
   (xs := (olds ++ news).toList) (w' := c.w.drew.alloc (.cells ((olds.toList ++ news.toList).toArray ++ Builtin.zeroCells zv.cells (grownCap c.w (es.length + xs.length) cap e - (es.length + xs.length))) e)) (own1 := fun _ _ => none) hI hrow
   (let F := Frame.alloc (fun _ _ => none) c.w.drew (.cells ((olds.toList ++ news.toList).toArray ++ Builtin.zeroCells zv.cells (grownCap c.w (es.length + xs.length) cap e - (es.length + xs.length))) e); ⟨F.os, F.tape, F.output, F.size, F.blk⟩)
   (fun _ _ _ => rfl) (fun _ _ _ => rfl) hgb (fun x i => hnofresh x _) (fun t2 x _ _ => hnofresh x _) (fun t2 h => (hlive t2 h).imp id (·.1)) (fun x hp => by have := (hI.np _ _ hp).2; omega)
   ⟨by rw [Array.length_toList, hflat.1]; simp, .inr ⟨c.w.heap.size, _, _, rfl, Nat.zero_le _, heap_alloc_new c.w.drew _, hge, hcm, hsize, by
    rw [Array.toList_append]
    have hl : (olds.toList ++ news.toList).length = (es.length + xs.length) * sz pg.P e := by simp [hol, hnl, Nat.add_mul]
    rw [<- hl, List.take_left]
    simp⟩⟩ (fun b hb => by cases hb; exact ⟨rfl, rfl⟩) (Nat.le_of_lt hgb) (fun x h => absurd h (Nat.lt_irrefl _)) (fun x _ h => absurd h (Nat.lt_irrefl _))
  refine ⟨_, _, _, hrun, ?_, hI', hA', hX', fun t2 r h => ?_⟩
  ·have hlen : (es ++ xs).length = es.length + xs.length := List.length_append
   have key := (hflat.mono hX').sl (b := c.w.heap.size) (o := 0) (cap := grownCap c.w (es.length + xs.length) cap e) (by rw [hlen]; exact hge) (fun k hk => ⟨.inr ⟨rfl, by rw [hflat.1, hlen] at hk; omega⟩, by
    rw [Nat.zero_add]
    show (c.w.drew.alloc _).cell? _ = _
    have hk2 : k < ((olds.toList ++ news.toList).toArray ++ Builtin.zeroCells zv.cells (grownCap c.w (es.length + xs.length) cap e - (es.length + xs.length))).size := by
     rw [hsize]
     rw [hflat.1, hlen] at hk
     exact Nat.lt_of_lt_of_le hk (Nat.mul_le_mul_right _ hge)
    have := new_cell (w := c.w.drew) (e := e) (fr := (0, 0)) hk2
    refine this.trans ?_
    congr 1
    rw [<- arr_getD, <- arr_getD, Array.toList_append, Array.toList_append, List.getD, List.getD]
    have hk3 : k < (olds.toList ++ news.toList).length := by simpa using hk
    rw [List.getElem?_append_left (by simpa using hk)]⟩)
   rw [hlen] at key
   refine VRep.row' key hlen ?_ (fun h => ?_)
   ·show (if t' = t' then _ else _) = _
    rw [if_pos rfl]
   ·have : (es ++ xs).length = 0 := by rw [h]; rfl
    omega
  ·by_cases h2 : t2 = t'
   ·exact .inl h2
   ·have h3 : (if t2 = t' then _ else c.row t2) = some r := h
    rw [if_neg h2] at h3
    exact .inr ⟨r, h3⟩
 have nothing : base = none -> cap = 0 -> es = [] -> es.length + xs.length <= cap -> Grown pg c own g live' t' (.sl (.row t') e (es ++ xs)) (Builtin.append_ #[t, tx] ty #[.slice base es.length cap, x]) := by
  rintro rfl rfl rfl hle0
  have hxs : xs = [] := List.length_eq_zero_iff.1 (by simpa using hle0)
  subst hxs
  have hn0 : news.toList = [] := by
   have : news.size = 0 := by rw [hnl]; simp
   simpa using this
  rw [hn0] at hs
  exact grown_nil hI hrow (fun t2 h => (hlive t2 h).imp id (·.1)) (run_append_nothing (P := pg.P) c.w t tx ty e i ht hi none 0 0 (Nat.le_refl _) x (by rw [<- hsi]; exact hs))
 rcases Nat.lt_or_ge cap (es.length + xs.length) with hlt | hroom
 ·exact grows hlt
 ·cases told with
  | none => exact nothing hrr.1 hrr.2.1 hrr.2.2 hroom
  | some t0 =>
   obtain ⟨h1, v, e2, n2, xs2, h2, h3, h4⟩ := hrr
   rw [h1] at h2
   cases h2
   rcases h3.2 with ⟨hv, hn⟩ | ⟨gb, cap2, cur, hv, _, hgh, h5, h6, h7, h8⟩
   ·simp only [Value.slice.injEq] at hv
    exact nothing hv.1 hv.2.2 (List.length_eq_zero_iff.1 hv.2.1) hroom
   ·cases hv
    have hlt : gb < c.w.heap.size := (Array.getElem?_eq_some_iff.1 hgh).1
    have h4' := h4 gb rfl
    have hkk : (es.length + xs.length) * sz pg.P e <= cur.size := by rw [h7]; exact Nat.mul_le_mul_right _ hroom
    have hsum : (es.length + xs.length) * sz pg.P e = es.length * sz pg.P e + xs.length * sz pg.P e := Nat.add_mul _ _ _
    have hrun := run_append_room_src (P := pg.P) c.w t tx ty e i ht hi gb 0 es.length cap x xs.length news.toList (by rw [<- hsi]; exact hs) hroom
     (fun j hj => by
      have hj' : j < news.size := by simpa using hj
      rw [<- hsi]
      have : 0 + es.length * sz pg.P e + j < cur.size := by omega
      simp [World.cell?, hgh]; omega) (fun j hj => by simp [World.frozen?, hgh])
    obtain ⟨arr', g1, g2, g3, g4, g5, g6, g7, g8⟩ := setCells_heap (w := c.w) news.toList (0 + es.length * i.size) c.w cur hgh
    have hown : ∀ x T, own gb x = some T -> T = (true, t0) := fun x T h => by
     rcases Nat.lt_or_ge x (es.length * sz pg.P e) with hx | hx
     ·rw [(hI.np _ _ ((h4' x).2 hx)).1] at h; cases h
     ·rw [(h4' x).1 hx] at h; cases h; rfl
    obtain ⟨hI', hA', hX'⟩ := Inv.grow (live' := live') (t := t') (gb := gb) (kk := (es.length + xs.length) * sz pg.P e) (n := es.length + xs.length) (e := e) (v := .slice (some ⟨gb, 0, none⟩) (es.length + xs.length) cap)
     (xs := arr'.toList.take ((es.length + xs.length) * sz pg.P e)) (w' := c.w.setCells gb (0 + es.length * i.size) news.toList) (own1 := fun b x => if b = gb ∧ es.length * sz pg.P e <= x then some (true, t0) else none) hI hrow
     ⟨g6, g7, g8, by omega, fun b o hb => by
      by_cases hbb : b = gb
      ·subst hbb
       rw [hgh] at hb
       cases hb
       refine .inr (.inl ⟨cur, arr', e, (0, 0), rfl, g1, g2, fun x hx => g3 x ?_⟩)
       simp at hx
       left; rw [<- hsi]; omega
      ·exact .inl (by rw [g4 b hbb]; exact hb)⟩
     (fun b x hn => by
      show (if _ then _ else _) = _
      rw [if_neg]
      rintro ⟨rfl, hx⟩
      rw [(h4' x).1 hx] at hn; cases hn)
     (fun b x hn => by show (if _ then _ else _) = _; rw [if_neg (fun h => hn h.1)]) (by omega) (fun x i h => by have := hown x _ h; cases this)
     (fun t2 x h2 h3 h => by
      have h9 := hown x _ h
      have e9 : t2 = t0 := by cases h9; rfl
      exact ((hlive t2 h2).resolve_left h3).2 (by rw [e9])) (fun t2 h => (hlive t2 h).imp id (·.1))
     (fun x hp => by
      rcases Nat.lt_or_ge x (es.length * sz pg.P e) with hx | hx
      ·omega
      ·have := (hI.np _ _ hp).1; rw [(h4' x).1 hx] at this; cases this)
     ⟨by simp; omega, .inr ⟨gb, cap, arr', rfl, Nat.zero_le _, g1, hroom, h6, by omega, rfl⟩⟩ (fun b hb => by cases hb; exact ⟨rfl, rfl⟩) (by omega)
     (fun x _ hx => by
      rcases Nat.lt_or_ge x (es.length * sz pg.P e) with h | h
      ·exact .inl ((h4' x).2 h)
      ·exact .inr (by rw [(h4' x).1 h]; nofun)) (fun x hx _ => by rw [(h4' x).1 (by omega)]; nofun)
    refine ⟨_, _, _, hrun, ?_, hI', hA', hX', fun t2 r h => ?_⟩
    ·have hlen : (es ++ xs).length = es.length + xs.length := List.length_append
     have hflat := hold.append hnew
     have key := (hflat.mono hX').sl (b := gb) (o := 0) (cap := cap) (by rw [hlen]; exact hroom) (fun k hk => ⟨.inr ⟨rfl, by rw [hflat.1, hlen] at hk; omega⟩, by
      rw [show 0 + k = k from Nat.zero_add k]
      have hk' : k < (es.length + xs.length) * sz pg.P e := by rw [hflat.1, hlen] at hk; exact hk
      show (c.w.setCells gb (0 + es.length * i.size) news.toList).cell? _ = _
      rcases Nat.lt_or_ge k (es.length * sz pg.P e) with hlt2 | hge2
      ·have hes : es ≠ [] := by rintro rfl; simp at hlt2
       obtain ⟨b, o, hbo, hc⟩ := hcell hes
       cases hbo
       rw [World.cell?_setCells_out gb news.toList _ c.w _ (fun _ _ => .inl (by show k < 0 + es.length * i.size; rw [<- hsi]; omega))]
       have := (hc k (by omega)).2
       rw [Nat.zero_add] at this
       rw [this]
       congr 1
       have hk1 : k < olds.size := by omega
       rw [<- arr_getD, <- arr_getD, Array.toList_append, List.getD, List.getD, List.getElem?_append_left (by simpa using hk1)]
      ·have := World.cell?_setCells_in gb news.toList (0 + es.length * i.size) c.w (fun j hj => by
        have hj' : j < news.size := by simpa using hj
        rw [<- hsi]
        simp [World.cell?, hgh]; omega) (k - es.length * sz pg.P e) (by simp; omega)
       rw [<- hsi] at this ⊢
       rw [show 0 + es.length * sz pg.P e + (k - es.length * sz pg.P e) = k by omega] at this
       rw [this]
       congr 1
       have hk1 : olds.size <= k := by omega
       have hk2 : k - es.length * sz pg.P e < news.toList.length := by simp; omega
       have e7 : k - olds.toList.length = k - es.length * sz pg.P e := by rw [Array.length_toList, hol]
       rw [<- arr_getD (olds ++ news) k, Array.toList_append, List.getD, List.getElem?_append_right (by simpa using hk1), e7, List.getElem?_eq_getElem hk2]; rfl⟩)
     rw [hlen] at key
     refine VRep.row' key hlen ?_ (fun h => ?_)
     ·show (if t' = t' then _ else _) = _
      rw [if_pos rfl]
     ·have hes : es = [] := (List.append_eq_nil_iff.1 h).1
      have := (hnil hes).1
      cases this
    ·by_cases h2 : t2 = t'
     ·exact .inl h2
     ·have h3 : (if t2 = t' then _ else c.row t2) = some r := h
      rw [if_neg h2] at h3
      exact .inr ⟨r, h3⟩
def Cx.deep (c : Cx) (w' : World) (t : Nat) (rec : Value × TypeId × Nat) : Cx := { c with w := w', row := fun t2 => if t2 = t then some rec else c.row t2 }
def Own.deep (own : Own) (t0 t : Nat) (nb : Option Nat) : Own := fun b x => if own b x = some (true, t0) then some (true, t) else if nb = some b then some (true, t) else own b x
def Own.mine (own : Own) (t0 : Nat) : Own := fun b x => if own b x = some (true, t0) then some (true, t0) else none
theorem Own.mine_ne {b x t0 : Nat} (h : own b x ≠ some (true, t0)) : own.mine t0 b x = none := by unfold Own.mine; rw [if_neg h]
theorem Own.deep_old {t0 t : Nat} {nb : Option Nat} {b x : Nat} (h : own b x = some (true, t0)) : own.deep t0 t nb b x = some (true, t) := by unfold Own.deep; rw [if_pos h]
theorem Own.deep_else {t0 t : Nat} {nb : Option Nat} {b x : Nat} (h : own b x ≠ some (true, t0)) (h2 : nb ≠ some b) : own.deep t0 t nb b x = own b x := by unfold Own.deep; rw [if_neg h, if_neg h2]
theorem Inv.deep {live' : Nat -> Prop} (hI : Inv pg c own g live) {t0 t : Nat} {nb : Option Nat} {w' : World} {rec : Value × TypeId × Nat} (hrow : c.row t = none) (hlive : ∀ t2, live' t2 -> t2 = t ∨ (live t2 ∧ t2 ≠ t0))
  (hfr : Frame (own.mine t0) c.w w') (hnb : ∀ b, nb = some b -> b = c.w.heap.size ∧ b < w'.heap.size)
  (hd : ∃ x ps eO eI, rec = (.tuple #[x, encP ps], eO, eI) ∧ DeepRep w' (own.deep t0 t nb) t x ps eO eI) :
  Inv pg (c.deep w' t rec) (own.deep t0 t nb) g live' ∧ After c own (c.deep w' t rec) (own.deep t0 t nb) ∧ Ext c (c.deep w' t rec) := by
 have hpn : ∀ b x, own b x = none -> own.mine t0 b x = none := fun b x h => Own.mine_ne (by rw [h]; nofun)
 have hx : Ext c (c.deep w' t rec) := by
  refine ⟨fun b x h => ⟨h, hfr.cell (hpn _ _ (hI.np b x h).1) (hI.np b x h).2⟩, fun i r h => h, fun t2 r h => ?_⟩
  show (if t2 = t then _ else c.row t2) = some r
  rw [if_neg, h]
  rintro rfl
  rw [hrow] at h; cases h
 have hold : ∀ b x, b < c.w.heap.size -> own b x ≠ some (true, t0) -> own.deep t0 t nb b x = own b x := fun b x hb h => Own.deep_else h fun h2 => by have := (hnb b h2).1; omega
 have hat : ∀ b x q, own b x = some q -> q ≠ (true, t0) -> own.deep t0 t nb b x = some q := fun b x q h hq => by
  rw [hold b x (hI.fresh b x (by rw [h]; nofun)) (by rw [h]; intro h2; exact hq (Option.some.inj h2))]; exact h
 refine ⟨⟨fun i k hk => ?_, fun t2 ht2 => ?_, fun b x hp => ?_, fun b x hn => ?_, fun i r hr => hI.dom i r hr, fun i cs hg => (hI.gl i cs hg).mono hx.prot⟩, ⟨?_, fun b x hb hn => ?_, hx.prot, fun b x hp => .inl hp, .of rfl rfl⟩, hx⟩
 ·obtain ⟨b, o, h1, h2⟩ := hI.blk i k hk
  exact ⟨b, o, h1, h2.kept hx hfr (fun b x h => Own.mine_ne (by rw [h]; nofun)) (fun b x h => hat b x _ h nofun)⟩
 ·by_cases htt : t2 = t
  ·subst htt
   obtain ⟨x, ps, eO, eI, rfl, h2⟩ := hd
   exact .inr ⟨x, ps, eO, eI, by show (if t2 = t2 then _ else _) = _; rw [if_pos rfl], h2⟩
  ·obtain ⟨h1, h2⟩ := (hlive t2 ht2).resolve_left htt
   refine (hI.row t2 h1).kept hx hfr (fun b x h => Own.mine_ne (by rw [h]; intro h3; exact h2 (Prod.mk.inj (Option.some.inj h3)).2)) (fun b x h => hpn _ _ (hI.np b x h).1) (fun b x h => hat b x _ h (by intro h3; exact h2 (Prod.mk.inj h3).2))
 ·obtain ⟨h1, h2⟩ := hI.np b x hp
  exact ⟨by rw [hold b x h2 (by rw [h1]; nofun)]; exact h1, Nat.lt_of_lt_of_le h2 hfr.size⟩
 ·by_cases h1 : own b x = none
  ·by_cases h2 : nb = some b
   ·exact (hnb b h2).2
   ·exact absurd ((Own.deep_else (by rw [h1]; nofun) h2).trans h1) hn
  ·exact Nat.lt_of_lt_of_le (hI.fresh b x h1) hfr.size
 ·refine ⟨hfr.os, hfr.tape, hfr.output, hfr.size, fun b o h => ?_⟩
  rcases hfr.blk b o h with h1 | ⟨a, a', e, fr, h1, h2, h3, h4⟩ | ⟨es, n, es', n', h1, h2, h3⟩
  ·exact .inl h1
  ·exact .inr (.inl ⟨a, a', e, fr, h1, h2, h3, fun x hx => h4 x (hpn b x hx)⟩)
  ·exact .inr (.inr ⟨es, n, es', n', h1, h2, fun hx => h3 (hpn b 0 hx)⟩)
 ·rw [hold b x hb (by rw [hn]; nofun)]; exact hn
theorem nils1_flat {P : Program} {e : TypeId} {xs : List (List V)} {news : Array Value} (h : nils1 xs = true) (hs : sz P e = 1) (hf : FlatRep P c (sz P e) xs news) : news.toList = List.replicate xs.length (.slice none 0 0) := by
 have hsz : news.size = xs.length := by rw [hf.1, hs, Nat.mul_one]
 refine List.ext_getElem (by simp [hsz]) fun i h1 h2 => ?_
 have hi : i < xs.length := by simpa using h2
 have key : ∀ (xs : List (List V)) (i : Nat), nils1 xs = true -> i < xs.length -> ∃ e es, xs.getD i [] = [.sl .nil e es] := by
  intro xs
  induction xs with
  | nil => intro i _ h; cases h
  | cons a l ih =>
   intro i hn hi
   match a, hn with
   | [.sl .nil e es], hn =>
    cases i with
    | zero => exact ⟨e, es, rfl⟩
    | succ i => exact ih i hn (by simpa using hi)
 obtain ⟨e2, es2, h3⟩ := key xs i h hi
 have h4 := ((hf.2 i hi).2 0 (by omega)).1
 rw [hs, Nat.mul_one, Nat.add_zero, h3] at h4
 have h5 : news.getD i Go.undef = news.toList[i] := by
  have : i < news.size := by omega
  simp [Array.getD, this]
 rw [h5] at h4
 have h6 : PRep P c.w c.prot (.sl .nil e2 es2) news.toList[i] := h4
 rw [List.getElem_replicate]
 generalize news.toList[i] = y at h6
 cases h6 with
 | sl f b o ht hb hl hc hr =>
  obtain ⟨rfl, rfl, h0⟩ := ht
  rw [h0]
theorem append_deep {live' : Nat -> Prop} (hI : Inv pg c own g live) {t0 t' : Nat} (hrow : c.row t' = none) (hl0 : live t0) (hlive : ∀ t2, live' t2 -> t2 = t' ∨ (live t2 ∧ t2 ≠ t0)) {e : TypeId} {xs : List (List V)} {ps : List (List Int)} {s : Value}
  (hp : VRep pg.P c (.fr t0 ps) s) {t tx ty : TypeId} (ht : pg.P.underlying t = some (.slice e)) {x : Value} {news : Array Value} (hs : Src pg.P (sz pg.P e) tx x xs.length news.toList c.w) (hn : news.toList = List.replicate xs.length (.slice none 0 0))
  (hmost : ps.length + xs.length <= most) (hby : byt pg.P e <= 128) (hsz : sz pg.P e = 1) {z : List V} (hz : zeroL pg.P e = some z) (hzl : z.length = sz pg.P e) :
  Grown pg c own g live' t' (.fr t' (ps ++ List.replicate xs.length [])) (Builtin.append_ #[t, tx] ty #[s, x]) := by
 obtain ⟨i, zv, hi, hz1, hz2, hz3⟩ := zeroL_some hz
 have hsi : i.size = 1 := by rw [<- hsz]; simp [sz, hi]
 have hbi : byt pg.P e = i.bytes := by simp [byt, hi]
 obtain ⟨eO, eI, hr, hone⟩ := hp.fr_inv
 have hd := (hI.row t0 hl0).deep hr
 have hmost' : ps.length + xs.length <= 1099511627776 := hmost
 rw [hsz] at hs
 have hlen : (ps ++ List.replicate xs.length ([] : List Int)).length = ps.length + xs.length := by simp
 have hnewI : ∀ (w : World) (own : Own) (j : Nat) ns, (ps ++ List.replicate xs.length ([] : List Int))[j]? = some ns -> ps.length <= j -> ns = [] ∧ j < ps.length + xs.length := fun w own j ns h1 h2 => by
  rw [List.getElem?_append_right h2] at h1
  obtain ⟨h3, h4⟩ := List.getElem?_eq_some_iff.1 h1
  simp at h3 h4
  exact ⟨h4, by omega⟩
 have hdone : ∀ (v' : Value) (nb : Option Nat) (w' : World) (eO' : TypeId), (Builtin.append_ #[t, tx] ty #[s, x]).run pg.P c.w = .ok v' w' -> v'.oneCell' = true -> Frame (own.mine t0) c.w w' -> (∀ b, nb = some b -> b = c.w.heap.size ∧ b < w'.heap.size) ->
   DeepRep w' (own.deep t0 t' nb) t' v' (ps ++ List.replicate xs.length []) eO' eI -> Grown pg c own g live' t' (.fr t' (ps ++ List.replicate xs.length [])) (Builtin.append_ #[t, tx] ty #[s, x]) := fun v' nb w' eO' h1 h2 h3 h4 h5 => by
  obtain ⟨hI', hA', hX'⟩ := Inv.deep hI hrow hlive h3 h4 ⟨v', _, eO', eI, rfl, h5⟩
  refine ⟨_, _, v', h1, .fr (by show (if t' = t' then _ else _) = _; rw [if_pos rfl]) h2, hI', hA', hX', fun t2 r h => ?_⟩
  by_cases h6 : t2 = t'
  ·exact .inl h6
  ·have h7 : (if t2 = t' then _ else c.row t2) = some r := h
   rw [if_neg h6] at h7
   exact .inr ⟨r, h7⟩
 have grows : ∀ (base : Option Addr) (cap : Nat) (olds : List Value), s = .slice base ps.length cap -> olds.length = ps.length -> (Builtin.firstCells i.size ps.length (.slice base ps.length cap)).run pg.P c.w.drew = .ok olds.toArray c.w.drew -> cap < ps.length + xs.length ->
   (∃ ib : Nat -> Option Nat, (∀ b, ib b ≠ some c.w.heap.size) ∧ ∀ (j : Nat) ns, ps[j]? = some ns -> ∃ hv, olds[j]? = some hv ∧ InnRep c.w own t0 eI hv ns (ib j) ∧ ∀ k, k < ps.length -> k ≠ j -> ib k = ib j -> ib j = none) ->
   Grown pg c own g live' t' (.fr t' (ps ++ List.replicate xs.length [])) (Builtin.append_ #[t, tx] ty #[s, x]) := by
  rintro base cap olds rfl hol hfirst hlt ⟨ib, hib0, hib⟩
  have hbytes : (ps.length + xs.length) * i.bytes <= 140737488355328 := by
   have h1 : (ps.length + xs.length) * i.bytes <= (ps.length + xs.length) * 128 := Nat.mul_le_mul_left _ (by omega)
   omega
  have hrun := run_append_grow_src (P := pg.P) c.w t tx ty e i zv ht hi hz1 base ps.length cap olds hfirst x xs.length news.toList (by rw [hsi]; exact hs) hlt (by omega) (growslice_fits (by omega) hbytes)
  have hge := grownCap_ge c.w (ps.length + xs.length) cap e
  have hzz : zv.cells.size = 1 := by omega
  rw [hn] at hrun
  have hcur : ∀ j, j < ps.length + xs.length -> ((olds ++ List.replicate xs.length (Value.slice none 0 0)).toArray ++ Builtin.zeroCells zv.cells (grownCap c.w (ps.length + xs.length) cap e - (ps.length + xs.length)))[j]? = (olds ++ List.replicate xs.length (Value.slice none 0 0))[j]? := fun j hj => by
   rw [Array.getElem?_append_left (by simp [hol]; exact hj)]
   simp
  refine hdone _ (some c.w.heap.size) _ e hrun rfl ?_ (fun b hb => ?_) (.inr ⟨c.w.heap.size, grownCap c.w (ps.length + xs.length) cap e, _, fun j => if j < ps.length then ib j else none, by rw [hlen], heap_alloc_new c.w.drew _, by rw [hlen]; exact hge, ?_, fun y => ?_, fun j ns hj => ?_⟩)
  ·let F := Frame.alloc (own.mine t0) c.w.drew (.cells ((olds ++ List.replicate xs.length (Value.slice none 0 0)).toArray ++ Builtin.zeroCells zv.cells (grownCap c.w (ps.length + xs.length) cap e - (ps.length + xs.length))) e)
   exact ⟨F.os, F.tape, F.output, F.size, F.blk⟩
  ·cases hb
   refine ⟨rfl, ?_⟩
   show _ < (c.w.heap.push _).size
   simp
  ·simp only [Array.size_append, List.size_toArray, List.length_append, List.length_replicate, size_zeroCells, hol, hzz, Nat.mul_one]
   omega
  ·unfold Own.deep
   split
   ·rfl
   ·rw [if_pos rfl]
  ·rcases Nat.lt_or_ge j ps.length with hjl | hjl
   ·rw [List.getElem?_append_left hjl] at hj
    obtain ⟨hv, g1, g2, g3⟩ := hib j ns hj
    refine ⟨hv, ?_, ?_, ?_, fun k hk hkj he => ?_⟩
    ·rw [hcur j (by omega), List.getElem?_append_left (by rw [hol]; exact hjl)]; exact g1
    ·simp only [hjl, if_true]
     refine g2.to (fun b o _ hh => ?_) (fun b y h => Own.deep_old h)
     show (c.w.heap.push _)[b]? = some o
     rw [Array.getElem?_push_lt (Array.getElem?_eq_some_iff.1 hh).1, <- Array.getElem?_eq_getElem]; exact hh
    ·simp only [hjl, if_true]; exact hib0 j
    ·simp only [hjl, if_true] at he ⊢
     by_cases hkl : k < ps.length
     ·simp only [hkl, if_true] at he
      exact g3 k hkl hkj he
     ·simp only [hkl, if_false] at he
      exact he.symm
   ·obtain ⟨rfl, h2⟩ := hnewI c.w own j ns hj hjl
    refine ⟨.slice none 0 0, ?_, ?_, ?_, fun k hk hkj he => ?_⟩
    ·rw [hcur j h2, List.getElem?_append_right (by rw [hol]; exact hjl), List.getElem?_replicate, if_pos (by rw [hol]; omega)]
    ·simp only [Nat.not_lt.2 hjl, if_false]; exact ⟨rfl, rfl⟩
    ·simp only [Nat.not_lt.2 hjl, if_false]; nofun
    ·simp only [Nat.not_lt.2 hjl, if_false]
 rcases hd with ⟨rfl, rfl⟩ | ⟨gb, cap, cur, ib, rfl, h2, h3, h4, h5, h7⟩
 ·
  by_cases hx0 : xs.length = 0
  ·have hnn : news.toList = [] := by rw [hn, hx0]; rfl
   rw [hx0, hnn] at hs
   refine hdone _ none c.w eO (run_append_nothing (P := pg.P) c.w t tx ty e i ht hi none 0 0 (Nat.le_refl _) x (by rw [hsi]; exact hs)) rfl (Frame.refl _ _) nofun (.inl ⟨rfl, by rw [hx0]; rfl⟩)
  ·exact grows none 0 [] rfl rfl (run_firstCells_none _ _ _ _ _) (by simp; omega) ⟨fun _ => none, fun _ => nofun, fun j ns h => by simp at h⟩
 ·have hgl : gb < c.w.heap.size := (Array.getElem?_eq_some_iff.1 h2).1
  rcases Nat.lt_or_ge cap (ps.length + xs.length) with hlt | hge
  ·refine grows (some ⟨gb, 0, none⟩) cap (cur.toList.take ps.length) rfl (by simp; omega) ?_ hlt ⟨fun j => if j < ps.length then ib j else none, fun j => ?_, fun j ns hj => ?_⟩
   ·refine run_firstCells_some _ _ _ _ _ _ _ (by simp [hsi]; omega) (fun j u hj => ?_)
    have hjl := (List.getElem?_eq_some_iff.1 hj).1
    rw [Addr.add_lit]
    rw [List.getElem?_take] at hj
    split at hj
    ·show c.w.cell? _ = _
     simp only [World.cell?, h2, Nat.zero_add]
     simpa using hj
    ·cases hj
   ·by_cases hj : j < ps.length
    ·simp only [hj, if_true]
     obtain ⟨hv, g1, g2, g3⟩ := h7 j ps[j] (List.getElem?_eq_getElem hj)
     intro he
     rw [he] at g2
     obtain ⟨_, _, _, _, g4, _⟩ := g2
     exact absurd (Array.getElem?_eq_some_iff.1 g4).1 (Nat.lt_irrefl _)
    ·simp only [hj, if_false]; nofun
   ·have hjl := (List.getElem?_eq_some_iff.1 hj).1
    obtain ⟨hv, g1, g2, g3, g4⟩ := h7 j ns hj
    refine ⟨hv, ?_, ?_, fun k hk hkj he => ?_⟩
    ·rw [List.getElem?_take, if_pos hjl]; simpa using g1
    ·simp only [hjl, if_true]; exact g2
    ·simp only [hjl, hk, if_true] at he ⊢; exact g4 k hk hkj he
  ·
   have hrun := run_append_room_src (P := pg.P) c.w t tx ty e i ht hi gb 0 ps.length cap x xs.length news.toList (by rw [hsi]; exact hs) hge
    (fun j hj => by
     have hj' : j < xs.length := by rw [hn] at hj; simpa using hj
     rw [hsi]
     have : 0 + ps.length * 1 + j < cur.size := by omega
     simp [World.cell?, h2]; omega) (fun j hj => by simp [World.frozen?, h2])
   rw [hn] at hrun
   obtain ⟨arr', q1, q2, q3, q4, q5, q6, q7, q8⟩ := setCells_heap (w := c.w) (List.replicate xs.length (Value.slice none 0 0)) (0 + ps.length * i.size) c.w cur h2
   have harr : ∀ j, j < ps.length -> arr'[j]? = cur[j]? := fun j hj => q3 j (.inl (by rw [hsi]; omega))
   have hnews : ∀ j, ps.length <= j -> j < ps.length + xs.length -> arr'[j]? = some (.slice none 0 0) := fun j hj1 hj2 => by
    have := World.cell?_setCells_in gb (List.replicate xs.length (Value.slice none 0 0)) (0 + ps.length * i.size) c.w (fun k hk => by
     have hk' : k < xs.length := by simpa using hk
     rw [hsi]
     simp [World.cell?, h2]; omega) (j - ps.length) (by simp; omega)
    rw [hsi, show 0 + ps.length * 1 + (j - ps.length) = j by omega] at this
    rw [<- hsi] at this
    have q9 := q1
    simp only [Nat.zero_add] at q9
    simpa [World.cell?, q9] using this
   have hF : Frame (own.mine t0) c.w (c.w.setCells gb (0 + ps.length * i.size) (List.replicate xs.length (Value.slice none 0 0))) := ⟨q6, q7, q8, by omega, fun b o hb => by
    by_cases hbb : b = gb
    ·subst hbb
     rw [h2] at hb
     cases hb
     refine .inr (.inl ⟨cur, arr', eO, (0, 0), rfl, q1, q2, fun x hx => ?_⟩)
     unfold Own.mine at hx
     rw [if_pos (h5 x)] at hx
     cases hx
    ·exact .inl (by rw [q4 b hbb]; exact hb)⟩
   have hkeep : ∀ (b : Nat) (o : Obj), b ≠ gb -> c.w.heap[b]? = some o -> (c.w.setCells gb (0 + ps.length * i.size) (List.replicate xs.length (Value.slice none 0 0))).heap[b]? = some o := fun b o hb hh => by rw [q4 b hb]; exact hh
   refine hdone _ none _ eO hrun rfl hF nofun (.inr ⟨gb, cap, arr', fun j => if j < ps.length then ib j else none, by rw [hlen], q1, by rw [hlen]; exact hge, by omega, fun y => Own.deep_old (h5 y), fun j ns hj => ?_⟩)
   rcases Nat.lt_or_ge j ps.length with hjl | hjl
   ·rw [List.getElem?_append_left hjl] at hj
    obtain ⟨hv, g1, g2, g3, g4⟩ := h7 j ns hj
    refine ⟨hv, by rw [harr j hjl]; exact g1, ?_, ?_, fun k hk hkj he => ?_⟩
    ·simp only [hjl, if_true]
     cases hib : ib j with
     | none => rw [hib] at g2; exact g2
     | some b =>
      rw [hib] at g2 g3
      obtain ⟨icap, icur, eT, r1, r2, r3, r4, r5, r6⟩ := g2
      exact ⟨icap, icur, eT, r1, hkeep b _ (fun h => g3 (by rw [h])) r2, r3, r4, fun y => Own.deep_old (r5 y), r6⟩
    ·simp only [hjl, if_true]; exact g3
    ·simp only [hjl, if_true] at he ⊢
     by_cases hkl : k < ps.length
     ·simp only [hkl, if_true] at he
      exact g4 k hkl hkj he
     ·simp only [hkl, if_false] at he
      exact he.symm
   ·obtain ⟨rfl, h8⟩ := hnewI c.w own j ns hj hjl
    refine ⟨.slice none 0 0, hnews j hjl h8, ?_, ?_, fun k hk hkj he => ?_⟩
    ·simp only [Nat.not_lt.2 hjl, if_false]; exact ⟨rfl, rfl⟩
    ·simp only [Nat.not_lt.2 hjl, if_false]; nofun
    ·simp only [Nat.not_lt.2 hjl, if_false]
end
end Go.Proofs.Ab
namespace Go.Proofs.Ab
open Go
def Live (st : St) (t : Nat) : Prop := st.used.contains t = true ∧ st.dead.contains t = false
structure SInv (pg : Pg) (c : Cx) (own : Own) (st : St) : Prop where
 inv : Inv pg c own (getB st.bl) (Live st)
 domr : ∀ t r, c.row t = some r -> st.used.contains t = true
section
variable {R : Type} {r : R} {pg : Pg} {c : Cx} {own : Own} {live : Nat -> Prop} {g : Nat -> Option Blk} {ρ : Operand -> Value} {env : Env} {bl : List (Nat × Blk)}
theorem src_of {P : Program} {tx : TypeId} (hk : (∃ e', P.underlying tx = some (.slice e')) ∨ P.underlying tx = some .string) {size n cap : Nat} {base : Option Addr} {arr : Array Value} (hl : arr.size = n * size)
  (hc : n ≠ 0 -> ∃ b o, base = some ⟨b, o, none⟩ ∧ ∀ k, k < arr.size -> c.w.cell? ⟨b, o + k, none⟩ = some (arr.getD k Go.undef)) (h1 : ∀ u ∈ arr.toList, u.oneCell' = true) : Src P size tx (.slice base n cap) n arr.toList c.w := by
 have key : ∀ w : World, w.cell? = c.w.cell? -> (Builtin.firstCells size n (.slice base n cap)).run P w = .ok arr.toList.toArray w := by
  intro w hw
  by_cases hn : n = 0
  ·have ha : arr.toList = [] := by
    have : arr.size = 0 := by rw [hl, hn]; simp
    simpa using this
   rw [ha]
   cases base with
   | none => exact run_firstCells_none _ _ _ _ _
   | some a => exact run_firstCells_some _ _ _ _ _ _ [] (by simp [hn]) (fun j u hj => by cases hj)
  ·obtain ⟨b, o, rfl, hc2⟩ := hc hn
   refine run_firstCells_some _ _ _ _ _ _ arr.toList (by simpa using hl) (fun j u hj => ?_)
   have hj' : j < arr.size := by
    have := (List.getElem?_eq_some_iff.1 hj).1
    simpa using this
   rw [Addr.add_lit, hw, hc2 j hj']
   simp [hj'] at hj
   simp [Array.getD, hj', hj]
 exact ⟨hk, fun _ => rfl, key c.w rfl, key c.w.drew rfl, by simpa using hl, h1⟩
def DoneS (pg : Pg) (c : Cx) (own : Own) (st : St) (r : R) (k : V -> St -> Option R) (m : Sem Next) : Prop :=
 ∃ v st' c' own' x nx, k v st' = some r ∧ m.run pg.P c.w = .ok nx c'.w ∧ (nx = .value x ∨ nx = .skip ∧ x = Go.undef) ∧ VRep pg.P c' v x ∧ SInv pg c' own' st' ∧ After c own c' own' ∧ Ext c c' ∧ st'.df = st.df ∧ st'.pn = st.pn
theorem contains_cons {a b : Nat} {l : List Nat} : (a :: l).contains b = true ↔ b = a ∨ l.contains b = true := by simp
theorem appGo_sound {st : St} (hS : SInv pg c own st) {e : TypeId} {vx : V} {d : Tmp} {k : V -> St -> Option R} {old : List Nat} {es : List (List V)} {told : Option Nat} (h : appGo pg e vx d st k old es = some r) {x : Value} (hx : VRep pg.P c vx x)
  (hold : old = told.toList) {base : Option Addr} {cap : Nat} (hp : PRep pg.P c.w c.prot (.sl .no e es) (.slice base es.length cap)) (hnil : es = [] -> base = none ∧ cap = 0)
  (hrr : ToldOk pg.P c own told e es base cap)
  {t u ty : TypeId} (ht : pg.P.underlying t = some (.slice e)) (hu : (∃ e', pg.P.underlying u = some (.slice e')) ∨ pg.P.underlying u = some .string) :
  DoneS pg c own st r k (do pure (.value (<- Builtin.append_ #[t, u] ty #[.slice base es.length cap, x]))) := by
 unfold appGo at h
 obtain ⟨hc, h1⟩ := condL_some h
 simp only [Bool.and_eq_true] at hc
 obtain ⟨⟨⟨hb, hs0⟩, hus⟩, hz⟩ := hc
 have hb : byt pg.P e <= 128 := by simpa using hb
 have hs0 : 0 < sz pg.P e := by simpa [Nat.blt_eq] using hs0
 have hus : st.used.contains (aid d) = false := by simpa using hus
 obtain ⟨z, hz1, hz2⟩ : ∃ z, zeroL pg.P e = some z ∧ z.length = sz pg.P e := by
  split at hz
  ·rename_i z hz'
   exact ⟨z, hz', by simpa using hz⟩
  ·cases hz
 have hrow : c.row (aid d) = none := by
  cases hr : c.row (aid d) with
  | none => rfl
  | some r => have := hS.domr _ _ hr; rw [hus] at this; cases this
 have fin : ∀ {xs : List (List V)} {news : Array Value}, Src pg.P (sz pg.P e) u x xs.length news.toList c.w -> FlatRep pg.P c (sz pg.P e) xs news -> es.length + xs.length <= most ->
   k (.sl (.row (aid d)) e (es ++ xs)) { st with used := aid d :: st.used, dead := old ++ st.dead } = some r -> DoneS pg c own st r k (do pure (.value (<- Builtin.append_ #[t, u] ty #[.slice base es.length cap, x]))) := by
  intro xs news hsrc hfl hm hk
  obtain ⟨c', own', v', g1, g2, g3, g4, g5, g6⟩ := append_grown (ty := ty) (live' := Live { st with used := aid d :: st.used, dead := old ++ st.dead }) hS.inv hrow (told := told) (fun t2 ht2 => by
   obtain ⟨h2, h3⟩ := ht2
   rcases contains_cons.1 h2 with h4 | h4
   ·exact .inl h4
   ·right
    have h3' : (old ++ st.dead).contains t2 = false := h3
    have h5 : st.dead.contains t2 = false ∧ t2 ∉ old := by
     simp at h3' ⊢
     exact ⟨h3'.2, h3'.1⟩
    refine ⟨⟨h4, h5.1⟩, fun he => h5.2 ?_⟩
    rw [hold, <- he]; simp) hp hnil hrr ht hsrc hfl hm hb hs0 hz1 hz2
  refine ⟨_, _, c', own', v', _, hk, by rw [Sem.run_bind, g1]; rfl, .inl rfl, g2, ⟨g3, fun t2 r2 h2 => ?_⟩, g4, g5, rfl, rfl⟩
  rcases g6 t2 r2 h2 with h3 | ⟨r3, h3⟩
  ·exact contains_cons.2 (.inl h3)
  ·exact contains_cons.2 (.inr (hS.domr t2 r3 h3))
 split at h1
 ·rename_i tok e' xs
  obtain ⟨he, h2⟩ := condL_some h1
  have he : e = e' := by simpa using he
  subst he
  obtain ⟨hm, h3⟩ := iteL_some h2
  obtain ⟨b2, cap2, arr, rfl, _, hfl, hcell⟩ := sl_flat hx.sl_inv
  refine fin (src_of hu hfl.1 (fun hn => ?_) hfl.one) hfl hm h3
  obtain ⟨b, o, h4, h5⟩ := hcell (by rintro rfl; exact hn rfl)
  exact ⟨b, o, h4, fun k hk => (h5 k hk).2⟩
 ·rename_i id e'
  split at h1
  ·rename_i e'' xs fz hg
   obtain ⟨he, h2⟩ := condL_some h1
   simp only [Bool.and_eq_true] at he
   have he1 : e = e' := by simpa using he.1
   have he2 : e = e'' := by simpa using he.2
   subst he1; subst he2
   obtain ⟨hm, h3⟩ := iteL_some h2
   obtain ⟨b, o, n, cap2, hb2, rfl⟩ := hx.arr_inv
   obtain ⟨rfl, hB⟩ := hS.inv.at hg hb2
   obtain ⟨f, hf⟩ := vec_fun hB.cells
   have hfl : FlatRep pg.P c (sz pg.P e) xs ((List.range (xs.length * sz pg.P e)).map fun k => f (k / sz pg.P e) (k % sz pg.P e)).toArray :=
    ⟨by simp, fun i hi => ⟨(hf i hi).1, fun j hj => by rw [flat_of _ _ f hi hj]; exact ⟨((hf i hi).2 j hj).2.2, ((hf i hi).2 j hj).2.1⟩⟩⟩
   refine fin (src_of hu hfl.1 (fun hn => ⟨b, o, rfl, fun k hk => ?_⟩) hfl.one) hfl hm h3
   have hk' : k < xs.length * sz pg.P e := by simpa using hk
   have hi : k / sz pg.P e < xs.length := Nat.div_lt_of_lt_mul (by rw [Nat.mul_comm]; exact hk')
   have hj : k % sz pg.P e < sz pg.P e := Nat.mod_lt _ hs0
   have he : k / sz pg.P e * sz pg.P e + k % sz pg.P e = k := by rw [Nat.mul_comm]; exact Nat.div_add_mod _ _
   have h6 := ((hf _ hi).2 _ hj).1
   rw [Nat.add_assoc, he] at h6
   have h7 := flat_of _ _ f hi hj
   rw [he] at h7
   rw [h7]; exact h6
  ·cases h1
 ·rename_i s
  obtain rfl := hx.str_inv
  split at h1
  ·rename_i he
   obtain ⟨h1s, h2⟩ := condR_some h1
   have h1s : sz pg.P e = 1 := by simpa using h1s
   obtain ⟨hm, h3⟩ := iteL_some h2
   have hlen : (ofBytes s).length = s.size := by unfold ofBytes; rw [List.length_map, Array.length_toList]; rfl
   have hfl := flat_bytes (c := c) h1s s
   have hb2 : (s.data.map fun b => Value.int .u8 b.toNat).toList = byteCells s := by simp [byteCells]
   refine fin (xs := ofBytes s) ?_ hfl (by rw [hlen]; exact hm) h3
   rw [hb2, hlen, h1s]
   exact ⟨hu, fun _ => rfl, firstCells_string s c.w, firstCells_string s c.w.drew, by rw [byteCells_length, Nat.mul_one], fun u hu => by
    obtain ⟨_, _, rfl⟩ := List.mem_map.1 hu
    rfl⟩
  ·cases h1
 ·cases h1
theorem appFr_sound {st : St} (hS : SInv pg c own st) {e : TypeId} {vx : V} {d : Tmp} {k : V -> St -> Option R} {t0 : Nat} {ps : List (List Int)} (h : appFr pg e vx d st k [t0] ps = some r) (hlive : Live st t0) {s x : Value} (hs : VRep pg.P c (.fr t0 ps) s) (hx : VRep pg.P c vx x)
  {t u ty : TypeId} (ht : pg.P.underlying t = some (.slice e)) (hu : (∃ e', pg.P.underlying u = some (.slice e')) ∨ pg.P.underlying u = some .string) :
  DoneS pg c own st r k (do pure (.value (<- Builtin.append_ #[t, u] ty #[s, x]))) := by
 unfold appFr at h
 obtain ⟨hc, h1⟩ := condL_some h
 simp only [Bool.and_eq_true] at hc
 obtain ⟨⟨⟨hb, hs1⟩, hus⟩, hz⟩ := hc
 have hb : byt pg.P e <= 128 := by simpa using hb
 have hs1 : sz pg.P e = 1 := by simpa using hs1
 have hus : st.used.contains (aid d) = false := by simpa using hus
 obtain ⟨z, hz1, hz2⟩ : ∃ z, zeroL pg.P e = some z ∧ z.length = sz pg.P e := by
  split at hz
  ·rename_i z hz'
   exact ⟨z, hz', by simpa using hz⟩
  ·cases hz
 have hrow : c.row (aid d) = none := by
  cases hr : c.row (aid d) with
  | none => rfl
  | some r => have := hS.domr _ _ hr; rw [hus] at this; cases this
 split at h1
 ·rename_i tok e' xs
  obtain ⟨hc2, h2⟩ := condL_some h1
  simp only [Bool.and_eq_true] at hc2
  have he : e = e' := by simpa using hc2.1
  subst he
  obtain ⟨hm, h3⟩ := iteL_some h2
  obtain ⟨b2, cap2, arr, rfl, _, hfl, hcell⟩ := sl_flat hx.sl_inv
  have hsrc : Src pg.P (sz pg.P e) u (.slice b2 xs.length cap2) xs.length arr.toList c.w := src_of hu hfl.1 (fun hn => by
   obtain ⟨b, o, h4, h5⟩ := hcell (by rintro rfl; exact hn rfl)
   exact ⟨b, o, h4, fun k hk => (h5 k hk).2⟩) hfl.one
  obtain ⟨c', own', v', g1, g2, g3, g4, g5, g6⟩ := append_deep (ty := ty) (live' := Live { st with used := aid d :: st.used, dead := [t0] ++ st.dead }) hS.inv hrow hlive (fun t2 ht2 => by
   obtain ⟨h2, h3⟩ := ht2
   rcases contains_cons.1 h2 with h4 | h4
   ·exact .inl h4
   ·right
    have h3' : ([t0] ++ st.dead).contains t2 = false := h3
    have h5 : st.dead.contains t2 = false ∧ t2 ≠ t0 := by
     simp at h3' ⊢
     exact ⟨h3'.2, h3'.1⟩
    exact ⟨⟨h4, h5.1⟩, h5.2⟩) hs ht hsrc (nils1_flat hc2.2 hs1 hfl) hm hb hs1 hz1 hz2
  refine ⟨_, _, c', own', v', _, h3, by rw [Sem.run_bind, g1]; rfl, .inl rfl, g2, ⟨g3, fun t2 r2 h2 => ?_⟩, g4, g5, rfl, rfl⟩
  rcases g6 t2 r2 h2 with h3 | ⟨r3, h3⟩
  ·exact contains_cons.2 (.inl h3)
  ·exact contains_cons.2 (.inr (hS.domr t2 r3 h3))
 ·cases h1
theorem appendS_sound {st : St} (hS : SInv pg c own st) {e : TypeId} {vs vx : V} {d : Tmp} {k : V -> St -> Option R} (h : appendS pg e vs vx d st k = some r) {s x : Value} (hs : VRep pg.P c vs s) (hx : VRep pg.P c vx x)
  {t u ty : TypeId} (ht : pg.P.underlying t = some (.slice e)) (hu : (∃ e', pg.P.underlying u = some (.slice e')) ∨ pg.P.underlying u = some .string) :
  DoneS pg c own st r k (do pure (.value (<- Builtin.append_ #[t, u] ty #[s, x]))) := by
 unfold appendS at h
 split at h
 ·rename_i e1 es
  obtain ⟨he, h1⟩ := condL_some h
  obtain ⟨_, h1⟩ := condR_some h1
  have he : e = e1 := by simpa using he
  subst he
  have hno := hs.sl_inv
  cases hs with
  | pure hp =>
   cases hp with
   | sl f b o htk hb hl hc hr =>
    obtain ⟨rfl, rfl, h0⟩ := htk
    have hes : es = [] := List.length_eq_zero_iff.1 h0
    exact appGo_sound (ty := ty) hS h1 hx (told := none) rfl hno (fun _ => ⟨rfl, rfl⟩) ⟨rfl, rfl, hes⟩ ht hu
 ·rename_i t0 ps
  obtain ⟨he, h1⟩ := condL_some h
  simp only [Bool.and_eq_true] at he
  obtain ⟨⟨_, hd⟩, hus⟩ := he
  exact appFr_sound (ty := ty) hS h1 ⟨hus, by simpa using hd⟩ hs hx ht hu
 ·rename_i t0 e1 es
  obtain ⟨he, h1⟩ := condL_some h
  simp only [Bool.and_eq_true] at he
  obtain ⟨⟨he, hd⟩, hus⟩ := he
  have he : e = e1 := by simpa using he
  subst he
  have hlive : Live st t0 := ⟨hus, by simpa using hd⟩
  cases hs with
  | pure hp => cases hp with | sl f b o htk hb hl hc hr => exact htk.elim
  | row hp hr hn => exact appGo_sound (ty := ty) hS h1 hx (told := some t0) rfl hp hn ⟨hr, (hS.inv.row t0 hlive).flat hr⟩ ht hu
 ·cases h
end
end Go.Proofs.Ab
namespace Go.Proofs.Ab
open Go
section
variable {R : Type} {r : R} {pg : Pg} {c : Cx} {own : Own} {live : Nat -> Prop} {g : Nat -> Option Blk} {ρ : Nat -> Value} {env : Env} {bl : List (Nat × Blk)}
structure GvOk (c : Cx) (live : Nat -> Prop) (gv : Gv) (tags : List (Option Nat)) (recs : List (Value × TypeId × Nat)) : Prop where
 tl : tags.length = gv.n
 rl : recs.length = gv.n
 nil : ∀ p : Nat, tags[p]? = some none -> ∃ e, recs[p]? = some (.slice none 0 0, e, 0) ∨ ∃ eI, recs[p]? = some (.tuple #[.slice none 0 0, encP []], e, eI)
 old : ∀ (p : Nat) (t : Nat), tags[p]? = some (some t) -> recs[p]? = c.row t ∧ t ∈ gv.seen ∧ live t
 inj : ∀ (p q : Nat) (t : Nat), tags[p]? = some (some t) -> tags[q]? = some (some t) -> p = q
theorem GvOk.start (c : Cx) (live : Nat -> Prop) : GvOk c live ⟨0, []⟩ [] [] := ⟨rfl, rfl, fun p h => (by simp at h), fun p t h => (by simp at h), fun p q t h => (by simp at h)⟩
def Cx.cut (c : Cx) (n0 : List Nat) (rows : Nat -> Option (Value × TypeId × Nat)) : Cx := { c with blk := fun i => if n0.contains i then c.blk i else none, row := rows }
theorem giveOwn_sound {dead : List Nat} {gv gv' : Gv} {v v' : V} {x : Value} {tags : List (Option Nat)} {recs : List (Value × TypeId × Nat)} (hG : GvOk c live gv tags recs) (h : giveOwn pg dead gv v = some (v', gv')) (hx : VRep pg.P c v x)
  (hlive : ∀ t r, c.row t = some r -> dead.contains t = false -> live t) :
  ∃ tag rec, GvOk c live gv' (tags ++ [tag]) (recs ++ [rec]) ∧ ∀ n0 rows, rows gv.n = some rec -> VRep pg.P (c.cut n0 rows) v' x := by
 have get1 : ∀ {α : Type} (l : List α) (a : α) (p : Nat) (b : α), (l ++ [a])[p]? = some b -> (p < l.length ∧ l[p]? = some b) ∨ (p = l.length ∧ b = a) := by
  intro α l a p b h
  rcases Nat.lt_or_ge p l.length with hp | hp
  ·rw [List.getElem?_append_left hp] at h; exact .inl ⟨hp, h⟩
  ·rw [List.getElem?_append_right hp] at h
   have : p - l.length = 0 := by
    rcases Nat.eq_zero_or_pos (p - l.length) with h0 | h0
    ·exact h0
    ·rw [List.getElem?_eq_none (by simp; omega)] at h; cases h
   rw [this] at h
   simp at h
   exact .inr ⟨by omega, h.symm⟩
 have fromNil : ∀ (e : TypeId) (rec : Value × TypeId × Nat), (rec = (.slice none 0 0, e, 0) ∨ ∃ eI, rec = (.tuple #[.slice none 0 0, encP []], e, eI)) -> ∀ seen, GvOk c live { n := gv.n + 1, seen := seen } (tags ++ [none]) (recs ++ [rec]) ∨ seen ≠ gv.seen := by
  intro e rec hrec seen
  by_cases hs : seen = gv.seen
  ·subst hs
   left
   refine ⟨by simp [hG.tl], by simp [hG.rl], fun p hp => ?_, fun p t hp => ?_, fun p q t hp hq => ?_⟩
   ·rcases get1 _ _ _ _ hp with ⟨h1, h2⟩ | ⟨h1, _⟩
    ·obtain ⟨e', h3⟩ := hG.nil p h2
     exact ⟨e', by rw [List.getElem?_append_left (by rw [hG.rl, <- hG.tl]; exact h1)]; exact h3⟩
    ·refine ⟨e, ?_⟩
     have : (recs ++ [rec])[p]? = some rec := by rw [h1, hG.tl, <- hG.rl]; simp
     rw [this]
     rcases hrec with rfl | ⟨eI, rfl⟩
     ·exact .inl rfl
     ·exact .inr ⟨eI, rfl⟩
   ·rcases get1 _ _ _ _ hp with ⟨h1, h2⟩ | ⟨h1, h2⟩
    ·obtain ⟨h3, h4, h5⟩ := hG.old p t h2
     exact ⟨by rw [List.getElem?_append_left (by rw [hG.rl, <- hG.tl]; exact h1)]; exact h3, h4, h5⟩
    ·cases h2
   ·rcases get1 _ _ _ _ hp with ⟨h1, h2⟩ | ⟨h1, h2⟩
    ·rcases get1 _ _ _ _ hq with ⟨h3, h4⟩ | ⟨h3, h4⟩
     ·exact hG.inj p q t h2 h4
     ·cases h4
    ·cases h2
  ·exact .inr hs
 have fromOld : ∀ (t0 : Nat) (rec : Value × TypeId × Nat), c.row t0 = some rec -> t0 ∉ gv.seen -> dead.contains t0 = false -> GvOk c live { n := gv.n + 1, seen := t0 :: gv.seen } (tags ++ [some t0]) (recs ++ [rec]) := by
  intro t0 rec hr hns hd
  refine ⟨by simp [hG.tl], by simp [hG.rl], fun p hp => ?_, fun p t hp => ?_, fun p q t hp hq => ?_⟩
  ·rcases get1 _ _ _ _ hp with ⟨h1, h2⟩ | ⟨h1, h2⟩
   ·obtain ⟨e', h3⟩ := hG.nil p h2
    exact ⟨e', by rw [List.getElem?_append_left (by rw [hG.rl, <- hG.tl]; exact h1)]; exact h3⟩
   ·cases h2
  ·rcases get1 _ _ _ _ hp with ⟨h1, h2⟩ | ⟨h1, h2⟩
   ·obtain ⟨h3, h4, h5⟩ := hG.old p t h2
    exact ⟨by rw [List.getElem?_append_left (by rw [hG.rl, <- hG.tl]; exact h1)]; exact h3, List.mem_cons_of_mem _ h4, h5⟩
   ·cases h2
    refine ⟨by rw [h1, hG.tl, <- hG.rl]; simp [hr], by simp, hlive _ _ hr hd⟩
  ·rcases get1 _ _ _ _ hp with ⟨h1, h2⟩ | ⟨h1, h2⟩
   ·rcases get1 _ _ _ _ hq with ⟨h3, h4⟩ | ⟨h3, h4⟩
    ·exact hG.inj p q t h2 h4
    ·cases h4; exact absurd (hG.old p _ h2).2.1 hns
   ·rcases get1 _ _ _ _ hq with ⟨h3, h4⟩ | ⟨h3, h4⟩
    ·cases h2; exact absurd (hG.old q _ h4).2.1 hns
    ·omega
 unfold giveOwn at h
 split at h
 ·rename_i e es
  have hp := hx.sl_inv
  cases hx with
  | pure hp2 =>
   cases hp2 with
   | sl f b o ht hb hl hc hr =>
    obtain ⟨rfl, rfl, h0⟩ := ht
    have hes : es = [] := List.length_eq_zero_iff.1 h0
    subst hes
    rcases cond_some h with ⟨_, h1⟩ | ⟨_, h1⟩
    ·cases h1
     exact ⟨none, (.tuple #[.slice none 0 0, encP []], e, 0), (fromNil e _ (.inr ⟨0, rfl⟩) _).resolve_right fun h => h rfl, fun n0 rows hr => .fr hr rfl⟩
    ·cases h1
     exact ⟨none, (.slice none 0 0, e, 0), (fromNil e _ (.inl rfl) _).resolve_right fun h => h rfl, fun n0 rows hr => .row (base := none) (cap := 0) hp hr (fun _ => ⟨rfl, rfl⟩)⟩
 ·rename_i t0 ps
  obtain ⟨hc, h1⟩ := condR_some h
  cases h1
  simp only [Bool.or_eq_false_iff] at hc
  have hns : t0 ∉ gv.seen := by simpa using hc.2
  obtain ⟨eO, eI, hr, hone⟩ := hx.fr_inv
  exact ⟨some t0, _, fromOld t0 _ hr hns hc.1, fun n0 rows hr' => .fr hr' hone⟩
 ·rename_i t0 e es
  obtain ⟨hc, h1⟩ := condR_some h
  cases h1
  simp only [Bool.or_eq_false_iff] at hc
  have hns : t0 ∉ gv.seen := by simpa using hc.2
  cases hx with
  | pure hp => cases hp with | sl f b o ht hb hl hc hr => exact ht.elim
  | @row _ _ _ base cap hp hr hn => exact ⟨some t0, (.slice base es.length cap, e, es.length), fromOld t0 _ hr hns hc.1, fun n0 rows hr' => .row hp hr' hn⟩
 ·cases h
def plain : V -> Bool
 | .int _ _ => true | .bool _ => true | .str _ => true | .nilp => true | .nili => true | .nilf => true | .nils => true | .ptr _ _ => true | .undef => true | .hole => true
 | _ => false
theorem VRep.plain {P : Program} {v : V} {x : Value} (h : VRep P c v x) (hp : Ab.plain v = true) (n0 : List Nat) (rows : Nat -> Option (Value × TypeId × Nat)) : VRep P (c.cut n0 rows) v x := by
 cases h with
 | pure h => exact .pure h
 | nils => exact .nils
 | undef => exact .undef _
 | hole => exact .hole
 | _ => cases hp
theorem capIn_at {n0 : List Nat} : ∀ {cap : List V} {j : Nat}, capIn n0 cap = true -> j < cap.length -> ∃ id off, cap.getD j .undef = .ref id off ∧ n0.contains id = true
 | [], j, _, hj => absurd hj (Nat.not_lt_zero _)
 | v :: l, j, h, hj => by
  cases v with
  | ref id off =>
   have h' : (n0.contains id && capIn n0 l) = true := h
   rw [Bool.and_eq_true] at h'
   cases j with
   | zero => exact ⟨id, off, rfl, h'.1⟩
   | succ j => simpa using capIn_at h'.2 (by simpa using hj)
  | _ => cases h
theorem letGo_sound {v : V} {x : Value} (hx : VRep pg.P c v x) (n0 : List Nat) (rows : Nat -> Option (Value × TypeId × Nat)) : VRep pg.P (c.cut n0 rows) (letGo pg n0 v) x := by
 have hblk : ∀ {id : Nat} {q : Nat × Nat × Nat}, n0.contains id = true -> c.blk id = some q -> (c.cut n0 rows).blk id = some q := fun h1 h2 => by
  show (if _ then _ else _) = _
  rw [if_pos h1]; exact h2
 unfold letGo
 split
 ·exact .pure (show PRep pg.P c.w c.prot _ _ from tok_fit _ hx)
 ·rename_i id off
  cases hn : n0.contains id with
  | false => exact .undef _
  | true => obtain ⟨b, o, n, h1, rfl⟩ := hx.ref_inv; exact .ref off (hblk hn h1)
 ·rename_i id e i j
  cases hn : n0.contains id with
  | false => exact .undef _
  | true => obtain ⟨b, o, n, h1, rfl, h2⟩ := hx.el_inv'; exact .el e i j (hblk hn h1) h2
 ·rename_i id e
  cases hn : n0.contains id with
  | false => exact .undef _
  | true => obtain ⟨b, o, n, cap, h1, rfl, h2⟩ := hx.arr_inv'; exact .arr e cap (hblk hn h1) h2
 ·rename_i id e o l
  cases hn : n0.contains id with
  | false => exact .undef _
  | true => obtain ⟨b, o', n, cap, h1, h2, rfl⟩ := hx.sub_inv; exact .sub e o l cap (hblk hn h1) h2
 ·rename_i id
  cases hn : n0.contains id with
  | false => exact .undef _
  | true => obtain ⟨b, n, h1, rfl⟩ := hx.mp_inv; exact .mp (hblk hn h1)
 ·exact .undef _
 ·rename_i cs
  obtain ⟨xs, rfl, hl, hr⟩ := hx.agg_inv
  refine .agg (by simpa using hl) fun j hj => ?_
  have hj' : j < cs.length := by simpa using hj
  have h1 := hr j hj'
  simp only [List.getD, List.getElem?_map, List.getElem?_eq_getElem hj', Option.map_some, Option.getD_some] at h1 ⊢
  generalize cs[j] = v at h1 ⊢
  generalize xs.getD j Go.undef = y at h1 ⊢
  cases v with
  | sl tok e es => exact .pure (show PRep pg.P c.w c.prot _ _ from tok_fit _ h1)
  | ref id off =>
   show VRep pg.P (c.cut n0 rows) (bif n0.contains id then .ref id off else .undef) y
   cases hn : n0.contains id with
   | false => exact .undef _
   | true => obtain ⟨b, o, n, h9, rfl⟩ := h1.ref_inv; exact .ref off (hblk hn h9)
  | el => exact .undef _
  | arr => exact .undef _
  | sub => exact .undef _
  | mp => exact .undef _
  | fr => exact .undef _
  | agg => exact .undef _
  | tup => exact .undef _
  | iface => exact .undef _
  | fn => exact .undef _
  | _ => exact h1.plain rfl _ _
 ·exact .undef _
 ·rename_i t v
  split
  ·obtain ⟨y, rfl, hy⟩ := hx.iface_inv
   obtain rfl := hy.int_inv
   exact .iface t (.pure (.int _ _))
  ·exact .undef _
 ·rename_i f cap
  cases hn : capIn n0 cap with
  | false => exact .undef _
  | true =>
   obtain ⟨xs, rfl, hl, hr⟩ := hx.fn_inv
   refine .fn f hl fun j hj => ?_
   obtain ⟨id, off, h1, h2⟩ := capIn_at hn hj
   obtain ⟨b, o, n, h3, h4⟩ := (h1 ▸ hr j hj : VRep pg.P c (.ref id off) _).ref_inv
   rw [h1, h4]
   exact .ref off (hblk h2 h3)
 ·cases v with
  | sl tok e es => exact ((‹∀ (a : Tok) (b : TypeId) (d : List (List V)), V.sl tok e es = V.sl a b d -> False›) _ _ _ rfl).elim
  | ref id off => exact ((‹∀ (a b : Nat), V.ref id off = V.ref a b -> False›) _ _ rfl).elim
  | el id e i j => exact ((‹∀ (a : Nat) (b : TypeId) (d f : Nat), V.el id e i j = V.el a b d f -> False›) _ _ _ _ rfl).elim
  | arr id e => exact ((‹∀ (a : Nat) (b : TypeId), V.arr id e = V.arr a b -> False›) _ _ rfl).elim
  | sub id e o l => exact ((‹∀ (a : Nat) (b : TypeId) (d f : Nat), V.sub id e o l = V.sub a b d f -> False›) _ _ _ _ rfl).elim
  | mp id => exact ((‹∀ (a : Nat), V.mp id = V.mp a -> False›) _ rfl).elim
  | fr t ps => exact ((‹∀ (a : Nat) (b : List (List Int)), V.fr t ps = V.fr a b -> False›) _ _ rfl).elim
  | agg cs => exact ((‹∀ (a : List V), V.agg cs = V.agg a -> False›) _ rfl).elim
  | tup cs => exact ((‹∀ (a : List V), V.tup cs = V.tup a -> False›) _ rfl).elim
  | iface t w => exact ((‹∀ (a : TypeId) (b : V), V.iface t w = V.iface a b -> False›) _ _ rfl).elim
  | fn f cap => exact ((‹∀ (a : FuncId) (b : List V), V.fn f cap = V.fn a b -> False›) _ _ rfl).elim
  | _ => exact hx.plain rfl _ _
end
end Go.Proofs.Ab
namespace Go.Proofs.Ab
open Go
section
variable {R : Type} {r : R} {pg : Pg} {c : Cx} {own : Own} {live : Nat -> Prop} {g : Nat -> Option Blk} {ρ : Nat -> Value} {env : Env} {bl : List (Nat × Blk)} {n0 dead : List Nat}
def Told (recs : List (Value × TypeId × Nat)) (rows : Nat -> Option (Value × TypeId × Nat)) : Prop := ∀ p q, recs[p]? = some q -> rows p = some q
theorem Told.left {a b : List (Value × TypeId × Nat)} {rows : Nat -> Option (Value × TypeId × Nat)} (h : Told (a ++ b) rows) : Told a rows := fun p q hq => h p q (by
 have := (List.getElem?_eq_some_iff.1 hq).1
 rw [List.getElem?_append_left this]; exact hq)
theorem Told.at {a : List (Value × TypeId × Nat)} {q : Value × TypeId × Nat} {b : List (Value × TypeId × Nat)} {rows : Nat -> Option (Value × TypeId × Nat)} (h : Told (a ++ [q] ++ b) rows) : rows a.length = some q := h _ _ (by simp)
theorem border_sound {P : Program} {v : V} {x : Value} {c : Cx} (h : VRep P c v x) : VRep P c (border v) x := by
 unfold border
 split <;> first | exact .undef _ | exact h | skip
 ·split
  ·exact h
  ·exact .undef _
 ·split
  ·exact h
  ·exact .undef _
theorem goes_sound {v : V} {x : Value} (hx : VRep pg.P c v x) (bd : Bool) (n0 : List Nat) (rows : Nat -> Option (Value × TypeId × Nat)) : VRep pg.P (c.cut n0 rows) (goes pg bd n0 v) x := by
 cases bd with
 | true => exact border_sound (letGo_sound hx n0 rows)
 | false => exact letGo_sound hx n0 rows
theorem canCells_sound (hlive : ∀ t r, c.row t = some r -> dead.contains t = false -> live t) {bd : Bool} {ownl : List Nat} : ∀ {cs : List V} {j0 : Nat} {gv gv' : Gv} {cs' : List V} {tags : List (Option Nat)} {recs : List (Value × TypeId × Nat)} {f : Nat -> Value},
  canCells pg bd n0 dead ownl j0 cs gv = some (cs', gv') -> GvOk c live gv tags recs -> (∀ j, j < cs.length -> VRep pg.P c (cs.getD j .undef) (f j)) ->
  ∃ tags2 recs2, GvOk c live gv' (tags ++ tags2) (recs ++ recs2) ∧ cs'.length = cs.length ∧ (∀ j, j < cs.length -> cs'.getD j .undef ≠ .undef -> cs.getD j .undef ≠ .undef) ∧
   ∀ rows, Told (recs ++ recs2) rows -> ∀ j, j < cs.length -> VRep pg.P (c.cut n0 rows) (cs'.getD j .undef) (f j)
 | [], j0, gv, gv', cs', tags, recs, f, h, hG, hf => by
  cases h
  exact ⟨[], [], by simpa using hG, rfl, fun j hj => absurd hj (Nat.not_lt_zero _), fun rows _ j hj => absurd hj (Nat.not_lt_zero _)⟩
 | v :: cs, j0, gv, gv', cs', tags, recs, f, h, hG, hf => by
  have h0 : VRep pg.P c v (f 0) := hf 0 (by simp)
  have hs : ∀ j, j < cs.length -> VRep pg.P c (cs.getD j .undef) (f (j + 1)) := fun j hj => by simpa using hf (j + 1) (by simpa using hj)
  unfold canCells at h
  rcases cond_some h with ⟨ho, h1⟩ | ⟨ho, h1⟩
  ·split at h1
   ·rename_i v' g1 hgo
    split at h1
    ·rename_i cs1 g2 hrest
     cases h1
     obtain ⟨tag, rec, hG1, hv⟩ := giveOwn_sound hG hgo h0 hlive
     obtain ⟨tags2, recs2, hG2, hl, hu, hr⟩ := canCells_sound (f := fun j => f (j + 1)) hlive hrest hG1 hs
     refine ⟨tag :: tags2, rec :: recs2, by simpa using hG2, by simp [hl], fun j hj hne => ?_, fun rows hrows j hj => ?_⟩
     ·cases j with
      | zero => rintro he; simp at he; subst he; cases hgo
      | succ j => simpa using hu j (by simpa using hj) (by simpa using hne)
     ·have hrows' : Told (recs ++ [rec] ++ recs2) rows := by simpa using hrows
      cases j with
      | zero => exact hv n0 rows (by rw [<- hG.rl]; exact hrows'.at)
      | succ j => simpa using hr rows hrows' j (by simpa using hj)
    ·cases h1
   ·cases h1
  ·split at h1
   ·rename_i cs1 g2 hrest
    cases h1
    obtain ⟨tags2, recs2, hG2, hl, hu, hr⟩ := canCells_sound (f := fun j => f (j + 1)) hlive hrest hG hs
    refine ⟨tags2, recs2, hG2, by simp [hl], fun j hj hne => ?_, fun rows hrows j hj => ?_⟩
    ·cases j with
     | zero => rintro he; simp at he; subst he; cases bd <;> exact hne rfl
     | succ j => simpa using hu j (by simpa using hj) (by simpa using hne)
    ·cases j with
     | zero => exact goes_sound h0 bd n0 rows
     | succ j => simpa using hr rows hrows j (by simpa using hj)
   ·cases h1
theorem ownVal_sound (hlive : ∀ t r, c.row t = some r -> dead.contains t = false -> live t) {l : List Nat} {v v' : V} {x : Value} {gv gv' : Gv} {tags : List (Option Nat)} {recs : List (Value × TypeId × Nat)}
  (h : ownVal pg dead l gv v = some (v', gv')) (hG : GvOk c live gv tags recs) (hx : VRep pg.P c v x) :
  ∃ tags2 recs2, GvOk c live gv' (tags ++ tags2) (recs ++ recs2) ∧ ∀ rows, Told (recs ++ recs2) rows -> VRep pg.P (c.cut [] rows) v' x := by
 unfold ownVal at h
 split at h
 ·rename_i cs
  split at h
  ·rename_i cs' g' hc
   cases h
   obtain ⟨xs, rfl, hl, hr⟩ := hx.agg_inv
   obtain ⟨tags2, recs2, hG2, hl2, hu, hr2⟩ := canCells_sound hlive hc hG hr
   exact ⟨tags2, recs2, hG2, fun rows hrows => .agg (by rw [hl2]; exact hl) fun j hj => hr2 rows hrows j (by rw [<- hl2]; exact hj)⟩
  ·cases h
 ·obtain ⟨tag, rec, hG1, hv⟩ := giveOwn_sound hG h hx hlive
  exact ⟨[tag], [rec], hG1, fun rows hrows => hv [] rows (by rw [<- hG.rl]; exact hrows _ _ (by simp))⟩
theorem canEnv_sound (hlive : ∀ t r, c.row t = some r -> dead.contains t = false -> live t) (hE : ∀ t, VRep pg.P c (env.get t) (ρ t)) : ∀ {l : List (Nat × Bool)} {gv gv' : Gv} {env' : Env} {tags : List (Option Nat)} {recs : List (Value × TypeId × Nat)},
  canEnv pg n0 dead env l gv = some (env', gv') -> GvOk c live gv tags recs ->
  ∃ tags2 recs2, GvOk c live gv' (tags ++ tags2) (recs ++ recs2) ∧ ∀ rows, Told (recs ++ recs2) rows -> ∀ t, VRep pg.P (c.cut n0 rows) (env'.get t) (ρ t)
 | [], gv, gv', env', tags, recs, h, hG => by
  cases h
  exact ⟨[], [], by simpa using hG, fun rows _ t => .undef _⟩
 | (t0, o) :: l, gv, gv', env', tags, recs, h, hG => by
  unfold canEnv at h
  rcases cond_some h with ⟨ho, h1⟩ | ⟨ho, h1⟩
  ·split at h1
   ·rename_i v g1 hgo
    split at h1
    ·rename_i env1 g2 hrest
     cases h1
     obtain ⟨tag, rec, hG1, hv⟩ := giveOwn_sound hG hgo (hE t0) hlive
     obtain ⟨tags2, recs2, hG2, hr⟩ := canEnv_sound hlive hE hrest hG1
     refine ⟨tag :: tags2, rec :: recs2, by simpa using hG2, fun rows hrows t => ?_⟩
     have hrows' : Told (recs ++ [rec] ++ recs2) rows := by simpa using hrows
     by_cases ht : t0 = t
     ·subst ht
      simp only [Env.get, Nat.beq_eq_true_eq, show Nat.beq t0 t0 = true from Nat.beq_refl t0, cond_true]
      exact hv n0 rows (by rw [<- hG.rl]; exact hrows'.at)
     ·simp only [Env.get, nbeq ht, cond_false]
      exact hr rows hrows' t
    ·cases h1
   ·cases h1
  ·rcases cond_some h1 with ⟨hoa, h1⟩ | ⟨hoa, h1⟩
   ·split at h1
    ·rename_i v g1 hgo
     split at h1
     ·rename_i env1 g2 hrest
      cases h1
      obtain ⟨t2, r2, hG1, hv⟩ := ownVal_sound hlive hgo hG (hE t0)
      obtain ⟨tags2, recs2, hG2, hr⟩ := canEnv_sound hlive hE hrest hG1
      refine ⟨t2 ++ tags2, r2 ++ recs2, by simpa using hG2, fun rows hrows t => ?_⟩
      have hrows' : Told (recs ++ r2 ++ recs2) rows := by simpa using hrows
      by_cases ht : t0 = t
      ·subst ht
       simp only [Env.get, Nat.beq_eq_true_eq, show Nat.beq t0 t0 = true from Nat.beq_refl t0, cond_true]
       have hX : Ext (c.cut [] rows) (c.cut n0 rows) := ⟨fun b x h => ⟨h, rfl⟩, fun id r h => by
        have h' : (if List.contains [] id then c.blk id else none) = some r := h
        simp at h', fun t r h => h⟩
       exact (hv rows hrows'.left).mono hX
      ·simp only [Env.get, nbeq ht, cond_false]
       exact hr rows hrows' t
     ·cases h1
    ·cases h1
   ·split at h1
    ·rename_i env1 g2 hrest
     cases h1
     obtain ⟨tags2, recs2, hG2, hr⟩ := canEnv_sound hlive hE hrest hG
     refine ⟨tags2, recs2, hG2, fun rows hrows t => ?_⟩
     by_cases ht : t0 = t
     ·subst ht
      simp only [Env.get, show Nat.beq t0 t0 = true from Nat.beq_refl t0, cond_true]
      exact letGo_sound (hE t0) n0 rows
     ·simp only [Env.get, nbeq ht, cond_false]
      exact hr rows hrows t
    ·cases h1
theorem ownVals_sound (hlive : ∀ t r, c.row t = some r -> dead.contains t = false -> live t) : ∀ {os : List (Option (List Nat))} {vs ws ws' : List V} {f : Nat -> Value} {gv gv' : Gv} {tags : List (Option Nat)} {recs : List (Value × TypeId × Nat)},
  ownVals pg dead os vs ws gv = some (ws', gv') -> GvOk c live gv tags recs -> (∀ j, j < vs.length -> VRep pg.P c (vs.getD j .undef) (f j)) ->
  ∃ tags2 recs2, GvOk c live gv' (tags ++ tags2) (recs ++ recs2) ∧ ws'.length = ws.length ∧ ∀ j, j < ws.length -> ws'.getD j .undef = ws.getD j .undef ∨ ∀ rows, Told (recs ++ recs2) rows -> VRep pg.P (c.cut [] rows) (ws'.getD j .undef) (f j)
 | [], vs, ws, ws', f, gv, gv', tags, recs, h, hG, hf => by
  cases h
  exact ⟨[], [], by simpa using hG, rfl, fun j hj => .inl rfl⟩
 | none :: os, [], ws, ws', f, gv, gv', tags, recs, h, hG, hf => by cases h
 | some l :: os, [], ws, ws', f, gv, gv', tags, recs, h, hG, hf => by cases h
 | none :: os, v :: vs, [], ws', f, gv, gv', tags, recs, h, hG, hf => by cases h
 | some l :: os, v :: vs, [], ws', f, gv, gv', tags, recs, h, hG, hf => by cases h
 | none :: os, v :: vs, w :: ws, ws', f, gv, gv', tags, recs, h, hG, hf => by
  unfold ownVals at h
  split at h
  ·rename_i ws1 g1 hr
   cases h
   obtain ⟨tags2, recs2, hG2, hl, hv⟩ := ownVals_sound hlive (f := fun j => f (j + 1)) hr hG (fun j hj => by simpa using hf (j + 1) (by simpa using hj))
   refine ⟨tags2, recs2, hG2, by simp [hl], fun j hj => ?_⟩
   cases j with
   | zero => exact .inl rfl
   | succ j => simpa using hv j (by simpa using hj)
  ·cases h
 | some l :: os, v :: vs, w :: ws, ws', f, gv, gv', tags, recs, h, hG, hf => by
  unfold ownVals at h
  split at h
  ·rename_i w1 g1 hv1
   split at h
   ·rename_i ws1 g2 hr
    cases h
    obtain ⟨t2, r2, hG1, hw⟩ := ownVal_sound hlive hv1 hG (by simpa using hf 0 (by simp))
    obtain ⟨t3, r3, hG2, hl, hv⟩ := ownVals_sound hlive (f := fun j => f (j + 1)) hr hG1 (fun j hj => by simpa using hf (j + 1) (by simpa using hj))
    refine ⟨t2 ++ t3, r2 ++ r3, by simpa using hG2, by simp [hl], fun j hj => ?_⟩
    cases j with
    | zero =>
     refine .inr fun rows hrows => ?_
     have hrows' : Told (recs ++ r2 ++ r3) rows := by simpa using hrows
     simpa using hw rows hrows'.left
    | succ j =>
     rcases hv j (by simpa using hj) with h1 | h1
     ·left; simpa using h1
     ·right
      intro rows hrows
      have hrows' : Told (recs ++ r2 ++ r3) rows := by simpa using hrows
      simpa using h1 rows hrows'
   ·cases h
  ·cases h
theorem canBlk_sound {bd : Bool} (hlive : ∀ t r, c.row t = some r -> dead.contains t = false -> live t) {b o : Nat} {k k' : Blk} {gv gv' : Gv} {tags : List (Option Nat)} {recs : List (Value × TypeId × Nat)}
  (h : canBlk pg bd n0 dead k gv = some (k', gv')) (hG : GvOk c live gv tags recs) (hC : CellsRep pg.P c b o k) :
  ∃ tags2 recs2, GvOk c live gv' (tags ++ tags2) (recs ++ recs2) ∧ k'.num = k.num ∧ k'.len pg.P = k.len pg.P ∧ k'.fz = k.fz ∧ (∀ w b o, Lies pg.P w b o k -> Lies pg.P w b o k') ∧ ∀ rows, Told (recs ++ recs2) rows -> CellsRep pg.P (c.cut n0 rows) b o k' := by
 unfold canBlk at h
 split at h
 ·rename_i e cs fz
  split at h
  ·rename_i cs' g' hc
   cases h
   obtain ⟨f, hf⟩ := cells_fun hC
   obtain ⟨tags2, recs2, hG2, hl, hu, hr⟩ := canCells_sound hlive hc hG (fun j hj => (hf j hj).2.2)
   refine ⟨tags2, recs2, hG2, hl, hl, rfl, fun w b o ⟨arr, e, g1, g2⟩ => ⟨arr, e, g1, by simp only [Blk.len] at g2 ⊢; omega⟩, fun rows hrows j hj => ?_⟩
   rw [hl] at hj
   exact ⟨f j, (hf j hj).1, fun hne => (hf j hj).2.1 (hu j hj hne), hr rows hrows j hj⟩
  ·cases h
 ·cases h
  exact ⟨[], [], by simpa using hG, rfl, rfl, rfl, fun _ _ _ h => h, fun rows _ => hC⟩
 ·cases h
  exact ⟨[], [], by simpa using hG, rfl, rfl, rfl, fun _ _ _ h => h, fun rows _ => trivial⟩
theorem canBlks_sound {bd : Bool} (hlive : ∀ t r, c.row t = some r -> dead.contains t = false -> live t) : ∀ {ks ks' : List Blk} {pos : List (Nat × Nat)} {gv gv' : Gv} {tags : List (Option Nat)} {recs : List (Value × TypeId × Nat)},
  canBlks pg bd n0 dead ks gv = some (ks', gv') -> GvOk c live gv tags recs -> (∀ (j : Nat) (k : Blk) (q : Nat × Nat), ks[j]? = some k -> pos[j]? = some q -> CellsRep pg.P c q.1 q.2 k) -> pos.length = ks.length ->
  ∃ tags2 recs2, GvOk c live gv' (tags ++ tags2) (recs ++ recs2) ∧ ks'.length = ks.length ∧ (∀ (j : Nat) (k k' : Blk), ks[j]? = some k -> ks'[j]? = some k' -> k'.num = k.num ∧ k'.len pg.P = k.len pg.P ∧ k'.fz = k.fz ∧ ∀ w b o, Lies pg.P w b o k -> Lies pg.P w b o k') ∧
   ∀ rows, Told (recs ++ recs2) rows -> ∀ (j : Nat) (k' : Blk) (q : Nat × Nat), ks'[j]? = some k' -> pos[j]? = some q -> CellsRep pg.P (c.cut n0 rows) q.1 q.2 k'
 | [], ks', pos, gv, gv', tags, recs, h, hG, hC, hp => by
  cases h
  exact ⟨[], [], by simpa using hG, rfl, fun j k k' h => by simp at h, fun rows _ j k' q h => by simp at h⟩
 | k :: ks, ks', [], gv, gv', tags, recs, h, hG, hC, hp => by cases hp
 | k :: ks, ks', q0 :: pos, gv, gv', tags, recs, h, hG, hC, hp => by
  unfold canBlks at h
  split at h
  ·rename_i k1 g1 hk
   split at h
   ·rename_i ks1 g2 hrest
    cases h
    obtain ⟨t2, r2, hG1, e1, e2, e3, e4, hr1⟩ := canBlk_sound hlive hk hG (hC 0 k q0 rfl rfl)
    obtain ⟨t3, r3, hG2, hl, hm, hr⟩ := canBlks_sound hlive hrest hG1 (pos := pos) (fun j k q h1 h2 => hC (j + 1) k q h1 h2) (by simpa using hp)
    refine ⟨t2 ++ t3, r2 ++ r3, by simpa using hG2, by simp [hl], fun j k k' h1 h2 => ?_, fun rows hrows j k' q h1 h2 => ?_⟩
    ·cases j with
     | zero => simp at h1 h2; subst h1; subst h2; exact ⟨e1, e2, e3, e4⟩
     | succ j => exact hm j k k' (by simpa using h1) (by simpa using h2)
    ·have hrows' : Told (recs ++ r2 ++ r3) rows := by simpa using hrows
     cases j with
     | zero => simp at h1 h2; subst h1; subst h2; exact hr1 rows hrows'.left
     | succ j => exact hr rows hrows' j k' q (by simpa using h1) (by simpa using h2)
   ·cases h
  ·cases h
end
end Go.Proofs.Ab
namespace Go.Proofs.Ab
open Go
section
variable {R : Type} {r : R} {pg : Pg} {c : Cx} {own : Own} {live : Nat -> Prop} {g : Nat -> Option Blk} {ρ : Nat -> Value} {env : Env} {bl : List (Nat × Blk)} {n0 dead : List Nat}
theorem takeB_some : ∀ {ids : List Nat} {bs : List Blk}, takeB bl ids = some bs -> bs.length = ids.length ∧ ∀ (j id : Nat), ids[j]? = some id -> ∃ k, getB bl id = some k ∧ bs[j]? = some k
 | [], bs, h => by cases h; exact ⟨rfl, fun j id h => by simp at h⟩
 | i :: ids, bs, h => by
  unfold takeB at h
  split at h
  ·rename_i b hb
   split at h
   ·rename_i bs1 hr
    cases h
    obtain ⟨h1, h2⟩ := takeB_some hr
    refine ⟨by simp [h1], fun j id hj => ?_⟩
    cases j with
    | zero => simp at hj; subst hj; exact ⟨b, hb, rfl⟩
    | succ j => simpa using h2 j id (by simpa using hj)
   ·cases h
  ·cases h
theorem getB_zip : ∀ {ids : List Nat} {bs : List Blk} {id : Nat} {k : Blk}, getB (ids.zip bs) id = some k -> ∃ j : Nat, ids[j]? = some id ∧ bs[j]? = some k
 | [], bs, id, k, h => by simp [getB] at h
 | i :: ids, [], id, k, h => by simp [getB] at h
 | i :: ids, b :: bs, id, k, h => by
  rw [List.zip_cons_cons] at h
  unfold getB at h
  rcases cond_some h with ⟨he, h1⟩ | ⟨he, h1⟩
  ·have he : i = id := by simpa using he
   exact ⟨0, by simp [he], by simpa using h1⟩
  ·obtain ⟨j, h2, h3⟩ := getB_zip h1
   exact ⟨j + 1, by simpa using h2, by simpa using h3⟩
theorem getB_zip_of : ∀ {ids : List Nat} {bs : List Blk} {id : Nat}, bs.length = ids.length -> id ∈ ids -> ∃ k, getB (ids.zip bs) id = some k
 | [], bs, id, hl, h => by cases h
 | i :: ids, [], id, hl, h => by cases hl
 | i :: ids, b :: bs, id, hl, h => by
  rw [List.zip_cons_cons]
  unfold getB
  by_cases he : i = id
  ·subst he; exact ⟨b, by simp⟩
  ·rw [nbeq he]
   exact getB_zip_of (by simpa using hl) ((List.mem_cons.1 h).resolve_left fun e => he e.symm)
open Classical in
noncomputable def Own.retag (own : Own) (n0 : List Nat) (tags : List (Option Nat)) : Own := fun b x =>
 match own b x with
 | some (false, i) => if i ∈ n0 then some (false, i) else none
 | some (true, t) => if h : ∃ p : Nat, tags[p]? = some (some t) then some (true, Classical.choose h) else none
 | none => none
theorem Own.retag_none {tags : List (Option Nat)} {b x : Nat} (h : own b x = none) : own.retag n0 tags b x = none := by unfold Own.retag; rw [h]
theorem Own.retag_blk {tags : List (Option Nat)} {b x i : Nat} (h : own b x = some (false, i)) (hi : i ∈ n0) : own.retag n0 tags b x = some (false, i) := by unfold Own.retag; rw [h]; simp [hi]
theorem Own.retag_row {gv : Gv} {tags : List (Option Nat)} {recs : List (Value × TypeId × Nat)} (hG : GvOk c live gv tags recs) {b x t p : Nat} (h : own b x = some (true, t)) (hp : tags[p]? = some (some t)) : own.retag n0 tags b x = some (true, p) := by
 unfold Own.retag
 rw [h]
 have hex : ∃ p : Nat, tags[p]? = some (some t) := ⟨p, hp⟩
 simp only [hex, dif_pos]
 rw [hG.inj _ _ t (Classical.choose_spec hex) hp]
theorem canon_sound {f : FuncId} {st st' : St} {env' : Env} (hS : SInv pg c own st) (hE : ∀ t, VRep pg.P c (env.get t) (ρ t)) (h : canon pg f n0 (env, st) = some (env', st')) :
  ∃ c' own', c'.w = c.w ∧ c'.prot = c.prot ∧ SInv pg c' own' st' ∧ (∀ t, VRep pg.P c' (env'.get t) (ρ t)) ∧ (∀ b x, own b x = none -> own' b x = none) ∧ st'.df = st.df ∧ st'.pn = st.pn ∧ (∀ id r, id ∈ n0 -> c.blk id = some r -> c'.blk id = some r) ∧ c'.out = c.out ∧ (∃ rows, c' = c.cut n0 rows) ∧ (st.df.all fun p => capIn n0 p.2) = true := by
 have hlive : ∀ t r, c.row t = some r -> st.dead.contains t = false -> Live st t := fun t r h1 h2 => ⟨hS.domr t r h1, h2⟩
 unfold canon at h
 obtain ⟨hdf, h⟩ := condR_some h
 have hdf' : (st.df.all fun p => capIn n0 p.2) = true := by simpa using hdf
 split at h
 ·rename_i env1 g1 he
  split at h
  ·rename_i bs hb
   split at h
   ·rename_i bl' g2 hk
    cases h
    obtain ⟨hbl, hbg⟩ := takeB_some hb
    have he' : canEnv pg n0 st.dead env (pg.keep f) ⟨0, []⟩ = some (env', g1) := he
    have hk' : canBlks pg false n0 st.dead bs g1 = some (bl', g2) := hk
    obtain ⟨tags1, recs1, hG1, hr1⟩ := canEnv_sound hlive hE he' (GvOk.start c (Live st))
    have hpos : ∀ (j id : Nat), n0[j]? = some id -> ∃ k b o, getB st.bl id = some k ∧ bs[j]? = some k ∧ c.blk id = some (b, o, k.num) ∧ BRep pg.P c own id k b o := fun j id hj => by
     obtain ⟨k, h1, h2⟩ := hbg j id hj
     obtain ⟨b, o, h3, h4⟩ := hS.inv.blk id k h1
     exact ⟨k, b, o, h1, h2, h3, h4⟩
    obtain ⟨tags2, recs2, hG2, hl2, hm2, hr2⟩ := canBlks_sound hlive hk' hG1 (pos := n0.map fun id => match c.blk id with | some (b, o, _) => (b, o) | none => (0, 0)) (fun j k q h1 h2 => by
     rw [List.getElem?_map] at h2
     obtain ⟨id, h3, rfl⟩ := Option.map_eq_some_iff.1 h2
     obtain ⟨k2, b, o, h4, h5, h6, h7⟩ := hpos j id h3
     rw [h1] at h5
     cases h5
     rw [h6]
     exact h7.cells) (by simp [hbl])
    simp only [List.nil_append] at hG1 hG2 hr1 hr2
    have htold : Told (recs1 ++ recs2) (fun p => (recs1 ++ recs2)[p]?) := fun p q h => h
    refine ⟨c.cut n0 (fun p => (recs1 ++ recs2)[p]?), own.retag n0 (tags1 ++ tags2), rfl, rfl, ⟨⟨fun id k' hk' => ?_, fun p hp => ?_, fun b x hp => ⟨Own.retag_none (hS.inv.np b x hp).1, (hS.inv.np b x hp).2⟩, fun b x hn => hS.inv.fresh b x fun h => hn (Own.retag_none h), fun id r hr => ?_, fun i cs hg => hS.inv.gl i cs hg⟩, fun p r hp => ?_⟩,
     fun t => hr1 _ htold.left t, fun b x h => Own.retag_none h, rfl, rfl, fun id r hid hr => ?_, rfl, ⟨_, rfl⟩, hdf'⟩
    ·obtain ⟨j, h1, h2⟩ := getB_zip hk'
     obtain ⟨k, b, o, h3, h4, h5, h6⟩ := hpos j id h1
     obtain ⟨e1, e2, e3, e4⟩ := hm2 j k k' h4 h2
     have hid : id ∈ n0 := List.mem_of_getElem? h1
     refine ⟨b, o, ?_, ?_, fun hf => ?_, fun hf x hx => ?_⟩
     ·show (if _ then _ else _) = _
      rw [if_pos (by simpa using hid), h5, e1]
     ·refine hr2 _ htold j k' (b, o) h2 ?_
      rw [List.getElem?_map, h1]
      simp [h5]
     ·obtain ⟨h7, h8⟩ := h6.opn (by rw [<- e3]; exact hf)
      rw [e2]
      exact ⟨e4 _ _ _ h7, fun x hx => Own.retag_blk (h8 x hx) hid⟩
     ·exact h6.shut (by rw [<- e3]; exact hf) x (by rw [<- e2]; exact hx)
    ·have hlt : p < g2.n := by
      have := hp.1
      simpa using this
     have htl : p < (tags1 ++ tags2).length := by rw [hG2.tl]; exact hlt
     cases htag : (tags1 ++ tags2)[p]? with
     | none => rw [List.getElem?_eq_getElem htl] at htag; cases htag
     | some tag =>
      cases tag with
      | none =>
       obtain ⟨e, h1⟩ := hG2.nil p htag
       rcases h1 with h1 | ⟨eI, h1⟩
       ·exact .inl ⟨_, e, 0, [], h1, World.ownsRow_nil _ _ _ _, fun b hb => by cases hb⟩
       ·exact .inr ⟨_, [], e, eI, h1, .inl ⟨rfl, rfl⟩⟩
      | some t =>
       obtain ⟨h1, _, h2⟩ := hG2.old p t htag
       rcases hS.inv.row t h2 with ⟨v, e, n, xs, h3, h4, h5⟩ | ⟨x, ps, eO, eI, h3, h4⟩
       rotate_left
       ·exact .inr ⟨x, ps, eO, eI, by rw [<- h3]; exact h1, h4.to (fun b o _ hh => hh) fun b y h => Own.retag_row hG2 h htag⟩
       exact .inl ⟨v, e, n, xs, by rw [<- h3]; exact h1, h4, fun b hb x => ⟨fun hx => Own.retag_row hG2 ((h5 b hb x).1 hx) htag, (h5 b hb x).2⟩⟩
    ·left
     have h1 : (if n0.contains id then c.blk id else none) = some r := hr
     split at h1
     ·rename_i hc
      exact getB_zip_of (by rw [hl2, hbl]) (by simpa using hc)
     ·cases h1
    ·have h1 : (recs1 ++ recs2)[p]? = some r := hp
     have := (List.getElem?_eq_some_iff.1 h1).1
     rw [hG2.rl] at this
     simpa using this
    ·show (if _ then _ else _) = _
     rw [if_pos (by simpa using hid)]; exact hr
   ·cases h
  ·cases h
 ·cases h
end
end Go.Proofs.Ab
namespace Go.Proofs.Ab
open Go
theorem border_idem (v : V) : border (border v) = border v := by
 cases v with
 | fn f cap => cases cap <;> rfl
 | iface t v => cases v <;> rfl
 | _ => rfl
theorem VRep.over {P : Program} {c c' : Cx} {v : V} {x : Value} (h : VRep P c v x) (hb : border v = v) (hw : c'.w = c.w) (hp : c'.prot = c.prot) (ha : ∀ id e, v ≠ .arr id e) (hr : ∀ t e es, v ≠ .sl (.row t) e es) (hf : ∀ t ps, v ≠ .fr t ps) : VRep P c' v x := by
 cases h with
 | pure h => exact .pure (by rw [hw, hp]; exact h)
 | ref => cases hb
 | el => cases hb
 | arr => exact absurd rfl (ha _ _)
 | sub => cases hb
 | mp => cases hb
 | row => exact absurd rfl (hr _ _ _)
 | fr => exact absurd rfl (hf _ _)
 | agg => cases hb
 | tup => cases hb
 | @iface t v x h =>
  cases v with
  | int k n => obtain rfl := h.int_inv; exact .iface t (.pure (.int _ _))
  | _ => cases hb
 | @fn f cap xs hl h =>
  cases cap with
  | nil => exact .fn f hl (fun j hj => by cases hj)
  | cons a l => cases hb
 | nils => exact .nils
 | undef => exact .undef _
 | hole => exact .hole
def RetRep (pg : Pg) (o : Option (List Nat)) (c : Cx) (v : V) (x : Value) : Prop := match o with
 | none => PRep pg.P c.w c.prot v x
 | some _ => VRep pg.P c v x ∧ ∀ j, border ((cellsOf v).getD j .undef) = (cellsOf v).getD j .undef
def Ends (pg : Pg) (o : Option (List Nat)) (c : Cx) (own : Own) (n : Nat) (res : Res) (e : Ending) (w' : World) : Prop :=
 ∃ c' own', c'.w = w' ∧ After c own c' own' ∧ (∀ i r, i < n -> c.blk i = some r -> c'.blk i = some r) ∧ Inv pg c' own' (fun i => res.bl[i]?) (fun p => ∃ r, c'.row p = some r) ∧
  (∀ (i : Nat) (t : TypeId) (cs : List V) (fz : Bool) (j : Nat), res.bl[i]? = some (.cells t cs fz) -> border (cs.getD j .undef) = cs.getD j .undef) ∧
  match res.out, e with
  | .ret v, .returned x => RetRep pg o c' v x
  | .pan v, .panicked ch => ∃ x, ch = [{ v := x, recovered := false }] ∧ PRep pg.P c'.w c'.prot v x
  | _, _ => False
def Bodied (P : Program) (f : FuncId) : Prop := ∃ fn, P.funcs[f]? = some fn ∧ fn.body.isNone = false ∧ (fn.name == "runtime.NumGoroutine") = false
def DSound (pg : Pg) (D : DSem) : Prop :=
 ∀ f vs bl res, D f vs bl none = some res -> Bodied pg.P f ∧ ∀ (c : Cx) (own : Own) (xs : Array Value),
  Inv pg c own (fun i => bl[i]?) (fun p => p < rowsOf pg bl + ownN (pg.oa f)) -> (∀ p r, c.row p = some r -> p < rowsOf pg bl + ownN (pg.oa f)) -> (∀ id, ¬ c.out id) -> vs.length = xs.size -> (∀ j, j < vs.length -> VRep pg.P c (vs.getD j .undef) (xs.getD j Go.undef)) ->
  Calls pg.P f xs c.w (Ends pg (pg.oo f) c own bl.length res)
def ModeOk (pg : Pg) (c : Cx) (cur : Option V) (u : FrameMode) : Prop := match cur with
 | none => u = .returning
 | some v => ∃ x, u = .panicking [{ v := x, recovered := false }] ∧ PRep pg.P c.w c.prot v x
def DSoundD (pg : Pg) (D : DSem) : Prop :=
 ∀ f vs bl cur res, D f vs bl (some cur) = some res -> Bodied pg.P f ∧ ∀ (c : Cx) (own : Own) (xs : Array Value) (u : FrameMode),
  Inv pg c own (fun i => bl[i]?) (fun p => p < rowsOf pg bl + ownN (pg.oa f)) -> (∀ p r, c.row p = some r -> p < rowsOf pg bl + ownN (pg.oa f)) -> (∀ id, ¬ c.out id) -> vs.length = xs.size -> (∀ j, j < vs.length -> VRep pg.P c (vs.getD j .undef) (xs.getD j Go.undef)) ->
  ModeOk pg c cur u -> CallsD pg.P f xs u c.w fun e u' w' => Ends pg (pg.oo f) c own bl.length res e w' ∧ ((res.pn = some cur ∧ u' = u) ∨ (res.pn = some none ∧ settle u' = .returning))
end Go.Proofs.Ab
