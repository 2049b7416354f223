/- Own texts under the law SynBrackets, merged, without what it does not lean on: part 3 of 6 (the abstract machine and its proof; residual forms; contracts; the plain law). -/
import Derived.Test.YtennkhdlpbggkaaDoorSynBracketsPackB
import Derived.Calls
import Derived.Tactics
import Derived.LoopN
import Derived.Scope
import Derived.Orders
set_option linter.unusedVariables false
set_option linter.unusedSimpArgs false
set_option linter.unusedSectionVars false
set_option maxRecDepth 100000
namespace Go.Proofs.Ab
open Go
def Distinct (h : Hand) : Prop := ∀ (i j : Nat) (x y : Nat × Nat × Option TypeId), h[i]? = some x -> h[j]? = some y -> x.1 = y.1 -> i = j
theorem handIdx_some : ∀ {h : Hand} {id i : Nat}, handIdx h id = some i -> ∃ x, h[i]? = some x ∧ x.1 = id
 | x :: l, id, i, h => by
  unfold handIdx at h
  rcases cond_some h with ⟨he, h1⟩ | ⟨he, h1⟩
  ·cases h1
   exact ⟨x, rfl, by simpa using he⟩
  ·obtain ⟨j, h2, rfl⟩ := Option.map_eq_some_iff.1 h1
   obtain ⟨y, h3, h4⟩ := handIdx_some h2
   exact ⟨y, by simpa using h3, h4⟩
theorem handIdx_none : ∀ {h : Hand} {id : Nat}, handIdx h id = none -> ∀ (i : Nat) (x : Nat × Nat × Option TypeId), h[i]? = some x -> x.1 ≠ id
 | [], id, _, i, x, hx => by simp at hx
 | y :: l, id, h, i, x, hx => by
  unfold handIdx at h
  cases hb : Nat.beq y.1 id with
  | true => rw [hb] at h; cases h
  | false =>
   rw [hb] at h
   have h1 : handIdx l id = none := by
    cases hh : handIdx l id with
    | none => rfl
    | some j => rw [hh] at h; cases h
   cases i with
   | zero => simp at hx; subst hx; intro he; subst he; simp at hb
   | succ i => exact handIdx_none h1 i x (by simpa using hx)
theorem Distinct.push {h : Hand} (hd : Distinct h) {x : Nat × Nat × Option TypeId} (hn : handIdx h x.1 = none) : Distinct (h ++ [x]) := by
 intro i j y z hi hj he
 have key : ∀ (i : Nat) (y : Nat × Nat × Option TypeId), (h ++ [x])[i]? = some y -> (i < h.length ∧ h[i]? = some y) ∨ (i = h.length ∧ y = x) := by
  intro i y hi
  rcases Nat.lt_or_ge i h.length with hp | hp
  ·rw [List.getElem?_append_left hp] at hi; exact .inl ⟨hp, hi⟩
  ·rw [List.getElem?_append_right hp] at hi
   have h0 : i - h.length = 0 := by
    rcases Nat.eq_zero_or_pos (i - h.length) with h0 | h0
    ·exact h0
    ·rw [List.getElem?_eq_none (by simp; omega)] at hi; cases hi
   rw [h0] at hi
   simp at hi
   exact .inr ⟨by omega, hi.symm⟩
 rcases key i y hi with ⟨_, h1⟩ | ⟨rfl, rfl⟩ <;> rcases key j z hj with ⟨_, h2⟩ | ⟨rfl, rfl⟩
 ·exact hd i j y z h1 h2 he
 ·exact absurd he (handIdx_none hn i y h1)
 ·exact absurd he.symm (handIdx_none hn j z h2)
 ·rfl
def Handed (h : Hand) (v v' : V) : Prop := (∃ id off i o, v = .ref id off ∧ v' = .ref i 0 ∧ h[i]? = some (id, off, o)) ∨ ((∀ id off, v ≠ .ref id off) ∧ v' = v)
theorem Handed.more {h m : Hand} {v v' : V} (hh : Handed h v v') : Handed (h ++ m) v v' := by
 rcases hh with ⟨id, off, i, o, h1, h2, h3⟩ | hh
 ·exact .inl ⟨id, off, i, o, h1, h2, by rw [List.getElem?_append_left (List.getElem?_eq_some_iff.1 h3).1]; exact h3⟩
 ·exact .inr hh
theorem handCap_spec : ∀ {vs vs' : List V} {h h' : Hand}, handArgs.handCap vs h = some (vs', h') -> Distinct h -> (∃ m, h' = h ++ m) ∧ Distinct h' ∧ vs'.length = vs.length ∧ ∀ j, j < vs.length -> Handed h' (vs.getD j .undef) (vs'.getD j .undef)
 | [], vs', h, h', hc, hd => by
  cases hc
  exact ⟨⟨[], by simp⟩, hd, rfl, fun j hj => absurd hj (Nat.not_lt_zero _)⟩
 | v :: vs, vs', h, h', hc, hd => by
  unfold handArgs.handCap at hc
  split at hc
  ·rename_i id off
   split at hc
   ·cases hc
   ·rename_i hn
    split at hc
    ·rename_i vs1 h1 hr
     cases hc
     obtain ⟨⟨m, rfl⟩, h2, h3, h4⟩ := handCap_spec hr (hd.push hn)
     refine ⟨⟨(id, off, none) :: m, by simp⟩, h2, by simp [h3], fun j hj => ?_⟩
     cases j with
     | zero => exact .inl ⟨id, off, h.length, none, rfl, rfl, by simp⟩
     | succ j => simpa using h4 j (by simpa using hj)
    ·cases hc
  ·rename_i hnr
   split at hc
   ·rename_i vs1 h1 hr
    cases hc
    obtain ⟨hm, h2, h3, h4⟩ := handCap_spec hr hd
    refine ⟨hm, h2, by simp [h3], fun j hj => ?_⟩
    cases j with
    | zero => exact .inr ⟨fun id off he => hnr id off he, rfl⟩
    | succ j => simpa using h4 j (by simpa using hj)
   ·cases hc
theorem handArgs_spec (pg : Pg) : ∀ {ts : List TypeId} {vs vs' : List V} {h h' : Hand}, handArgs pg ts vs h = some (vs', h') -> Distinct h -> (∃ m, h' = h ++ m) ∧ Distinct h' ∧ vs'.length = vs.length ∧ ∀ j, j < vs.length -> Handed h' (vs.getD j .undef) (vs'.getD j .undef)
 | [], vs, vs', h, h', hc, hd => by
  cases vs <;> exact handCap_spec hc hd
 | t :: ts, [], vs', h, h', hc, hd => by cases hc
 | t :: ts, v :: vs, vs', h, h', hc, hd => by
  unfold handArgs at hc
  split at hc
  ·rename_i id off
   split at hc
   ·rename_i e he
    split at hc
    ·cases hc
    ·rename_i hn
     split at hc
     ·rename_i vs1 h1 hr
      cases hc
      obtain ⟨⟨m, rfl⟩, h2, h3, h4⟩ := handArgs_spec pg hr (hd.push hn)
      refine ⟨⟨(id, off, some e) :: m, by simp⟩, h2, by simp [h3], fun j hj => ?_⟩
      cases j with
      | zero => exact .inl ⟨id, off, h.length, some e, rfl, rfl, by simp⟩
      | succ j => simpa using h4 j (by simpa using hj)
     ·cases hc
   ·cases hc
  ·rename_i hnr
   split at hc
   ·rename_i vs1 h1 hr
    cases hc
    obtain ⟨hm, h2, h3, h4⟩ := handArgs_spec pg hr hd
    refine ⟨hm, h2, by simp [h3], fun j hj => ?_⟩
    cases j with
    | zero => exact .inr ⟨fun id off he => hnr id off he, rfl⟩
    | succ j => simpa using h4 j (by simpa using hj)
   ·cases hc
def Over (h : Hand) (v v' : V) : Prop := v' = .undef ∨ (∃ id e i, v = .arr id e ∧ v' = .arr i e ∧ h[i]? = some (id, 0, none)) ∨ ((∀ id e, v ≠ .arr id e) ∧ v' = border v)
theorem Over.more {h m : Hand} {v v' : V} (hh : Over h v v') : Over (h ++ m) v v' := by
 rcases hh with hh | ⟨id, e, i, h1, h2, h3⟩ | hh
 ·exact .inl hh
 ·exact .inr (.inl ⟨id, e, i, h1, h2, by rw [List.getElem?_append_left (List.getElem?_eq_some_iff.1 h3).1]; exact h3⟩)
 ·exact .inr (.inr hh)
theorem handCells_spec : ∀ (cs : List V) (h : Hand), Distinct h -> (∃ m, (handCells cs h).2 = h ++ m) ∧ Distinct (handCells cs h).2 ∧ (handCells cs h).1.length = cs.length ∧ ∀ j, j < cs.length -> Over (handCells cs h).2 (cs.getD j .undef) ((handCells cs h).1.getD j .undef)
 | [], h, hd => ⟨⟨[], by simp [handCells]⟩, hd, rfl, fun j hj => absurd hj (Nat.not_lt_zero _)⟩
 | v :: cs, h, hd => by
  unfold handCells
  split
  ·rename_i id e
   split
   ·rename_i i hi
    obtain ⟨hm, h2, h3, h4⟩ := handCells_spec cs h hd
    obtain ⟨x, h5, h6⟩ := handIdx_some hi
    obtain ⟨m, hm'⟩ := hm
    refine ⟨⟨m, hm'⟩, h2, by simp [h3], fun j hj => ?_⟩
    cases j with
    | zero =>
     dsimp only [List.getD_cons_zero]
     split
     ·rename_i y hy
      rw [h5] at hy
      cases hy
      refine .inr (.inl ⟨id, e, i, rfl, rfl, ?_⟩)
      rw [hm', List.getElem?_append_left (List.getElem?_eq_some_iff.1 h5).1, h5]
      simpa using h6
     ·exact .inl rfl
    | succ j => simpa using h4 j (by simpa using hj)
   ·rename_i hn
    obtain ⟨⟨m, hm⟩, h2, h3, h4⟩ := handCells_spec cs (h ++ [(id, 0, none)]) (hd.push hn)
    refine ⟨⟨(id, 0, none) :: m, by simpa using hm⟩, h2, by simp [h3], fun j hj => ?_⟩
    cases j with
    | zero => exact .inr (.inl ⟨id, e, h.length, rfl, rfl, by dsimp only; rw [hm]; simp⟩)
    | succ j => simpa using h4 j (by simpa using hj)
  ·rename_i hna
   obtain ⟨hm, h2, h3, h4⟩ := handCells_spec cs h hd
   refine ⟨hm, h2, by simp [h3], fun j hj => ?_⟩
   cases j with
   | zero => exact .inr (.inr ⟨fun id e he => hna id e he, rfl⟩)
   | succ j => simpa using h4 j (by simpa using hj)
def PieceOver (h : Hand) : Blk -> Blk -> Prop
 | .cells e cs fz, p => ∃ cs', p = .cells e cs' fz ∧ cs'.length = cs.length ∧ ∀ j, j < cs.length -> Over h (cs.getD j .undef) (cs'.getD j .undef)
 | .vec e es fz, p => p = .vec e es fz
 | .mp _ _ _ _, _ => False
theorem PieceOver.more {h m : Hand} {k p : Blk} (hh : PieceOver h k p) : PieceOver (h ++ m) k p := by
 cases k with
 | cells e cs fz => obtain ⟨cs', h1, h2, h3⟩ := hh; exact ⟨cs', h1, h2, fun j hj => (h3 j hj).more⟩
 | vec e es fz => exact hh
 | mp kt et es fz => exact hh
theorem pieceOf_mp {pg : Pg} {f : FuncId} {bl : List (Nat × Blk)} {x : Nat × Nat × Option TypeId} {kt et : TypeId} {es : List (V × V)} {fz : Bool} (h : pieceOf pg f bl x = some (.mp kt et es fz)) : False := by
 unfold pieceOf at h
 split at h
 ·split at h
  ·cases h
  ·obtain ⟨_, h⟩ := condL_some h; cases h
 ·obtain ⟨_, h⟩ := condL_some h; cases h
 ·obtain ⟨_, h⟩ := condL_some h; cases h
 ·cases h
 ·cases h
theorem pieces_spec (pg : Pg) {f : FuncId} {bl : List (Nat × Blk)} : ∀ {n i : Nat} {h h' : Hand} {ps : List Blk}, pieces pg f bl n i h = some (ps, h') -> Distinct h -> i <= h.length ->
  (∃ m, h' = h ++ m) ∧ Distinct h' ∧ i + ps.length = h'.length ∧ ∀ j, j < ps.length -> ∃ x raw p, h'[i + j]? = some x ∧ pieceOf pg f bl x = some raw ∧ ps[j]? = some p ∧ PieceOver h' raw p
 | 0, i, h, h', ps, hp, hd, hi => by cases hp
 | n + 1, i, h, h', ps, hp, hd, hi => by
  unfold pieces at hp
  split at hp
  ·rename_i hn
   cases hp
   have : i = h.length := by
    have := List.getElem?_eq_none_iff.1 hn
    omega
   exact ⟨⟨[], by simp⟩, hd, by simp [this], fun j hj => absurd hj (Nat.not_lt_zero _)⟩
  ·rename_i x hx
   have hlt : i < h.length := (List.getElem?_eq_some_iff.1 hx).1
   split at hp
   ·rename_i e cs fz hpc
    dsimp only at hp
    obtain ⟨⟨m, hm⟩, hd2, hl2, ho⟩ := handCells_spec cs h hd
    split at hp
    ·rename_i l h1 hr
     cases hp
     obtain ⟨⟨m2, hm2⟩, h2, h3, h4⟩ := pieces_spec pg hr hd2 (by rw [hm]; simp; omega)
     refine ⟨⟨m ++ m2, by rw [hm2, hm]; simp⟩, h2, by simp; omega, fun j hj => ?_⟩
     cases j with
     | zero => exact ⟨x, _, _, by rw [hm2, hm, List.append_assoc, Nat.add_zero, List.getElem?_append_left hlt]; exact hx, hpc, rfl, _, rfl, hl2, fun j hj => by rw [hm2]; exact (ho j hj).more⟩
     | succ j =>
      obtain ⟨y, raw, p, h5, h6, h7, h8⟩ := h4 j (by simpa using hj)
      exact ⟨y, raw, p, by rw [show i + (j + 1) = i + 1 + j by omega]; exact h5, h6, by simpa using h7, h8⟩
    ·cases hp
   ·rename_i b hnc hpc
    split at hp
    ·rename_i l h1 hr
     cases hp
     obtain ⟨⟨m2, hm2⟩, h2, h3, h4⟩ := pieces_spec pg hr hd (by omega)
     refine ⟨⟨m2, hm2⟩, h2, by simp; omega, fun j hj => ?_⟩
     cases j with
     | zero =>
      refine ⟨x, b, b, by rw [hm2, Nat.add_zero, List.getElem?_append_left hlt]; exact hx, hpc, rfl, ?_⟩
      cases b with
      | cells e cs fz => exact (hnc e cs fz rfl).elim
      | vec e es fz => rfl
      | mp kt et es fz => exact (pieceOf_mp hpc).elim
     | succ j =>
      obtain ⟨y, raw, p, h5, h6, h7, h8⟩ := h4 j (by simpa using hj)
      exact ⟨y, raw, p, by rw [show i + (j + 1) = i + 1 + j by omega]; exact h5, h6, by simpa using h7, h8⟩
    ·cases hp
   ·cases hp
section
variable {R : Type} {r : R} {pg : Pg} {c : Cx} {own : Own} {live : Nat -> Prop} {g : Nat -> Option Blk} {bl : List (Nat × Blk)} {dead : List Nat}
theorem canBlks_more {bd : Bool} {N : Nat} {ks ks' : List Blk} {gv gv2 : Gv} {Q : List (Value × TypeId × Nat) -> Prop} (hI : Inv pg c own g live) (hlive : ∀ t r, c.row t = some r -> dead.contains t = false -> live t) (hl : ks.length <= N)
  (hks : ∀ (i : Nat) (k : Blk), ks[i]? = some k -> g i = some k) (hdom : ∀ (i : Nat) r, i < N -> c.blk i = some r -> i < ks.length)
  (h : canBlks pg bd (List.range N) dead ks ⟨0, []⟩ = some (ks', gv))
  (hmore : ∀ tags recs, GvOk c live gv tags recs -> ∃ tags2 recs2, GvOk c live gv2 (tags ++ tags2) (recs ++ recs2) ∧ Q (recs ++ recs2)) :
  ∃ tags recs, GvOk c live gv2 tags recs ∧ Q recs ∧ ks'.length = ks.length ∧ (∀ (j : Nat) (k k' : Blk), ks[j]? = some k -> ks'[j]? = some k' -> k'.num = k.num ∧ k'.len pg.P = k.len pg.P ∧ k'.fz = k.fz ∧ ∀ w b o, Lies pg.P w b o k -> Lies pg.P w b o k') ∧
   Inv pg (c.cut (List.range N) (fun p => recs[p]?)) (own.retag (List.range N) tags) (fun i => ks'[i]?) (fun p => p < gv2.n) := by
 have hat : ∀ (i : Nat) (k : Blk), ks[i]? = some k -> ∃ b o, c.blk i = some (b, o, k.num) ∧ BRep pg.P c own i k b o := fun i k hi => hI.blk i k (hks i k hi)
 have hlt : ∀ (i : Nat) (k : Blk), ks[i]? = some k -> i < ks.length := fun i k hi => (List.getElem?_eq_some_iff.1 hi).1
 obtain ⟨tags0, recs0, hG0, hl2, hm2, hr2⟩ := canBlks_sound hlive h (GvOk.start c live) (pos := (List.range ks.length).map fun i => match c.blk i with | some (b, o, _) => (b, o) | none => (0, 0)) (fun j k q h1 h2 => by
  rw [List.getElem?_map] at h2
  obtain ⟨id, h3, rfl⟩ := Option.map_eq_some_iff.1 h2
  rw [List.getElem?_range (hlt j k h1)] at h3
  cases h3
  obtain ⟨b, o, h4, h5⟩ := hat j k h1
  rw [h4]; exact h5.cells) (by simp)
 simp only [List.nil_append] at hG0 hr2
 obtain ⟨tags2, recs2, hG, hQ⟩ := hmore tags0 recs0 hG0
 have htold : Told recs0 (fun p => (recs0 ++ recs2)[p]?) := Told.left (b := recs2) fun p q h => h
 generalize tags0 ++ tags2 = tags at *
 generalize recs0 ++ recs2 = recs at *
 refine ⟨tags, recs, hG, hQ, hl2, hm2, ⟨fun i k' hk' => ?_, fun p hp => ?_, fun b x hp => ⟨Own.retag_none (hI.np b x hp).1, (hI.np b x hp).2⟩, fun b x hn => hI.fresh b x fun h => hn (Own.retag_none h), fun i r hr => ?_, fun i cs hg => hI.gl i cs hg⟩⟩
 ·have hi : i < ks.length := by
   have h1 : ks'[i]? = some k' := hk'
   have := (List.getElem?_eq_some_iff.1 h1).1
   omega
  obtain ⟨b, o, h5, h6⟩ := hat i ks[i] (List.getElem?_eq_getElem hi)
  obtain ⟨e1, e2, e3, e4⟩ := hm2 i ks[i] k' (List.getElem?_eq_getElem hi) hk'
  have hid : i ∈ List.range N := by simp; omega
  refine ⟨b, o, ?_, ?_, fun hf => ?_, fun hf x hx => ?_⟩
  ·show (if _ then _ else _) = _
   rw [if_pos (by simp; omega), h5, e1]
  ·refine hr2 _ htold i k' (b, o) hk' ?_
   rw [List.getElem?_map, List.getElem?_range hi]
   simp [h5]
  ·obtain ⟨h7, h8⟩ := h6.opn (by rw [<- e3]; exact hf)
   rw [e2]
   exact ⟨e4 _ _ _ h7, fun x hx => Own.retag_blk (h8 x hx) hid⟩
  ·exact h6.shut (by rw [<- e3]; exact hf) x (by rw [<- e2]; exact hx)
 ·have htl : p < tags.length := by rw [hG.tl]; exact hp
  cases htag : tags[p]? with
  | none => rw [List.getElem?_eq_getElem htl] at htag; cases htag
  | some tag =>
   cases tag with
   | none =>
    obtain ⟨e, h1⟩ := hG.nil p htag
    rcases h1 with h1 | ⟨eI, h1⟩
    ·exact .inl ⟨_, e, 0, [], h1, World.ownsRow_nil _ _ _ _, fun b hb => by cases hb⟩
    ·exact .inr ⟨_, [], e, eI, h1, .inl ⟨rfl, rfl⟩⟩
   | some t =>
    obtain ⟨h1, _, h2⟩ := hG.old p t htag
    rcases hI.row t h2 with ⟨v, e, n, xs, h3, h4, h5⟩ | ⟨x, ps, eO, eI, h3, h4⟩
    rotate_left
    ·exact .inr ⟨x, ps, eO, eI, by rw [<- h3]; exact h1, h4.to (fun b o _ hh => hh) fun b y h => Own.retag_row hG h htag⟩
    exact .inl ⟨v, e, n, xs, by rw [<- h3]; exact h1, h4, fun b hb x => ⟨fun hx => Own.retag_row hG ((h5 b hb x).1 hx) htag, (h5 b hb x).2⟩⟩
 ·left
  have h1 : (if (List.range N).contains i then c.blk i else none) = some r := hr
  split at h1
  ·rename_i hc
   have hi : i < ks'.length := by rw [hl2]; exact hdom i r (by simpa using hc) h1
   exact ⟨_, List.getElem?_eq_getElem hi⟩
  ·cases h1
theorem canBlks_inv {bd : Bool} {N : Nat} {ks ks' : List Blk} {gv : Gv} (hI : Inv pg c own g live) (hlive : ∀ t r, c.row t = some r -> dead.contains t = false -> live t) (hl : ks.length <= N)
  (hks : ∀ (i : Nat) (k : Blk), ks[i]? = some k -> g i = some k) (hdom : ∀ (i : Nat) r, i < N -> c.blk i = some r -> i < ks.length)
  (h : canBlks pg bd (List.range N) dead ks ⟨0, []⟩ = some (ks', gv)) :
  ∃ tags recs, GvOk c live gv tags recs ∧ ks'.length = ks.length ∧ (∀ (j : Nat) (k k' : Blk), ks[j]? = some k -> ks'[j]? = some k' -> k'.num = k.num ∧ k'.len pg.P = k.len pg.P ∧ k'.fz = k.fz ∧ ∀ w b o, Lies pg.P w b o k -> Lies pg.P w b o k') ∧
   Inv pg (c.cut (List.range N) (fun p => recs[p]?)) (own.retag (List.range N) tags) (fun i => ks'[i]?) (fun p => p < gv.n) := by
 obtain ⟨tags, recs, h1, _, h2, h3, h4⟩ := canBlks_more (Q := fun _ => True) hI hlive hl hks hdom h fun tags recs hG => ⟨[], [], by simpa using hG, trivial⟩
 exact ⟨tags, recs, h1, h2, h3, h4⟩
def PartOf (k raw : Blk) (off : Nat) (ty : Option TypeId) : Prop :=
 (raw = k ∧ off = 0) ∨ (ty ≠ none ∧ ∃ e t cs n fz, k = .cells e cs fz ∧ raw = .cells t ((cs.drop off).take n) fz ∧ off + n <= cs.length)
theorem pieceOf_part {f : FuncId} {x : Nat × Nat × Option TypeId} {raw : Blk} (h : pieceOf pg f bl x = some raw) : ∃ k, getB bl x.1 = some k ∧ PartOf k raw x.2.1 x.2.2 := by
 unfold pieceOf at h
 split at h
 ·rename_i e cs fz t hg ht
  split at h
  ·cases h
  ·obtain ⟨hc, h1⟩ := condL_some h
   cases h1
   refine ⟨_, hg, .inr ⟨by rw [ht]; nofun, e, t, cs, preN pg f t, fz, rfl, rfl, by simpa using hc⟩⟩
 ·rename_i e cs fz hg ht
  obtain ⟨hc, h1⟩ := condL_some h
  cases h1
  exact ⟨_, hg, .inl ⟨rfl, by simpa using hc⟩⟩
 ·rename_i e es fz hg
  obtain ⟨hc, h1⟩ := condL_some h
  cases h1
  exact ⟨_, hg, .inl ⟨rfl, by simpa using hc⟩⟩
 ·cases h
 ·cases h
theorem take_drop_get {cs : List V} {off n j : Nat} (hl : off + n <= cs.length) (hj : j < n) : ((cs.drop off).take n).getD j .undef = cs.getD (off + j) .undef := by
 simp [List.getD, List.getElem?_take, hj, List.getElem?_drop]
theorem PartOf.len {P : Program} {k raw : Blk} {off : Nat} {ty : Option TypeId} (h : PartOf k raw off ty) : off + raw.len P <= k.len P := by
 rcases h with ⟨rfl, rfl⟩ | ⟨_, e, t, cs, n, fz, rfl, rfl, hl⟩
 ·simp
 ·simp [Blk.len]; omega
theorem PartOf.fz {k raw : Blk} {off : Nat} {ty : Option TypeId} (h : PartOf k raw off ty) : raw.fz = k.fz := by
 rcases h with ⟨rfl, rfl⟩ | ⟨_, e, t, cs, n, fz, rfl, rfl, hl⟩ <;> rfl
theorem PartOf.notMp {k raw : Blk} {off : Nat} {ty : Option TypeId} (h : PartOf k raw off ty) (hm : raw.isMp = false) : k.isMp = false := by
 rcases h with ⟨rfl, rfl⟩ | ⟨_, e, t, cs, n, fz, rfl, rfl, hl⟩
 ·exact hm
 ·rfl
theorem PartOf.cells {P : Program} {k raw : Blk} {off : Nat} {ty : Option TypeId} (h : PartOf k raw off ty) {b o : Nat} (hC : CellsRep P c b o k) : CellsRep P c b (o + off) raw := by
 rcases h with ⟨rfl, rfl⟩ | ⟨_, e, t, cs, n, fz, rfl, rfl, hl⟩
 ·exact hC
 ·intro j hj
  have hj' : j < n := by simp at hj; omega
  rw [take_drop_get hl hj']
  have := hC (off + j) (by omega)
  rw [<- Nat.add_assoc] at this
  exact this
theorem Over.rep {P : Program} {h : Hand} {v v' : V} {c1 : Cx} {x : Value} (ho : Over h v v') (hx : VRep P c v x) (hw : c1.w = c.w) (hp : c1.prot = c.prot) (hr : c1.row = c.row)
  (hpos : ∀ id i q, h[i]? = some (id, 0, none) -> c.blk id = some q -> c1.blk i = some q) : VRep P c1 v' x := by
 rcases ho with rfl | ⟨id, e, i, rfl, rfl, hi⟩ | ⟨hna, rfl⟩
 ·exact .undef _
 ·obtain ⟨b, o, n, cap, h1, rfl, h2⟩ := hx.arr_inv'
  exact .arr e cap (hpos id i _ hi h1) h2
 ·by_cases hrow : ∃ t e es, v = .sl (.row t) e es
  ·obtain ⟨t, e, es, rfl⟩ := hrow
   show VRep P c1 (.sl (.row t) e es) x
   cases hx with
   | pure hp2 => cases hp2 with | sl f b o ht hb hl hc hr => exact ht.elim
   | row hp2 hr2 hn => exact .row (by rw [hw, hp]; exact hp2) (by rw [hr]; exact hr2) hn
  ·by_cases hfr : ∃ t ps, v = .fr t ps
   ·obtain ⟨t, ps, rfl⟩ := hfr
    obtain ⟨eO, eI, h1, h2⟩ := hx.fr_inv
    exact .fr (by rw [hr]; exact h1) h2
   refine (border_sound hx).over (border_idem v) hw hp (fun id e he => ?_) (fun t e es he => ?_) (fun t ps he => ?_)
   ·cases v with
    | arr id2 e2 => exact hna _ _ rfl
    | fn f cap => cases cap <;> cases he
    | iface t v => cases v <;> cases he
    | _ => cases he
   ·cases v with
    | sl tok e2 es2 => cases he; exact hrow ⟨_, _, _, rfl⟩
    | fn f cap => cases cap <;> cases he
    | iface t v => cases v <;> cases he
    | _ => cases he
   ·cases v with
    | fr t ps => exact hfr ⟨_, _, rfl⟩
    | fn f cap => cases cap <;> cases he
    | iface t v => cases v <;> cases he
    | _ => cases he
theorem Over.ne {h : Hand} {v v' : V} (ho : Over h v v') (hn : v' ≠ .undef) : v ≠ .undef := by
 rintro rfl
 rcases ho with rfl | ⟨id, e, i, h1, _⟩ | ⟨_, rfl⟩
 ·exact hn rfl
 ·cases h1
 ·exact hn rfl
theorem PieceOver.num {h : Hand} {k p : Blk} (ho : PieceOver h k p) : p.num = k.num ∧ (∀ P, p.len P = k.len P) ∧ p.fz = k.fz := by
 cases k with
 | cells e cs fz => obtain ⟨cs', rfl, hl, _⟩ := ho; exact ⟨hl, fun _ => hl, rfl⟩
 | vec e es fz => cases ho; exact ⟨rfl, fun _ => rfl, rfl⟩
 | mp kt et es fz => exact ho.elim
theorem PieceOver.notMp {h : Hand} {k p : Blk} (ho : PieceOver h k p) : k.isMp = false ∧ p.isMp = false := by
 cases k with
 | cells e cs fz => obtain ⟨cs', rfl, hl, _⟩ := ho; exact ⟨rfl, rfl⟩
 | vec e es fz => cases ho; exact ⟨rfl, rfl⟩
 | mp kt et es fz => exact ho.elim
theorem PieceOver.cells {P : Program} {h : Hand} {k p : Blk} {c1 : Cx} {b o : Nat} (ho : PieceOver h k p) (hC : CellsRep P c b o k) (hw : c1.w = c.w) (hp : c1.prot = c.prot) (hr : c1.row = c.row)
  (hpos : ∀ id i q, h[i]? = some (id, 0, none) -> c.blk id = some q -> c1.blk i = some q) : CellsRep P c1 b o p := by
 cases k with
 | cells e cs fz =>
  obtain ⟨cs', rfl, hl, hj⟩ := ho
  intro j hjl
  have hjl' : j < cs.length := by omega
  obtain ⟨x, h1, h2, h3⟩ := hC j hjl'
  exact ⟨x, by rw [hw]; exact h1, fun hn => h2 ((hj j hjl').ne hn), (hj j hjl').rep h3 hw hp hr hpos⟩
 | vec e es fz =>
  cases ho
  intro i hi
  refine ⟨(hC i hi).1, fun j hj => ?_⟩
  obtain ⟨x, h1, h2, h3⟩ := (hC i hi).2 j hj
  exact ⟨x, by rw [hw]; exact h1, h2, by rw [hw, hp]; exact h3⟩
 | mp kt et es fz => exact ho.elim
def posOf (c : Cx) (h : Hand) (ps : List Blk) (i : Nat) : Option (Nat × Nat × Nat) :=
 match h[i]?, ps[i]? with
 | some x, some p => (match c.blk x.1 with | some q => some (q.1, q.2.1 + x.2.1, p.num) | none => none)
 | _, _ => none
theorem posOf_at {h : Hand} {ps : List Blk} {i : Nat} {x : Nat × Nat × Option TypeId} {p : Blk} {q : Nat × Nat × Nat} (h1 : h[i]? = some x) (h2 : ps[i]? = some p) (h3 : c.blk x.1 = some q) : posOf c h ps i = some (q.1, q.2.1 + x.2.1, p.num) := by
 unfold posOf; rw [h1, h2]; simp [h3]
def InP (P : Program) (c : Cx) (h : Hand) (ps : List Blk) (id i b x : Nat) : Prop :=
 ∃ y p q, h[i]? = some y ∧ y.1 = id ∧ ps[i]? = some p ∧ c.blk id = some q ∧ q.1 = b ∧ q.2.1 + y.2.1 <= x ∧ x < q.2.1 + y.2.1 + p.len P
open Classical in
noncomputable def Own.hand (own : Own) (P : Program) (c : Cx) (h : Hand) (ps : List Blk) : Own := fun b x =>
 match own b x with
 | some (false, id) => if hx : ∃ i, InP P c h ps id i b x then some (false, Classical.choose hx) else none
 | o => o
theorem Own.hand_none {P : Program} {h : Hand} {ps : List Blk} {b x : Nat} (ho : own b x = none) : own.hand P c h ps b x = none := by unfold Own.hand; rw [ho]
theorem Own.hand_row {P : Program} {h : Hand} {ps : List Blk} {b x t : Nat} (ho : own b x = some (true, t)) : own.hand P c h ps b x = some (true, t) := by unfold Own.hand; rw [ho]
theorem Own.hand_blk {P : Program} {h : Hand} {ps : List Blk} {b x id i : Nat} (hd : Distinct h) (ho : own b x = some (false, id)) (hi : InP P c h ps id i b x) : own.hand P c h ps b x = some (false, i) := by
 unfold Own.hand
 rw [ho]
 have hex : ∃ i, InP P c h ps id i b x := ⟨i, hi⟩
 simp only [hex, dif_pos]
 obtain ⟨y, p, q, h1, h2, _⟩ := Classical.choose_spec hex
 obtain ⟨y', p', q', h1', h2', _⟩ := hi
 rw [hd _ _ y y' h1 h1' (by rw [h2, h2'])]
theorem Own.hand_out {P : Program} {h : Hand} {ps : List Blk} {b x id : Nat} (ho : own b x = some (false, id)) (hi : ∀ i, ¬ InP P c h ps id i b x) : own.hand P c h ps b x = none := by
 unfold Own.hand
 rw [ho]
 have hex : ¬ ∃ i, InP P c h ps id i b x := fun ⟨i, hh⟩ => hi i hh
 simp only [hex, dif_neg, not_false_eq_true]
def PiecesOk (pg : Pg) (bl : List (Nat × Blk)) (h : Hand) (ps : List Blk) : Prop :=
 ps.length = h.length ∧ ∀ j, j < ps.length -> ∃ x k raw p, h[j]? = some x ∧ getB bl x.1 = some k ∧ PartOf k raw x.2.1 x.2.2 ∧ ps[j]? = some p ∧ PieceOver h raw p
theorem piecesOk {f : FuncId} {n : Nat} {h0 h : Hand} {ps : List Blk} (hp : pieces pg f bl n 0 h0 = some (ps, h)) (hd : Distinct h0) : PiecesOk pg bl h ps ∧ Distinct h ∧ ∃ m, h = h0 ++ m := by
 obtain ⟨hm, h1, h2, h3⟩ := pieces_spec pg hp hd (Nat.zero_le _)
 refine ⟨⟨by omega, fun j hj => ?_⟩, h1, hm⟩
 obtain ⟨x, raw, p, h4, h5, h6, h7⟩ := h3 j hj
 obtain ⟨k, h8, h9⟩ := pieceOf_part h5
 exact ⟨x, k, raw, p, by simpa using h4, h8, h9, h6, h7⟩
def Cx.hand (c : Cx) (h : Hand) (ps : List Blk) : Cx := { c with blk := posOf c h ps, out := fun _ => False }
theorem PiecesOk.full (hI : Inv pg c own (getB bl) live) {h : Hand} {ps : List Blk} (hP : PiecesOk pg bl h ps) : ∀ id i q, h[i]? = some (id, 0, none) -> c.blk id = some q -> posOf c h ps i = some q := by
 intro id i q h1 h2
 have hi : i < ps.length := by rw [hP.1]; exact (List.getElem?_eq_some_iff.1 h1).1
 obtain ⟨x, k, raw, p, h3, h4, h5, h6, h7⟩ := hP.2 i hi
 rw [h1] at h3
 cases h3
 rw [posOf_at h1 h6 h2]
 obtain ⟨b, o, n⟩ := q
 obtain ⟨rfl, _⟩ := hI.at h4 h2
 rcases h5 with ⟨rfl, _⟩ | ⟨hn, _⟩
 ·rw [h7.num.1]; rfl
 ·exact absurd rfl hn
theorem Inv.hand (hI : Inv pg c own (getB bl) live) {h : Hand} {ps : List Blk} (hP : PiecesOk pg bl h ps) (hd : Distinct h) : Inv pg (c.hand h ps) (own.hand pg.P c h ps) (fun i => ps[i]?) live := by
 refine ⟨fun i p hi => ?_, fun t ht => ?_, fun b x hp => ⟨Own.hand_none (hI.np b x hp).1, (hI.np b x hp).2⟩, fun b x hn => hI.fresh b x fun h => hn (Own.hand_none h), fun i r hr => ?_, fun i cs hg => hI.gl i cs hg⟩
 ·have hi' : ps[i]? = some p := hi
  obtain ⟨x, k, raw, p2, h3, h4, h5, h6, h7⟩ := hP.2 i (List.getElem?_eq_some_iff.1 hi').1
  rw [hi'] at h6
  cases h6
  obtain ⟨b, o, h8, h9⟩ := hI.blk _ _ h4
  have hin : ∀ y, y < p.len pg.P -> InP pg.P c h ps x.1 i b (o + x.2.1 + y) := fun y hy => ⟨x, p, _, h3, rfl, hi', h8, rfl, by simp, by simp; omega⟩
  refine ⟨b, o + x.2.1, posOf_at h3 hi' h8, h7.cells (h5.cells h9.cells) rfl rfl rfl (hP.full hI), fun hf => ?_, fun hf y hy => ?_⟩
  ·obtain ⟨h1011, h12⟩ := h9.opn (by rw [<- h5.fz, <- h7.num.2.2]; exact hf)
   obtain ⟨arr, e, h10, h11⟩ := h1011.row (h5.notMp h7.notMp.1)
   have hlen := h5.len (P := pg.P)
   have hpl := h7.num.2.1 pg.P
   refine ⟨.of h7.notMp.2 ⟨arr, e, h10, by omega⟩, fun y hy => ?_⟩
   have := h12 (x.2.1 + y) (by omega)
   rw [<- Nat.add_assoc] at this
   exact Own.hand_blk hd this (hin y hy)
  ·have hlen := h5.len (P := pg.P)
   have hpl := h7.num.2.1 pg.P
   have := h9.shut (by rw [<- h5.fz, <- h7.num.2.2]; exact hf) (x.2.1 + y) (by omega)
   rw [<- Nat.add_assoc] at this
   exact this
 ·rcases hI.row t ht with ⟨v, e, n, xs, h1, h2, h3⟩ | ⟨x, ps, eO, eI, h1, h2⟩
  rotate_left
  ·exact .inr ⟨x, ps, eO, eI, h1, h2.to (fun b o _ hh => hh) fun b y h => Own.hand_row h⟩
  exact .inl ⟨v, e, n, xs, h1, h2, fun b hb x => ⟨fun hx => Own.hand_row ((h3 b hb x).1 hx), (h3 b hb x).2⟩⟩
 ·have hr' : posOf c h ps i = some r := hr
  unfold posOf at hr'
  split at hr'
  ·rename_i x p h1 h2; exact .inl ⟨p, h2⟩
  ·cases hr'
end
end Go.Proofs.Ab
namespace Go.Proofs.Ab
open Go
section
variable {R : Type} {r : R} {pg : Pg} {c : Cx} {own : Own} {live : Nat -> Prop} {g : Nat -> Option Blk} {bl : List (Nat × Blk)} {dead : List Nat}
theorem asArr_some {v : V} {i : Nat} {e : TypeId} {k : Option R} (h : v.asArr i e k = some r) : v = .arr i e ∧ k = some r := by
 unfold V.asArr at h
 split at h
 ·obtain ⟨⟨rfl, rfl⟩, h1⟩ := iteL_some h; exact ⟨rfl, h1⟩
 ·cases h
theorem asCells_some {b : Blk} {t : TypeId} {n : Nat} {k : (Nat -> V) -> Option R} (h : b.asCells t n k = some r) : ∃ cs, b = .cells t cs false ∧ cs.length = n ∧ k (fun j => cs.getD j .undef) = some r := by
 unfold Blk.asCells at h
 split at h
 ·obtain ⟨⟨rfl, rfl⟩, h1⟩ := iteL_some h; exact ⟨_, rfl, rfl, h1⟩
 ·cases h
theorem asVec_some {b : Blk} {t : TypeId} {n : Nat} {k : List (List V) -> Option R} (h : b.asVec t n k = some r) : ∃ es, b = .vec t es false ∧ es.length = n ∧ k es = some r := by
 unfold Blk.asVec at h
 split at h
 ·obtain ⟨⟨rfl, rfl⟩, h1⟩ := iteL_some h; exact ⟨_, rfl, rfl, h1⟩
 ·cases h
inductive CellBack (nt : Tmp) (hi : Nat) : V -> V -> V -> Prop
 | row (w : V) {q : Nat} (e : TypeId) (es : List (List V)) (h2 : q < hi) : CellBack nt hi w (.sl (.row q) e es) (.sl (.row (rid nt q)) e es)
 | fr (w : V) {q : Nat} (ps : List (List Int)) (h2 : q < hi) : CellBack nt hi w (.fr q ps) (.fr (rid nt q) ps)
 | arr (i : Nat) (e : TypeId) : CellBack nt hi (.arr i e) (.arr i e) (.arr i e)
 | dec (w : V) {v l : V} (h1 : l = v ∨ ∃ tok e es, v = .sl tok e es ∧ l = .sl .no e es) (h2 : v ≠ .undef) (h3 : ∀ id e, l ≠ .arr id e) (h4 : ∀ t e es, l ≠ .sl (.row t) e es) (h5 : ∀ t ps, l ≠ .fr t ps) : CellBack nt hi w v l
def RowAt (q : Nat) (v : V) : Prop := (∃ e es, v = .sl (.row q) e es) ∨ ∃ ps, v = .fr q ps
theorem CellBack.le {nt : Tmp} {hi hi' : Nat} {w v l : V} (h : CellBack nt hi w v l) (hl : hi <= hi') : CellBack nt hi' w v l := by
 cases h with
 | row w e es h2 => exact .row w e es (by omega)
 | fr w ps h2 => exact .fr w ps (by omega)
 | arr i e => exact .arr i e
 | dec w h1 h2 h3 h4 h5 => exact .dec w h1 h2 h3 h4 h5
theorem backCells_spec {ownl : List Nat} {nt : Tmp} {rd : Nat -> V} : ∀ {ts : List TypeId} {ws : List V} {j p : Nat} {k : List V -> Nat -> Option R}, backCells pg ownl nt rd j ts ws p k = some r ->
  ∃ l p', k l p' = some r ∧ p <= p' ∧ l.length = ws.length ∧ (∀ i, i < ws.length -> CellBack nt p' (ws.getD i .undef) (rd (j + i)) (l.getD i .undef)) ∧
   ∀ q, p <= q -> q < p' -> ∃ i, i < ws.length ∧ RowAt q (rd (j + i))
 | ts, [], j, p, k, h => ⟨[], p, by cases ts <;> exact h, Nat.le_refl _, rfl, fun i hi => absurd hi (Nat.not_lt_zero _), fun q h1 h2 => by omega⟩
 | [], _ :: _, j, p, k, h => by cases h
 | t :: ts, w :: ws, j, p, k, h => by
  unfold backCells at h
  have fin : ∀ {v0 : V} {p0 : Nat} {k0 : List V -> Nat -> Option R}, backCells pg ownl nt rd (j + 1) ts ws p0 k0 = some r -> p <= p0 -> (∀ l p', k0 l p' = k (v0 :: l) p') -> (∀ p', p0 <= p' -> CellBack nt p' w (rd j) v0) ->
    (∀ q, p <= q -> q < p0 -> RowAt q (rd j)) ->
    ∃ l p', k l p' = some r ∧ p <= p' ∧ l.length = (w :: ws).length ∧ (∀ i, i < (w :: ws).length -> CellBack nt p' ((w :: ws).getD i .undef) (rd (j + i)) (l.getD i .undef)) ∧
     ∀ q, p <= q -> q < p' -> ∃ i, i < (w :: ws).length ∧ RowAt q (rd (j + i)) := by
   intro v0 p0 k0 h0 hp hk hc hq
   obtain ⟨l, p', h1, h2, h3, h4, h5⟩ := backCells_spec h0
   refine ⟨v0 :: l, p', by rw [<- hk]; exact h1, by omega, by simp [h3], fun i hi => ?_, fun q hq1 hq2 => ?_⟩
   ·cases i with
    | zero => exact hc p' h2
    | succ i =>
     have := h4 i (by simpa using hi)
     rw [show j + (i + 1) = j + 1 + i by omega]
     simpa using this
   ·rcases Nat.lt_or_ge q p0 with hlt | hge
    ·exact ⟨0, by simp, by simpa using hq q hq1 hlt⟩
    ·obtain ⟨i, h6, h7⟩ := h5 q hge hq2
     exact ⟨i + 1, by simpa using h6, by rw [show j + (i + 1) = j + 1 + i by omega]; exact h7⟩
  rcases cond_some h with ⟨ho, h1⟩ | ⟨ho, h1⟩
  ·split at h1
   ·rename_i e hu
    rcases cond_some h1 with ⟨_, h1⟩ | ⟨_, h1⟩
    ·obtain ⟨ps, h2, h3⟩ := asFr_some h1
     refine fin h3 (by omega) (fun l p' => rfl) (fun p' hp' => ?_) (fun q hq1 hq2 => ?_)
     ·rw [h2]; exact .fr w ps (by omega)
     ·have : q = p := by omega
      subst this
      exact .inr ⟨ps, h2⟩
    ·obtain ⟨es, h2, h3⟩ := asSlR_some h1
     refine fin h3 (by omega) (fun l p' => rfl) (fun p' hp' => ?_) (fun q hq1 hq2 => ?_)
     ·rw [h2]; exact .row w e es (by omega)
     ·have : q = p := by omega
      subst this
      exact .inl ⟨e, es, h2⟩
   ·cases h1
  ·split at h1
   ·rename_i i e
    obtain ⟨h2, h3⟩ := asArr_some h1
    refine fin h3 (Nat.le_refl _) (fun l p' => rfl) (fun p' hp' => ?_) (fun q hq1 hq2 => by omega)
    rw [h2]; exact .arr i e
   ·obtain ⟨v', h2, h3, _, h4, h5, h6, h7⟩ := dec1_form' h1
    exact fin h2 (Nat.le_refl _) (fun l p' => rfl) (fun p' hp' => .dec w h4 h3 h5 h6 h7) (fun q hq1 hq2 => by omega)
def PieceBack (nt : Tmp) (hi : Nat) (h : Hand) (off : Nat) (w b old new : Blk) : Prop :=
 (∃ (t : TypeId) (cs cs' l : List V) (e : TypeId) (ocs : List V) (fz : Bool), w = .cells t cs false ∧ b = .cells t cs' false ∧ cs'.length = cs.length ∧ l.length = cs.length ∧ old = .cells e ocs fz ∧ new = .cells e (setAt ocs off (l.map (unhand h))) fz ∧
  ∀ i, i < cs.length -> CellBack nt hi (cs.getD i .undef) (cs'.getD i .undef) (l.getD i .undef)) ∨
 (∃ (e : TypeId) (es es' : List (List V)), w = .vec e es false ∧ b = .vec e es' false ∧ es'.length = es.length ∧ new = .vec e es' false)
theorem PieceBack.le {nt : Tmp} {hi hi' : Nat} {h : Hand} {off : Nat} {w b old new : Blk} (hb : PieceBack nt hi h off w b old new) (hl : hi <= hi') : PieceBack nt hi' h off w b old new := by
 rcases hb with ⟨t, cs, cs', l, e, ocs, fz, h1, h2, h3, h4, h5, h6, h7⟩ | hb
 ·exact .inl ⟨t, cs, cs', l, e, ocs, fz, h1, h2, h3, h4, h5, h6, fun i hi => (h7 i hi).le hl⟩
 ·exact .inr hb
theorem backAll_spec {nt : Tmp} {h : Hand} {bs : List Blk} : ∀ {xs : List (Nat × Nat × Option TypeId)} {ws : List Blk} {i : Nat} {bl : List (Nat × Blk)} {p : Nat} {k : List (Nat × Blk) -> Nat -> Option R}, backAll pg nt h bs i xs ws bl p k = some r ->
  (∀ (a b : Nat) x y, xs[a]? = some x -> xs[b]? = some y -> x.1 = y.1 -> a = b) ->
  ∃ bl' p', k bl' p' = some r ∧ p <= p' ∧ xs.length = ws.length ∧ (∀ id, (∀ x ∈ xs, x.1 ≠ id) -> getB bl' id = getB bl id) ∧
   (∀ (j : Nat) x w, xs[j]? = some x -> ws[j]? = some w -> ∃ b new, bs[i + j]? = some b ∧ getB bl' x.1 = some new ∧ ∀ old, getB bl x.1 = some old -> PieceBack nt p' h x.2.1 w b old new) ∧
   ∀ q, p <= q -> q < p' -> ∃ j t cs n, j < xs.length ∧ bs[i + j]? = some (.cells t cs false) ∧ n < cs.length ∧ RowAt q (cs.getD n .undef)
 | [], [], i, bl, p, k, hh, hd => ⟨bl, p, hh, Nat.le_refl _, rfl, fun _ _ => rfl, fun j x w h => by simp at h, fun q h1 h2 => by omega⟩
 | [], _ :: _, i, bl, p, k, hh, hd => by cases hh
 | _ :: _, [], i, bl, p, k, hh, hd => by cases hh
 | x :: xs, w :: ws, i, bl, p, k, hh, hd => by
  unfold backAll at hh
  have hd' : ∀ (a b : Nat) y z, xs[a]? = some y -> xs[b]? = some z -> y.1 = z.1 -> a = b := fun a b y z h1 h2 h3 => by
   have := hd (a + 1) (b + 1) y z (by simpa using h1) (by simpa using h2) h3
   omega
  have hne : ∀ y ∈ xs, y.1 ≠ x.1 := fun y hy he => by
   obtain ⟨a, h1⟩ := List.mem_iff_getElem?.1 hy
   have := hd 0 (a + 1) x y rfl (by simpa using h1) he.symm
   omega
  have bget : ∀ (b : Blk), bs.getD i (.cells 0 [] true) = b -> b.fz = false -> bs[i]? = some b := fun b hb hf => by
   unfold List.getD at hb
   cases hg : bs[i]? with
   | none => rw [hg] at hb; subst hb; cases hf
   | some b' => rw [hg] at hb; simp at hb; rw [hb]
  have fin : ∀ {new b : Blk} {p0 : Nat}, backAll pg nt h bs (i + 1) xs ws (setB bl x.1 new) p0 k = some r -> p <= p0 -> bs[i]? = some b -> (∀ old, getB bl x.1 = some old -> PieceBack nt p0 h x.2.1 w b old new) ->
    (∀ q, p <= q -> q < p0 -> ∃ t cs n, b = .cells t cs false ∧ n < cs.length ∧ RowAt q (cs.getD n .undef)) ->
    ∃ bl' p', k bl' p' = some r ∧ p <= p' ∧ (x :: xs).length = (w :: ws).length ∧ (∀ id, (∀ y ∈ (x :: xs), y.1 ≠ id) -> getB bl' id = getB bl id) ∧
     (∀ (j : Nat) y v, (x :: xs)[j]? = some y -> (w :: ws)[j]? = some v -> ∃ b new, bs[i + j]? = some b ∧ getB bl' y.1 = some new ∧ ∀ old, getB bl y.1 = some old -> PieceBack nt p' h y.2.1 v b old new) ∧
     ∀ q, p <= q -> q < p' -> ∃ j t cs n, j < (x :: xs).length ∧ bs[i + j]? = some (.cells t cs false) ∧ n < cs.length ∧ RowAt q (cs.getD n .undef) := by
   intro new b p0 h0 hp hb hpb hq
   obtain ⟨bl', p', h1, h2, h3, h4, h5, h6⟩ := backAll_spec h0 hd'
   refine ⟨bl', p', h1, by omega, by simp [h3], fun id hid => ?_, fun j y v hy hv => ?_, fun q hq1 hq2 => ?_⟩
   ·rw [h4 id fun y hy => hid y (List.mem_cons_of_mem _ hy), getB_setB, if_neg]
    exact fun he => hid x (List.mem_cons_self ..) he.symm
   ·cases j with
    | zero =>
     simp at hy hv
     subst hy; subst hv
     refine ⟨b, new, hb, ?_, fun old ho => (hpb old ho).le h2⟩
     rw [h4 x.1 hne, getB_setB, if_pos rfl]
    | succ j =>
     obtain ⟨b2, new2, h7, h8, h9⟩ := h5 j y v (by simpa using hy) (by simpa using hv)
     refine ⟨b2, new2, by rw [show i + (j + 1) = i + 1 + j by omega]; exact h7, h8, fun old ho => h9 old ?_⟩
     rw [getB_setB, if_neg (hne y (List.mem_of_getElem? (by simpa using hy)))]
     exact ho
   ·rcases Nat.lt_or_ge q p0 with hlt | hge
    ·obtain ⟨t, cs, n, h6, h7, h8⟩ := hq q hq1 hlt
     exact ⟨0, t, cs, n, by simp, by rw [Nat.add_zero, hb, h6], h7, h8⟩
    ·obtain ⟨j, t, cs, n, h7, h8, h9, h10⟩ := h6 q hge hq2
     exact ⟨j + 1, t, cs, n, by simpa using h7, by rw [show i + (j + 1) = i + 1 + j by omega]; exact h8, h9, h10⟩
  split at hh
  ·rename_i t cs fz
   obtain ⟨hfz, h1⟩ := condR_some hh
   subst hfz
   obtain ⟨cs', h2, h3, h4⟩ := asCells_some h1
   obtain ⟨l, p0, h5, h6, h7, h8, h9⟩ := backCells_spec h4
   split at h5
   ·rename_i e ocs fz ho
    refine fin h5 h6 (bget _ h2 rfl) (fun old hold => ?_) (fun q hq1 hq2 => ?_)
    ·rw [ho] at hold
     cases hold
     exact .inl ⟨t, cs, cs', l, e, ocs, fz, rfl, rfl, h3, h7, rfl, rfl, fun i hi => by simpa using h8 i hi⟩
    ·obtain ⟨n, h10, h11⟩ := h9 q hq1 hq2
     exact ⟨t, cs', n, rfl, by omega, by simpa using h11⟩
   ·cases h5
  ·rename_i e es fz
   obtain ⟨hfz, h1⟩ := condR_some hh
   subst hfz
   obtain ⟨es', h2, h3, h4⟩ := asVec_some h1
   exact fin h4 (Nat.le_refl _) (bget _ h2 rfl) (fun old hold => .inr ⟨e, es, es', rfl, rfl, h3, rfl⟩) (fun q hq1 hq2 => by omega)
  ·cases hh
end
end Go.Proofs.Ab
namespace Go.Proofs.Ab
open Go
section
variable {R : Type} {r : R} {pg : Pg} {c : Cx} {own : Own} {live : Nat -> Prop} {g : Nat -> Option Blk} {bl : List (Nat × Blk)} {dead : List Nat}
theorem pieces_le {f : FuncId} : ∀ {n i : Nat} {h h' : Hand} {ps : List Blk}, pieces pg f bl n i h = some (ps, h') -> ps.length <= n
 | 0, i, h, h', ps, hp => by cases hp
 | n + 1, i, h, h', ps, hp => by
  unfold pieces at hp
  split at hp
  ·cases hp; simp
  ·split at hp
   ·dsimp only at hp
    split at hp
    ·rename_i l h1 hr
     cases hp
     have := pieces_le hr
     simp; omega
    ·cases hp
   ·split at hp
    ·rename_i l h1 hr
     cases hp
     have := pieces_le hr
     simp; omega
    ·cases hp
   ·cases hp
theorem cond_undef_arr {b : Bool} {v : V} {i : Nat} {e : TypeId} (h : (bif b then v else .undef) = .arr i e) : v = .arr i e := by
 cases b
 ·cases h
 ·exact h
theorem letGo_arr {n0 : List Nat} {v : V} {i : Nat} {e : TypeId} (h : letGo pg n0 v = .arr i e) : v = .arr i e := by
 cases v with
 | sl tok e es => cases h
 | ref id off => exact cond_undef_arr h
 | el id e i j => exact cond_undef_arr h
 | arr id e => exact cond_undef_arr h
 | sub id e o l => exact cond_undef_arr h
 | mp id => exact cond_undef_arr h
 | agg cs => cases h
 | tup cs => cases h
 | iface t v => cases v <;> cases h
 | fn f cap => exact cond_undef_arr h
 | _ => cases h
theorem border_arr {v : V} {i : Nat} {e : TypeId} (h : border v = .arr i e) : v = .arr i e := by
 cases v with
 | fn f cap => cases cap <;> cases h
 | iface t v => cases v <;> cases h
 | arr => exact h
 | _ => cases h
theorem goes_arr {bd : Bool} {n0 : List Nat} {v : V} {i : Nat} {e : TypeId} (h : goes pg bd n0 v = .arr i e) : v = .arr i e := by
 cases bd with
 | true => exact letGo_arr (border_arr h)
 | false => exact letGo_arr h
theorem giveOwn_arr {gv gv' : Gv} {v v' : V} {i : Nat} {e : TypeId} (h : giveOwn pg dead gv v = some (v', gv')) : v' ≠ .arr i e := by
 unfold giveOwn at h
 split at h
 ·rcases cond_some h with ⟨_, h1⟩ | ⟨_, h1⟩ <;> (cases h1; nofun)
 ·obtain ⟨_, h1⟩ := condR_some h; cases h1; nofun
 ·obtain ⟨_, h1⟩ := condR_some h; cases h1; nofun
 ·cases h
theorem canCells_arr {bd : Bool} {n0 ownl : List Nat} : ∀ {cs cs' : List V} {j0 : Nat} {gv gv' : Gv}, canCells pg bd n0 dead ownl j0 cs gv = some (cs', gv') ->
  ∀ n i e, cs'.getD n .undef = .arr i e -> cs.getD n .undef = .arr i e
 | [], cs', j0, gv, gv', h, n, i, e, he => by cases h; simp at he
 | v :: cs, cs', j0, gv, gv', h, n, i, e, he => by
  unfold canCells at h
  rcases cond_some h with ⟨ho, h1⟩ | ⟨ho, h1⟩
  ·split at h1
   ·rename_i v' g1 hgo
    split at h1
    ·rename_i cs1 g2 hrest
     cases h1
     cases n with
     | zero => exact absurd (by simpa using he) (giveOwn_arr hgo)
     | succ n => simpa using canCells_arr hrest n i e (by simpa using he)
    ·cases h1
   ·cases h1
  ·split at h1
   ·rename_i cs1 g2 hrest
    cases h1
    cases n with
    | zero => simpa using goes_arr (by simpa using he)
    | succ n => simpa using canCells_arr hrest n i e (by simpa using he)
   ·cases h1
def Kind (k k' : Blk) : Prop :=
 (∃ (e : TypeId) (cs cs' : List V) (fz : Bool), k = .cells e cs fz ∧ k' = .cells e cs' fz ∧ ∀ n i e', cs'.getD n .undef = .arr i e' -> cs.getD n .undef = .arr i e') ∨ (∃ (e : TypeId) (es : List (List V)) (fz : Bool), k = .vec e es fz ∧ k' = .vec e es fz) ∨ ∃ (kt et : TypeId) (es : List (V × V)) (fz : Bool), k = .mp kt et es fz ∧ k' = .mp kt et es fz
theorem canBlks_kind {bd : Bool} {n0 : List Nat} : ∀ {ks ks' : List Blk} {gv gv' : Gv}, canBlks pg bd n0 dead ks gv = some (ks', gv') -> ∀ (j : Nat) (k k' : Blk), ks[j]? = some k -> ks'[j]? = some k' -> Kind k k'
 | [], ks', gv, gv', h, j, k, k', h1, h2 => by simp at h1
 | k0 :: ks, ks', gv, gv', h, j, k, k', h1, h2 => by
  unfold canBlks at h
  split at h
  ·rename_i k1 g1 hk
   split at h
   ·rename_i ks1 g2 hrest
    cases h
    cases j with
    | zero =>
     simp at h1 h2
     subst h1; subst h2
     unfold canBlk at hk
     split at hk
     ·rename_i e cs fz
      split at hk
      ·rename_i cs' g' hc
       cases hk
       exact .inl ⟨e, cs, cs', fz, rfl, rfl, canCells_arr hc⟩
      ·cases hk
     ·rename_i e es fz
      cases hk
      exact .inr (.inl ⟨e, es, fz, rfl, rfl⟩)
     ·rename_i kt et es fz
      cases hk
      exact .inr (.inr ⟨kt, et, es, fz, rfl, rfl⟩)
    | succ j => exact canBlks_kind hrest j k k' (by simpa using h1) (by simpa using h2)
   ·cases h
  ·cases h
theorem decTup_vrep : ∀ {ts : List TypeId} {rd : Nat -> V} {i : Nat} {k : List V -> Option R}, decTup pg ts rd i k = some r ->
  ∃ vs, k vs = some r ∧ vs.length = ts.length ∧ ∀ j, j < ts.length -> ∀ c x, VRep pg.P c (rd (i + j)) x -> VRep pg.P c (vs.getD j .undef) x
 | [], rd, i, k, h => ⟨[], h, rfl, fun j hj => absurd hj (Nat.not_lt_zero _)⟩
 | t :: ts, rd, i, k, h => by
  unfold decTup at h
  obtain ⟨v, h1, h2⟩ := decR_vrep h
  obtain ⟨vs, h3, h4, h5⟩ := decTup_vrep h1
  refine ⟨v :: vs, h3, by simp [h4], fun j hj => ?_⟩
  cases j with
  | zero => exact h2
  | succ j =>
   have := h5 j (by simpa using hj)
   rw [show i + (j + 1) = i + 1 + j by omega]
   simpa using this
theorem decRes_vrep {ts : List TypeId} {v : V} {k : V -> Option R} (h : decRes pg ts v k = some r) : ∃ v', k v' = some r ∧ ∀ c x, VRep pg.P c v x -> VRep pg.P c v' x := by
 unfold decRes at h
 split at h
 ·exact decR_vrep h
 ·obtain ⟨vs, rfl, hl, h1⟩ := asTup_some h
  obtain ⟨vs', h2, h3, h4⟩ := decTup_vrep h1
  refine ⟨_, h2, fun c x hx => ?_⟩
  obtain ⟨xs, rfl, h5, h6⟩ := hx.tup_inv
  refine .tup (by omega) fun j hj => ?_
  have := h4 j (by omega) c (xs.getD j Go.undef)
  rw [Nat.zero_add] at this
  exact this (h6 j (by omega))
theorem onRet_some {res : Res} {k : V -> Option R} (h : res.onRet k = some r) : ∃ v, res.out = .ret v ∧ k v = some r := by
 unfold Res.onRet at h
 split at h
 ·exact ⟨_, ‹_›, h⟩
 ·cases h
theorem onOut_some {res : Res} {k kp : V -> Option R} (h : res.onOut k kp = some r) : (∃ v, res.out = .ret v ∧ k v = some r) ∨ ∃ v, res.out = .pan v ∧ kp v = some r := by
 unfold Res.onOut at h
 split at h
 ·exact .inl ⟨_, ‹_›, h⟩
 ·exact .inr ⟨_, ‹_›, h⟩
def Cx.back (c c' : Cx) (nt : Tmp) (n : Nat) : Cx :=
 { w := c'.w, blk := c.blk, row := fun t => if rid nt 0 <= t ∧ t < rid nt 0 + n then c'.row (t - rid nt 0) else c.row t, prot := c'.prot, out := c.out }
open Classical in
noncomputable def Own.back (own ownc own' : Own) (h : Hand) (nt : Tmp) (n : Nat) : Own := fun b x =>
 match own' b x with
 | none => if ownc b x = none then own b x else none
 | some (false, i) => (match h[i]? with | some y => some (false, y.1) | none => none)
 | some (true, p) => if p < n then some (true, rid nt p) else none
theorem rid_eq (nt p : Nat) : rid nt p = rid nt 0 + p := by unfold rid; omega
theorem Cx.back_row {c c' : Cx} {nt : Tmp} {n p : Nat} (h : p < n) : (c.back c' nt n).row (rid nt p) = c'.row p := by
 show (if _ then _ else _) = _
 have he := rid_eq nt p
 rw [if_pos (by omega)]
 congr 1; omega
theorem Cx.back_old {c c' : Cx} {nt : Tmp} {n t : Nat} (h : ¬ (rid nt 0 <= t ∧ t < rid nt 0 + n)) : (c.back c' nt n).row t = c.row t := by
 show (if _ then _ else _) = _
 rw [if_neg h]
section
variable {ownc own' : Own} {h : Hand} {nt : Tmp} {n b x : Nat}
theorem Own.back_kept (h1 : own' b x = none) (h2 : ownc b x = none) : own.back ownc own' h nt n b x = own b x := by unfold Own.back; rw [h1]; simp [h2]
theorem Own.back_lost (h1 : own' b x = none) (h2 : ownc b x ≠ none) : own.back ownc own' h nt n b x = none := by unfold Own.back; rw [h1]; simp [h2]
theorem Own.back_blk {i : Nat} {y : Nat × Nat × Option TypeId} (h1 : own' b x = some (false, i)) (h2 : h[i]? = some y) : own.back ownc own' h nt n b x = some (false, y.1) := by unfold Own.back; rw [h1]; simp [h2]
theorem Own.back_row {p : Nat} (h1 : own' b x = some (true, p)) (h2 : p < n) : own.back ownc own' h nt n b x = some (true, rid nt p) := by unfold Own.back; rw [h1]; simp [h2]
end
theorem Frame.weaken {own1 own2 : Own} {w w' : World} (h : Frame own2 w w') (hl : ∀ b x, own1 b x = none -> own2 b x = none) : Frame own1 w w' :=
 ⟨h.os, h.tape, h.output, h.size, fun b o hb => by
  rcases h.blk b o hb with h1 | ⟨a, a', e, fr, h1, h2, h3, h4⟩ | ⟨es, n, es', n', h1, h2, h3⟩
  ·exact .inl h1
  ·exact .inr (.inl ⟨a, a', e, fr, h1, h2, h3, fun x hx => h4 x (hl b x hx)⟩)
  ·exact .inr (.inr ⟨es, n, es', n', h1, h2, fun hx => h3 (hl b 0 hx)⟩)⟩
theorem After.back {c c4 c' : Cx} {own ownc own' : Own} {h : Hand} {nt : Tmp} {n : Nat} (ha : After c4 ownc c' own') (hw : c4.w = c.w) (hp : c4.prot = c.prot) (hl : ∀ b x, own b x = none -> ownc b x = none) :
  After c own (c.back c' nt n) (own.back ownc own' h nt n) := by
 obtain ⟨h1, h2, h3, h4, h5⟩ := ha
 clear h5
 rw [hw] at h1 h2 h3 h4
 rw [hp] at h3 h4
 refine ⟨h1.weaken hl, fun b x hb hx => ?_, h3, fun b x hp => ?_, .of rfl rfl⟩
 ·rw [Own.back_kept (h2 b x hb (hl b x hx)) (hl b x hx)]; exact hx
 ·rcases h4 b x hp with h5 | h5 | h5
  ·exact .inl h5
  ·exact .inr (.inl fun h6 => h5 (hl b x h6))
  ·exact .inr (.inr h5)
theorem Ext.back {c c4 c' : Cx} {ownc own' : Own} {nt : Tmp} {n : Nat} (ha : After c4 ownc c' own') (hw : c4.w = c.w) (hp : c4.prot = c.prot) (hr : ∀ t r, c.row t = some r -> ¬ (rid nt 0 <= t ∧ t < rid nt 0 + n)) : Ext c (c.back c' nt n) := by
 refine ⟨fun b x h => ?_, fun _ _ h => h, fun t r h => ?_⟩
 ·have := ha.prot b x (by rw [hp]; exact h)
  rw [hw] at this
  exact this
 ·rw [Cx.back_old (hr t r h)]; exact h
end
end Go.Proofs.Ab
namespace Go.Proofs.Ab
open Go
section
variable {R : Type} {r : R} {pg : Pg} {c : Cx} {own : Own} {live : Nat -> Prop} {g : Nat -> Option Blk} {bl : List (Nat × Blk)} {dead : List Nat}
theorem Own.retag_out {n0 : List Nat} {tags : List (Option Nat)} {b x t : Nat} (h : own b x = some (true, t)) (hn : ∀ p : Nat, tags[p]? ≠ some (some t)) : own.retag n0 tags b x = none := by
 unfold Own.retag
 rw [h]
 have : ¬ ∃ p : Nat, tags[p]? = some (some t) := fun ⟨p, hp⟩ => hn p hp
 simp only [this, dif_neg, not_false_eq_true]
theorem CellBack.rep {P : Program} {nt : Tmp} {n : Nat} {w v l : V} {h : Hand} {c' c6 : Cx} {x : Value} (hb : CellBack nt n w v l) (hx : VRep P c' v x) (hbd : border v = v) (hw : c6.w = c'.w) (hp : c6.prot = c'.prot)
  (hr : ∀ p, p < n -> c6.row (rid nt p) = c'.row p) (ha : ∀ i e, w = .arr i e -> ∃ id, h[i]? = some (id, 0, none) ∧ ∀ q, c'.blk i = some q -> c6.blk id = some q) : VRep P c6 (unhand h l) x ∧ (unhand h l ≠ .undef -> v ≠ .undef) := by
 cases hb with
 | row w e es h2 =>
  refine ⟨?_, fun _ => nofun⟩
  show VRep P c6 (.sl (.row _) e es) x
  cases hx with
  | pure hp2 => cases hp2 with | sl f b o ht hb hl hc hr => exact ht.elim
  | row hp2 hr2 hn => exact .row (by rw [hw, hp]; exact hp2) (by rw [hr _ h2]; exact hr2) hn
 | fr w ps h2 =>
  refine ⟨?_, fun _ => nofun⟩
  show VRep P c6 (.fr _ ps) x
  obtain ⟨eO, eI, h3, h4⟩ := hx.fr_inv
  exact .fr (by rw [hr _ h2]; exact h3) h4
 | arr i e =>
  refine ⟨?_, fun _ => nofun⟩
  obtain ⟨id, h1, h2⟩ := ha i e rfl
  show VRep P c6 (match h[i]? with | some x => .arr x.1 e | none => .undef) x
  rw [h1]
  obtain ⟨b, o, m, cap, h3, rfl, h4⟩ := hx.arr_inv'
  exact .arr e cap (h2 _ h3) h4
 | dec w h1 h2 h3 h4 h5 =>
  refine ⟨?_, fun _ => h2⟩
  have hun : unhand h l = l := by
   unfold unhand
   split
   ·exact absurd rfl (h3 _ _)
   ·rfl
  rw [hun]
  rcases h1 with rfl | ⟨tok, e, es, rfl, rfl⟩
  ·exact hx.over hbd hw hp h3 h4 h5
  ·exact hx.sl_no.over rfl hw hp nofun nofun nofun
theorem Inv.back {h : Hand} {ps sub bs : List Blk} {tags : List (Option Nat)} {recs : List (Value × TypeId × Nat)} {gv : Gv} {c' : Cx} {own' : Own} {bl' : List (Nat × Blk)} {nt : Tmp} {N : Nat} {live' : Nat -> Prop} {rows : Nat -> Option (Value × TypeId × Nat)}
  (hI : Inv pg c own (getB bl) live) (hP : PiecesOk pg bl h ps) (hd : Distinct h) (hN : ps.length <= 40) (hlen : sub.length = ps.length)
  (hm : ∀ (j : Nat) (k k' : Blk), ps[j]? = some k -> sub[j]? = some k' -> k'.num = k.num ∧ k'.len pg.P = k.len pg.P ∧ k'.fz = k.fz ∧ ∀ w b o, Lies pg.P w b o k -> Lies pg.P w b o k') (hkind : ∀ (j : Nat) (k k' : Blk), ps[j]? = some k -> sub[j]? = some k' -> Kind k k')
  (hG : GvOk (c.hand h ps) live gv tags recs) (ha : After ((c.hand h ps).cut (List.range 40) rows) ((own.hand pg.P c h ps).retag (List.range 40) tags) c' own')
  (hblk : ∀ i r, i < sub.length -> ((c.hand h ps).cut (List.range 40) rows).blk i = some r -> c'.blk i = some r)
  (hI' : Inv pg c' own' (fun i => bs[i]?) (fun p => ∃ r, c'.row p = some r))
  (hbd : ∀ (i : Nat) (t : TypeId) (cs : List V) (fz : Bool) (j : Nat), bs[i]? = some (.cells t cs fz) -> border (cs.getD j .undef) = cs.getD j .undef)
  (hI4 : ∀ b x, c.prot b x -> ((own.hand pg.P c h ps).retag (List.range 40) tags) b x = none)
  (hsame : ∀ id, (∀ x ∈ h, x.1 ≠ id) -> getB bl' id = getB bl id)
  (hback : ∀ (j : Nat) x w, h[j]? = some x -> sub[j]? = some w -> ∃ b new, bs[j]? = some b ∧ getB bl' x.1 = some new ∧ ∀ old, getB bl x.1 = some old -> PieceBack nt N h x.2.1 w b old new)
  (hrows : ∀ q, q < N -> ∃ r, c'.row q = some r)
  (hrid : ∀ t r, c.row t = some r -> ¬ (rid nt 0 <= t ∧ t < rid nt 0 + N))
  (hlive : ∀ t, live' t -> (∃ p, p < N ∧ t = rid nt p) ∨ (live t ∧ t ∉ gv.seen)) :
  Inv pg (c.back c' nt N) (own.back ((own.hand pg.P c h ps).retag (List.range 40) tags) own' h nt N) (getB bl') live' := by
 generalize hown4 : (own.hand pg.P c h ps).retag (List.range 40) tags = own4 at *
 have hl : ∀ b x, own b x = none -> own4 b x = none := fun b x hx => by rw [<- hown4]; exact Own.retag_none (Own.hand_none hx)
 have hx : Ext c (c.back c' nt N) := Ext.back ha rfl rfl hrid
 have hafter : After c own (c.back c' nt N) (own.back own4 own' h nt N) := After.back ha rfl rfl hl
 have hf4 : Frame own4 c.w c'.w := ha.frame
 have keep4 : ∀ b x, b < c.w.heap.size -> own4 b x = none -> own' b x = none := ha.keep
 have kept : ∀ b x, own b x ≠ none -> own4 b x = none -> (own.back own4 own' h nt N) b x = own b x := fun b x h1 h2 => Own.back_kept (keep4 b x (hI.fresh b x h1) h2) h2
 have rowout : ∀ b x t, own b x = some (true, t) -> t ∉ gv.seen -> own4 b x = none := fun b x t h1 h2 => by
  rw [<- hown4]
  exact Own.retag_out (Own.hand_row h1) fun p hp => h2 (hG.old p t hp).2.1
 have piece : ∀ (i : Nat) x, h[i]? = some x -> ∃ k raw p w, getB bl x.1 = some k ∧ PartOf k raw x.2.1 x.2.2 ∧ ps[i]? = some p ∧ PieceOver h raw p ∧ sub[i]? = some w := fun i x hi => by
  have hi' : i < ps.length := by rw [hP.1]; exact (List.getElem?_eq_some_iff.1 hi).1
  obtain ⟨y, k, raw, p, h1, h2, h3, h4, h5⟩ := hP.2 i hi'
  rw [hi] at h1
  cases h1
  exact ⟨k, raw, p, sub[i]'(by omega), h2, h3, h4, h5, List.getElem?_eq_getElem (by omega)⟩
 have cut4 : ∀ (i : Nat) q, i < ps.length -> posOf c h ps i = some q -> c'.blk i = some q := fun i q hi hq => hblk i q (by omega) (by
  show (if _ then _ else _) = _
  rw [if_pos (by simp; omega)]; exact hq)
 refine ⟨fun id k hk => ?_, fun t ht => ?_, fun b x hp => ?_, fun b x hn => ?_, fun id r hr => ?_, fun i cs hg => hI'.gl i cs hg⟩
 ·by_cases hid : ∃ (i : Nat) (x : Nat × Nat × Option TypeId), h[i]? = some x ∧ x.1 = id
  ·obtain ⟨i, x, hi, rfl⟩ := hid
   obtain ⟨k0, raw, p, w, h1, h2, h3, h4, h5⟩ := piece i x hi
   obtain ⟨bb, new, h6, h7, h8⟩ := hback i x w hi h5
   rw [hk] at h7
   cases h7
   have hpb := h8 k0 h1
   obtain ⟨b, o, h9, h10⟩ := hI.blk _ _ h1
   have hil : i < ps.length := (List.getElem?_eq_some_iff.1 h3).1
   have hpos : c'.blk i = some (b, o + x.2.1, p.num) := cut4 i _ hil (posOf_at hi h3 h9)
   obtain ⟨b', o', h11, h12⟩ := hI'.blk i bb h6
   rw [hpos] at h11
   obtain ⟨rfl, rfl, hnum⟩ : b = b' ∧ o + x.2.1 = o' ∧ p.num = bb.num := by simpa using h11
   obtain ⟨e1, e2, e3, _⟩ := hm i p w h3 h5
   have hpl := h4.num
   have hlenr := h2.len (P := pg.P)
   have hwl : w.len pg.P = raw.len pg.P := by rw [e2, hpl.2.1]
   have hinp : ∀ y, InP pg.P c h ps x.1 i b y ↔ o + x.2.1 <= y ∧ y < o + x.2.1 + p.len pg.P := fun y => by
    constructor
    ·rintro ⟨z, p2, q, g1, g2, g3, g4, g5, g6, g7⟩
     rw [hi] at g1; cases g1
     rw [h3] at g3; cases g3
     rw [h9] at g4; cases g4
     exact ⟨g6, g7⟩
    ·rintro ⟨g1, g2⟩
     exact ⟨x, p, _, hi, rfl, h3, h9, rfl, g1, g2⟩
   have out : ∀ y, own b y = some (false, x.1) -> ¬ (o + x.2.1 <= y ∧ y < o + x.2.1 + p.len pg.P) -> own4 b y = none := fun y g1 g2 => by
    rw [<- hown4]
    refine Own.retag_none (Own.hand_out g1 fun j hj => g2 ?_)
    obtain ⟨z, p2, q, g3, g4, g5⟩ := hj
    have : j = i := hd j i z x g3 hi g4
    subst this
    exact (hinp y).1 ⟨z, p2, q, g3, g4, g5⟩
   rcases hpb with ⟨t, cs, cs', l, e, ocs, fz, rfl, rfl, g3, g4, rfl, rfl, g7⟩ | ⟨e, es, es', rfl, rfl, g3, rfl⟩
   ·
    have hfz : fz = false := by
     have : (Blk.cells e ocs fz).fz = false := by rw [<- h2.fz, <- hpl.2.2, <- e3]; rfl
     exact this
    subst hfz
    obtain ⟨⟨arr, e', g8, g9⟩, g10⟩ := h10.opn rfl
    have hbs : b < c.w.heap.size := (Array.getElem?_eq_some_iff.1 g8).1
    have hcl : cs.length = p.len pg.P := by rw [<- e2]; rfl
    have hle : x.2.1 + cs.length <= ocs.length := by
     have : x.2.1 + raw.len pg.P <= ocs.length := hlenr
     have : cs.length = raw.len pg.P := hwl
     omega
    have harr : ∀ j i' e', cs.getD j .undef = .arr i' e' -> ∃ id, h[i']? = some (id, 0, none) ∧ ∀ q, c'.blk i' = some q -> (c.back c' nt N).blk id = some q := by
     intro j i' e' hj
     have hkd := hkind i p _ h3 h5
     rcases hkd with ⟨e2, pcs, _, fz2, rfl, he, hk2⟩ | ⟨e2, es2, fz2, rfl, he⟩ | ⟨_, _, _, _, _, he⟩
     ·cases he
      have hpj := hk2 j i' e' hj
      cases raw with
      | vec e es fz => cases h4
      | mp kt et es fz => exact h4.elim
      | cells e3 rcs fz3 =>
       obtain ⟨cs2, he2, hl2, ho2⟩ := h4
       cases he2
       have hjl : j < rcs.length := by
        rcases Nat.lt_or_ge j pcs.length with h | h
        ·omega
        ·simp [List.getD, List.getElem?_eq_none h] at hpj
       rcases ho2 j hjl with hu | ⟨id, e4, i4, hv, hv', hh⟩ | ⟨hna, hv'⟩
       ·rw [hpj] at hu; cases hu
       ·rw [hpj] at hv'
        cases hv'
        refine ⟨id, hh, fun q hq => ?_⟩
        show c.blk id = some q
        obtain ⟨k3, raw3, p3, w3, f1, f2, f3, f4, f5⟩ := piece i' _ hh
        obtain ⟨b3, o3, f6, _⟩ := hI.blk _ _ f1
        have f7 := hP.full hI id i' _ hh f6
        have f8 := cut4 i' _ (List.getElem?_eq_some_iff.1 f3).1 f7
        rw [hq] at f8
        cases f8
        exact f6
       ·rw [hpj] at hv'
        exact absurd (border_arr hv'.symm) (hna _ _)
     ·cases he
     ·cases he
    refine ⟨b, o, ?_, fun j hj => ?_, fun _ => ⟨?_, fun y hy => ?_⟩, fun hf => by cases hf⟩
    ·show c.blk x.1 = _
     rw [h9]
     simp [Blk.num, setAt_length]
    ·rw [setAt_length] at hj
     rw [setAt_get]
     by_cases hin : x.2.1 <= j ∧ j < x.2.1 + (l.map (unhand h)).length ∧ j < ocs.length
     ·rw [if_pos hin]
      obtain ⟨hin1, hin2, _⟩ := hin
      have hjl : j - x.2.1 < cs'.length := by simp at hin2; omega
      obtain ⟨y, f1, f2, f3⟩ := h12.cells (j - x.2.1) hjl
      have hgl : (l.map (unhand h)).getD (j - x.2.1) .undef = unhand h (l.getD (j - x.2.1) .undef) := by
       have : j - x.2.1 < l.length := by omega
       simp [List.getD, this]
      rw [hgl]
      have hcb := (g7 (j - x.2.1) (by omega)).rep (h := h) (c6 := c.back c' nt N) f3 (hbd i _ _ _ _ h6) rfl rfl (fun p hp => Cx.back_row hp) (fun i' e' he => harr _ _ _ he)
      refine ⟨y, ?_, fun hne => f2 (hcb.2 hne), hcb.1⟩
      have : o + x.2.1 + (j - x.2.1) = o + j := by omega
      rw [this] at f1
      exact f1
     ·rw [if_neg hin]
      obtain ⟨y, f1, f2, f3⟩ := h10.cells j hj
      refine ⟨y, ?_, f2, f3.mono hx⟩
      have : own4 b (o + j) = none := out _ (g10 j hj) (by
       rintro ⟨q1, q2⟩
       apply hin
       simp
       omega)
      exact (hf4.cell this hbs).trans f1
    ·rcases hf4.blk b _ g8 with f1 | ⟨a, a', e5, fr, f1, f2, f3, f4⟩ | ⟨es, n, es', n', f1, _⟩
     ·exact ⟨arr, e', f1, by simpa [Blk.len, setAt_length] using g9⟩
     ·cases f1
      exact ⟨a', e', f2, by simp only [Blk.len, setAt_length]; simp only [Blk.len] at g9; omega⟩
     ·cases f1
    ·simp only [Blk.len, setAt_length] at hy
     by_cases hin : o + x.2.1 <= o + y ∧ o + y < o + x.2.1 + p.len pg.P
     ·have := (h12.opn rfl).2 (y - x.2.1) (by show _ < cs'.length; omega)
      rw [show o + x.2.1 + (y - x.2.1) = o + y by omega] at this
      rw [Own.back_blk this hi]
     ·have hoy := g10 y hy
      rw [kept b (o + y) (by rw [hoy]; nofun) (out _ hoy hin)]
      exact hoy
   ·
    have hrk : raw = k0 ∧ x.2.1 = 0 := by
     rcases h2 with hh | ⟨_, e2, t2, cs2, n2, fz2, _, rfl, _⟩
     ·exact hh
     ·obtain ⟨cs3, rfl, _⟩ := h4
      rcases hkind i _ _ h3 h5 with ⟨_, _, _, _, _, he, _⟩ | ⟨_, _, _, he, _⟩ | ⟨_, _, _, _, he, _⟩ <;> cases he
    obtain ⟨rfl, hoff⟩ := hrk
    rw [hoff] at h12 hpos
    refine ⟨b, o, ?_, ?_, fun _ => ⟨?_, fun y hy => ?_⟩, fun hf => by cases hf⟩
    ·show c.blk x.1 = _
     rw [h9, <- hpl.1, <- e1]
     show some (b, o, es.length) = some (b, o, es'.length)
     rw [g3]
    ·exact h12.cells
    ·obtain ⟨⟨arr, e', g8, g9⟩, _⟩ := h12.opn rfl
     exact ⟨arr, e', g8, g9⟩
    ·exact Own.back_blk ((h12.opn rfl).2 y hy) hi
  ·have hid' : ∀ x ∈ h, x.1 ≠ id := fun x hx he => by
    obtain ⟨i, hi⟩ := List.mem_iff_getElem?.1 hx
    exact hid ⟨i, x, hi, he⟩
   rw [hsame id hid'] at hk
   obtain ⟨b, o, h1, h2⟩ := hI.blk id k hk
   have hout : ∀ b x, own b x = some (false, id) -> own4 b x = none := fun b x g1 => by
    rw [<- hown4]
    refine Own.retag_none (Own.hand_out g1 fun j hj => ?_)
    obtain ⟨z, p2, q, g3, g4, _⟩ := hj
    exact hid ⟨j, z, g3, g4⟩
   refine ⟨b, o, h1, h2.kept hx hf4 hout fun b x g1 => ?_⟩
   rw [kept b x (by rw [g1]; nofun) (hout b x g1)]; exact g1
 ·rcases hlive t ht with ⟨p, hp, rfl⟩ | ⟨h1, h2⟩
  ·have hrow := hrows p hp
   rcases hI'.row p hrow with ⟨v, e, n, xs, g1, g2, g3⟩ | ⟨x, ps, eO, eI, g1, g2⟩
   rotate_left
   ·exact .inr ⟨x, ps, eO, eI, by rw [Cx.back_row hp]; exact g1, g2.to (fun b o _ hh => hh) fun b y h => Own.back_row h hp⟩
   exact .inl ⟨v, e, n, xs, by rw [Cx.back_row hp]; exact g1, g2, fun b hb x => ⟨fun hx => Own.back_row ((g3 b hb x).1 hx) hp, (g3 b hb x).2⟩⟩
  ·refine (hI.row t h1).kept hx hf4 (fun b x g1 => rowout b x t g1 h2) (fun b x g1 => hI4 b x g1) fun b x g1 => ?_
   rw [kept b x (by rw [g1]; nofun) (rowout b x t g1 h2)]; exact g1
 ·obtain ⟨h1, h2⟩ := hI'.np b x hp
  refine ⟨?_, h2⟩
  by_cases h4 : own4 b x = none
  ·rw [Own.back_kept h1 h4]
   rcases ha.prot' b x hp with h5 | h5 | h5
   ·exact (hI.np b x h5).1
   ·exact absurd h4 h5
   ·cases ho : own b x with
    | none => rfl
    | some q => exact absurd (hI.fresh b x (by rw [ho]; nofun)) (Nat.not_lt.2 h5)
  ·exact Own.back_lost h1 h4
 ·show b < c'.w.heap.size
  cases ho : own' b x with
  | some q => exact hI'.fresh b x (by rw [ho]; nofun)
  | none =>
   by_cases h4 : own4 b x = none
   ·rw [Own.back_kept ho h4] at hn
    exact Nat.lt_of_lt_of_le (hI.fresh b x hn) hf4.size
   ·rw [Own.back_lost ho h4] at hn
    exact absurd rfl hn
 ·rcases hI.dom id r hr with ⟨k, hk⟩ | ho
  rotate_left
  ·exact .inr ho
  left
  by_cases hid : ∃ (i : Nat) (x : Nat × Nat × Option TypeId), h[i]? = some x ∧ x.1 = id
  ·obtain ⟨i, x, hi, rfl⟩ := hid
   obtain ⟨k0, raw, p, w, h1, h2, h3, h4, h5⟩ := piece i x hi
   obtain ⟨bb, new, h6, h7, h8⟩ := hback i x w hi h5
   exact ⟨new, h7⟩
  ·rw [hsame id fun x hx he => by
    obtain ⟨i, hi⟩ := List.mem_iff_getElem?.1 hx
    exact hid ⟨i, x, hi, he⟩]
   exact ⟨k, hk⟩
end
end Go.Proofs.Ab
namespace Go.Proofs.Ab
open Go
section
variable {R : Type} {r : R} {pg : Pg} {c : Cx} {own : Own} {live : Nat -> Prop} {g : Nat -> Option Blk} {bl : List (Nat × Blk)} {dead : List Nat} {D : DSem}
def CallDone (pg : Pg) (c : Cx) (own : Own) (st : St) (r : R) (k : V -> St -> Res -> Option R) (kp : V -> St -> Option R) (e : Ending) (w' : World) : Prop :=
 ∃ c' own' st', c'.w = w' ∧ SInv pg c' own' st' ∧ After c own c' own' ∧ Ext c c' ∧ st'.df = st.df ∧ st'.pn = st.pn ∧
  match e with
  | .returned x => ∃ v res, k v st' res = some r ∧ VRep pg.P c' v x
  | .panicked ch => ∃ v x, kp v st' = some r ∧ ch = [{ v := x, recovered := false }] ∧ VRep pg.P c' v x
  | .outgrown => False
def CallDoneR (pg : Pg) (c : Cx) (own : Own) (st : St) (r : R) (k : V -> St -> Res -> Option R) (kp : V -> St -> Option R) (res : Res) (e : Ending) (w' : World) : Prop :=
 ∃ c' own' st', c'.w = w' ∧ SInv pg c' own' st' ∧ After c own c' own' ∧ Ext c c' ∧ st'.df = st.df ∧ st'.pn = st.pn ∧
  match e with
  | .returned x => ∃ v, k v st' res = some r ∧ VRep pg.P c' v x
  | .panicked ch => ∃ v x, kp v st' = some r ∧ ch = [{ v := x, recovered := false }] ∧ VRep pg.P c' v x
  | .outgrown => False
theorem CallDoneR.done {st : St} {k : V -> St -> Res -> Option R} {kp : V -> St -> Option R} {res : Res} {e : Ending} {w' : World} (h : CallDoneR pg c own st r k kp res e w') : CallDone pg c own st r k kp e w' := by
 obtain ⟨c', own', st', h1, h2, h3, h4, h5, h6, h7⟩ := h
 refine ⟨c', own', st', h1, h2, h3, h4, h5, h6, ?_⟩
 cases e with
 | returned x => obtain ⟨v, h8⟩ := h7; exact ⟨v, res, h8⟩
 | panicked ch => exact h7
 | outgrown => exact h7
theorem mem_flat_map {α β : Type} {f : α -> List β} {l : List α} {d : α} {j : Nat} (hj : j < l.length) {y : β} (hy : y ∈ f (l.getD j d)) : y ∈ (l.map f).flatten := by
 simp only [List.mem_flatten, List.mem_map]
 refine ⟨_, ⟨l[j], List.getElem_mem hj, rfl⟩, ?_⟩
 simpa [List.getD, hj] using hy
theorem CellBack.ownRep {P : Program} {nt : Tmp} {n : Nat} {v l : V} {c' c6 : Cx} {x : Value} (hb : CellBack nt n .undef v l) (hx : VRep P c' v x) (hbd : border v = v) (hw : c6.w = c'.w) (hp : c6.prot = c'.prot)
  (hr : ∀ p, p < n -> c6.row (rid nt p) = c'.row p) : VRep P c6 l x := by
 cases hb with
 | row w e es h2 =>
  cases hx with
  | pure hp2 => cases hp2 with | sl f b o ht hb hl hc hr => exact ht.elim
  | row hp2 hr2 hn => exact .row (by rw [hw, hp]; exact hp2) (by rw [hr _ h2]; exact hr2) hn
 | fr w ps h2 =>
  obtain ⟨eO, eI, h3, h4⟩ := hx.fr_inv
  exact .fr (by rw [hr _ h2]; exact h3) h4
 | dec w h1 h2 h3 h4 h5 =>
  rcases h1 with rfl | ⟨tok, e, es, rfl, rfl⟩
  ·exact hx.over hbd hw hp h3 h4 h5
  ·exact hx.sl_no.over rfl hw hp nofun nofun nofun
theorem row_of {P : Program} {c' : Cx} {q : Nat} {v : V} {x : Value} (hv : RowAt q v) (h : VRep P c' v x) : ∃ r, c'.row q = some r := by
 rcases hv with ⟨e, es, rfl⟩ | ⟨ps, rfl⟩
 ·cases h with
  | pure hp2 => cases hp2 with | sl f b o ht hb hl hc hr => exact ht.elim
  | row hp2 hr2 hn => exact ⟨_, hr2⟩
 ·obtain ⟨eO, eI, h3, _⟩ := h.fr_inv
  exact ⟨_, h3⟩
theorem decOwn_spec {l : List Nat} {nt : Tmp} {ts : List TypeId} {v : V} {p : Nat} {k : V -> Nat -> Option R} (h : decOwn pg l nt ts v p k = some r) :
  ∃ v' p2, k v' p2 = some r ∧ p <= p2 ∧ (∀ c' c6 x, VRep pg.P c' v x -> (∀ j, border ((cellsOf v).getD j .undef) = (cellsOf v).getD j .undef) -> c6.w = c'.w -> c6.prot = c'.prot -> (∀ q, q < p2 -> c6.row (rid nt q) = c'.row q) -> VRep pg.P c6 v' x) ∧
   ∀ q, p <= q -> q < p2 -> ∀ c' x, VRep pg.P c' v x -> ∃ r, c'.row q = some r := by
 unfold decOwn at h
 split at h
 ·rename_i t
  rcases cond_some h with ⟨ha, h1⟩ | ⟨ha, h1⟩
  ·obtain ⟨cs, rfl, hl, h2⟩ := asAgg_some h1
   obtain ⟨l', p', h3, h4, h5, h6, h7⟩ := backCells_spec h2
   simp only [List.length_replicate] at h5 h6 h7
   refine ⟨_, _, h3, h4, fun c' c6 x hx hbd hw hp hr => ?_, fun q hq1 hq2 c' x hx => ?_⟩
   ·obtain ⟨xs, rfl, hl2, hc⟩ := hx.agg_inv
    refine .agg (by omega) fun j hj => ?_
    have hj' : j < (flat pg.P deep t).length := by omega
    have h8 := h6 j hj'
    have e1 : (List.replicate (flat pg.P deep t).length V.undef).getD j .undef = .undef := by simp [List.getD, List.getElem?_replicate, hj']
    rw [e1, Nat.zero_add] at h8
    exact h8.ownRep (hc j (by omega)) (hbd j) hw hp hr
   ·obtain ⟨xs, rfl, hl2, hc⟩ := hx.agg_inv
    obtain ⟨i, h8, h9⟩ := h7 q hq1 hq2
    rw [Nat.zero_add] at h9
    exact row_of h9 (hc i (by omega))
  ·split at h1
   ·rename_i e hu
    obtain ⟨es, rfl, h3⟩ := asSlR_some h1
    refine ⟨_, _, h3, Nat.le_succ _, fun c' c6 x hx hbd hw hp hr => ?_, fun q hq1 hq2 c' x hx => ?_⟩
    ·exact (CellBack.row (nt := nt) (hi := p + 1) .undef e es (Nat.lt_succ_self _)).ownRep hx rfl hw hp hr
    ·have : q = p := by omega
     subst this
     exact row_of (.inl ⟨_, _, rfl⟩) hx
   ·cases h1
 ·cases h
theorem call_core {f : FuncId} {vs : List V} {nt : Tmp} {st : St} {pn : Option (Option V)} {k : V -> St -> Res -> Option R} {kp : V -> St -> Option R} (hS : SInv pg c own st)
  (h : callK pg D f vs nt st pn k kp = some r) {xs : Array Value} (hl : vs.length = xs.size) (hx : ∀ j, j < vs.length -> VRep pg.P c (vs.getD j .undef) (xs.getD j Go.undef)) :
  ∃ vs2 sub res c2 own2, D f vs2 sub pn = some res ∧ Inv pg c2 own2 (fun i => sub[i]?) (fun p => p < rowsOf pg sub + ownN (pg.oa f)) ∧ (∀ p r, c2.row p = some r -> p < rowsOf pg sub + ownN (pg.oa f)) ∧ (∀ id, ¬ c2.out id) ∧ vs2.length = xs.size ∧
   (∀ j, j < vs2.length -> VRep pg.P c2 (vs2.getD j .undef) (xs.getD j Go.undef)) ∧ c2.w = c.w ∧ (∀ v x, PRep pg.P c.w c.prot v x -> PRep pg.P c2.w c2.prot v x) ∧
   ∀ e w', Ends pg (pg.oo f) c2 own2 sub.length res e w' -> CallDoneR pg c own st r k kp res e w' := by
 unfold callK at h
 split at h
 ·cases h
 rename_i fn hfn
 split at h
 ·cases h
 rename_i vs1 h0 hha
 split at h
 ·cases h
 rename_i vs2 hpa
 split at h
 ·cases h
 rename_i ps hh hps
 split at h
 ·cases h
 rename_i sub gv hcan
 split at h
 ·cases h
 rename_i vs3 gv2 hov
 obtain ⟨_, hd0, hl1, hhand⟩ := handArgs_spec pg hha (fun i j x y h => by simp at h)
 obtain ⟨hP, hd, hm0⟩ := piecesOk hps hd0
 have hpa' : mapO (fun v => match v with | .ref id off => some (.ref id off) | v => pur pg st.bl pdeep v) vs1 = some vs2 := hpa
 obtain ⟨hl2, hpur⟩ := mapO_some hpa'
 generalize hids : (vs1.map (callK.idsA st.bl)).flatten = ids at *
 have hgf : getB (freeze st.bl ids) = fun t => if t ∈ ids then (getB st.bl t).map Blk.freeze else getB st.bl t := funext (getB_freeze ids st.bl)
 have hI1 : Inv pg (c.frz own ids) (own.frz ids) (getB (freeze st.bl ids)) (Live st) := by rw [hgf]; exact hS.inv.frz ids
 have hx1 := Ext.frz c own ids
 have ha1 := After.frz c own ids
 generalize hc1 : c.frz own ids = c1 at *
 generalize ho1 : own.frz ids = own1 at *
 generalize hb1 : freeze st.bl ids = bl1 at *
 have hw1 : c1.w = c.w := by rw [<- hc1]; rfl
 have hrow1 : c1.row = c.row := by rw [<- hc1]; rfl
 have hIh := hI1.hand hP hd
 have hps40 : ps.length <= 40 := pieces_le hps
 have hlive : ∀ t r, (c1.hand hh ps).row t = some r -> st.dead.contains t = false -> Live st t := fun t r h3 h4 => ⟨hS.domr t r (by rw [<- hrow1]; exact h3), h4⟩
 have hraw : ∀ j, j < vs.length -> VRep pg.P c1 (vs.getD j .undef) (xs.getD j Go.undef) := fun j hj => (hx j hj).mono hx1
 have hlive1 : ∀ t r, c1.row t = some r -> st.dead.contains t = false -> Live st t := hlive
 obtain ⟨tags, recs, hG, ⟨hl3, hQ⟩, hls, hm, hI4⟩ := canBlks_more (gv2 := gv2) (Q := fun recs => vs3.length = vs2.length ∧ ∀ j, j < vs2.length -> vs3.getD j .undef = vs2.getD j .undef ∨ ∀ rows, Told recs rows -> VRep pg.P (c1.cut [] rows) (vs3.getD j .undef) (xs.getD j Go.undef)) hIh hlive hps40 (fun i k hi => hi) (fun i r _ hr => by
  have hr' : posOf c1 hh ps i = some r := hr
  unfold posOf at hr'
  split at hr'
  ·rename_i x p g1 g2; exact (List.getElem?_eq_some_iff.1 g2).1
  ·cases hr') hcan (fun tags recs hG0 => by
  obtain ⟨t2, r2, h1, h2, h3⟩ := ownVals_sound (f := fun j => xs.getD j Go.undef) hlive1 hov (⟨hG0.tl, hG0.rl, hG0.nil, hG0.old, hG0.inj⟩ : GvOk c1 (Live st) gv tags recs) hraw
  exact ⟨t2, r2, ⟨h1.tl, h1.rl, h1.nil, h1.old, h1.inj⟩, h2, h3⟩)
 have hkind := canBlks_kind hcan
 have hargs2 : ∀ j, j < vs2.length -> VRep pg.P ((c1.hand hh ps).cut (List.range 40) (fun p => recs[p]?)) (vs2.getD j .undef) (xs.getD j Go.undef) := fun j hj => by
  have hj1 : j < vs1.length := by omega
  have hj0 : j < vs.length := by omega
  have hp := hpur j .undef .undef hj1
  rcases hhand j hj0 with ⟨id, off, i, o, g1, g2, g3⟩ | ⟨g1, g2⟩
  ·rw [g2] at hp
   cases hp'' : vs2.getD j .undef with
   | ref i2 off2 =>
    have hp3 : some (V.ref i 0) = some (vs2.getD j .undef) := hp
    rw [hp''] at hp3
    cases hp3
    have g3' : hh[i]? = some (id, off, o) := by
     obtain ⟨m, rfl⟩ := hm0
     rw [List.getElem?_append_left (List.getElem?_eq_some_iff.1 g3).1]; exact g3
    have hil : i < ps.length := by rw [hP.1]; exact (List.getElem?_eq_some_iff.1 g3').1
    obtain ⟨x, kk, raw, p, g4, g5, g6, g7, g8⟩ := hP.2 i hil
    rw [g3'] at g4
    cases g4
    have hv := hx j hj0
    rw [g1] at hv
    obtain ⟨b, o', n, g9, g10⟩ := hv.ref_inv
    rw [g10]
    have g11 := hx1.blk _ _ g9
    refine .ref (b := b) (o := o' + off) (n := p.num) 0 ?_
    show (if _ then _ else _) = _
    rw [if_pos (by simp; omega)]
    exact posOf_at g3' g7 g11
   | _ =>
    exfalso
    have hp3 : some (V.ref i 0) = some (vs2.getD j .undef) := hp
    rw [hp''] at hp3
    cases hp3
  ·have hv := hx j hj0
   rw [<- g2] at hv
   have hp2 : pur pg st.bl pdeep (vs1.getD j .undef) = some (vs2.getD j .undef) := by
    cases hv1 : vs1.getD j .undef with
    | ref id off => exact absurd (g2.symm.trans hv1) (g1 id off)
    | _ => rw [hv1] at hp; exact hp
   have := pur_sound hS.inv ids pdeep hp2 hv fun id hid => by
    rw [<- hids]
    refine mem_flat_map (d := V.undef) hj1 ?_
    cases hv1 : vs1.getD j .undef with
    | ref id off => exact absurd (g2.symm.trans hv1) (g1 id off)
    | _ => rw [hv1] at hid; exact hid
   refine .pure ?_
   rw [hc1, <- hw1] at this
   exact this
 have hargs : ∀ j, j < vs3.length -> VRep pg.P ((c1.hand hh ps).cut (List.range 40) (fun p => recs[p]?)) (vs3.getD j .undef) (xs.getD j Go.undef) := fun j hj => by
  rcases hQ j (by omega) with h1 | h1
  ·rw [h1]; exact hargs2 j (by omega)
  ·have hE : Ext (c1.cut [] (fun p => recs[p]?)) ((c1.hand hh ps).cut (List.range 40) (fun p => recs[p]?)) := ⟨fun b x h => ⟨h, rfl⟩, fun id r h => by
    have h' : (if List.contains [] id then c1.blk id else none) = some r := h
    simp at h', fun t r h => h⟩
   exact (h1 (fun p => recs[p]?) (fun p q h => h)).mono hE
 cases hoo : pg.oo f with
 | some lo =>
   rw [hoo] at h
   dsimp only at h
   obtain ⟨hchk, h1⟩ := condR_some h
   simp only [Bool.or_eq_false_iff] at hchk
   obtain ⟨⟨⟨⟨hchk1, hchk2⟩, hchk3⟩, hchk4⟩, hchk5⟩ := hchk
   obtain ⟨res, hres, h2⟩ := Option.bind_eq_some_iff.1 h1
   have hrowsN : rowsOf pg sub = gv.n := by
    have : Nat.beq (rowsIn pg sub).length gv.n = true := by simpa using hchk3
    exact Nat.eq_of_beq_eq_true this
   have hgn : gv2.n = gv.n + ownN (pg.oa f) := by
    have : Nat.beq gv2.n (gv.n + ownN (pg.oa f)) = true := by simpa using hchk4
    exact Nat.eq_of_beq_eq_true this
   have hcw : ((c1.hand hh ps).cut (List.range 40) (fun p => recs[p]?)).w = c.w := hw1
   refine ⟨vs3, sub, res, (c1.hand hh ps).cut (List.range 40) (fun p => recs[p]?), _, hres, by rw [hrowsN, <- hgn]; exact hI4, fun p r hp => by
    rw [hrowsN, <- hgn, <- hG.rl]
    exact (List.getElem?_eq_some_iff.1 hp).1, fun _ h => h, by omega, hargs, hcw, fun v x hv => ?_, fun e w' hE => ?_⟩
   ·have h9 := (VRep.pure (P := pg.P) (c := c) hv)
    exact (show PRep pg.P c1.w c1.prot v x from hv.mono hx1.prot)
   obtain ⟨c', own', hw', ha, hblk, hI', hbd, hout⟩ := hE
   obtain ⟨bl', p', hk0, _, hxl, hsame, hback, hrows⟩ := backAll_spec h2 hd
   obtain ⟨hpn0, hk⟩ := condR_some hk0
   clear hk0
   have hpn : p' = gv.n := by simpa using hpn0
   clear hpn0
   subst hpn
   obtain ⟨v, hrv, hk2⟩ := onRet_some hk
   obtain ⟨v', N, hk3, hpN, hvN, hrN⟩ := decOwn_spec hk2
   obtain ⟨hN16, hk4⟩ := condR_some hk3
   have hN : N <= 16 := by
    have : Nat.blt 16 N = false := hN16
    rw [<- Bool.not_eq_true] at this
    simp [Nat.blt] at this
    omega
   rw [hrv] at hout
   cases e with
   | panicked ch => exact hout.elim
   | outgrown => exact hout.elim
   | returned x =>
   obtain ⟨hvx, hvb⟩ := (show VRep pg.P c' v x ∧ _ from hout)
   have hrowsc : ∀ q, q < gv.n -> ∃ r, c'.row q = some r := fun q hq => by
    obtain ⟨j, t, cs, n, _, g1, g2, g3⟩ := hrows q (Nat.zero_le _) hq
    obtain ⟨b, o, f4, f5⟩ := hI'.blk j _ (by simpa using g1)
    obtain ⟨x, f6, f7, f8⟩ := f5.cells n g2
    exact row_of g3 f8
   have hridout : ∀ t r, c1.row t = some r -> ¬ (rid nt 0 <= t ∧ t < rid nt 0 + N) := fun t r ht hin => by
    rw [hrow1] at ht
    have hu := hS.domr t r ht
    have : ((List.range 16).any fun p => st.used.contains (rid nt p)) = true := by
     rw [List.any_eq_true]
     refine ⟨t - rid nt 0, by simp; omega, ?_⟩
     have he : rid nt (t - rid nt 0) = t := by rw [rid_eq]; omega
     rw [he]; exact hu
    rw [this] at hchk1
    cases hchk1
   have hlast := Inv.back (nt := nt) (bl' := bl') (live' := Live { st with bl := bl', used := (List.range N).map (rid nt) ++ st.used, dead := gv2.seen ++ st.dead }) hI1 hP hd hps40 hls hm hkind hG ha hblk hI' hbd (fun b x hp => (hI4.np b x hp).1)
    (fun id hid => hsame id hid) (fun j x w hj hw => by
     obtain ⟨b, new, g1, g2, g3⟩ := hback j x w hj hw
     exact ⟨b, new, by simpa using g1, g2, fun old ho => (g3 old ho).le hpN⟩) (fun q hq => by
     rcases Nat.lt_or_ge q gv.n with hlt | hge
     ·exact hrowsc q hlt
     ·exact hrN q hge hq c' x hvx) hridout (fun t ht => by
     obtain ⟨g1, g2⟩ := ht
     have g1' : ((List.range N).map (rid nt) ++ st.used).contains t = true := g1
     have g2' : (gv2.seen ++ st.dead).contains t = false := g2
     simp only [List.contains_iff_mem, List.mem_append, List.mem_map, List.mem_range] at g1'
     have g3 : t ∉ gv2.seen ++ st.dead := by
      intro hm
      rw [List.contains_iff_mem.2 hm] at g2'
      cases g2'
     simp only [List.mem_append, not_or] at g3
     rcases g1' with ⟨p, hp, rfl⟩ | hu
     ·exact .inl ⟨p, hp, rfl⟩
     ·right
      refine ⟨⟨List.contains_iff_mem.2 hu, ?_⟩, g3.1⟩
      cases hcn : st.dead.contains t with
      | false => rfl
      | true => exact absurd (List.contains_iff_mem.1 hcn) g3.2)
   have hl4 : ∀ b x, own1 b x = none -> ((own1.hand pg.P c1 hh ps).retag (List.range 40) tags) b x = none := fun b x hx => Own.retag_none (Own.hand_none hx)
   have hafter := ha1.trans (After.back (nt := nt) (n := N) (h := hh) ha rfl rfl hl4)
   have hext := hx1.trans (Ext.back (nt := nt) (n := N) ha rfl rfl hridout)
   have hdom : ∀ t r, (c1.back c' nt N).row t = some r -> ((List.range N).map (rid nt) ++ st.used).contains t = true := fun t r ht => by
    simp only [List.contains_iff_mem, List.mem_append, List.mem_map, List.mem_range]
    by_cases hin : rid nt 0 <= t ∧ t < rid nt 0 + N
    ·left
     exact ⟨t - rid nt 0, by omega, by rw [rid_eq]; omega⟩
    ·right
     rw [Cx.back_old hin, hrow1] at ht
     exact List.contains_iff_mem.1 (hS.domr t r ht)
   refine ⟨c1.back c' nt N, _, { st with bl := bl', used := (List.range N).map (rid nt) ++ st.used, dead := gv2.seen ++ st.dead }, hw', ⟨hlast, hdom⟩, hafter, hext, rfl, rfl, ?_⟩
   exact ⟨v', hk4, hvN c' _ x hvx hvb rfl rfl fun q hq => Cx.back_row hq⟩
 | none =>
   rw [hoo] at h
   dsimp only at h
   obtain ⟨hchk, h1⟩ := condR_some h
   simp only [Bool.or_eq_false_iff] at hchk
   obtain ⟨⟨⟨hchk1, hchk2⟩, hchk3⟩, hchk4⟩ := hchk
   obtain ⟨res, hres, h2⟩ := Option.bind_eq_some_iff.1 h1
   have hrowsN : rowsOf pg sub = gv.n := by
    have : Nat.beq (rowsIn pg sub).length gv.n = true := by simpa using hchk3
    exact Nat.eq_of_beq_eq_true this
   have hgn : gv2.n = gv.n + ownN (pg.oa f) := by
    have : Nat.beq gv2.n (gv.n + ownN (pg.oa f)) = true := by simpa using hchk4
    exact Nat.eq_of_beq_eq_true this
   have hcw : ((c1.hand hh ps).cut (List.range 40) (fun p => recs[p]?)).w = c.w := hw1
   refine ⟨vs3, sub, res, (c1.hand hh ps).cut (List.range 40) (fun p => recs[p]?), _, hres, by rw [hrowsN, <- hgn]; exact hI4, fun p r hp => by
    rw [hrowsN, <- hgn, <- hG.rl]
    exact (List.getElem?_eq_some_iff.1 hp).1, fun _ h => h, by omega, hargs, hcw, fun v x hv => ?_, fun e w' hE => ?_⟩
   ·have h9 := (VRep.pure (P := pg.P) (c := c) hv)
    exact (show PRep pg.P c1.w c1.prot v x from hv.mono hx1.prot)
   obtain ⟨c', own', hw', ha, hblk, hI', hbd, hout⟩ := hE
   obtain ⟨bl', p', hk0, _, hxl, hsame, hback, hrows⟩ := backAll_spec h2 hd
   obtain ⟨hpn0, hk⟩ := condR_some hk0
   clear hk0
   have hpn : p' = gv.n := by simpa using hpn0
   clear hpn0
   subst hpn
   have hrowsc : ∀ q, q < gv.n -> ∃ r, c'.row q = some r := fun q hq => by
    obtain ⟨j, t, cs, n, _, g1, g2, g3⟩ := hrows q (Nat.zero_le _) hq
    obtain ⟨b, o, f4, f5⟩ := hI'.blk j _ (by simpa using g1)
    obtain ⟨x, f6, f7, f8⟩ := f5.cells n g2
    exact row_of g3 f8
   have hridout : ∀ t r, c1.row t = some r -> ¬ (rid nt 0 <= t ∧ t < rid nt 0 + gv.n) := fun t r ht hin => by
    rw [hrow1] at ht
    have hu := hS.domr t r ht
    have : ((List.range gv.n).any fun p => st.used.contains (rid nt p)) = true := by
     rw [List.any_eq_true]
     refine ⟨t - rid nt 0, by simp; omega, ?_⟩
     have he : rid nt (t - rid nt 0) = t := by rw [rid_eq]; omega
     rw [he]; exact hu
    rw [this] at hchk1
    cases hchk1
   have hlast := Inv.back (nt := nt) (bl' := bl') (live' := Live { st with bl := bl', used := (List.range gv.n).map (rid nt) ++ st.used, dead := gv2.seen ++ st.dead }) hI1 hP hd hps40 hls hm hkind hG ha hblk hI' hbd (fun b x hp => (hI4.np b x hp).1)
    (fun id hid => hsame id hid) (fun j x w hj hw => by simpa using hback j x w hj hw) (fun q hq => hrowsc q hq) hridout (fun t ht => by
     obtain ⟨g1, g2⟩ := ht
     have g1' : ((List.range gv.n).map (rid nt) ++ st.used).contains t = true := g1
     have g2' : (gv2.seen ++ st.dead).contains t = false := g2
     simp only [List.contains_iff_mem, List.mem_append, List.mem_map, List.mem_range] at g1'
     have g3 : t ∉ gv2.seen ++ st.dead := by
      intro hm
      rw [List.contains_iff_mem.2 hm] at g2'
      cases g2'
     simp only [List.mem_append, not_or] at g3
     rcases g1' with ⟨p, hp, rfl⟩ | hu
     ·exact .inl ⟨p, hp, rfl⟩
     ·right
      refine ⟨⟨List.contains_iff_mem.2 hu, ?_⟩, g3.1⟩
      cases hcn : st.dead.contains t with
      | false => rfl
      | true => exact absurd (List.contains_iff_mem.1 hcn) g3.2)
   have hl4 : ∀ b x, own1 b x = none -> ((own1.hand pg.P c1 hh ps).retag (List.range 40) tags) b x = none := fun b x hx => Own.retag_none (Own.hand_none hx)
   have hafter := ha1.trans (After.back (nt := nt) (n := gv.n) (h := hh) ha rfl rfl hl4)
   have hext := hx1.trans (Ext.back (nt := nt) (n := gv.n) ha rfl rfl hridout)
   have hdom : ∀ t r, (c1.back c' nt gv.n).row t = some r -> ((List.range gv.n).map (rid nt) ++ st.used).contains t = true := fun t r ht => by
    simp only [List.contains_iff_mem, List.mem_append, List.mem_map, List.mem_range]
    by_cases hin : rid nt 0 <= t ∧ t < rid nt 0 + gv.n
    ·left
     exact ⟨t - rid nt 0, by omega, by rw [rid_eq]; omega⟩
    ·right
     rw [Cx.back_old hin, hrow1] at ht
     exact List.contains_iff_mem.1 (hS.domr t r ht)
   refine ⟨c1.back c' nt gv.n, _, { st with bl := bl', used := (List.range gv.n).map (rid nt) ++ st.used, dead := gv2.seen ++ st.dead }, hw', ⟨hlast, hdom⟩, hafter, hext, rfl, rfl, ?_⟩
   split at hk
   ·obtain ⟨v, hrv, hk2⟩ := onRet_some hk
    obtain ⟨v', hk3, hv⟩ := decRes_vrep hk2
    rw [hrv] at hout
    cases e with
    | returned x =>
     have hout' : PRep pg.P c'.w c'.prot v x := hout
     exact ⟨v', hk3, hv _ _ (.pure hout')⟩
    | panicked ch => exact hout.elim
    | outgrown => exact hout.elim
   ·rcases onOut_some hk with ⟨v, hrv, hk2⟩ | ⟨v, hrv, hk2⟩
    ·obtain ⟨v', hk3, hv⟩ := decRes_vrep hk2
     rw [hrv] at hout
     cases e with
     | returned x =>
      have hout' : PRep pg.P c'.w c'.prot v x := hout
      exact ⟨v', hk3, hv _ _ (.pure hout')⟩
     | panicked ch => exact hout.elim
     | outgrown => exact hout.elim
    ·obtain ⟨w2, rfl, hk3⟩ := asIface_some hk2
     obtain ⟨w3, hk4, hv⟩ := decR_vrep hk3
     rw [hrv] at hout
     cases e with
     | returned x => exact hout.elim
     | panicked ch =>
      obtain ⟨x, rfl, hp⟩ := hout
      cases hp with
      | iface _ hp2 => exact ⟨_, _, hk4, rfl, .iface _ (hv _ _ (.pure hp2))⟩
     | outgrown => exact hout.elim
theorem call_sound {f : FuncId} {vs : List V} {nt : Tmp} {st : St} {k : V -> St -> Res -> Option R} {kp : V -> St -> Option R} (hD : DSound pg D) (hS : SInv pg c own st)
  (h : callK pg D f vs nt st none k kp = some r) {xs : Array Value} (hl : vs.length = xs.size) (hx : ∀ j, j < vs.length -> VRep pg.P c (vs.getD j .undef) (xs.getD j Go.undef)) :
  Bodied pg.P f ∧ Calls pg.P f xs c.w (CallDone pg c own st r k kp) := by
 obtain ⟨vs2, sub, res, c2, own2, h1, h2, h3, h4, h5, h6, h7, _, h8⟩ := call_core hS h hl hx
 obtain ⟨hbod, hcall⟩ := hD f vs2 sub res h1
 have hc := hcall c2 own2 xs h2 h3 h4 h5 h6
 rw [h7] at hc
 exact ⟨hbod, hc.mono fun e w' hE => (h8 e w' hE).done⟩
theorem callD_sound {f : FuncId} {vs : List V} {nt : Tmp} {st : St} {cur : Option V} {u : FrameMode} {k : V -> St -> Res -> Option R} {kp : V -> St -> Option R} (hD : DSoundD pg D) (hS : SInv pg c own st) (hu : ModeOk pg c cur u)
  (h : callK pg D f vs nt st (some cur) k kp = some r) {xs : Array Value} (hl : vs.length = xs.size) (hx : ∀ j, j < vs.length -> VRep pg.P c (vs.getD j .undef) (xs.getD j Go.undef)) :
  Bodied pg.P f ∧ CallsD pg.P f xs u c.w fun e u' w' => ∃ res, CallDoneR pg c own st r k kp res e w' ∧ ((res.pn = some cur ∧ u' = u) ∨ (res.pn = some none ∧ settle u' = .returning)) := by
 obtain ⟨vs2, sub, res, c2, own2, h1, h2, h3, h4, h5, h6, h7, h9, h8⟩ := call_core hS h hl hx
 obtain ⟨hbod, hcall⟩ := hD f vs2 sub cur res h1
 have hc := hcall c2 own2 xs u h2 h3 h4 h5 h6 (by
  cases cur with
  | none => exact hu
  | some v =>
   obtain ⟨x, rfl, hx⟩ := hu
   exact ⟨x, rfl, h9 v x hx⟩)
 rw [h7] at hc
 exact ⟨hbod, hc.mono fun e u' w' hE => ⟨res, h8 e w' hE.1, hE.2⟩⟩
end
end Go.Proofs.Ab
namespace Go.Proofs.Ab
open Go
section
variable {R : Type} {r : R} {pg : Pg} {c : Cx} {own : Own} {live : Nat -> Prop} {g : Nat -> Option Blk} {bl : List (Nat × Blk)} {dead : List Nat} {D : DSem} {env : Env} {st : St}
def EnvRep (P : Program) (c : Cx) (env : Env) (a : Act) : Prop := ∀ t, VRep P c (env.get t) (a.tmps.getD t Go.undef)
theorem EnvRep.eval {a : Act} (hE : EnvRep pg.P c env a) (hI : Inv pg c own g live) (t : TypeId) (x : Operand) : VRep pg.P c (evO pg env t x) (a.eval x) := by
 cases x with
 | tmp s => exact hE s
 | const v => exact cvK_rep t v
 | global i =>
  show VRep pg.P c (match pg.gl i with | some cs => .ptr cs 0 | none => .undef) _
  cases hg : pg.gl i with
  | none => exact .undef _
  | some cs => exact .pure (hI.gl i cs hg)
 | func f => exact .pure (.fn f)
theorem EnvRep.mono {a : Act} {c' : Cx} (hE : EnvRep pg.P c env a) (hx : Ext c c') : EnvRep pg.P c' env a := fun t => (hE t).mono hx
theorem EnvRep.put {a : Act} {env' : Env} {nt : Nat} {d : Option Tmp} {v : V} {x : Value} (hE : EnvRep pg.P c env a) (hn : a.tmps.size = nt) (hp : putE nt env d v = some env') (hv : VRep pg.P c v x) : EnvRep pg.P c env' (a.put d x) := by
 unfold putE at hp
 split at hp
 ·cases hp; exact hE
 ·rename_i t
  obtain ⟨hlt, h1⟩ := condL_some hp
  cases h1
  have hlt : t < nt := by simpa [Nat.blt_eq] using hlt
  intro s
  by_cases hs : t = s
  ·subst hs
   have h1 : Env.get ((t, v) :: env) t = v := by unfold Env.get; rw [Nat.beq_refl]; rfl
   have h2 : (a.put (some t) x).tmps.getD t Go.undef = x := by simp [Act.put, Array.getD, hn, hlt]
   rw [h1, h2]; exact hv
  ·have h1 : Env.get ((t, v) :: env) s = env.get s := by
    have : Env.get ((t, v) :: env) s = bif Nat.beq t s then v else env.get s := rfl
    rw [this, nbeq hs]; rfl
   have h2 : (a.put (some t) x).tmps.getD s Go.undef = a.tmps.getD s Go.undef := by
    simp [Array.getD_eq_getD_getElem?, Act.put, Array.getElem?_setIfInBounds, hs]
   rw [h1, h2]; exact hE s
theorem put_size (a : Act) (d : Option Tmp) (x : Value) : (a.put d x).tmps.size = a.tmps.size := by cases d <;> simp [Act.put]
theorem put_defers (a : Act) (d : Option Tmp) (x : Value) : (a.put d x).defers = a.defers := by cases d <;> rfl
inductive DefRep (P : Program) (c : Cx) : List (FuncId × List V) -> List Deferred -> Prop where
 | nil : DefRep P c [] []
 | cons {f : FuncId} {cap : List V} {xs : Array Value} {l : List (FuncId × List V)} {ds : List Deferred} (hl : cap.length = xs.size) (h : ∀ j, j < cap.length -> VRep P c (cap.getD j .undef) (xs.getD j Go.undef)) (hr : DefRep P c l ds) :
   DefRep P c ((f, cap) :: l) ({ target := .fn (.func f) xs, args := #[] } :: ds)
theorem DefRep.mono {P : Program} {c c' : Cx} {l : List (FuncId × List V)} {ds : List Deferred} (h : DefRep P c l ds) (hx : Ext c c') : DefRep P c' l ds := by
 induction h with
 | nil => exact .nil
 | cons hl h _ ih => exact .cons hl (fun j hj => (h j hj).mono hx) ih
theorem callFunc_enter {f : FuncId} (hb : Bodied pg.P f) (args : Array Value) (w : World) : (callFunc f args).run pg.P w = .ok (.enter f args) w := by
 obtain ⟨fn, h1, h2, h3⟩ := hb
 unfold callFunc
 simp only [Sem.run_bind, run_program, Result.andThen_ok, h1]
 rw [if_neg (by rw [h3]; nofun), if_neg (by rw [h2]; nofun)]
 rfl
theorem mkB_allocs {f : FuncId} {o : Oper} (h : mkB pg f o = true) : allocs o = true := by
 unfold mkB at h
 unfold allocs
 split at h <;> first | (rename_i h1; rw [h1]) | cases h
structure AtI (pg : Pg) (c0 : Cx) (own0 : Own) (nt : Nat) (st0 : St) (c : Cx) (own : Own) (env : Env) (st : St) (a : Act) : Prop where
 inv : SInv pg c own st
 env : EnvRep pg.P c env a
 size : a.tmps.size = nt
 defs : a.defers = []
 df : st.df = st0.df
 pn : st.pn = st0.pn
 after : After c0 own0 c own
 ext : Ext c0 c
def KIOk (pg : Pg) (r : R) (c0 : Cx) (own0 : Own) (nt : Nat) (st0 : St) (k : Ex -> Env -> St -> Option R) (Q : Exit -> Act -> World -> Prop) : Prop :=
 ∀ ex env st c own a, k ex env st = some r -> AtI pg c0 own0 nt st0 c own env st a ->
  match ex with
  | .normal => Q .normal a c.w
  | .exit id => Q (.exit id) a c.w
  | .ret => Q .ret a c.w
  | .pan v => ∀ x, VRep pg.P c v x -> Q (.panic [{ v := x, recovered := false }]) a c.w
theorem opI_sound {f : FuncId} {o : Oper} {a : Act} {k kp : V -> St -> Option R} {next : Act -> World -> Prop} {Q : Exit -> Act -> World -> Prop} (hS : SInv pg c own st)
  (h : opI pg f env o st k kp = some r) (hE : ∀ x ∈ o.op.operands, ∀ t, VRep pg.P c (evO pg env t x) (a.eval x))
  (hk : ∀ v st' c' own' x, k v st' = some r -> VRep pg.P c' v x -> SInv pg c' own' st' -> After c own c' own' -> Ext c c' -> st'.df = st.df -> st'.pn = st.pn -> next (a.put o.dst x) c'.w)
  (hp : ∀ v st' c' own' x, kp v st' = some r -> VRep pg.P c' v x -> SInv pg c' own' st' -> After c own c' own' -> Ext c c' -> st'.df = st.df -> st'.pn = st.pn -> Q (.panic [{ v := x, recovered := false }]) a c'.w) :
  o.wp pg.P a c.w next Q := by
 have pan : ∀ {t : TypeId} {v : V} {x : Value}, kp (.iface t v) st = some r -> VRep pg.P c (.iface t v) x -> (execOp a.eval o).run pg.P c.w = (Instr.panic x >>= fun y => pure (.value y) : Sem Next).run pg.P c.w -> o.wp pg.P a c.w next Q := by
  intro t v x h1 hx hrun
  obtain ⟨y, rfl, hy⟩ := hx.iface_inv
  unfold Oper.wp
  rw [hrun]
  exact hp _ _ _ _ _ h1 hx hS (After.refl _ _) (Ext.refl _) rfl rfl
 unfold opI at h
 obtain ⟨hmk, h⟩ := condR_some h
 split at h
 ·
  rename_i x ho
  rw [ho] at hE
  split at h
  ·rename_i t v hv
   have := hE x (by simp [Op.operands]) 0
   rw [hv] at this
   exact pan h this (by simp only [execOp, ho])
  ·cases h
 ·
  rename_i args ts ho
  split at h
  ·rename_i s x t u d hargs hts hd
   split at h
   ·rename_i e hu
    obtain ⟨hc, h1⟩ := condL_some h
    have ha : args = #[s, x] := by rw [<- hargs]
    have ht : ts = #[t, u] := by rw [<- hts]
    subst ha; subst ht
    rw [ho] at hE
    have hs := hE s (by simp [Op.operands, Call.operands]) t
    have hx := hE x (by simp [Op.operands, Call.operands]) u
    have hu2 : (∃ e', pg.P.underlying u = some (.slice e')) ∨ pg.P.underlying u = some .string := by
     rcases Bool.or_eq_true _ _ ▸ hc with h2 | h2
     ·have : t = u := Nat.eq_of_beq_eq_true h2
      subst this; exact .inl ⟨e, hu⟩
     ·split at h2
      ·exact .inr ‹_›
      ·cases h2
    have hdn := appendS_sound (ty := o.type) hS h1 hs hx hu hu2
    obtain ⟨v, st', c', own', y, nx, g1, g2, g3, g4, g5, g6, g7, g8, g9⟩ := hdn
    have hrun : (execOp a.eval o).run pg.P c.w = .ok nx c'.w := by
     rw [<- g2]
     simp [execOp, ho, resolve, invoke, builtin]
    unfold Oper.wp
    rw [hrun]
    rcases g3 with rfl | ⟨rfl, rfl⟩
    ·exact hk v st' c' own' y g1 g4 g5 g6 g7 g8 g9
    ·exact hk v st' c' own' Go.undef g1 g4 g5 g6 g7 g8 g9
   ·cases h
  ·cases h
 ·cases h
 ·cases h
 ·cases h
 ·cases h
 ·
  obtain ⟨v, bl', c', own', x, nx, g1, g2, g3, g4, g5, g6, g7, g8⟩ := opB_sound hS.inv (fun hm => by rw [hmk] at hm; cases hm) h hE
  have hS' : SInv pg c' own' { st with bl := bl' } := ⟨g5, fun t r hr => hS.domr t r (by rw [<- g8]; exact hr)⟩
  unfold Oper.wp
  rw [g2]
  rcases g3 with rfl | ⟨rfl, rfl⟩
  ·exact hk v _ c' own' x g1 g4 hS' g6 g7 rfl rfl
  ·exact hk v _ c' own' Go.undef g1 g4 hS' g6 g7 rfl rfl
section
variable {c0 : Cx} {own0 : Own} {nt : Nat} {st0 : St} {f : FuncId} {Q : Exit -> Act -> World -> Prop}
theorem evIOps_sound {ops : Array Oper} {k : Ex -> Env -> St -> Option R} (hk : KIOk pg r c0 own0 nt st0 k Q) : ∀ (rest : List Oper) (env : Env) (st : St) (c : Cx) (own : Own) (a : Act), evIOps pg f nt rest env st k = some r ->
  AtI pg c0 own0 nt st0 c own env st a -> wpList pg.P ops Q rest a c.w
 | [], env, st, c, own, a, h, hA => hk .normal env st c own a h hA
 | o :: rest, env, st, c, own, a, h, hA => by
  unfold evIOps at h
  unfold wpList
  split at h
  ·rename_i hg
   rw [if_pos (by unfold Region.wanted; rw [hg])]
   refine .inl (opI_sound hA.inv h (fun x _ t => hA.env.eval hA.inv.inv t x) (fun v st' c' own' x h1 hv hS ha hx e1 e2 => ?_) (fun v st' c' own' x h1 hv hS ha hx e1 e2 => ?_))
   ·split at h1
    ·rename_i env' hp
     exact evIOps_sound hk rest _ _ _ _ _ h1 ⟨hS, (hA.env.mono hx).put hA.size hp hv, (put_size a o.dst x).trans hA.size, (put_defers a o.dst x).trans hA.defs, e1.trans hA.df, e2.trans hA.pn, hA.after.trans ha, hA.ext.trans hx⟩
    ·cases h1
   ·exact hk (.pan v) env st' c' own' a h1 ⟨hS, hA.env.mono hx, hA.size, hA.defs, e1.trans hA.df, e2.trans hA.pn, hA.after.trans ha, hA.ext.trans hx⟩ x hv
  ·cases h
theorem AtI.setC {o : Operand} {b : Bool} {a : Act} (hA : AtI pg c0 own0 nt st0 c own env st a) (h : evO pg env 0 o = .bool b) : AtI pg c0 own0 nt st0 c own (setC env o b) st a := by
 cases o with
 | tmp t =>
  refine ⟨hA.inv, fun s => ?_, hA.size, hA.defs, hA.df, hA.pn, hA.after, hA.ext⟩
  by_cases hs : t = s
  ·subst hs
   have h1 : Env.get ((t, V.bool b) :: env) t = .bool b := by unfold Env.get; rw [Nat.beq_refl]; rfl
   show VRep pg.P c (Env.get ((t, V.bool b) :: env) t) _
   rw [h1]
   have h2 : env.get t = .bool b := h
   rw [<- h2]; exact hA.env t
  ·have h1 : Env.get ((t, V.bool b) :: env) s = env.get s := by
    have : Env.get ((t, V.bool b) :: env) s = bif Nat.beq t s then V.bool b else env.get s := rfl
    rw [this, nbeq hs]; rfl
   show VRep pg.P c (Env.get ((t, V.bool b) :: env) s) _
   rw [h1]; exact hA.env s
 | _ => exact hA
theorem evI_sound : ∀ (code : Code) {k : Ex -> Env -> St -> Option R} {Q : Exit -> Act -> World -> Prop} {env : Env} {st : St} {c : Cx} {own : Own} {a : Act}, KIOk pg r c0 own0 nt st0 k Q -> evI pg f nt code env st k = some r ->
  AtI pg c0 own0 nt st0 c own env st a -> code.wp pg.P Q a c.w := by
 intro code
 induction code with
 | skip => intro k Q env st c own a hk h hA; exact wp_skip (hk .normal env st c own a h hA)
 | ret => intro k Q env st c own a hk h hA; exact wp_ret (hk .ret env st c own a h hA)
 | region id ops draw =>
  intro k Q env st c own a hk h hA
  unfold evI at h
  obtain ⟨hd, h⟩ := condR_some h
  subst hd
  exact wp_region_list (evIOps_sound hk _ _ _ _ _ _ h hA)
 | seq x y ihx ihy =>
  intro k Q env st c own a hk h hA
  unfold evI at h
  refine wp_seq (ihx (fun ex env st c own a h hA => ?_) h hA)
  cases ex with
  | normal => exact ihy hk h hA
  | exit id => exact hk (.exit id) env st c own a h hA
  | ret => exact hk .ret env st c own a h hA
  | pan v => exact hk (.pan v) env st c own a h hA
 | cond o x y ihx ihy =>
  intro k Q env st c own a hk h hA
  unfold evI at h
  split at h
  ·rename_i b hb
   have hv := hA.env.eval hA.inv.inv 0 o
   rw [hb] at hv
   refine wp_cond hv.bool_inv ?_
   cases b with
   | true => exact ihx hk h (hA.setC hb)
   | false => exact ihy hk h (hA.setC hb)
  ·cases h
 | scope x ih =>
  intro k Q env st c own a hk h hA
  unfold evI at h
  refine wp_scope_straight (ih (k := k) (fun ex env st c own a h hA => ?_) h hA)
  cases ex with
  | normal => exact hk .normal env st c own a h hA
  | exit id => exact hk (.exit id) env st c own a h hA
  | ret => exact hk .ret env st c own a h hA
  | pan v => exact hk (.pan v) env st c own a h hA
 | _ => intro k Q env st c own a hk h hA; unfold evI at h; cases h
end
theorem args0_get' : ∀ (vs : List V) (n t : Nat), (args0 n vs).get t = if n <= t ∧ t < n + vs.length then vs.getD (t - n) .undef else .undef
 | [], n, t => by
  have : ¬ (n <= t ∧ t < n + ([] : List V).length) := by rw [List.length_nil]; omega
  rw [if_neg this]; rfl
 | v :: vs, n, t => by
  show (bif Nat.beq n t then v else (args0 (n + 1) vs).get t) = _
  by_cases h : n = t
  ·subst h
   rw [Nat.beq_refl, cond_true, if_pos (by simp)]
   simp
  ·rw [nbeq h, cond_false, args0_get' vs (n + 1) t]
   by_cases h1 : n + 1 <= t ∧ t < n + 1 + vs.length
   ·rw [if_pos h1, if_pos (by simp; omega)]
    have : t - n = (t - (n + 1)) + 1 := by omega
    rw [this]; simp
   ·rw [if_neg h1, if_neg (by simp; omega)]
theorem args0_env' {c : Cx} {vs : List V} {xs : Array Value} {n : Nat} (hl : vs.length = xs.size) (hx : ∀ j, j < vs.length -> VRep pg.P c (vs.getD j .undef) (xs.getD j Go.undef)) :
  EnvRep pg.P c (args0 0 vs) { tmps := xs ++ Array.replicate (n - xs.size) Go.undef, defers := [] } := fun t => by
 rw [args0_get']
 by_cases ht : 0 <= t ∧ t < 0 + vs.length
 ·rw [if_pos ht]
  have htl : t < vs.length := by omega
  have h2 : (xs ++ Array.replicate (n - xs.size) Go.undef).getD t Go.undef = xs.getD t Go.undef := by
   have h3 : t < xs.size := by omega
   have h4 : t < xs.size + (n - xs.size) := by omega
   simp [Array.getD, h3, h4, Array.getElem_append]
  show VRep pg.P c _ ((xs ++ Array.replicate (n - xs.size) Go.undef).getD t Go.undef)
  rw [h2]
  exact hx t htl
 ·rw [if_neg ht]; exact .undef _
theorem inl_sound {f : FuncId} {fn : Func} {vs : List V} {k kp : V -> St -> Option R} (hS : SInv pg c own st) (hfn : pg.P.funcs[f]? = some fn)
  (h : inlK pg f fn vs st k kp = some r) {xs : Array Value} (hl : vs.length = xs.size) (hx : ∀ j, j < vs.length -> VRep pg.P c (vs.getD j .undef) (xs.getD j Go.undef)) :
  Bodied pg.P f ∧ Calls pg.P f xs c.w (CallDone pg c own st r (fun v st' _ => k v st') kp) := by
 unfold inlK at h
 obtain ⟨hc, h1⟩ := condR_some h
 simp only [Bool.or_eq_false_iff] at hc
 obtain ⟨⟨hb, hname⟩, hlen⟩ := hc
 refine ⟨⟨fn, hfn, hb, hname⟩, ?_⟩
 cases hbody : fn.body with
 | none => rw [hbody] at hb; cases hb
 | some code =>
  have hbo : bodyOf fn = code := by unfold bodyOf; rw [hbody]
  rw [hbo] at h1
  have hlen' : vs.length <= fn.ntmps := by
   rcases Nat.lt_or_ge fn.ntmps vs.length with hlt | hge
   ·have h9 : Nat.blt fn.ntmps vs.length = true := by rw [Nat.blt_eq]; exact hlt
    rw [h9] at hlen; cases hlen
   ·exact hge
  have hA : AtI pg c own fn.ntmps st c own (args0 0 vs) st { tmps := xs ++ Array.replicate (fn.ntmps - xs.size) Go.undef, defers := [] } :=
   ⟨hS, args0_env' hl hx, by simp; omega, rfl, rfl, rfl, After.refl _ _, Ext.refl _⟩
  refine calls_of_wp hfn hbody (evI_sound (k := kInl fn k kp) code (fun ex env st' c' own' a h hA => ?_) h1 hA)
  have ret : resI fn env (fun v => k v st') = some r -> a.defers = [] ∧ ∃ v, (results fn a.tmps).run pg.P c'.w = .ok v c'.w ∧ CallDone pg c own st r (fun v st' _ => k v st') kp (.returned v) c'.w := by
   intro h
   unfold resI at h
   refine ⟨hA.defs, ?_⟩
   have fin : ∀ (v : V) (x : Value), k v st' = some r -> VRep pg.P c' v x -> CallDone pg c own st r (fun v st' _ => k v st') kp (.returned x) c'.w := fun v x h1 h2 =>
    ⟨c', own', st', rfl, hA.inv, hA.after, hA.ext, hA.df, hA.pn, v, ⟨.ret v, [], none⟩, h1, h2⟩
   split at h
   ·rename_i hr
    have hr : fn.results = #[] := Array.toList_eq_nil_iff.1 hr
    exact ⟨.tuple #[], by simp [results, hr], fin _ _ h (.tup rfl fun j hj => by cases hj)⟩
   ·rename_i t hr
    have hr : fn.results = #[.tmp t] := by rw [<- hr]
    exact ⟨a.tmps.getD t Go.undef, by simp [results, hr], fin _ _ h (hA.env t)⟩
   ·cases h
  cases ex with
  | normal => exact ret h
  | ret => exact ret h
  | exit id => cases h
  | pan v => exact fun x hv => ⟨hA.defs, c', own', st', rfl, hA.inv, hA.after, hA.ext, hA.df, hA.pn, v, x, h, rfl, hv⟩
theorem opS_sound {f : FuncId} {o : Oper} {a : Act} {k kp : V -> St -> Option R} {next : Act -> World -> Prop} {Q : Exit -> Act -> World -> Prop} (hD : DSound pg D) (hdf : ∀ c, o.op ≠ .defer c) (hS : SInv pg c own st) (hout : allocs o = true -> ∀ d, o.dst = some d -> ¬ c.out (aid d))
  (h : opS pg D f env o st k kp = some r) (hE : ∀ x ∈ o.op.operands, ∀ t, VRep pg.P c (evO pg env t x) (a.eval x))
  (hk : ∀ v st' c' own' x, k v st' = some r -> VRep pg.P c' v x -> SInv pg c' own' st' -> After c own c' own' -> Ext c c' -> st'.df = st.df -> st'.pn = st.pn -> next (a.put o.dst x) c'.w)
  (hp : ∀ v st' c' own' x, kp v st' = some r -> VRep pg.P c' v x -> SInv pg c' own' st' -> After c own c' own' -> Ext c c' -> st'.df = st.df -> st'.pn = st.pn -> Q (.panic [{ v := x, recovered := false }]) a c'.w) :
  o.wp pg.P a c.w next Q := by
 have pan : ∀ {t : TypeId} {v : V} {x : Value}, kp (.iface t v) st = some r -> VRep pg.P c (.iface t v) x -> (execOp a.eval o).run pg.P c.w = (Instr.panic x >>= fun y => pure (.value y) : Sem Next).run pg.P c.w -> o.wp pg.P a c.w next Q := by
  intro t v x h1 hx hrun
  obtain ⟨y, rfl, hy⟩ := hx.iface_inv
  unfold Oper.wp
  rw [hrun]
  exact hp _ _ _ _ _ h1 hx hS (After.refl _ _) (Ext.refl _) rfl rfl
 unfold opS at h
 split at h
 ·
  rename_i x ho
  rw [ho] at hE
  split at h
  ·rename_i t v hv
   have := hE x (by simp [Op.operands]) 0
   rw [hv] at this
   exact pan h this (by simp only [execOp, ho])
  ·cases h
 ·
  rename_i args ts ho
  split at h
  ·rename_i s x t u d hargs hts hd
   split at h
   ·rename_i e hu
    obtain ⟨hc, h1⟩ := condL_some h
    have ha : args = #[s, x] := by rw [<- hargs]
    have ht : ts = #[t, u] := by rw [<- hts]
    subst ha; subst ht
    rw [ho] at hE
    have hs := hE s (by simp [Op.operands, Call.operands]) t
    have hx := hE x (by simp [Op.operands, Call.operands]) u
    have hu2 : (∃ e', pg.P.underlying u = some (.slice e')) ∨ pg.P.underlying u = some .string := by
     rcases Bool.or_eq_true _ _ ▸ hc with h2 | h2
     ·have : t = u := Nat.eq_of_beq_eq_true h2
      subst this; exact .inl ⟨e, hu⟩
     ·split at h2
      ·exact .inr ‹_›
      ·cases h2
    have hdn := appendS_sound (ty := o.type) hS h1 hs hx hu hu2
    obtain ⟨v, st', c', own', y, nx, g1, g2, g3, g4, g5, g6, g7, g8, g9⟩ := hdn
    have hrun : (execOp a.eval o).run pg.P c.w = .ok nx c'.w := by
     rw [<- g2]
     simp [execOp, ho, resolve, invoke, builtin]
    unfold Oper.wp
    rw [hrun]
    rcases g3 with rfl | ⟨rfl, rfl⟩
    ·exact hk v st' c' own' y g1 g4 g5 g6 g7 g8 g9
    ·exact hk v st' c' own' Go.undef g1 g4 g5 g6 g7 g8 g9
   ·cases h
  ·cases h
 ·cases h
 ·
  rename_i args ts ho
  split at h
  ·rename_i x hargs
   have ha : args = #[x] := by rw [<- hargs]
   subst ha
   rw [ho] at hE
   split at h
   ·rename_i t v hv
    have := hE x (by simp [Op.operands, Call.operands]) 0
    rw [hv] at this
    exact pan h this (by simp [execOp, ho, resolve, invoke, builtin])
   ·cases h
  ·cases h
 ·
  rename_i fv args ts ho
  rw [ho] at hE
  split at h
  ·rename_i f2 cap d hfv hd
   split at h
   ·rename_i fn hfn
    obtain ⟨hsz, h1⟩ := condL_some h
    have hsz : args.size = fn.params.size := Nat.eq_of_beq_eq_true hsz
    have hf := hE fv (by simp [Op.operands, Call.operands]) 0
    rw [hfv] at hf
    obtain ⟨xs, hxs, hcl, hcv⟩ := hf.fn_inv
    have hlen : ((args.toList.zip fn.params.toList).map fun p => evO pg env p.2 p.1).length = args.size := by simp; omega
    have hargs : ∀ j, j < (((args.toList.zip fn.params.toList).map fun p => evO pg env p.2 p.1) ++ cap).length -> VRep pg.P c ((((args.toList.zip fn.params.toList).map fun p => evO pg env p.2 p.1) ++ cap).getD j .undef) ((args.map a.eval ++ xs).getD j Go.undef) := (fun j hj => by
     rw [List.length_append, hlen] at hj
     rcases Nat.lt_or_ge j args.size with hlt | hge
     ·have hlp : j < fn.params.size := by omega
      have e1 : ((((args.toList.zip fn.params.toList).map fun p => evO pg env p.2 p.1) ++ cap).getD j .undef) = evO pg env fn.params[j] args[j] := by
       have hj1 : j < ((args.toList.zip fn.params.toList).map fun p => evO pg env p.2 p.1).length := by rw [hlen]; exact hlt
       rw [List.getD_eq_getElem?_getD, List.getElem?_append_left hj1, List.getElem?_eq_getElem hj1]
       simp
      have e2 : (args.map a.eval ++ xs).getD j Go.undef = a.eval args[j] := by
       simp [Array.getD, hlt, Array.getElem_append]
       omega
      rw [e1, e2]
      exact hE _ (by simp [Op.operands, Call.operands]) _
     ·have e1 : ((((args.toList.zip fn.params.toList).map fun p => evO pg env p.2 p.1) ++ cap).getD j .undef) = cap.getD (j - args.size) .undef := by
       rw [List.getD_eq_getElem?_getD, List.getElem?_append_right (by rw [hlen]; exact hge), hlen]
       rfl
      have e2 : (args.map a.eval ++ xs).getD j Go.undef = xs.getD (j - args.size) Go.undef := by
       have h1 : j < args.size + xs.size := by omega
       have h2 : j - args.size < xs.size := by omega
       have h3 : ¬ j < args.size := by omega
       simp [Array.getD, h1, h2, Array.getElem_append, h3]
      rw [e1, e2]
      exact hcv _ (by omega))
    have hboth : Bodied pg.P f2 ∧ Calls pg.P f2 (args.map a.eval ++ xs) c.w (CallDone pg c own st r (fun v st' _ => k v st') kp) := by
     rcases cond_some h1 with ⟨_, h1⟩ | ⟨_, h1⟩
     ·exact inl_sound hS hfn h1 (by simp; omega) hargs
     ·exact call_sound (xs := args.map a.eval ++ xs) hD hS h1 (by simp; omega) hargs
    obtain ⟨hbod, hcall⟩ := hboth
    have hrun : (execOp a.eval o).run pg.P c.w = .ok (.enter f2 (args.map a.eval ++ xs)) c.w := by
     have : (execOp a.eval o).run pg.P c.w = (callFunc f2 (#[] ++ args.map a.eval ++ xs)).run pg.P c.w := by
      simp only [execOp, ho, resolve, hxs]
      rfl
     rw [this, callFunc_enter hbod]
     simp
    unfold Oper.wp
    rw [hrun]
    refine hcall.mono fun e w' hE => ?_
    obtain ⟨c', own', st', rfl, g1, g2, g3, g4, g5, g6⟩ := hE
    cases e with
    | returned x =>
     obtain ⟨v, res, g7, g8⟩ := g6
     exact hk v st' c' own' x g7 g8 g1 g2 g3 g4 g5
    | panicked ch =>
     obtain ⟨v, x, g7, rfl, g8⟩ := g6
     exact hp v st' c' own' x g7 g8 g1 g2 g3 g4 g5
    | outgrown => exact g6.elim
   ·cases h
  ·cases h
 ·rename_i ho; exact absurd ho (hdf _)
 ·
  obtain ⟨v, bl', c', own', x, nx, g1, g2, g3, g4, g5, g6, g7, g8⟩ := opB_sound hS.inv (fun hm => hout (mkB_allocs hm)) h hE
  have hS' : SInv pg c' own' { st with bl := bl' } := ⟨g5, fun t r hr => hS.domr t r (by rw [<- g8]; exact hr)⟩
  unfold Oper.wp
  rw [g2]
  rcases g3 with rfl | ⟨rfl, rfl⟩
  ·exact hk v _ c' own' x g1 g4 hS' g6 g7 rfl rfl
  ·exact hk v _ c' own' Go.undef g1 g4 hS' g6 g7 rfl rfl
end
end Go.Proofs.Ab
namespace Go.Proofs.Ab
open Go
structure At (pg : Pg) (p0 : Option (Option V)) (c0 : Cx) (own0 : Own) (nt : Nat) (c : Cx) (own : Own) (env : Env) (st : St) (a : Act) : Prop where
 inv : SInv pg c own st
 env : EnvRep pg.P c env a
 size : a.tmps.size = nt
 defs : DefRep pg.P c st.df a.defers
 pn : st.pn = p0
 after : After c0 own0 c own
 blk : ∀ i r, c0.blk i = some r -> c.blk i = some r
 out : ∀ id, ¬ c.out id
def KOk (pg : Pg) (p0 : Option (Option V)) (r : Res) (c0 : Cx) (own0 : Own) (nt : Nat) (k : K) (Q : Exit -> Act -> World -> Prop) : Prop :=
 ∀ ex env st c own a, k ex env st = some r -> At pg p0 c0 own0 nt c own env st a ->
  match ex with
  | .normal => Q .normal a c.w
  | .exit id => Q (.exit id) a c.w
  | .ret => Q .ret a c.w
  | .pan v => ∀ x, VRep pg.P c v x -> Q (.panic [{ v := x, recovered := false }]) a c.w
section
variable {p0 : Option (Option V)} {r : Res} {pg : Pg} {c0 c : Cx} {own0 own : Own} {D : DSem} {env : Env} {st : St} {f : FuncId} {nt : Nat} {k : K} {Q : Exit -> Act -> World -> Prop}
theorem At.step {a : Act} {c' : Cx} {own' : Own} {st' : St} {d : Option Tmp} {v : V} {x : Value} {env' : Env} (h : At pg p0 c0 own0 nt c own env st a) (hS : SInv pg c' own' st') (ha : After c own c' own') (hx : Ext c c') (h1 : st'.df = st.df) (h2 : st'.pn = st.pn)
  (hp : putE nt env d v = some env') (hv : VRep pg.P c' v x) : At pg p0 c0 own0 nt c' own' env' st' (a.put d x) :=
 ⟨hS, (h.env.mono hx).put h.size hp hv, (put_size a d x).trans h.size, (by rw [put_defers, h1]; exact h.defs.mono hx), h2.trans h.pn, h.after.trans ha, fun i r hr => hx.blk _ _ (h.blk i r hr), fun id => by rw [ha.far.1]; exact h.out id⟩
theorem At.stay {a : Act} {c' : Cx} {own' : Own} {st' : St} (h : At pg p0 c0 own0 nt c own env st a) (hS : SInv pg c' own' st') (ha : After c own c' own') (hx : Ext c c') (h1 : st'.df = st.df) (h2 : st'.pn = st.pn) : At pg p0 c0 own0 nt c' own' env st' a :=
 ⟨hS, h.env.mono hx, h.size, (by rw [h1]; exact h.defs.mono hx), h2.trans h.pn, h.after.trans ha, fun i r hr => hx.blk _ _ (h.blk i r hr), fun id => by rw [ha.far.1]; exact h.out id⟩
theorem EnvRep.known {P : Program} {a : Act} {t : Tmp} {b : Bool} (hE : EnvRep P c env a) (ht : env.get t = .bool b) : EnvRep P c ((t, .bool b) :: env) a := fun s => by
 by_cases hs : t = s
 ·subst hs
  have h1 : Env.get ((t, V.bool b) :: env) t = .bool b := by unfold Env.get; rw [Nat.beq_refl]; rfl
  rw [h1, <- ht]; exact hE t
 ·have h1 : Env.get ((t, V.bool b) :: env) s = env.get s := by
   have : Env.get ((t, V.bool b) :: env) s = bif Nat.beq t s then V.bool b else env.get s := rfl
   rw [this, nbeq hs]; rfl
  rw [h1]; exact hE s
theorem At.known {a : Act} {t : Tmp} {b : Bool} (h : At pg p0 c0 own0 nt c own env st a) (ht : env.get t = .bool b) : At pg p0 c0 own0 nt c own ((t, .bool b) :: env) st a :=
 ⟨h.inv, h.env.known ht, h.size, h.defs, h.pn, h.after, h.blk, h.out⟩
theorem wanted_of {P : Program} {ops : Array Oper} {a : Act} {o : Oper} {g : Nat} {want : Bool} (hg : o.guard = some (g, want)) {t : Tmp} (ht : dstOf ops.toList g = some t) {x : Option Bool}
  (hx : match x with | some b => a.tmps.getD t Go.undef = .bool b | none => a.tmps.getD t Go.undef = Go.undef) : Region.wanted o (yielded ops a.tmps) = (x == some want) := by
 unfold Region.wanted
 rw [hg]
 have hd : (ops[g]?).bind (·.dst) = some t := by
  unfold dstOf at ht
  rw [Array.getElem?_toList] at ht
  cases ho : ops[g]? with
  | none => rw [ho] at ht; cases ht
  | some o' => rw [ho] at ht; exact ht
 have hy : yielded ops a.tmps g = x := by
  unfold yielded
  rw [hd]
  show (match a.tmps[t]? with | some (.bool b) => some b | _ => none) = x
  rw [Array.getD_eq_getD_getElem?] at hx
  cases hq : a.tmps[t]? with
  | none =>
   rw [hq] at hx
   cases x with
   | none => rfl
   | some b => exact Value.noConfusion hx
  | some v =>
   rw [hq] at hx
   cases x with
   | none =>
    have : v = Go.undef := hx
    subst this; rfl
   | some b =>
    have : v = .bool b := hx
    subst this; rfl
 show (yielded ops a.tmps g == some want) = _
 rw [hy]
theorem opS_defer {R : Type} {r : R} {o : Oper} {a : Act} {cl : Call} {kv kp : V -> St -> Option R} (hA : At pg p0 c0 own0 nt c own env st a) (ho : o.op = .defer cl) (h : opS pg D f env o st kv kp = some r) :
  ∃ (fv : Operand) (f2 : FuncId) (cap : List V) (xs : Array Value), kv .undef { st with df := (f2, cap) :: st.df } = some r ∧ (execOp a.eval o).run pg.P c.w = .ok (.defer { target := .fn (.func f2) xs, args := #[] }) c.w ∧
   cap.length = xs.size ∧ ∀ j, j < cap.length -> VRep pg.P c (cap.getD j .undef) (xs.getD j Go.undef) := by
 obtain ⟨callee, args, ts⟩ := cl
 unfold opS at h
 rw [ho] at h
 cases callee with
 | value fv =>
  dsimp only at h
  obtain ⟨_, h1⟩ := condL_some h
  split at h1
  ·rename_i f2 cap hfv hargs
   have hf := hA.env.eval hA.inv.inv 0 fv
   rw [hfv] at hf
   obtain ⟨xs, hxs, hcl, hcv⟩ := hf.fn_inv
   have ha : args = #[] := by cases args; simpa using hargs
   subst ha
   refine ⟨fv, f2, cap, xs, h1, ?_, hcl, hcv⟩
   simp only [execOp, ho, resolve, hxs, Deferred.ofValue, Sem.run_bind, Sem.run_pure, Result.andThen_ok]
   simp
  ·cases h1
 | builtin b =>
  dsimp only at h
  unfold opB at h
  rw [ho] at h
  dsimp only at h
  unfold opR at h
  rw [ho] at h
  dsimp only at h
  unfold opQ at h
  rw [ho] at h
  cases h
 | invoke x n =>
  dsimp only at h
  unfold opB at h
  rw [ho] at h
  dsimp only at h
  unfold opR at h
  rw [ho] at h
  dsimp only at h
  unfold opQ at h
  rw [ho] at h
  cases h
theorem evOps_sound {ops : Array Oper} (hD : DSound pg D) (hk : KOk pg p0 r c0 own0 nt k Q) : ∀ (rest : List Oper) (env : Env) (st : St) (c : Cx) (own : Own) (a : Act), evOps pg D f nt ops.toList rest env st k = some r ->
  At pg p0 c0 own0 nt c own env st a -> wpList pg.P ops Q rest a c.w
 | [], env, st, c, own, a, h, hA => hk .normal env st c own a h hA
 | o :: rest, env, st, c, own, a, h, hA => by
  have go : ∀ {env : Env}, opS pg D f env o st (fun v st' => match putE nt env o.dst v with | some env' => evOps pg D f nt ops.toList rest env' st' k | none => none) (fun v st' => k (.pan v) env st') = some r ->
    At pg p0 c0 own0 nt c own env st a -> o.wp pg.P a c.w (wpList pg.P ops Q rest) Q := by
   intro env h hA
   by_cases hdf : ∃ c, o.op = .defer c
   ·obtain ⟨cl, ho⟩ := hdf
    obtain ⟨fv, f2, cap, xs, h1, hrun, h3, h4⟩ := opS_defer hA ho h
    unfold Oper.wp
    rw [hrun]
    split at h1
    ·rename_i env' hp
     refine evOps_sound hD hk rest env' _ c own _ h1 ?_
     exact ⟨⟨hA.inv.inv, hA.inv.domr⟩, EnvRep.put (a := { a with defers := { target := .fn (.func f2) xs, args := #[] } :: a.defers }) hA.env hA.size hp (.undef _), (put_size _ o.dst _).trans hA.size, (by rw [put_defers]; exact .cons h3 h4 hA.defs), hA.pn, hA.after, hA.blk, hA.out⟩
    ·cases h1
   refine opS_sound hD (fun c hc => hdf ⟨c, hc⟩) hA.inv (fun _ d _ => hA.out _) h (fun x _ t => hA.env.eval hA.inv.inv t x) (fun v st' c' own' x h1 hv hS ha hx e1 e2 => ?_) (fun v st' c' own' x h1 hv hS ha hx e1 e2 => ?_)
   ·split at h1
    ·rename_i env' hp
     exact evOps_sound hD hk rest _ _ _ _ _ h1 (hA.step hS ha hx e1 e2 hp hv)
    ·cases h1
   ·exact hk (.pan v) env st' c' own' a h1 (hA.stay hS ha hx e1 e2) x hv
  have skip : ∀ {env : Env}, (match putE nt env o.dst .hole with | some env' => evOps pg D f nt ops.toList rest env' st k | none => none) = some r -> At pg p0 c0 own0 nt c own env st a -> wpList pg.P ops Q rest (a.put o.dst Go.undef) c.w := by
   intro env h hA
   split at h
   ·rename_i env' hp
    exact evOps_sound hD hk rest _ _ _ _ _ h (hA.step hA.inv (After.refl _ _) (Ext.refl _) rfl rfl hp .hole)
   ·cases h
  unfold evOps at h
  unfold wpList
  dsimp only at h
  split at h
  ·rename_i hg
   rw [if_pos (by unfold Region.wanted; rw [hg])]
   exact .inl (go h hA)
  ·rename_i g want hg
   split at h
   ·cases h
   ·rename_i t ht
    split at h
    ·rename_i b hb
     have hx := hA.env t
     rw [hb] at hx
     have hw := wanted_of (P := pg.P) (a := a) hg ht (x := some b) hx.bool_inv
     have hA' := hA.known hb
     rw [hw]
     cases b <;> cases want
     ·rw [if_pos (by rfl)]; exact .inl (go h hA')
     ·rw [if_neg (by nofun)]; exact skip h hA'
     ·rw [if_neg (by nofun)]; exact skip h hA'
     ·rw [if_pos (by rfl)]; exact .inl (go h hA')
    ·rename_i hb
     have hx := hA.env t
     rw [hb] at hx
     have hw := wanted_of (P := pg.P) (a := a) hg ht (x := none) hx.hole_inv
     rw [hw, if_neg (by nofun)]
     exact skip h hA
    ·cases h
end
end Go.Proofs.Ab
namespace Go.Proofs.Ab
open Go
section
variable {pg : Pg} {D : DSem} {f : FuncId} {env : Env} {o : Oper} {st : St} {bl : List (Nat × Blk)} {R : Type} {r : R}
def isRd (o : Oper) : Bool :=
 match o.op with
 | .panic _ => false
 | .alloc _ => false | .makeSlice _ _ _ => false | .box _ _ => false | .buildSlice _ _ _ => false | .makeInterface _ _ => false | .store _ _ _ => false | .makeMap _ _ => false | .mapUpdate _ _ _ _ => false
 | .call { callee := .value _, args := _, argTypes := _ } => false
 | _ => true
theorem opR_val {k : V -> Option R} (h : opR pg env o bl k = some r) : ∃ v, k v = some r := by
 have h1 := opR_bind k pg env o bl (some : V -> Option V)
 simp only [Option.bind_some] at h1
 rw [h] at h1
 obtain ⟨v, _, h2⟩ := Option.bind_eq_some_iff.1 h1
 exact ⟨v, h2⟩
theorem opB_val {k : V -> List (Nat × Blk) -> Option R} (hr : isRd o = true) (h : opB pg f env o bl k = some r) : ∃ v, k v bl = some r := by
 unfold opB at h
 unfold isRd at hr
 split at h
 ·rename_i t ho; rw [ho] at hr; cases hr
 ·rename_i t x ho; rw [ho] at hr; cases hr
 ·rename_i t a x ho; rw [ho] at hr; cases hr
 ·rename_i t x ho; rw [ho] at hr; cases hr
 ·rename_i t l c ho; rw [ho] at hr; cases hr
 ·rename_i t n parts ho; rw [ho] at hr; cases hr
 ·split at h
  ·split at h
   ·split at h
    ·obtain ⟨_, h1⟩ := condL_some h
     obtain ⟨_, h2⟩ := iteL_some h1
     exact ⟨_, h2⟩
    ·cases h
   ·obtain ⟨v, _, h1⟩ := Option.bind_eq_some_iff.1 (show (convK pg _ _ _ some).bind (fun v => k v bl) = some r by rw [convK_bind]; exact h)
    exact ⟨v, h1⟩
  ·exact opR_val h
 ·rename_i t ho; rw [ho] at hr; cases hr
 ·rename_i t m key x ho; rw [ho] at hr; cases hr
 ·exact opR_val h
theorem opS_opB {k kp : V -> St -> Option R} (h1 : isRow o = false) (h2 : notDrawn o = false) : opS pg D f env o st k kp = opB pg f env o st.bl fun v bl' => k v { st with bl := bl' } := by
 unfold opS
 unfold isRow at h1
 unfold notDrawn at h2
 split
 ·rename_i x ho; rw [ho] at h1; cases h1
 ·rename_i args ts ho; rw [ho] at h1; cases h1
 ·rename_i args ts ho; rw [ho] at h2; cases h2
 ·rename_i args ts ho; rw [ho] at h2; cases h2
 ·rename_i args ts ho; rw [ho] at h1; cases h1
 ·rename_i args ts ho; rw [ho] at h2; cases h2
 ·rfl
theorem appendS_val {e : TypeId} {s x : V} {d : Tmp} {k : V -> St -> Option R} (h : appendS pg e s x d st k = some r) : ∃ v st', st'.bl = st.bl ∧ k v st' = some r := by
 have go : ∀ {old es}, appGo pg e x d st k old es = some r -> ∃ v st', st'.bl = st.bl ∧ k v st' = some r := by
  intro old es h
  unfold appGo at h
  obtain ⟨_, h1⟩ := condL_some h
  split at h1
  ·obtain ⟨_, h2⟩ := condL_some h1
   obtain ⟨_, h3⟩ := iteL_some h2
   exact ⟨_, { st with used := aid d :: st.used, dead := old ++ st.dead }, rfl, h3⟩
  ·split at h1
   ·obtain ⟨_, h2⟩ := condL_some h1
    obtain ⟨_, h3⟩ := iteL_some h2
    exact ⟨_, { st with used := aid d :: st.used, dead := old ++ st.dead }, rfl, h3⟩
   ·cases h1
  ·split at h1
   ·obtain ⟨_, h2⟩ := condR_some h1
    obtain ⟨_, h3⟩ := iteL_some h2
    exact ⟨_, { st with used := aid d :: st.used, dead := old ++ st.dead }, rfl, h3⟩
   ·cases h1
  ·cases h1
 unfold appendS at h
 split at h
 ·obtain ⟨_, h1⟩ := condL_some h
  obtain ⟨_, h1⟩ := condR_some h1
  exact go h1
 ·rename_i t0 ps
  obtain ⟨_, h1⟩ := condL_some h
  unfold appFr at h1
  obtain ⟨_, h2⟩ := condL_some h1
  split at h2
  ·obtain ⟨_, h3⟩ := condL_some h2
   obtain ⟨_, h4⟩ := iteL_some h3
   exact ⟨_, { st with used := aid d :: st.used, dead := [t0] ++ st.dead }, rfl, h4⟩
  ·cases h2
 ·obtain ⟨_, h1⟩ := condL_some h; exact go h1
 ·cases h
theorem opS_rd {k kp : V -> St -> Option R} (hr : isRd o = true) (h2 : notDrawn o = false) (h : opS pg D f env o st k kp = some r) : ∃ v st', st'.bl = st.bl ∧ k v st' = some r := by
 cases h1 : isRow o with
 | false =>
  rw [opS_opB h1 h2] at h
  obtain ⟨v, h3⟩ := opB_val hr h
  exact ⟨v, _, rfl, h3⟩
 | true =>
  unfold opS at h
  unfold notDrawn at h2
  unfold isRd at hr
  unfold isRow at h1
  split at h
  ·rename_i x ho; rw [ho] at hr; cases hr
  ·split at h
   ·split at h
    ·obtain ⟨_, h3⟩ := condL_some h
     exact appendS_val h3
    ·cases h
   ·cases h
  ·rename_i args ts ho; rw [ho] at h2; cases h2
  ·rename_i args ts ho; rw [ho] at h2; cases h2
  ·rename_i args ts ho; rw [ho] at hr; cases hr
  ·rename_i args ts ho; rw [ho] at h2; cases h2
  ·obtain ⟨v, h3⟩ := opB_val hr h
   exact ⟨v, _, rfl, h3⟩
theorem footOf_row : (footOf env bl o).row = isRow o := by
 unfold footOf isRow
 split <;> rename_i ho <;> simp [ho]
theorem footOf_rd (h : isRd o = true) : (footOf env bl o).wr = [] := by
 unfold isRd at h
 unfold footOf
 split <;> rename_i ho <;> first | rfl | (rw [ho] at h; cases h)
theorem footOf_wr (h : isRd o = false) : (footOf env bl o).rd = [] := by
 unfold isRd at h
 unfold footOf
 split <;> rename_i ho <;> first | rfl | (rw [ho] at h; cases h)
theorem mem_dedup {a : Nat} : ∀ {l : List Nat}, a ∈ dedup l ↔ a ∈ l
 | [] => Iff.rfl
 | b :: l => by
  unfold dedup
  cases h : l.contains b with
  | true =>
   rw [cond_true, mem_dedup, List.mem_cons]
   constructor
   ·exact .inr
   ·rintro (rfl | h1)
    ·exact List.contains_iff_mem.1 h
    ·exact h1
  | false => rw [cond_false, List.mem_cons, List.mem_cons, mem_dedup]
theorem footOf_mk (h : allocs o = true) {d : Tmp} (hd : o.dst = some d) : aid d ∈ (footOf env bl o).wr := by
 have hm : mk o = [aid d] := by unfold mk; rw [hd]
 unfold allocs at h
 unfold footOf
 split <;> rename_i ho <;> first
  | (show aid d ∈ mk o; rw [hm]; exact List.mem_cons_self ..)
  | (show aid d ∈ dedup (mk o ++ _); rw [mem_dedup, hm]; exact List.mem_append_left _ (List.mem_cons_self ..))
  | (rw [ho] at h; cases h)
  | skip
 all_goals
  split at h <;> rename_i ho2 <;> first | cases h | skip
 all_goals
  exfalso
  simp_all
theorem getB_subB (ids : List Nat) (id : Nat) : getB (subB bl ids) id = if id ∈ ids then getB bl id else none := by
 induction ids with
 | nil => rfl
 | cons a ids ih =>
  have key : subB bl (a :: ids) = (match getB bl a with | some b => (a, b) :: subB bl ids | none => subB bl ids) := by
   unfold subB
   cases hb : getB bl a with
   | none => simp [List.filterMap_cons, hb]
   | some b => simp [List.filterMap_cons, hb]
  rw [key]
  cases hb : getB bl a with
  | none =>
   simp only []
   rw [ih]
   by_cases h1 : id = a
   ·subst h1; simp [hb]
   ·simp [h1]
  | some b =>
   simp only [getB]
   by_cases h1 : a = id
   ·subst h1; simp [hb]
   ·rw [nbeq h1, cond_false, ih]
    simp [Ne.symm h1]
theorem getB_overB (bl' : List (Nat × Blk)) : ∀ (ids : List Nat) (bl : List (Nat × Blk)) (id : Nat), getB (overB bl bl' ids) id = if id ∈ ids then (match getB bl' id with | some b => some b | none => getB bl id) else getB bl id
 | [], bl, id => rfl
 | a :: ids, bl, id => by
  unfold overB
  cases hb : getB bl' a with
  | none =>
   show getB (overB bl bl' ids) id = _
   rw [getB_overB bl' ids]
   by_cases h1 : id = a
   ·subst h1
    by_cases h2 : id ∈ ids <;> simp [h2, hb]
   ·simp [h1]
  | some b =>
   show getB (overB (setB bl a b) bl' ids) id = _
   rw [getB_overB bl' ids, getB_setB]
   by_cases h1 : id = a
   ·subst h1
    by_cases h2 : id ∈ ids <;> simp [h2, hb]
   ·simp [h1]
theorem keys_of {ids : List Nat} (h : (bl.all fun p => ids.contains p.1) = true) : ∀ {id : Nat} {k : Blk}, getB bl id = some k -> id ∈ ids := by
 induction bl with
 | nil => intro id k hg; cases hg
 | cons p l ih =>
  intro id k hg
  obtain ⟨i, b⟩ := p
  rw [List.all_cons, Bool.and_eq_true] at h
  unfold getB at hg
  by_cases h1 : i = id
  ·subst h1; exact List.contains_iff_mem.1 h.1
  ·rw [nbeq h1] at hg
   exact ih h.2 hg
end
end Go.Proofs.Ab
namespace Go.Proofs.Ab
open Go
inductive Loc where
 | slot (t : Nat) | blk (id : Nat) | rows
inductive Cell where
 | v (v : V) | b (o : Option Blk) | r (u d : List Nat)
abbrev FS := Loc -> Cell
def FS.e (s : FS) (t : Nat) : V := match s (.slot t) with | .v v => v | _ => .undef
def FS.g (s : FS) (id : Nat) : Option Blk := match s (.blk id) with | .b o => o | _ => none
def FS.u (s : FS) : List Nat := match s .rows with | .r u _ => u | _ => []
def FS.d (s : FS) : List Nat := match s .rows with | .r _ d => d | _ => []
def FS.live (s : FS) (t : Nat) : Prop := s.u.contains t = true ∧ s.d.contains t = false
structure Eff where
 on : Bool
 v : V
 bl : List (Nat × Blk)
 u : List Nat
 d : List Nat
 ft : Ft
def upd (x : Oper × Eff) : Loc -> Option Cell
 | .slot t => if x.1.dst = some t then some (.v x.2.v) else none
 | .blk id => if id ∈ x.2.ft.wr then (getB x.2.bl id).map (fun b => .b (some b)) else none
 | .rows => if x.2.ft.row = true then some (.r x.2.u x.2.d) else none
def app (x : Oper × Eff) (s : FS) : FS := fun loc => match upd x loc with | some c => c | none => s loc
theorem app_e (x : Oper × Eff) (s : FS) (t : Nat) : (app x s).e t = if x.1.dst = some t then x.2.v else s.e t := by
 unfold FS.e app upd
 by_cases h : x.1.dst = some t <;> simp [h]
theorem app_g (x : Oper × Eff) (s : FS) (id : Nat) : (app x s).g id = if id ∈ x.2.ft.wr then (match getB x.2.bl id with | some b => some b | none => s.g id) else s.g id := by
 unfold FS.g app upd
 by_cases h : id ∈ x.2.ft.wr
 ·simp only [h, if_true]
  cases getB x.2.bl id <;> rfl
 ·simp [h]
theorem app_u (x : Oper × Eff) (s : FS) : (app x s).u = if x.2.ft.row = true then x.2.u else s.u := by
 unfold FS.u app upd
 by_cases h : x.2.ft.row = true <;> simp [h]
theorem app_d (x : Oper × Eff) (s : FS) : (app x s).d = if x.2.ft.row = true then x.2.d else s.d := by
 unfold FS.d app upd
 by_cases h : x.2.ft.row = true <;> simp [h]
structure FAt (pg : Pg) (df0 : List (FuncId × List V)) (c0 : Cx) (own0 : Own) (nt : Nat) (c : Cx) (own : Own) (s : FS) (a : Act) : Prop where
 inv : Inv pg c own s.g s.live
 domr : ∀ t r, c.row t = some r -> s.u.contains t = true
 env : ∀ t, VRep pg.P c (s.e t) (a.tmps.getD t Go.undef)
 size : a.tmps.size = nt
 defs : DefRep pg.P c df0 a.defers
 after : After c0 own0 c own
 blk : ∀ i r, c0.blk i = some r -> c.blk i = some r
 out : ∀ id, ¬ c.out id
structure FtOk (o : Oper) (E : Eff) : Prop where
 row : E.ft.row = isRow o
 rd : isRd o = true -> E.ft.wr = []
 wr : isRd o = false -> E.ft.rd = []
 made : allocs o = true -> ∀ d, o.dst = some d -> aid d ∈ E.ft.wr
 keys : ∀ id k, getB E.bl id = some k -> id ∈ E.ft.rd ∨ id ∈ E.ft.wr
section
variable {p0 : Option (Option V)} {df0 : List (FuncId × List V)} {pg : Pg} {D : DSem} {f : FuncId} {env : Env} {o : Oper} {bl : List (Nat × Blk)} {c0 c c' : Cx} {own0 own own' : Own} {nt : Nat} {s : FS} {a : Act}
open Classical in
noncomputable def Own.part (own : Own) (ids : Nat -> Prop) : Own := fun b x => match own b x with | some (false, id) => if ids id then some (false, id) else none | o => o
theorem Own.part_none {ids : Nat -> Prop} {b x : Nat} (h : own b x = none) : own.part ids b x = none := by unfold Own.part; rw [h]
theorem Own.part_row {ids : Nat -> Prop} {b x t : Nat} (h : own b x = some (true, t)) : own.part ids b x = some (true, t) := by unfold Own.part; rw [h]
theorem Own.part_in {ids : Nat -> Prop} {b x id : Nat} (h : own b x = some (false, id)) (hi : ids id) : own.part ids b x = some (false, id) := by unfold Own.part; rw [h]; simp [hi]
theorem Own.part_out {ids : Nat -> Prop} {b x id : Nat} (h : own b x = some (false, id)) (hi : ¬ ids id) : own.part ids b x = none := by unfold Own.part; rw [h]; simp [hi]
def Own.rejoin (own ownr own' : Own) : Own := fun b x => match own' b x with | some q => some q | none => match ownr b x with | none => own b x | some _ => none
theorem Own.rejoin_new {ownr : Own} {b x : Nat} {q : Bool × Nat} (h : own' b x = some q) : own.rejoin ownr own' b x = some q := by unfold Own.rejoin; rw [h]
theorem Own.rejoin_kept {ownr : Own} {b x : Nat} (h : own' b x = none) (h2 : ownr b x = none) : own.rejoin ownr own' b x = own b x := by unfold Own.rejoin; rw [h, h2]
theorem Own.rejoin_lost {ownr : Own} {b x : Nat} (h : own' b x = none) (h2 : ownr b x ≠ none) : own.rejoin ownr own' b x = none := by
 unfold Own.rejoin; rw [h]
 cases hq : ownr b x with
 | none => exact absurd hq h2
 | some q => rfl
def Cx.aside (c : Cx) (ids : Nat -> Prop) : Cx := { c with out := fun id => ¬ ids id }
theorem Inv.aside {live : Nat -> Prop} {g g' : Nat -> Option Blk} (hI : Inv pg c own g live) (hout : ∀ id, ¬ c.out id) {ids : Nat -> Prop} (hg : ∀ id, ids id -> g' id = g id) (hg2 : ∀ id, ¬ ids id -> g' id = none) :
  Inv pg (c.aside ids) (own.part ids) g' live := by
 refine ⟨fun id k hk => ?_, fun t ht => ?_, fun b x hp => ⟨Own.part_none (hI.np b x hp).1, (hI.np b x hp).2⟩, fun b x hn => hI.fresh b x fun h => hn (Own.part_none h), fun id r hr => ?_, fun i cs hg => hI.gl i cs hg⟩
 ·by_cases hid : ids id
  ·rw [hg id hid] at hk
   obtain ⟨b, o, h1, h2⟩ := hI.blk id k hk
   exact ⟨b, o, h1, h2.kept (own1 := fun _ _ => none) ⟨fun b x h => ⟨h, rfl⟩, fun _ _ h => h, fun _ _ h => h⟩ (Frame.refl _ _) (fun _ _ _ => rfl) fun b x h => Own.part_in h hid⟩
  ·rw [hg2 id hid] at hk; cases hk
 ·exact (hI.row t ht).kept (own1 := fun _ _ => none) ⟨fun b x h => ⟨h, rfl⟩, fun _ _ h => h, fun _ _ h => h⟩ (Frame.refl _ _) (fun _ _ _ => rfl) (fun _ _ _ => rfl) fun b x h => Own.part_row h
 ·by_cases hid : ids id
  ·rcases hI.dom id r hr with ⟨k, hk⟩ | ho
   ·exact .inl ⟨k, (hg id hid).trans hk⟩
   ·exact absurd ho (hout id)
  ·exact .inr hid
theorem VRep.aside {P : Program} {ids : Nat -> Prop} {v : V} {x : Value} (h : VRep P c v x) : VRep P (c.aside ids) v x := VRep.mono (c := c) (c' := c.aside ids) ⟨fun b x h => ⟨h, rfl⟩, fun _ _ h => h, fun _ _ h => h⟩ h
theorem Inv.rejoin {live live' : Nat -> Prop} {g g' gr' : Nat -> Option Blk} {ids : Nat -> Prop} (hI : Inv pg c own g live) (hout : ∀ id, ¬ c.out id) (hI' : Inv pg c' own' gr' live') (ha : After (c.aside ids) (own.part ids) c' own') (hx : Ext (c.aside ids) c')
  (hin : ∀ id, ids id -> ∀ k, g' id = some k -> gr' id = some k) (hin2 : ∀ id, ids id -> ∀ k, gr' id = some k -> ∃ k', g' id = some k') (hot : ∀ id, ¬ ids id -> g' id = g id) (hkey : ∀ id k, gr' id = some k -> ids id) :
  Inv pg { c' with out := c.out } (own.rejoin (own.part ids) own') g' live' ∧ After c own { c' with out := c.out } (own.rejoin (own.part ids) own') ∧ Ext c { c' with out := c.out } := by
 have hx2 : Ext c { c' with out := c.out } := ⟨hx.prot, hx.blk, hx.row⟩
 have hf : Frame (own.part ids) c.w c'.w := ha.frame
 have keepr : ∀ b x, b < c.w.heap.size -> own.part ids b x = none -> own' b x = none := ha.keep
 have hl : ∀ b x, own b x = none -> own.part ids b x = none := fun b x h => Own.part_none h
 have hx3 : Ext c' { c' with out := c.out } := ⟨fun b x h => ⟨h, rfl⟩, fun _ _ h => h, fun _ _ h => h⟩
 refine ⟨⟨fun id k hk => ?_, fun t ht => ?_, fun b x hp => ?_, fun b x hn => ?_, fun id r hr => ?_, fun i cs hg => hI'.gl i cs hg⟩, ⟨hf.weaken hl, fun b x hb hn => ?_, ha.prot, fun b x hp => ?_, ⟨rfl, fun id r ho _ => absurd ho (hout id)⟩⟩, hx2⟩
 ·by_cases hid : ids id
  ·obtain ⟨b, o, h1, h2⟩ := hI'.blk id k (hin id hid k hk)
   exact ⟨b, o, h1, h2.kept (own1 := fun _ _ => none) hx3 (Frame.refl _ _) (fun _ _ _ => rfl) fun b x h => Own.rejoin_new h⟩
  ·rw [hot id hid] at hk
   obtain ⟨b, o, h1, h2⟩ := hI.blk id k hk
   refine ⟨b, o, hx.blk _ _ h1, h2.kept hx2 hf (fun b x h => Own.part_out h hid) fun b x h => ?_⟩
   have h3 := Own.part_out h hid
   rw [Own.rejoin_kept (keepr b x (hI.fresh b x (by rw [h]; nofun)) h3) h3]
   exact h
 ·exact (hI'.row t ht).kept (own1 := fun _ _ => none) hx3 (Frame.refl _ _) (fun _ _ _ => rfl) (fun _ _ _ => rfl) fun b x h => Own.rejoin_new h
 ·obtain ⟨h1, h2⟩ := hI'.np b x hp
  refine ⟨?_, h2⟩
  by_cases h4 : own.part ids b x = none
  ·rw [Own.rejoin_kept h1 h4]
   rcases ha.prot' b x hp with h5 | h5 | h5
   ·exact (hI.np b x h5).1
   ·exact absurd h4 h5
   ·cases ho : own b x with
    | none => rfl
    | some q => exact absurd (hI.fresh b x (by rw [ho]; nofun)) (Nat.not_lt.2 h5)
  ·exact Own.rejoin_lost h1 h4
 ·show b < c'.w.heap.size
  cases ho : own' b x with
  | some q => exact hI'.fresh b x (by rw [ho]; nofun)
  | none =>
   by_cases h4 : own.part ids b x = none
   ·rw [Own.rejoin_kept ho h4] at hn
    exact Nat.lt_of_lt_of_le (hI.fresh b x hn) hf.size
   ·rw [Own.rejoin_lost ho h4] at hn
    exact absurd rfl hn
 ·have hr' : c'.blk id = some r := hr
  by_cases hid : ids id
  ·rcases hI'.dom id r hr' with ⟨k, hk⟩ | ho
   ·exact .inl (hin2 id hid k hk)
   ·rw [ha.far.1] at ho
    exact absurd hid ho
  ·have h1 := ha.far.2 id r hid hr'
   rcases hI.dom id r h1 with ⟨k, hk⟩ | ho
   ·exact .inl ⟨k, (hot id hid).trans hk⟩
   ·exact absurd ho (hout id)
 ·have h4 := hl b x hn
  rw [Own.rejoin_kept (keepr b x hb h4) h4]; exact hn
 ·rcases ha.prot' b x hp with h5 | h5 | h5
  ·exact .inl h5
  ·exact .inr (.inl fun h => h5 (hl b x h))
  ·exact .inr (.inr h5)
end
end Go.Proofs.Ab
namespace Go.Proofs.Ab
open Go
section
variable {p0 : Option (Option V)} {df0 : List (FuncId × List V)} {pg : Pg} {D : DSem} {f : FuncId} {env : Env} {o : Oper} {bl : List (Nat × Blk)} {c0 c c' : Cx} {own0 own own' : Own} {nt : Nat} {s : FS} {a : Act} {ops : Array Oper}
def GuardF (ops : Array Oper) (s : FS) (o : Oper) (on : Bool) : Prop :=
 match o.guard with
 | none => on = true
 | some (g, want) => ∃ t, dstOf ops.toList g = some t ∧ ((∃ b, s.e t = .bool b ∧ on = (b == want)) ∨ (s.e t = .hole ∧ on = false))
structure OpF (pg : Pg) (D : DSem) (f : FuncId) (nt : Nat) (ops : Array Oper) (s : FS) (x : Oper × Eff) : Prop where
 guard : GuardF ops s x.1 x.2.on
 dst : ∀ d, x.1.dst = some d -> d < nt
 go : x.2.on = true -> notDrawn x.1 = false ∧ FtOk x.1 x.2 ∧ ∃ envi B, (∀ t, t ∈ tmpsOf x.1 -> Env.get envi t = s.e t) ∧ (∀ id, getB B id = if id ∈ x.2.ft.rd ∨ id ∈ x.2.ft.wr then s.g id else none) ∧
  (isRow x.1 = true -> step1 pg D f envi x.1 ⟨B, s.u, s.d, [], none⟩ = some (.val x.2.v ⟨x.2.bl, x.2.u, x.2.d, [], none⟩)) ∧ (isRow x.1 = false -> stepB pg f envi x.1 B = some (x.2.v, x.2.bl))
 skip : x.2.on = false -> x.2.v = .hole ∧ x.2.ft = ⟨[], [], false⟩
theorem mem_tmpsOf {t : Tmp} (h : Operand.tmp t ∈ o.op.operands) : t ∈ tmpsOf o := by
 unfold tmpsOf
 rw [List.mem_filterMap]
 exact ⟨_, Array.mem_toList_iff.2 h, rfl⟩
theorem FAt.put {c1 : Cx} {own1 : Own} {x : Oper × Eff} {y : Value} (hF : FAt pg df0 c0 own0 nt c own s a) (hI : Inv pg c1 own1 (app x s).g (app x s).live) (hd : ∀ t r, c1.row t = some r -> (app x s).u.contains t = true) (ha : After c own c1 own1) (hx : Ext c c1)
  (hdst : ∀ d, x.1.dst = some d -> d < nt) (hv : VRep pg.P c1 x.2.v y) : FAt pg df0 c0 own0 nt c1 own1 (app x s) (a.put x.1.dst y) := by
 refine ⟨hI, hd, fun t => ?_, (put_size a _ y).trans hF.size, (by rw [put_defers]; exact hF.defs.mono hx), hF.after.trans ha, fun i r hr => hx.blk _ _ (hF.blk i r hr), fun id => by rw [ha.far.1]; exact hF.out id⟩
 rw [app_e]
 by_cases h : x.1.dst = some t
 ·rw [if_pos h, h]
  have h2 : (a.put (some t) y).tmps.getD t Go.undef = y := by simp [Act.put, Array.getD, hF.size, hdst t h]
  rw [h2]; exact hv
 ·rw [if_neg h]
  have h2 : (a.put x.1.dst y).tmps.getD t Go.undef = a.tmps.getD t Go.undef := by
   cases hd : x.1.dst with
   | none => rfl
   | some d =>
    have : d ≠ t := by rintro rfl; exact h hd
    simp [Array.getD_eq_getD_getElem?, Act.put, Array.getElem?_setIfInBounds, this]
  rw [h2]; exact (hF.env t).mono hx
theorem FAt.skip {x : Oper × Eff} (hF : FAt pg df0 c0 own0 nt c own s a) (hO : OpF pg D f nt ops s x) (hon : x.2.on = false) : FAt pg df0 c0 own0 nt c own (app x s) (a.put x.1.dst Go.undef) := by
 obtain ⟨h1, h2⟩ := hO.skip hon
 have hg : (app x s).g = s.g := funext fun id => by rw [app_g, h2]; simp
 have hu : (app x s).u = s.u := by rw [app_u, h2]; simp
 have hd : (app x s).d = s.d := by rw [app_d, h2]; simp
 have hl : (app x s).live = s.live := by unfold FS.live; rw [hu, hd]
 exact hF.put (by rw [hg, hl]; exact hF.inv) (by rw [hu]; exact hF.domr) (After.refl _ _) (Ext.refl _) hO.dst (by rw [h1]; exact .hole)
theorem drawn_step {x : Oper × Eff} {next : Act -> World -> Prop} {Q : Exit -> Act -> World -> Prop} (hD : DSound pg D) (hF : FAt pg df0 c0 own0 nt c own s a) (hO : OpF pg D f nt ops s x) (hon : x.2.on = true)
  (hn : ∀ c1 own1 y, FAt pg df0 c0 own0 nt c1 own1 (app x s) (a.put x.1.dst y) -> next (a.put x.1.dst y) c1.w) : x.1.wp pg.P a c.w next Q := by
 obtain ⟨hnd, hft, envi, B, henv, hB, hrow, hnrow⟩ := hO.go hon
 obtain ⟨o, E⟩ := x
 dsimp only at hnd hft henv hB hrow hnrow hon
 let ids : Nat -> Prop := fun id => id ∈ E.ft.rd ∨ id ∈ E.ft.wr
 have hids : ∀ id, ids id ↔ (id ∈ E.ft.rd ∨ id ∈ E.ft.wr) := fun _ => Iff.rfl
 have hstep : ∃ st', opS pg D f envi o ⟨B, s.u, s.d, [], none⟩ (fun v s => some (Step.val v s)) (fun v s => some (Step.pan v s)) = some (.val E.v st') ∧ st'.bl = E.bl ∧ st'.used = (if E.ft.row = true then E.u else s.u) ∧ st'.dead = (if E.ft.row = true then E.d else s.d) := by
  rw [hft.row]
  cases hr : isRow o with
  | true => exact ⟨_, hrow hr, rfl, by simp, by simp⟩
  | false =>
   have h1 := hnrow hr
   refine ⟨⟨E.bl, s.u, s.d, [], none⟩, ?_, rfl, by simp, by simp⟩
   rw [opS_opB hr hnd, opB_step]
   show (stepB pg f envi o B).bind _ = _
   rw [h1]; rfl
 obtain ⟨st', hs, hsb, hsu, hsd⟩ := hstep
 have hI := hF.inv.aside hF.out (ids := ids) (g' := getB B) (fun id h => by rw [hB, if_pos h]) (fun id h => by rw [hB, if_neg h])
 have hS : SInv pg (c.aside ids) (own.part ids) ⟨B, s.u, s.d, [], none⟩ := ⟨hI, hF.domr⟩
 show o.wp pg.P a (c.aside ids).w next Q
 refine opS_sound (c := c.aside ids) (own := own.part ids) hD (fun cl hcl => by unfold notDrawn at hnd; rw [hcl] at hnd; cases hnd) hS (fun ha d hd ho => ho (.inr (hft.made ha d hd))) hs (fun y hy t => ?_) (fun v st1 c1 own1 y h1 hv hS1 ha hx _ _ => ?_) (fun v st1 c1 own1 y h1 hv hS1 ha hx _ _ => by cases h1)
 ·cases y with
  | tmp t2 =>
   show VRep pg.P (c.aside ids) (Env.get envi t2) _
   rw [henv t2 (mem_tmpsOf hy)]
   exact (hF.env t2).aside
  | const v => exact cvK_rep t v
  | global i =>
   show VRep pg.P _ (match pg.gl i with | some cs => .ptr cs 0 | none => .undef) _
   cases hg : pg.gl i with
   | none => exact .undef _
   | some cs => exact .pure (hF.inv.gl i cs hg)
  | func f => exact .pure (.fn f)
 ·cases h1
  have hrd : isRd o = true -> E.bl = B := fun hr => by
   obtain ⟨v, st2, h2, h3⟩ := opS_rd (kp := fun v s => some (Step.pan v s)) hr hnd hs
   cases h3
   rw [<- hsb]; exact h2
  have hgr : getB st'.bl = getB E.bl := by rw [hsb]
  have hI1 := hS1.inv
  rw [hgr] at hI1
  have hlive : Live st' = (app (o, E) s).live := by
   unfold Live FS.live
   rw [app_u, app_d, hsu, hsd]
  rw [hlive] at hI1
  obtain ⟨g1, g2, g3⟩ := Inv.rejoin (g' := (app (o, E) s).g) hF.inv hF.out hI1 ha hx (fun id hid k hk => by
   rw [app_g] at hk
   dsimp only at hk
   by_cases hw : id ∈ E.ft.wr
   ·rw [if_pos hw] at hk
    cases hb : getB E.bl id with
    | some b => rw [hb] at hk; exact hk
    | none =>
     rw [hb] at hk
     exfalso
     obtain ⟨b, oo, h2, _⟩ := hF.inv.blk id k hk
     rcases hI1.dom id _ (hx.blk _ _ h2) with ⟨k2, h3⟩ | ho
     ·rw [hb] at h3; cases h3
     ·rw [ha.far.1] at ho
      exact ho hid
   ·rw [if_neg hw] at hk
    cases hr : isRd o with
    | true => rw [hrd hr, hB, if_pos hid]; exact hk
    | false =>
     rcases hid with hid | hid
     ·rw [hft.wr hr] at hid; cases hid
     ·exact absurd hid hw) (fun id hid k hk => by
   rw [app_g]
   dsimp only
   by_cases hw : id ∈ E.ft.wr
   ·rw [if_pos hw, hk]; exact ⟨k, rfl⟩
   ·rw [if_neg hw]
    cases hr : isRd o with
    | true => rw [hrd hr, hB, if_pos hid] at hk; exact ⟨k, hk⟩
    | false =>
     rcases hid with hid | hid
     ·rw [hft.wr hr] at hid; cases hid
     ·exact absurd hid hw) (fun id hid => by
   rw [app_g]
   exact if_neg fun hw => hid (.inr hw)) (fun id k hk => hft.keys id k hk)
  refine hn { c1 with out := c.out } _ y (hF.put g1 (fun t r hr => ?_) g2 g3 hO.dst (VRep.mono (c := c1) (c' := { c1 with out := c.out }) ⟨fun b x h => ⟨h, rfl⟩, fun _ _ h => h, fun _ _ h => h⟩ hv))
  have := hS1.domr t r hr
  rw [hsu] at this
  rw [app_u]; exact this
structure PanF (pg : Pg) (D : DSem) (f : FuncId) (ops : Array Oper) (s : FS) (x : Oper × Eff) (v : V) : Prop where
 guard : GuardF ops s x.1 true
 nd : notDrawn x.1 = false
 row : isRow x.1 = true
 ft : FtOk x.1 x.2
 go : ∃ v0 envi B, pur pg [] pdeep v0 = some v ∧ (∀ t, t ∈ tmpsOf x.1 -> Env.get envi t = s.e t) ∧ (∀ id, getB B id = if id ∈ x.2.ft.rd ∨ id ∈ x.2.ft.wr then s.g id else none) ∧
  step1 pg D f envi x.1 ⟨B, s.u, s.d, [], none⟩ = some (.pan v0 ⟨x.2.bl, x.2.u, x.2.d, [], none⟩)
theorem drawn_pan {x : Oper × Eff} {v : V} {next : Act -> World -> Prop} {Q : Exit -> Act -> World -> Prop} (hD : DSound pg D) (hF : FAt pg df0 c0 own0 nt c own s a) (hO : PanF pg D f ops s x v)
  (hn : ∀ c1 own1 y, Inv pg c1 own1 (app x s).g (app x s).live -> (∀ t r, c1.row t = some r -> (app x s).u.contains t = true) -> After c own c1 own1 -> Ext c c1 -> PRep pg.P c1.w c1.prot v y -> Q (.panic [{ v := y, recovered := false }]) a c1.w) : x.1.wp pg.P a c.w next Q := by
 obtain ⟨v0, envi, B, hpur, henv, hB, hrow⟩ := hO.go
 have hnd := hO.nd
 have hft := hO.ft
 have hir := hO.row
 obtain ⟨o, E⟩ := x
 dsimp only at hnd hft hir henv hB hrow
 let ids : Nat -> Prop := fun id => id ∈ E.ft.rd ∨ id ∈ E.ft.wr
 have hs : opS pg D f envi o ⟨B, s.u, s.d, [], none⟩ (fun v s => some (Step.val v s)) (fun v s => some (Step.pan v s)) = some (.pan v0 ⟨E.bl, E.u, E.d, [], none⟩) := hrow
 have hr : isRd o = false := by
  cases hq : isRd o with
  | false => rfl
  | true =>
   obtain ⟨v, st2, h2, h3⟩ := opS_rd (kp := fun v s => some (Step.pan v s)) hq hnd hs
   cases h3
 have hI := hF.inv.aside hF.out (ids := ids) (g' := getB B) (fun id h => by rw [hB, if_pos h]) (fun id h => by rw [hB, if_neg h])
 have hS : SInv pg (c.aside ids) (own.part ids) ⟨B, s.u, s.d, [], none⟩ := ⟨hI, hF.domr⟩
 show o.wp pg.P a (c.aside ids).w next Q
 refine opS_sound (c := c.aside ids) (own := own.part ids) hD (fun cl hcl => by unfold notDrawn at hnd; rw [hcl] at hnd; cases hnd) hS (fun ha d hd ho => ho (.inr (hft.made ha d hd))) hs (fun y hy t => ?_) (fun v st1 c1 own1 y h1 hv hS1 ha hx _ _ => by cases h1) (fun v st1 c1 own1 y h1 hv hS1 ha hx _ _ => ?_)
 ·cases y with
  | tmp t2 =>
   show VRep pg.P (c.aside ids) (Env.get envi t2) _
   rw [henv t2 (mem_tmpsOf hy)]
   exact (hF.env t2).aside
  | const v => exact cvK_rep t v
  | global i =>
   show VRep pg.P _ (match pg.gl i with | some cs => .ptr cs 0 | none => .undef) _
   cases hg : pg.gl i with
   | none => exact .undef _
   | some cs => exact .pure (hF.inv.gl i cs hg)
  | func f => exact .pure (.fn f)
 ·cases h1
  have hI1 := hS1.inv
  have hfr : E.ft.row = true := by rw [hft.row]; exact hir
  have hlive : Live ⟨E.bl, E.u, E.d, [], none⟩ = (app (o, E) s).live := by
   unfold Live FS.live
   rw [app_u, app_d]
   dsimp only
   rw [if_pos hfr, if_pos hfr]
  rw [hlive] at hI1
  obtain ⟨g1, g2, g3⟩ := Inv.rejoin (g' := (app (o, E) s).g) hF.inv hF.out hI1 ha hx (fun id hid k hk => by
   rw [app_g] at hk
   dsimp only at hk
   by_cases hw : id ∈ E.ft.wr
   ·rw [if_pos hw] at hk
    cases hb : getB E.bl id with
    | some b => rw [hb] at hk; exact hk
    | none =>
     rw [hb] at hk
     exfalso
     obtain ⟨b, oo, h2, _⟩ := hF.inv.blk id k hk
     rcases hI1.dom id _ (hx.blk _ _ h2) with ⟨k2, h3⟩ | ho
     ·rw [hb] at h3; cases h3
     ·rw [ha.far.1] at ho
      exact ho hid
   ·rcases hid with hid | hid
    ·rw [hft.wr hr] at hid; cases hid
    ·exact absurd hid hw) (fun id hid k hk => by
   rw [app_g]
   dsimp only
   by_cases hw : id ∈ E.ft.wr
   ·rw [if_pos hw, hk]; exact ⟨k, rfl⟩
   ·rcases hid with hid | hid
    ·rw [hft.wr hr] at hid; cases hid
    ·exact absurd hid hw) (fun id hid => by
   rw [app_g]
   exact if_neg fun hw => hid (.inr hw)) (fun id k hk => hft.keys id k hk)
  refine hn { c1 with out := c.out } _ y g1 (fun t r hr => ?_) g2 g3 (purE_sound (c := c1) pdeep hpur hv)
  have := hS1.domr t r hr
  rw [app_u, if_pos hfr]; exact this
end
end Go.Proofs.Ab
namespace Go.Proofs.Ab
open Go
def runL (p : Nat -> Bool) : Nat -> List (Oper × Eff) -> FS -> FS
 | _, [], s => s
 | i, x :: l, s => runL p (i + 1) l (bif p i then app x s else s)
def WrF (x : Oper × Eff) : Loc -> Prop
 | .slot t => x.1.dst = some t
 | .blk id => id ∈ x.2.ft.wr
 | .rows => x.2.ft.row = true
def RdF (ops : Array Oper) (x : Oper × Eff) : Loc -> Prop
 | .slot t => t ∈ x.1.looksAt ops
 | .blk id => id ∈ x.2.ft.rd ∨ id ∈ x.2.ft.wr
 | .rows => x.2.ft.row = true
def ApartF (ops : Array Oper) (x y : Oper × Eff) : Prop := x.1.apart ops y.1 = true ∧ x.2.ft.apart y.2.ft = true
section
variable {p q : Nat -> Bool} {l : List (Oper × Eff)} {s s' : FS} {x y : Oper × Eff} {loc : Loc} {ops : Array Oper}
theorem upd_none (h : ¬ WrF x loc) : upd x loc = none := by
 cases loc with
 | slot t => exact if_neg h
 | blk id => exact if_neg h
 | rows => exact if_neg h
theorem app_out (h : ¬ WrF x loc) : app x s loc = s loc := by unfold app; rw [upd_none h]
theorem runL_agree : ∀ {l : List (Oper × Eff)} {i : Nat} {s s' : FS}, s loc = s' loc -> (∀ (j : Nat) x, l[j]? = some x -> p (i + j) ≠ q (i + j) -> ¬ WrF x loc) -> runL p i l s loc = runL q i l s' loc
 | [], i, s, s', h, _ => h
 | x :: l, i, s, s', h, hw => by
  unfold runL
  refine runL_agree ?_ fun j y hy hne => hw (j + 1) y (by simpa using hy) (by rw [show i + (j + 1) = i + 1 + j by omega]; exact hne)
  by_cases hpq : p i = q i
  ·rw [hpq]
   cases q i with
   | false => exact h
   | true =>
    show app x s loc = app x s' loc
    unfold app
    cases upd x loc with
    | none => exact h
    | some c => rfl
  ·have hn := hw 0 x rfl hpq
   cases hp : p i <;> cases hq : q i
   ·exact h
   ·show s loc = app x s' loc
    rw [app_out hn]; exact h
   ·show app x s loc = s' loc
    rw [app_out hn]; exact h
   ·show app x s loc = app x s' loc
    rw [app_out hn, app_out hn]; exact h
theorem runL_same : ∀ {l : List (Oper × Eff)} {i : Nat} {s : FS}, (∀ (j : Nat) x, l[j]? = some x -> p (i + j) = true -> ¬ WrF x loc) -> runL p i l s loc = s loc
 | [], i, s, _ => rfl
 | x :: l, i, s, hw => by
  unfold runL
  rw [runL_same fun j y hy hp => hw (j + 1) y (by simpa using hy) (by rw [show i + (j + 1) = i + 1 + j by omega]; exact hp)]
  cases hp : p i with
  | false => rfl
  | true => exact app_out (hw 0 x rfl hp)
theorem runL_last : ∀ {l : List (Oper × Eff)} {i j0 : Nat} {s : FS} {x0 : Oper × Eff}, l[j0]? = some x0 -> p (i + j0) = false ->
  (∀ (j : Nat) x, j0 < j -> l[j]? = some x -> p (i + j) = true -> WrF x0 loc -> ¬ WrF x loc) -> runL (fun k => p k || k == i + j0) i l s loc = app x0 (runL p i l s) loc
 | [], i, j0, s, x0, h, _, _ => by simp at h
 | x :: l, i, 0, s, x0, h, hp, hw => by
  simp at h
  subst h
  unfold runL
  rw [Nat.add_zero] at hp
  simp only [hp, cond_false, Nat.add_zero, Bool.false_or, beq_self_eq_true, cond_true]
  by_cases hx : WrF x loc
  ·rw [runL_same fun j y hy hpj hwy => ?_]
   ·unfold app
    cases hu : upd x loc with
    | some c => rfl
    | none =>
     show s loc = runL p (i + 1) l s loc
     rw [runL_same fun j y hy hpj hwy => ?_]
     exact hw (j + 1) y (by omega) (by simpa using hy) (by rw [show i + (j + 1) = i + 1 + j by omega]; exact hpj) hx hwy
   ·have hne : (i + 1 + j == i) = false := by simp; omega
    rw [hne, Bool.or_false] at hpj
    exact hw (j + 1) y (by omega) (by simpa using hy) (by rw [show i + (j + 1) = i + 1 + j by omega]; exact hpj) hx hwy
  ·rw [app_out hx]
   refine runL_agree (app_out hx) fun j y hy hne => ?_
   have hne2 : (i + 1 + j == i) = false := by simp; omega
   exfalso
   apply hne
   rw [hne2, Bool.or_false]
 | x :: l, i, j0 + 1, s, x0, h, hp, hw => by
  unfold runL
  have h1 : (i == i + (j0 + 1)) = false := by simp
  simp only [h1, Bool.or_false]
  have h2 : i + (j0 + 1) = i + 1 + j0 := by omega
  rw [h2] at hp ⊢
  exact runL_last (by simpa using h) hp fun j y hj hy hpj => hw (j + 1) y (by omega) (by simpa using hy) (by rw [show i + (j + 1) = i + 1 + j by omega]; exact hpj)
theorem runL_append : ∀ {l : List (Oper × Eff)} {i : Nat} {s : FS} {x : Oper × Eff}, runL p i (l ++ [x]) s = bif p (i + l.length) then app x (runL p i l s) else runL p i l s
 | [], i, s, x => rfl
 | y :: l, i, s, x => by
  have h : i + (y :: l).length = i + 1 + l.length := by simp; omega
  rw [h]
  show runL p (i + 1) (l ++ [x]) _ = _
  rw [runL_append]
  rfl
theorem ApartF.slot (h : ApartF ops x y) : (∀ d, x.1.dst = some d -> d ∉ y.1.looksAt ops) ∧ (∀ d, x.1.dst = some d -> y.1.dst ≠ some d) ∧ (∀ d, y.1.dst = some d -> d ∉ x.1.looksAt ops) := Oper.apart_spec h.1
theorem meets_false {a b : List Nat} (h : meets a b = false) {i : Nat} (ha : i ∈ a) : i ∉ b := by
 intro hb
 have : meets a b = true := by
  unfold meets
  rw [List.any_eq_true]
  exact ⟨i, ha, List.contains_iff_mem.2 hb⟩
 rw [h] at this; cases this
theorem ApartF.ft (h : ApartF ops x y) : meets x.2.ft.wr y.2.ft.rd = false ∧ meets x.2.ft.wr y.2.ft.wr = false ∧ meets x.2.ft.rd y.2.ft.wr = false ∧ (x.2.ft.row && y.2.ft.row) = false := by
 have h2 := h.2
 unfold Ft.apart at h2
 simp only [Bool.and_eq_true, Bool.not_eq_true'] at h2
 exact ⟨h2.1.1.1, h2.1.1.2, h2.1.2, h2.2⟩
theorem ApartF.wr_rd (h : ApartF ops x y) (hx : WrF x loc) : ¬ RdF ops y loc := by
 obtain ⟨h1, h2, h3, h4⟩ := h.ft
 cases loc with
 | slot t => exact h.slot.1 t hx
 | blk id =>
  rintro (hy | hy)
  ·exact meets_false h1 hx hy
  ·exact meets_false h2 hx hy
 | rows =>
  intro hy
  have hx' : x.2.ft.row = true := hx
  have hy' : y.2.ft.row = true := hy
  rw [hx', hy'] at h4; cases h4
theorem ApartF.rd_wr (h : ApartF ops x y) (hy : WrF y loc) : ¬ RdF ops x loc := by
 obtain ⟨h1, h2, h3, h4⟩ := h.ft
 cases loc with
 | slot t => exact h.slot.2.2 t hy
 | blk id =>
  rintro (hx | hx)
  ·exact meets_false h3 hx hy
  ·exact meets_false h2 hx hy
 | rows =>
  intro hx
  have hx' : x.2.ft.row = true := hx
  have hy' : y.2.ft.row = true := hy
  rw [hx', hy'] at h4; cases h4
theorem ApartF.wr_wr (h : ApartF ops x y) (hx : WrF x loc) : ¬ WrF y loc := by
 obtain ⟨h1, h2, h3, h4⟩ := h.ft
 cases loc with
 | slot t => exact h.slot.2.1 t hx
 | blk id => exact meets_false h2 hx
 | rows =>
  intro hy
  have hx' : x.2.ft.row = true := hx
  have hy' : y.2.ft.row = true := hy
  rw [hx', hy'] at h4; cases h4
theorem FS.e_eq {t : Nat} (h : s (.slot t) = s' (.slot t)) : s.e t = s'.e t := by unfold FS.e; rw [h]
theorem FS.g_eq {t : Nat} (h : s (.blk t) = s' (.blk t)) : s.g t = s'.g t := by unfold FS.g; rw [h]
theorem FS.u_eq (h : s .rows = s' .rows) : s.u = s'.u := by unfold FS.u; rw [h]
theorem FS.d_eq (h : s .rows = s' .rows) : s.d = s'.d := by unfold FS.d; rw [h]
theorem OpF.congr {pg : Pg} {D : DSem} {f : FuncId} {nt : Nat} (h : OpF pg D f nt ops s x) (hs : ∀ loc, RdF ops x loc -> s loc = s' loc) : OpF pg D f nt ops s' x := by
 have hlook : ∀ t, t ∈ tmpsOf x.1 -> s.e t = s'.e t := fun t ht => FS.e_eq (hs (.slot t) (List.mem_append_left _ ht))
 refine ⟨?_, h.dst, fun hon => ?_, h.skip⟩
 ·have hg := h.guard
  unfold GuardF at hg ⊢
  cases hgd : x.1.guard with
  | none => rw [hgd] at hg; exact hg
  | some gw =>
   obtain ⟨g, want⟩ := gw
   rw [hgd] at hg
   obtain ⟨t, h1, h2⟩ := hg
   have ht : s.e t = s'.e t := FS.e_eq (hs (.slot t) (by
    refine List.mem_append_right _ ?_
    rw [hgd]
    show t ∈ ((ops[g]?).bind (·.dst)).toList
    unfold dstOf at h1
    rw [Array.getElem?_toList] at h1
    cases ho : ops[g]? with
    | none => rw [ho] at h1; cases h1
    | some o' =>
     rw [ho] at h1
     have h1' : o'.dst = some t := h1
     simp [h1']))
   exact ⟨t, h1, by rw [<- ht]; exact h2⟩
 ·obtain ⟨h1, h2, envi, B, h3, h4, h5, h6⟩ := h.go hon
  refine ⟨h1, h2, envi, B, fun t ht => (h3 t ht).trans (hlook t ht), fun id => ?_, fun hr => ?_, h6⟩
  ·rw [h4]
   by_cases hid : id ∈ x.2.ft.rd ∨ id ∈ x.2.ft.wr
   ·rw [if_pos hid, if_pos hid, FS.g_eq (hs (.blk id) hid)]
   ·rw [if_neg hid, if_neg hid]
  ·have hrow : x.2.ft.row = true := by rw [h2.row]; exact hr
   rw [<- FS.u_eq (hs .rows hrow), <- FS.d_eq (hs .rows hrow)]
   exact h5 hr
theorem PanF.congr {pg : Pg} {D : DSem} {f : FuncId} {v : V} (h : PanF pg D f ops s x v) (hs : ∀ loc, RdF ops x loc -> s loc = s' loc) : PanF pg D f ops s' x v := by
 have hlook : ∀ t, t ∈ tmpsOf x.1 -> s.e t = s'.e t := fun t ht => FS.e_eq (hs (.slot t) (List.mem_append_left _ ht))
 refine ⟨?_, h.nd, h.row, h.ft, ?_⟩
 ·have hg := h.guard
  unfold GuardF at hg ⊢
  cases hgd : x.1.guard with
  | none => rfl
  | some gw =>
   obtain ⟨g, want⟩ := gw
   rw [hgd] at hg
   obtain ⟨t, h1, h2⟩ := hg
   have ht : s.e t = s'.e t := FS.e_eq (hs (.slot t) (by
    refine List.mem_append_right _ ?_
    rw [hgd]
    show t ∈ ((ops[g]?).bind (·.dst)).toList
    unfold dstOf at h1
    rw [Array.getElem?_toList] at h1
    cases ho : ops[g]? with
    | none => rw [ho] at h1; cases h1
    | some o' =>
     rw [ho] at h1
     have h1' : o'.dst = some t := h1
     simp [h1']))
   exact ⟨t, h1, by rw [<- ht]; exact h2⟩
 ·obtain ⟨v0, envi, B, h0, h3, h4, h5⟩ := h.go
  refine ⟨v0, envi, B, h0, fun t ht => (h3 t ht).trans (hlook t ht), fun id => ?_, ?_⟩
  ·rw [h4]
   by_cases hid : id ∈ x.2.ft.rd ∨ id ∈ x.2.ft.wr
   ·rw [if_pos hid, if_pos hid, FS.g_eq (hs (.blk id) hid)]
   ·rw [if_neg hid, if_neg hid]
  ·have hrow : x.2.ft.row = true := by rw [h.ft.row]; exact h.row
   rw [<- FS.u_eq (hs .rows hrow), <- FS.d_eq (hs .rows hrow)]
   exact h5
theorem preds_fold : ∀ (l : List Oper) (acc : List (List Nat)),
  (∃ t, l.foldl (fun acc o => acc ++ [dedup ((o.after.toList.filter (Region.binds .any)).map fun e => e.on :: acc.getD e.on []).flatten]) acc = acc ++ t) ∧
  ∀ (j : Nat) (o : Oper), l[j]? = some o -> ∀ k, k ∈ (l.foldl (fun acc o => acc ++ [dedup ((o.after.toList.filter (Region.binds .any)).map fun e => e.on :: acc.getD e.on []).flatten]) acc).getD (acc.length + j) [] ->
   ∃ e, e ∈ o.after.toList ∧ Region.binds .any e = true ∧ (k = e.on ∨ (e.on < acc.length + j ∧ k ∈ (l.foldl (fun acc o => acc ++ [dedup ((o.after.toList.filter (Region.binds .any)).map fun e => e.on :: acc.getD e.on []).flatten]) acc).getD e.on []))
 | [], acc => ⟨⟨[], by simp⟩, fun j o h => by simp at h⟩
 | o :: l, acc => by
  obtain ⟨⟨t, ht⟩, h2⟩ := preds_fold l (acc ++ [dedup ((o.after.toList.filter (Region.binds .any)).map fun e => e.on :: acc.getD e.on []).flatten])
  rw [List.foldl_cons]
  refine ⟨⟨_, by rw [ht, List.append_assoc]⟩, fun j o' ho k hk => ?_⟩
  cases j with
  | zero =>
   simp at ho
   subst ho
   rw [ht] at hk ⊢
   have h3 : (acc ++ [dedup ((o.after.toList.filter (Region.binds .any)).map fun e => e.on :: acc.getD e.on []).flatten] ++ t).getD (acc.length + 0) [] = dedup ((o.after.toList.filter (Region.binds .any)).map fun e => e.on :: acc.getD e.on []).flatten := by
    simp [List.getD]
   rw [h3, mem_dedup] at hk
   simp only [List.mem_flatten, List.mem_map] at hk
   obtain ⟨l', ⟨e, he, rfl⟩, hk⟩ := hk
   obtain ⟨he1, he2⟩ := List.mem_filter.1 he
   refine ⟨e, he1, he2, ?_⟩
   rcases List.mem_cons.1 hk with h4 | h4
   ·exact .inl h4
   ·right
    have hlt : e.on < acc.length := by
     rcases Nat.lt_or_ge e.on acc.length with h | h
     ·exact h
     ·rw [List.getD_eq_getElem?_getD, List.getElem?_eq_none h] at h4; cases h4
    refine ⟨by omega, ?_⟩
    have : (acc ++ [dedup ((o.after.toList.filter (Region.binds .any)).map fun e => e.on :: acc.getD e.on []).flatten] ++ t).getD e.on [] = acc.getD e.on [] := by
     rw [List.getD_eq_getElem?_getD, List.getD_eq_getElem?_getD, List.append_assoc, List.getElem?_append_left hlt]
    rw [this]; exact h4
  | succ j =>
   have hl : (acc ++ [dedup ((o.after.toList.filter (Region.binds .any)).map fun e => e.on :: acc.getD e.on []).flatten]).length + j = acc.length + (j + 1) := by simp; omega
   obtain ⟨e, h3, h4, h5⟩ := h2 j o' (by simpa using ho) k (by rw [hl]; exact hk)
   rw [hl] at h5
   exact ⟨e, h3, h4, h5⟩
theorem preds_spec {l : List Oper} {j : Nat} {o : Oper} (h : l[j]? = some o) {k : Nat} (hk : k ∈ (predsOf l).getD j []) :
  ∃ e, e ∈ o.after.toList ∧ Region.binds .any e = true ∧ (k = e.on ∨ (e.on < j ∧ k ∈ (predsOf l).getD e.on [])) := by
 have := (preds_fold l []).2 j o h k (by simpa [predsOf] using hk)
 simpa [predsOf] using this
theorem topo_spec : ∀ {l : List Oper} {i : Nat}, okTopo i l = true -> ∀ (j : Nat) (o : Oper), l[j]? = some o -> ∀ e, e ∈ o.after.toList -> Region.binds .any e = true -> e.on < i + j
 | [], i, _, j, o, h => by simp at h
 | a :: l, i, h, j, o, ho => fun e he hb => by
  unfold okTopo at h
  rw [Bool.and_eq_true] at h
  cases j with
  | zero =>
   simp at ho
   subst ho
   have := List.all_eq_true.1 h.1 e he
   rw [hb] at this
   simp [Nat.blt_eq] at this
   omega
  | succ j =>
   have := topo_spec h.2 j o (by simpa using ho) e he hb
   omega
end
end Go.Proofs.Ab
namespace Go.Proofs.Ab
open Go
def cnt (f : Nat -> Bool) : Nat -> Nat
 | 0 => 0
 | n + 1 => cnt f n + bif f n then 0 else 1
theorem cnt_le (f : Nat -> Bool) : ∀ n, cnt f n <= n
 | 0 => Nat.le_refl _
 | n + 1 => by
  have := cnt_le f n
  unfold cnt
  cases f n <;> simp <;> omega
theorem cnt_zero {f : Nat -> Bool} : ∀ {n : Nat}, cnt f n = 0 -> ∀ i, i < n -> f i = true
 | n + 1, h, i, hi => by
  unfold cnt at h
  cases hf : f n with
  | false => rw [hf] at h; simp at h
  | true =>
   rw [hf] at h
   rcases Nat.lt_or_ge i n with hlt | hge
   ·exact cnt_zero (by simpa using h) i hlt
   ·have : i = n := by omega
    subst this; exact hf
theorem cnt_eq {f f' : Nat -> Bool} : ∀ {n : Nat}, (∀ i, i < n -> f' i = f i) -> cnt f' n = cnt f n
 | 0, _ => rfl
 | n + 1, h => by
  unfold cnt
  rw [cnt_eq fun i hi => h i (by omega), h n (by omega)]
theorem cnt_step {f f' : Nat -> Bool} {i : Nat} : ∀ {n : Nat}, i < n -> f i = false -> f' i = true -> (∀ j, j ≠ i -> f' j = f j) -> cnt f' n + 1 = cnt f n
 | n + 1, hi, h1, h2, h3 => by
  unfold cnt
  rcases Nat.lt_or_ge i n with hlt | hge
  ·have := cnt_step hlt h1 h2 h3
   rw [h3 n (by omega)]
   omega
  ·have : i = n := by omega
   subst this
   rw [cnt_eq (f := f) (f' := f') fun j hj => h3 j (by omega), h1, h2]
   rfl
def alB (preds : List (List Nat)) (pi : Option Nat) (j : Nat) : Bool := match pi with | none => true | some i => !(j == i) && !(preds.getD j []).contains i
theorem alB_self {preds : List (List Nat)} {i : Nat} : alB preds (some i) i = false := by unfold alB; simp
def ApartW (ops : Array Oper) (x y : Oper × Eff) : Prop := x.1.apart ops y.1 = true ∧ (x.2.ft.apart y.2.ft = true ∨ (x.2.ft.wr = [] ∧ x.2.ft.row = false))
section
variable {ops : Array Oper} {x y : Oper × Eff} {loc : Loc}
theorem ApartW.slot (h : ApartW ops x y) : (∀ d, x.1.dst = some d -> d ∉ y.1.looksAt ops) ∧ (∀ d, x.1.dst = some d -> y.1.dst ≠ some d) ∧ (∀ d, y.1.dst = some d -> d ∉ x.1.looksAt ops) := Oper.apart_spec h.1
theorem ApartW.full (h : ApartW ops x y) (hf : x.2.ft.apart y.2.ft = true) : ApartF ops x y := ⟨h.1, hf⟩
theorem ApartW.wr_rd (h : ApartW ops x y) (hx : WrF x loc) : ¬ RdF ops y loc := by
 rcases h.2 with h2 | ⟨h2, h3⟩
 ·exact (h.full h2).wr_rd hx
 ·cases loc with
  | slot t => exact h.slot.1 t hx
  | blk id => exact absurd (show id ∈ x.2.ft.wr from hx) (by rw [h2]; exact List.not_mem_nil)
  | rows => exact absurd (show x.2.ft.row = true from hx) (by rw [h3]; nofun)
theorem ApartW.wr_wr (h : ApartW ops x y) (hx : WrF x loc) : ¬ WrF y loc := by
 rcases h.2 with h2 | ⟨h2, h3⟩
 ·exact (h.full h2).wr_wr hx
 ·cases loc with
  | slot t => exact h.slot.2.1 t hx
  | blk id => exact absurd (show id ∈ x.2.ft.wr from hx) (by rw [h2]; exact List.not_mem_nil)
  | rows => exact absurd (show x.2.ft.row = true from hx) (by rw [h3]; nofun)
theorem app_as {E E' : Eff} {o : Oper} {s : FS} (h1 : E'.v = E.v) (h2 : E'.ft = E.ft) (h3 : E.ft.wr = []) (h4 : E.ft.row = false) : app (o, E') s = app (o, E) s := by
 funext loc
 unfold app
 cases loc with
 | slot t => simp only [upd, h1]
 | blk id => simp [upd, h2, h3]
 | rows => simp [upd, h2, h4]
theorem Ft.nil_apart (a : Ft) : Ft.apart ⟨[], [], false⟩ a = true := by simp [Ft.apart, meets]
theorem Ft.apart_nil (a : Ft) : Ft.apart a ⟨[], [], false⟩ = true := by simp [Ft.apart, meets]
end
theorem greatest {p : Nat -> Prop} : ∀ {n : Nat}, (∀ j, p j -> j < n) -> (∃ j, p j) -> ∃ j, p j ∧ ∀ k, p k -> k <= j
 | 0, hb, ⟨j, hj⟩ => absurd (hb j hj) (by omega)
 | n + 1, hb, he => by
  by_cases hn : p n
  ·exact ⟨n, hn, fun k hk => by have := hb k hk; omega⟩
  ·exact greatest (n := n) (fun j hj => by
    have := hb j hj
    have : j ≠ n := by rintro rfl; exact hn hj
    omega) he
structure Rc (pg : Pg) (D : DSem) (f : FuncId) (nt : Nat) (ops : Array Oper) (q : Nat -> Bool) (l : List (Oper × Eff)) (s0 : FS) (i j : Nat) (x : Oper × Eff) : Prop where
 op : ∃ E', E'.v = x.2.v ∧ E'.on = x.2.on ∧ E'.ft = x.2.ft ∧ OpF pg D f nt ops (runL (fun m => Nat.blt m (j + 1) && q m) 0 l s0) (x.1, E')
 btw : ∀ (k : Nat) z, i <= k -> k < j -> l[k]? = some z -> q k = true -> k ∉ (predsOf ops.toList).getD j [] -> ∀ loc, RdF ops x loc -> ¬ WrF z loc
structure RunT (pg : Pg) (D : DSem) (f : FuncId) (nt : Nat) (ops : Array Oper) (l : List (Oper × Eff)) (s0 : FS) (pi : Option Nat) : Prop where
 same : l.map (·.1) = ops.toList
 op : ∀ (i : Nat) x, l[i]? = some x -> alB (predsOf ops.toList) pi i = true -> OpF pg D f nt ops (runL (fun j => Nat.blt j i && alB (predsOf ops.toList) pi j) 0 l s0) x
 ind : ∀ (i j : Nat) x y, i < j -> l[i]? = some x -> l[j]? = some y -> alB (predsOf ops.toList) pi i = true ∨ pi = some i -> alB (predsOf ops.toList) pi j = true ∨ pi = some j -> i ∉ (predsOf ops.toList).getD j [] -> ApartW ops x y
 rc : ∀ (i j : Nat) x y, i < j -> l[i]? = some x -> l[j]? = some y -> alB (predsOf ops.toList) pi i = true -> alB (predsOf ops.toList) pi j = true -> i ∉ (predsOf ops.toList).getD j [] -> x.2.ft.apart y.2.ft = false -> Rc pg D f nt ops (alB (predsOf ops.toList) pi) l s0 i j x
section
variable {p0 : Option (Option V)} {df0 : List (FuncId × List V)} {pg : Pg} {D : DSem} {f : FuncId} {c0 : Cx} {own0 : Own} {nt : Nat} {ops : Array Oper} {l : List (Oper × Eff)} {s0 : FS} {pi : Option Nat} {Q : Exit -> Act -> World -> Prop}
theorem RunT.at (hR : RunT pg D f nt ops l s0 pi) {i : Nat} {o : Oper} (h : ops[i]? = some o) : ∃ E, l[i]? = some (o, E) := by
 have h1 : (l.map (·.1))[i]? = some o := by rw [hR.same, Array.getElem?_toList]; exact h
 rw [List.getElem?_map] at h1
 obtain ⟨x, h2, h3⟩ := Option.map_eq_some_iff.1 h1
 obtain ⟨o', E⟩ := x
 cases h3
 exact ⟨E, h2⟩
theorem RunT.of (hR : RunT pg D f nt ops l s0 pi) {i : Nat} {x : Oper × Eff} (h : l[i]? = some x) : ops[i]? = some x.1 := by
 rw [<- Array.getElem?_toList, <- hR.same, List.getElem?_map, h]; rfl
def Closed (ops : Array Oper) (L : Nat -> Bool) : Prop := ∀ (j : Nat) o, ops[j]? = some o -> L j = true -> ∀ e, e ∈ o.after.toList -> Region.binds .any e = true -> L e.on = true
theorem preds_in {L : Nat -> Bool} (hc : Closed ops L) : ∀ (n j : Nat) (o : Oper), j < n -> ops[j]? = some o -> (∀ e, e ∈ o.after.toList -> Region.binds .any e = true -> L e.on = true) -> (∀ (j : Nat) o, ops[j]? = some o -> ∀ e, e ∈ o.after.toList -> Region.binds .any e = true -> e.on < j) ->
  ∀ k, k ∈ (predsOf ops.toList).getD j [] -> L k = true
 | 0, j, o, hj, _, _, _ => by omega
 | n + 1, j, o, hj, ho, ha, ht => fun k hk => by
  obtain ⟨e, h1, h2, h3⟩ := preds_spec (by rw [Array.getElem?_toList]; exact ho) hk
  rcases h3 with rfl | ⟨h3, h4⟩
  ·exact ha e h1 h2
  ·have hon : L e.on = true := ha e h1 h2
   cases ho2 : ops[e.on]? with
   | none =>
    exfalso
    have : (predsOf ops.toList).getD e.on [] = [] := by
     have h5 : ops.size <= e.on := by simpa using ho2
     have h6 : j < ops.size := (Array.getElem?_eq_some_iff.1 ho).1
     omega
    rw [this] at h4; cases h4
   | some o2 => exact preds_in hc n e.on o2 (by omega) ho2 (fun e' he' hb' => hc e.on o2 ho2 hon e' he' hb') ht k h4
theorem any_sound (hD : DSound pg D) (hR : RunT pg D f nt ops l s0 pi) (htopo : okTopo 0 ops.toList = true)
  (hk : pi = none -> ∀ c own a, FAt pg df0 c0 own0 nt c own (runL (fun _ => true) 0 l s0) a -> Q .normal a c.w)
  (hp : ∀ i0, pi = some i0 -> ∃ x v, l[i0]? = some x ∧ PanF pg D f ops (runL (fun j => Nat.blt j i0 && alB (predsOf ops.toList) pi j) 0 l s0) x v ∧ ∀ (L : Nat -> Bool) c own a c1 own1 y, FAt pg df0 c0 own0 nt c own (runL L 0 l s0) a ->
   (∀ j, L j = true -> alB (predsOf ops.toList) pi j = true) -> (∀ k, k ∈ (predsOf ops.toList).getD i0 [] -> L k = true) -> Inv pg c1 own1 (app x (runL L 0 l s0)).g (app x (runL L 0 l s0)).live ->
   (∀ t r, c1.row t = some r -> (app x (runL L 0 l s0)).u.contains t = true) -> After c own c1 own1 -> Ext c c1 -> PRep pg.P c1.w c1.prot v y -> Q (.panic [{ v := y, recovered := false }]) a c1.w) :
  ∀ (fuel : Nat) (listed : Array Bool) (c : Cx) (own : Own) (a : Act), listed.size = ops.size -> cnt (fun j => listed.getD j false) ops.size <= fuel ->
  (∀ j, listed.getD j false = true -> alB (predsOf ops.toList) pi j = true) -> Closed ops (fun j => listed.getD j false) -> FAt pg df0 c0 own0 nt c own (runL (fun j => listed.getD j false) 0 l s0) a -> wpAny pg.P .any ops Q fuel listed a c.w := by
 have hln : l.length = ops.size := by
  have := congrArg List.length hR.same
  simpa using this
 have htp : ∀ (j : Nat) o, ops[j]? = some o -> ∀ e, e ∈ o.after.toList -> Region.binds .any e = true -> e.on < j := fun j o ho e he hb => by
  have := topo_spec htopo j o (by rw [Array.getElem?_toList]; exact ho) e he hb
  omega
 have hdflt : ∀ {listed : Array Bool} {i : Nat}, listed.size = ops.size -> i < ops.size -> listed.getD i true = listed.getD i false := fun hs hi => by simp [Array.getD, hs, hi]
 have hdone : ∀ (listed : Array Bool) (c : Cx) (own : Own) (a : Act), listed.size = ops.size -> (∀ j, listed.getD j false = true -> alB (predsOf ops.toList) pi j = true) -> (∀ i, i < ops.size -> listed.getD i false = true) -> FAt pg df0 c0 own0 nt c own (runL (fun j => listed.getD j false) 0 l s0) a -> Q .normal a c.w := by
  intro listed c own a hs hal hall hF
  have hpi : pi = none := by
   cases hpi : pi with
   | none => rfl
   | some i0 =>
    obtain ⟨x, v, h1, _⟩ := hp i0 hpi
    have h2 := hal i0 (hall i0 (by have := (List.getElem?_eq_some_iff.1 h1).1; omega))
    rw [hpi, alB_self] at h2; cases h2
  refine hk hpi c own a ?_
  have : runL (fun j => listed.getD j false) 0 l s0 = runL (fun _ => true) 0 l s0 := funext fun loc => runL_agree rfl fun j x hx hne => by
   exfalso
   apply hne
   have := (List.getElem?_eq_some_iff.1 hx).1
   simpa using hall (0 + j) (by omega)
  rw [<- this]; exact hF
 have hready : ∀ (listed : Array Bool), listed.size = ops.size -> Region.ready .any ops listed = [] -> ∀ n i, i < n -> i < ops.size -> listed.getD i false = true := by
  intro listed hs hr n
  induction n with
  | zero => intro i hi; omega
  | succ n ih =>
   intro i hi hio
   cases hL : listed.getD i false with
   | true => rfl
   | false =>
    exfalso
    have ho : ops[i]? = some ops[i] := Array.getElem?_eq_getElem hio
    have hm : i ∈ Region.ready .any ops listed := by
     unfold Region.ready
     rw [List.mem_filter]
     refine ⟨List.mem_range.2 hio, ?_⟩
     rw [hdflt hs hio, hL, ho]
     simp only [Bool.not_false, Bool.true_and, Option.map_some, Option.getD_some]
     rw [Array.all_eq_true_iff_forall_mem]
     intro e he
     cases hb : Region.binds .any e with
     | false => rfl
     | true =>
      have hlt := htp i _ ho e (Array.mem_toList_iff.2 he) hb
      have := ih e.on (by omega) (by omega)
      rw [this]; rfl
    rw [hr] at hm; cases hm
 intro fuel
 induction fuel with
 | zero =>
  intro listed c own a hs hc hal hcl hF
  have hall := cnt_zero (Nat.le_zero.1 hc)
  unfold wpAny
  refine ⟨?_, hdone listed c own a hs hal hall hF⟩
  unfold Region.ready
  rw [List.filter_eq_nil_iff]
  intro i hi
  rw [hdflt hs (List.mem_range.1 hi), hall i (List.mem_range.1 hi)]
  simp
 | succ fuel ih =>
  intro listed c own a hs hc hal hcl hF
  unfold wpAny
  refine ⟨fun hr => hdone listed c own a hs hal (fun i hi => hready listed hs hr (i + 1) i (by omega) hi) hF, fun i hi => ?_⟩
  unfold Region.ready at hi
  rw [List.mem_filter] at hi
  obtain ⟨hin, hi2⟩ := hi
  have hin : i < ops.size := List.mem_range.1 hin
  rw [hdflt hs hin] at hi2
  have ho : ops[i]? = some ops[i] := Array.getElem?_eq_getElem hin
  rw [ho] at hi2
  simp only [Bool.and_eq_true, Bool.not_eq_true', Option.map_some, Option.getD_some] at hi2
  obtain ⟨hL, haft⟩ := hi2
  rw [Array.all_eq_true_iff_forall_mem] at haft
  have haft' : ∀ e, e ∈ (ops[i]).after.toList -> Region.binds .any e = true -> listed.getD e.on false = true := fun e he hb => by
   have := haft e (Array.mem_toList_iff.1 he)
   rw [hb] at this
   simpa using this
  obtain ⟨E, hx⟩ := hR.at ho
  have hpred : ∀ k, k ∈ (predsOf ops.toList).getD i [] -> listed.getD k false = true := preds_in (L := fun j => listed.getD j false) hcl (i + 1) i _ (by omega) ho haft' htp
  have hpredj : ∀ j y, l[j]? = some y -> listed.getD j false = true -> i ∉ (predsOf ops.toList).getD j [] := fun j y hy hLj hij => by
   have hoj := hR.of hy
   have := preds_in (L := fun j => listed.getD j false) hcl (j + 1) j _ (by omega) hoj (fun e he hb => hcl j _ hoj hLj e he hb) htp i hij
   have h2 : listed.getD i false = true := this
   rw [hL] at h2; cases h2
  have hali : alB (predsOf ops.toList) pi i = true ∨ pi = some i := by
   cases hpi : pi with
   | none => exact .inl rfl
   | some i0 =>
    by_cases hii : i = i0
    ·subst hii; exact .inr rfl
    ·left
     have h1 : ((predsOf ops.toList).getD i []).contains i0 = false := by
      cases hc1 : ((predsOf ops.toList).getD i []).contains i0 with
      | false => rfl
      | true =>
       exfalso
       have h2 := hal i0 (hpred i0 (List.contains_iff_mem.1 hc1))
       rw [hpi, alB_self] at h2; cases h2
     show (!(i == i0) && !((predsOf ops.toList).getD i []).contains i0) = true
     rw [h1]
     simp [hii]
  have hbefore : ∀ {m : Nat} {z : Oper × Eff} {loc : Loc}, m < i -> l[m]? = some z -> alB (predsOf ops.toList) pi m = true -> listed.getD m false = false -> RdF ops (ops[i], E) loc -> ¬ WrF z loc := fun {m z loc} hmi hz ham hLm hrd hw => by
   have hnp : m ∉ (predsOf ops.toList).getD i [] := fun hp => by rw [hpred m hp] at hLm; cases hLm
   exact (hR.ind m i z _ hmi hz hx (.inl ham) hali hnp).wr_rd hw hrd
  have hagree : (∀ (j : Nat) y, i < j -> l[j]? = some y -> listed.getD j false = true -> E.ft.apart y.2.ft = true) -> ∀ loc, RdF ops (ops[i], E) loc -> runL (fun j => Nat.blt j i && alB (predsOf ops.toList) pi j) 0 l s0 loc = runL (fun j => listed.getD j false) 0 l s0 loc := fun hno loc hrd => runL_agree rfl fun j y hy hne hw => by
   rw [Nat.zero_add] at hne
   rcases Nat.lt_trichotomy j i with hji | hji | hji
   ·have h1 : Nat.blt j i = true := by rw [Nat.blt_eq]; exact hji
    rw [h1, Bool.true_and] at hne
    have hLj : listed.getD j false = false := by
     cases h : listed.getD j false with
     | false => rfl
     | true => rw [hal j h, h] at hne; exact absurd rfl hne
    have haj : alB (predsOf ops.toList) pi j = true := by
     cases h : alB (predsOf ops.toList) pi j with
     | true => rfl
     | false => rw [h, hLj] at hne; exact absurd rfl hne
    exact hbefore hji hy haj hLj hrd hw
   ·subst hji
    apply hne
    rw [hL]
    cases hb : Nat.blt j j with
    | false => rfl
    | true => rw [Nat.blt_eq] at hb; omega
   ·have h1 : Nat.blt j i = false := by
     cases hb : Nat.blt j i with
     | false => rfl
     | true => rw [Nat.blt_eq] at hb; omega
    have hLj : listed.getD j false = true := by
     cases h : listed.getD j false with
     | true => rfl
     | false => rw [h1, h] at hne; exact absurd rfl hne
    exact ((hR.ind i j _ y hji hx hy hali (.inl (hal j hLj)) (hpredj j y hy hLj)).full (hno j y hji hy hLj)).rd_wr hw hrd
  have hwG : ∀ {on : Bool}, GuardF ops (runL (fun j => listed.getD j false) 0 l s0) ops[i] on -> Region.wanted ops[i] (yielded ops a.tmps) = on := by
   intro on hg
   unfold GuardF at hg
   cases hgd : (ops[i]).guard with
   | none =>
    rw [hgd] at hg
    unfold Region.wanted
    rw [hgd]
    exact hg.symm
   | some gw =>
    obtain ⟨g, want⟩ := gw
    rw [hgd] at hg
    obtain ⟨t, h1, h2⟩ := hg
    have henv := hF.env t
    rcases h2 with ⟨b, h3, h4⟩ | ⟨h3, h4⟩
    ·rw [h3] at henv
     rw [wanted_of (P := pg.P) (a := a) hgd h1 (x := some b) henv.bool_inv, h4]
     cases b <;> cases want <;> rfl
    ·rw [h3] at henv
     rw [wanted_of (P := pg.P) (a := a) hgd h1 (x := none) henv.hole_inv, h4]
     rfl
  unfold wpOp
  rw [ho]
  dsimp only
  by_cases hpi : pi = some i
  ·obtain ⟨x, v, h1, h2, h3⟩ := hp i hpi
   rw [hx] at h1
   cases h1
   have hO := h2.congr (hagree fun j y hji hy hLj => by
    rcases (hR.ind i j _ y hji hx hy hali (.inl (hal j hLj)) (hpredj j y hy hLj)).2 with h4 | ⟨_, h4⟩
    ·exact h4
    ·have h5 : E.ft.row = true := h2.ft.row.trans h2.row
     rw [show (ops[i], E).2.ft.row = E.ft.row from rfl, h5] at h4; cases h4)
   rw [hwG hO.guard, if_pos rfl]
   exact .inl (drawn_pan hD hF hO fun c1 own1 y g1 g2 g3 g4 g5 => h3 _ c own a c1 own1 y hF hal hpred g1 g2 g3 g4 g5)
  have hali' : alB (predsOf ops.toList) pi i = true := hali.resolve_right hpi
  obtain ⟨E', hEon, hEapp, hO⟩ : ∃ E', E'.on = E.on ∧ (∀ s, app (ops[i], E') s = app (ops[i], E) s) ∧ OpF pg D f nt ops (runL (fun j => listed.getD j false) 0 l s0) (ops[i], E') := by
   by_cases hex : ∃ j, ∃ y, i < j ∧ l[j]? = some y ∧ listed.getD j false = true ∧ E.ft.apart y.2.ft = false
   ·obtain ⟨j, ⟨y, hij, hy, hLj, hap⟩, hmax⟩ := greatest (n := ops.size) (fun j ⟨y, _, hy, _⟩ => by have := (List.getElem?_eq_some_iff.1 hy).1; omega) hex
    obtain ⟨⟨E', h1, h2, h3, h4⟩, hbtw⟩ := hR.rc i j _ y hij hx hy hali' (hal j hLj) (hpredj j y hy hLj) hap
    obtain ⟨hwr, hrow⟩ : E.ft.wr = [] ∧ E.ft.row = false := by
     rcases (hR.ind i j _ y hij hx hy hali (.inl (hal j hLj)) (hpredj j y hy hLj)).2 with h5 | h5
     ·rw [show (ops[i], E).2.ft = E.ft from rfl, hap] at h5; cases h5
     ·exact h5
    refine ⟨E', h2, fun s => app_as h1 h3 hwr hrow, h4.congr fun loc hrd' => ?_⟩
    have hrd : RdF ops (ops[i], E) loc := by
     cases loc with
     | slot t => exact hrd'
     | blk id => exact (show id ∈ E.ft.rd ∨ id ∈ E.ft.wr from by have : id ∈ E'.ft.rd ∨ id ∈ E'.ft.wr := hrd'; rw [h3] at this; exact this)
     | rows => exact (show E.ft.row = true from by have : E'.ft.row = true := hrd'; rw [h3] at this; exact this)
    refine runL_agree rfl fun m z hz hne hw => ?_
    rw [Nat.zero_add] at hne
    rcases Nat.lt_or_ge m (j + 1) with hmj | hmj
    ·have h5 : Nat.blt m (j + 1) = true := by rw [Nat.blt_eq]; exact hmj
     rw [h5, Bool.true_and] at hne
     have hLm : listed.getD m false = false := by
      cases h : listed.getD m false with
      | false => rfl
      | true => rw [hal m h, h] at hne; exact absurd rfl hne
     have ham : alB (predsOf ops.toList) pi m = true := by
      cases h : alB (predsOf ops.toList) pi m with
      | true => rfl
      | false => rw [h, hLm] at hne; exact absurd rfl hne
     rcases Nat.lt_or_ge m i with hmi | hmi
     ·exact hbefore hmi hz ham hLm hrd hw
     ·have hmne : m ≠ j := by rintro rfl; rw [hLj] at hLm; cases hLm
      have hnp : m ∉ (predsOf ops.toList).getD j [] := fun hp => by
       have hoj := hR.of hy
       have h6 : listed.getD m false = true := preds_in (L := fun j => listed.getD j false) hcl (j + 1) j _ (by omega) hoj (fun e he hb => hcl j _ hoj hLj e he hb) htp m hp
       rw [hLm] at h6; cases h6
      exact hbtw m z hmi (by omega) hz ham hnp loc hrd hw
    ·have h5 : Nat.blt m (j + 1) = false := by
      cases hb : Nat.blt m (j + 1) with
      | false => rfl
      | true => rw [Nat.blt_eq] at hb; omega
     have hLm : listed.getD m false = true := by
      cases h : listed.getD m false with
      | true => rfl
      | false => rw [h5, h] at hne; exact absurd rfl hne
     have hA := hR.ind i m _ z (by omega) hx hz hali (.inl (hal m hLm)) (hpredj m z hz hLm)
     cases hap2 : E.ft.apart z.2.ft with
     | true => exact (hA.full hap2).rd_wr hw hrd
     | false =>
      have := hmax m ⟨z, by omega, hz, hLm, hap2⟩
      omega
   ·refine ⟨E, rfl, fun _ => rfl, (hR.op i _ hx hali').congr (hagree fun j y hij hy hLj => ?_)⟩
    cases hap : E.ft.apart y.2.ft with
    | true => rfl
    | false => exact absurd ⟨j, y, hij, hy, hLj, hap⟩ hex
  have hnext : app (ops[i], E) (runL (fun j => listed.getD j false) 0 l s0) = runL (fun j => (listed.setIfInBounds i true).getD j false) 0 l s0 := by
   funext loc
   rw [<- runL_last (p := fun j => listed.getD j false) (i := 0) (j0 := i) hx (by rw [Nat.zero_add]; exact hL) fun j y hj hy hp hw => by
    rw [Nat.zero_add] at hp
    exact (hR.ind i j _ y hj hx hy hali (.inl (hal j hp)) (hpredj j y hy hp)).wr_wr hw]
   congr 1
   funext j
   rw [Nat.zero_add]
   by_cases hji : j = i
   ·subst hji
    simp [Array.getD, hs, hin]
   ·have : i ≠ j := fun h => hji h.symm
    simp [Array.getD_eq_getD_getElem?, Array.getElem?_setIfInBounds, this, hji]
  have hs' : (listed.setIfInBounds i true).size = ops.size := by simpa using hs
  have hget : ∀ j, j ≠ i -> (listed.setIfInBounds i true).getD j false = listed.getD j false := fun j hji => by
   have : i ≠ j := fun h => hji h.symm
   simp [Array.getD_eq_getD_getElem?, Array.getElem?_setIfInBounds, this]
  have hgeti : (listed.setIfInBounds i true).getD i false = true := by simp [Array.getD, hs, hin]
  have hmono : ∀ j, listed.getD j false = true -> (listed.setIfInBounds i true).getD j false = true := fun j hj => by
   by_cases hji : j = i
   ·subst hji; exact hgeti
   ·rw [hget j hji]; exact hj
  have hc' : cnt (fun j => (listed.setIfInBounds i true).getD j false) ops.size <= fuel := by
   have := cnt_step (f := fun j => listed.getD j false) (f' := fun j => (listed.setIfInBounds i true).getD j false) hin hL hgeti hget
   omega
  have hcl' : Closed ops (fun j => (listed.setIfInBounds i true).getD j false) := fun j o hoj hLj e he hb => by
   by_cases hji : j = i
   ·subst hji
    rw [ho] at hoj
    cases hoj
    exact hmono _ (haft' e he hb)
   ·exact hmono _ (hcl j o hoj ((hget j hji).symm.trans hLj) e he hb)
  have hw : Region.wanted ops[i] (yielded ops a.tmps) = E.on := (hwG hO.guard).trans hEon
  have hal' : ∀ j, (listed.setIfInBounds i true).getD j false = true -> alB (predsOf ops.toList) pi j = true := fun j hj => by
   by_cases hji : j = i
   ·subst hji; exact hali'
   ·exact hal j ((hget j hji).symm.trans hj)
  rw [hw]
  cases hon : E.on with
  | true =>
   rw [if_pos rfl]
   refine .inl (drawn_step hD hF hO (hEon.trans hon) fun c1 own1 y hF1 => ?_)
   rw [hEapp, hnext] at hF1
   exact ih _ c1 own1 _ hs' hc' hal' hcl' hF1
  | false =>
   rw [if_neg nofun]
   have hF1 := hF.skip hO (hEon.trans hon)
   rw [hEapp, hnext] at hF1
   exact ih _ c own _ hs' hc' hal' hcl' hF1
end
end Go.Proofs.Ab
