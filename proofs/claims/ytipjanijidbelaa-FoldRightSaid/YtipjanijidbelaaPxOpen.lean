/- Data that comes in: read off memory by value, of any data type of the program. Own work. -/
import Derived.Test.YtipjanijidbelaaGlue
import Derived.Test.YtipjanijidbelaaPxB
import Derived.Lib.SmallJoins
import Derived.SizedLaws
namespace Go.Proofs.Px
open Go Go.Proofs.Ab Go.ChangeShapes Go.WideShapes Go.ChangeAt Go.WideMaps Go.WideElems Go.RowKit
set_option linter.unusedVariables false
set_option linter.unusedSimpArgs false

theorem mapM_opt {α β : Type} {f : α → Option β} : ∀ {l : List α} {r : List β}, l.mapM f = some r → r.length = l.length ∧ ∀ (j : Nat) (x : α), l[j]? = some x → f x = r[j]?
  | [], r, h => by simp at h; subst h; exact ⟨rfl, fun j x hx => by simp at hx⟩
  | a :: l, r, h => by
    rw [List.mapM_cons] at h
    obtain ⟨b, hb, h1⟩ := Option.bind_eq_some_iff.1 h
    obtain ⟨bs, hbs, h2⟩ := Option.bind_eq_some_iff.1 h1
    cases h2
    obtain ⟨h3, h4⟩ := mapM_opt hbs
    refine ⟨by simp [h3], fun j x hx => ?_⟩
    cases j with
    | zero => simp at hx; subst hx; exact hb
    | succ j => simpa using h4 j x (by simpa using hx)
theorem cells_opt {w : World} {base n : Nat} {a : Addr} {cs : List Value} (h : w.cells? base a n = some cs) : cs.length = n ∧ ∀ j, j < n → w.cell? (a.add j) = cs[j]? := by
  unfold World.cells? at h
  split at h
  · obtain ⟨h1, h2⟩ := mapM_opt h
    exact ⟨by simpa using h1, fun j hj => h2 j j (List.getElem?_range hj)⟩
  · cases h
theorem spot_none {w : World} {a : Addr} {x : Value} (h : w.cell? a = some x) : a.spot = none := by
  unfold World.cell? at h
  split at h
  · split at h
    · cases h
    · rename_i hs
      cases hq : a.spot with
      | none => rfl
      | some q => rw [hq] at hs; exact absurd rfl hs
  · cases h
theorem add_at {a : Addr} (h : a.spot = none) (k : Nat) : a.add k = ⟨a.block, a.off + k, none⟩ := by
  unfold Addr.add
  split
  · rename_i hk
    subst hk
    cases a
    simp at h
    subst h; rfl
  · rfl
theorem add_add (a : Addr) (m j : Nat) : (a.add m).add j = a.add (m + j) := by
  unfold Addr.add
  by_cases hm : m = 0
  · subst hm; simp
  · by_cases hj : j = 0
    · subst hj; simp [hm]
    · rw [if_neg hm, if_neg hj, if_neg (show m + j ≠ 0 by omega)]
      simp [Nat.add_assoc]

/-- What is told of a slice that came in: where its being nil is looked at, whether it is. -/
def ZTok (z : Bool) (tok : Tok) (es : List (List V)) : Prop := if z = true then (tok = .nil ∧ es = []) ∨ tok = .nn else tok = .no
/-- What data of a type look like by value. -/
inductive Fits (P : Program) (pz : TypeId → Bool) : TypeId → List V → Prop where
  | int {t : TypeId} {k : IntKind} {n : Int} {cs : List V} (h : P.underlying t = some (.int k)) (hw : (Lit.int k n).wf = true) (e : cs = [.int k n]) : Fits P pz t cs
  | bool {t : TypeId} {b : Bool} {cs : List V} (h : P.underlying t = some .bool) (e : cs = [.bool b]) : Fits P pz t cs
  | str {t : TypeId} {s : ByteArray} {cs : List V} (h : P.underlying t = some .string) (hw : s.size ≤ 140737488351232) (e : cs = [.str s]) : Fits P pz t cs
  | sl {t el : TypeId} {tok : Tok} {es : List (List V)} {cs : List V} (h : P.underlying t = some (.slice el)) (ht : ZTok (pz el) tok es) (hl : es.length * P.bytesOf el ≤ 140737488351232) (hm : es.length ≤ maxLen) (he : ∀ i, i < es.length → Fits P pz el (es.getD i [])) (e : cs = [.sl tok el es]) : Fits P pz t cs
  | st {t : TypeId} {fs : Array Field} {ps : List (List V)} {cs : List V} (h : P.underlying t = some (.struct fs)) (hl : ps.length = fs.size) (he : ∀ (i : Nat) (f : Field), fs[i]? = some f → Fits P pz f.type (ps.getD i [])) (e : cs = ps.flatten) : Fits P pz t cs

/-- The fields lie one after the other. -/
def contig (P : Program) : Nat → List Field → Nat → Bool
  | o, [], n => o == n
  | o, f :: fs, n => f.offset == o && contig P (o + P.cellsOf f.type) fs n
/-- Types of data, closed under their parts. -/
def dataOk (P : Program) (ts : List TypeId) : Bool := ts.all fun t => match P.underlying t with
  | some (.int _) => true
  | some .bool => true
  | some .string => true
  | some (.slice e) => ts.contains e && P.cellsOf e == sz P e && decide (0 < sz P e)
  | some (.struct fs) => fs.toList.all (fun f => ts.contains f.type) && contig P 0 fs.toList (P.cellsOf t)
  | _ => false

/-- Cells that stand for values by value. -/
def Rep (P : Program) (W : World) (vs : List V) (cs : List Value) : Prop :=
  vs.length = cs.length ∧ ∀ j, j < cs.length → PRep P W (Before W) (vs.getD j .undef) (cs.getD j Go.undef) ∧ (cs.getD j Go.undef).oneCell' = true
theorem Rep.one {P : Program} {W : World} {v : V} {x : Value} (h : PRep P W (Before W) v x) (ho : x.oneCell' = true) : Rep P W [v] [x] := by
  refine ⟨rfl, fun j hj => ?_⟩
  obtain rfl : j = 0 := by simp at hj; exact hj
  exact ⟨h, ho⟩
theorem Rep.app {P : Program} {W : World} {vs us : List V} {cs ds : List Value} (h : Rep P W vs cs) (g : Rep P W us ds) : Rep P W (vs ++ us) (cs ++ ds) := by
  refine ⟨by simp [h.1, g.1], fun j hj => ?_⟩
  rw [List.getD_eq_getElem?_getD, List.getD_eq_getElem?_getD, List.getElem?_append, List.getElem?_append, h.1]
  split
  · rename_i hlt
    simpa [List.getD_eq_getElem?_getD] using h.2 j hlt
  · rename_i hge
    have := g.2 (j - cs.length) (by rw [List.length_append] at hj; omega)
    simpa [List.getD_eq_getElem?_getD] using this
theorem Rep.nil {P : Program} {W : World} : Rep P W [] [] := ⟨rfl, fun j hj => by cases hj⟩

theorem contig_le {P : Program} : ∀ (fs : List Field) (o n : Nat), contig P o fs n = true → o ≤ n
  | [], o, n, h => by have : o = n := by simpa [contig] using h
                      omega
  | f :: fs, o, n, h => by
    obtain ⟨h1, h2⟩ : f.offset = o ∧ contig P (o + P.cellsOf f.type) fs n = true := by simpa [contig] using h
    have := contig_le fs _ n h2
    omega
/-- The pieces of a struct, one after the other. -/
theorem rep_fields {P : Program} {W : World} : ∀ (fs : List Field) (o : Nat) (cs : List Value) (n : Nat), contig P o fs n = true → cs.length = n →
    ∀ ps : List (List V), ps.length = fs.length → (∀ (i : Nat) (f : Field), fs[i]? = some f → Rep P W (ps.getD i []) ((cs.drop f.offset).take (P.cellsOf f.type))) →
    Rep P W ps.flatten (cs.drop o)
  | [], o, cs, n, hc, hn, ps, hp, _ => by
    have : o = n := by simpa [contig] using hc
    have hp : ps = [] := List.length_eq_zero_iff.1 hp
    subst hp
    rw [List.drop_eq_nil_of_le (by omega)]
    exact Rep.nil
  | f :: fs, o, cs, n, hc, hn, ps, hp, hf => by
    obtain ⟨h1, h2⟩ : f.offset = o ∧ contig P (o + P.cellsOf f.type) fs n = true := by simpa [contig] using hc
    match ps, hp with
    | p :: ps, hp =>
      have r := hf 0 f rfl
      rw [h1] at r
      have hrest := rep_fields fs (o + P.cellsOf f.type) cs n h2 hn ps (by simpa using hp) (fun i g hg => by simpa using hf (i + 1) g (by simpa using hg))
      have := r.app hrest
      rw [show (cs.drop o).take (P.cellsOf f.type) ++ cs.drop (o + P.cellsOf f.type) = cs.drop o by rw [← List.drop_drop, List.take_append_drop]] at this
      simpa using this
theorem weights_all {H : Type} {P : Program} {e : TypeId} : ∀ {l : List (DataW H)} {d : DataW H}, d ∈ l → ∀ w ∈ DataW.weights P e d, w ∈ DataW.weightsAll P e l := by
  intro l
  induction l with
  | nil => intro d0 h; cases h
  | cons x l ih =>
    intro d0 h w hw
    unfold DataW.weightsAll
    rcases List.mem_cons.1 h with rfl | h
    · exact List.mem_append_left _ hw
    · exact List.mem_append_right _ (ih h w hw)

/-- **Data that come in, by value.** -/
theorem open_data {H : Type} {enc : TypeId × Value → H} {P : Program} (pz : TypeId → Bool) {W : World} {spare : Nat → Bool} {held : Bool} {ts : List TypeId} (hok : dataOk P ts = true) :
    ∀ (fuel : Nat) (t : TypeId) (cs : List Value) (d : DataW H) (p : List MemPlace), t ∈ ts → DataW.trod enc P W 0 spare held fuel t cs = some (d, p) → (∀ w ∈ DataW.weights P t d, w ≤ reachBytes) →
    ∃ vs : List V, Rep P W vs cs ∧ Fits P pz t vs
  | 0, t, cs, d, p, ht, h, hw => by simp [DataW.trod] at h
  | fuel + 1, t, cs, d, p, ht, h, hw => by
    have h0 := List.all_eq_true.1 hok t ht
    split at h0
    · rename_i k hu
      obtain ⟨n, rfl, hx, hwf⟩ := DataW.trod_int hu h
      exact ⟨[.int k n], Rep.one (.int k n) rfl, .int hu hwf rfl⟩
    · rename_i hu
      obtain ⟨b, rfl, hx⟩ := DataW.trod_bool hu h
      exact ⟨[.bool b], Rep.one (.bool b) rfl, .bool hu rfl⟩
    · rename_i hu
      obtain ⟨s, rfl, hx, hwf⟩ := DataW.trod_string hu h
      simp only [Prod.mk.injEq] at hx
      refine ⟨[.str s], Rep.one (.str s) rfl, .str hu ?_ rfl⟩
      have := hw s.data.toList.length (by rw [hx.1]; simp [DataW.weights])
      simpa [reachBytes] using this
    · rename_i e hu
      simp only [Bool.and_eq_true, decide_eq_true_eq, beq_iff_eq, List.contains_eq_mem] at h0
      obtain ⟨⟨he, hz⟩, hpos⟩ := h0
      rcases DataW.trod_slice hu h with ⟨rfl, hx⟩ | ⟨ad, len, cap, elems, rest, n, hfu, rfl, hx, hb, hl, hm, hlen, hel, _, _⟩
      · obtain ⟨tok, hz1, hz2⟩ : ∃ tok, ZTok (pz e) tok [] ∧ TokFit tok none 0 0 := by
          unfold ZTok
          cases pz e with
          | true => exact ⟨.nil, by simp, rfl, rfl, rfl⟩
          | false => exact ⟨.no, by simp, trivial⟩
        refine ⟨[.sl tok e []], Rep.one (.sl (es := []) (fun _ _ => Go.undef) 0 0 hz2 ⟨fun h => absurd rfl h, Nat.le_refl _⟩ (fun i hi => by cases hi) (fun i j hi => by cases hi) (fun i j hi => by cases hi)) rfl, ?_⟩
        exact .sl hu hz1 (by simp) (Nat.zero_le _) (fun i hi => by cases hi) rfl
      · obtain rfl : n = fuel := by omega
        simp only [Prod.mk.injEq] at hx
        obtain ⟨hd, _⟩ := hx
        have one : ∀ i, i < len → ∃ vs : List V, (∃ cs : List Value, (∀ j, j < sz P e → W.cell? (ad.add (i * sz P e + j)) = cs[j]?) ∧ cs.length = sz P e ∧ Rep P W vs cs) ∧ Fits P pz e vs := by
          intro i hi
          have h1 := hel i hi
          have hi2 : i < elems.length := by omega
          rw [List.getElem?_eq_getElem hi2, hz] at h1
          obtain ⟨cs, hcs, h2⟩ := Option.bind_eq_some_iff.1 h1
          obtain ⟨hcl, hcell⟩ := cells_opt hcs
          obtain ⟨vs, hr, hf⟩ := open_data pz hok n e cs _ _ he h2 fun w hw' => hw w (by
            rw [hd]
            unfold DataW.weights
            rw [hu]
            exact List.mem_cons_of_mem _ (List.mem_append_left _ (weights_all (List.mem_map.2 ⟨_, List.getElem_mem hi2, rfl⟩) w hw')))
          refine ⟨vs, ⟨cs, fun j hj => ?_, hcl, hr⟩, hf⟩
          rw [← hcell j hj]
          rw [add_add]
        let T : Nat → List V := fun i => if hi : i < len then Classical.choose (one i hi) else []
        let C : Nat → List Value := fun i => if hi : i < len then Classical.choose (Classical.choose_spec (one i hi)).1 else []
        have hT : ∀ i, i < len → ((∀ j, j < sz P e → W.cell? (ad.add (i * sz P e + j)) = (C i)[j]?) ∧ (C i).length = sz P e ∧ Rep P W (T i) (C i)) ∧ Fits P pz e (T i) := fun i hi => by
          have h1 : T i = Classical.choose (one i hi) := dif_pos hi
          have h2 : C i = Classical.choose (Classical.choose_spec (one i hi)).1 := dif_pos hi
          rw [h1, h2]
          exact ⟨Classical.choose_spec (Classical.choose_spec (one i hi)).1, (Classical.choose_spec (one i hi)).2⟩
        have hll : ((List.range len).map T).length = len := by simp
        have hg : ∀ i, i < len → ((List.range len).map T).getD i [] = T i := fun i hi => by
          rw [List.getD_eq_getElem?_getD, List.getElem?_map, List.getElem?_range hi]; rfl
        have hcell : ∀ i j, i < len → j < sz P e → W.cell? (ad.add (i * sz P e + j)) = some ((C i).getD j Go.undef) := fun i j hi hj => by
          obtain ⟨⟨h1, h2, _⟩, _⟩ := hT i hi
          rw [h1 j hj, List.getD_eq_getElem?_getD, List.getElem?_eq_getElem (by omega)]
          rfl
        have hsp : len ≠ 0 → ad.spot = none := fun h0 => by
          have h7 := hcell 0 0 (by omega) hpos
          rw [show ad.add (0 * sz P e + 0) = ad by simp [Addr.add]] at h7
          exact spot_none h7
        obtain ⟨tok, hz1, hz2⟩ : ∃ tok, ZTok (pz e) tok ((List.range len).map T) ∧ TokFit tok (some ad) cap ((List.range len).map T).length := by
          unfold ZTok
          cases pz e with
          | true => exact ⟨.nn, by simp, by simp [TokFit]⟩
          | false => exact ⟨.no, by simp, trivial⟩
        have key : PRep P W (Before W) (.sl tok e ((List.range len).map T)) (.slice (some ad) ((List.range len).map T).length cap) := by
          refine .sl (fun i j => (C i).getD j Go.undef) ad.block ad.off hz2 ⟨fun hne => ?_, by rw [hll]; exact hl⟩ (fun i hi => ?_) (fun i j hi hj => ?_) (fun i j hi hj => ?_)
          · have h5 : len ≠ 0 := fun h0 => hne (by subst h0; rfl)
            have h6 := hsp h5
            cases ad
            simp at h6
            subst h6; rfl
          · have hi' : i < len := by rw [hll] at hi; exact hi
            rw [hg i hi', (hT i hi').1.2.2.1, (hT i hi').1.2.1]
          · have hi' : i < len := by rw [hll] at hi; exact hi
            have h5 := hcell i j hi' hj
            rw [add_at (hsp (by omega)), ← Nat.add_assoc] at h5
            exact ⟨cell_lt h5, h5, ((hT i hi').1.2.2.2 j (by rw [(hT i hi').1.2.1]; exact hj)).2⟩
          · have hi' : i < len := by rw [hll] at hi; exact hi
            rw [hg i hi']
            exact ((hT i hi').1.2.2.2 j (by rw [(hT i hi').1.2.1]; exact hj)).1
        rw [hll] at key
        refine ⟨[.sl tok e ((List.range len).map T)], Rep.one key rfl, .sl hu hz1 ?_ (by rw [hll]; omega) (fun i hi => ?_) rfl⟩
        · rw [hll]
          have h5 := hw ((elems.map (·.1)).length * P.bytesOf e + (rest.map (·.1)).length * P.bytesOf e) (by
            rw [hd]
            unfold DataW.weights
            rw [hu, ← Nat.add_mul]
            exact List.mem_cons_self)
          rw [List.length_map, hlen] at h5
          have h6 : reachBytes = 140737488351232 := rfl
          omega
        · have hi' : i < len := by rw [hll] at hi; exact hi
          rw [hg i hi']
          exact (hT i hi').2
    · rename_i fs hu
      simp only [Bool.and_eq_true, List.all_eq_true, List.contains_eq_mem, decide_eq_true_eq] at h0
      obtain ⟨hty, hco⟩ := h0
      obtain ⟨xs, n, hfu, hx, hl, hlen, hf⟩ := DataW.trod_struct hu h
      obtain rfl : n = fuel := by omega
      simp only [Prod.mk.injEq] at hx
      obtain ⟨hd, _⟩ := hx
      have one : ∀ i (hi : i < fs.size), ∃ vs : List V, Rep P W vs ((cs.drop fs[i].offset).take (P.cellsOf fs[i].type)) ∧ Fits P pz fs[i].type vs := by
        intro i hi
        have h1 := hf i fs[i] (Array.getElem?_eq_getElem hi)
        have hi2 : i < xs.length := by omega
        rw [List.getElem?_eq_getElem hi2] at h1
        refine open_data pz hok n _ _ _ _ (hty _ (Array.getElem_mem_toList hi)) h1 fun w hw' => hw w ?_
        rw [hd]
        unfold DataW.weights
        rw [hu]
        refine DataW.weights_mem_each (j := i) (t := fs[i].type) (d := xs[i].1) ?_ ?_ w hw'
        · simp [List.getElem?_map, hi]
        · simp [List.getElem?_map, hi2]
      let T : Nat → List V := fun i => if hi : i < fs.size then Classical.choose (one i hi) else []
      have hT : ∀ i (hi : i < fs.size), Rep P W (T i) ((cs.drop fs[i].offset).take (P.cellsOf fs[i].type)) ∧ Fits P pz fs[i].type (T i) := fun i hi => by
        have h1 : T i = Classical.choose (one i hi) := dif_pos hi
        rw [h1]
        exact Classical.choose_spec (one i hi)
      have hll : ((List.range fs.size).map T).length = fs.size := by simp
      have hg : ∀ i, i < fs.size → ((List.range fs.size).map T).getD i [] = T i := fun i hi => by
        rw [List.getD_eq_getElem?_getD, List.getElem?_map, List.getElem?_range hi]; rfl
      refine ⟨((List.range fs.size).map T).flatten, ?_, .st hu hll (fun i f hif => ?_) rfl⟩
      · have := rep_fields fs.toList 0 cs (P.cellsOf t) hco hl ((List.range fs.size).map T) (by simp) (fun i f hif => by
          obtain ⟨hi, rfl⟩ := Array.getElem?_eq_some_iff.1 ((Array.getElem?_toList ..).symm.trans hif)
          rw [hg i hi]
          exact (hT i hi).1)
        simpa using this
      · obtain ⟨hi, rfl⟩ := Array.getElem?_eq_some_iff.1 hif
        rw [hg i hi]
        exact (hT i hi).2
    · cases h0
/-- **An argument, by value**: a slice. -/
theorem open_slice_arg {H : Type} {enc : TypeId × Value → H} {P : Program} (pz : TypeId → Bool) {W : World} {spare : Nat → Bool} {held : Bool} {ts : List TypeId} (hok : dataOk P ts = true) {t e : TypeId} (ht : t ∈ ts) (hu : P.underlying t = some (.slice e))
    {r : Reach} {b0 : Nat} {v : Value} (hv : Value.okWide P W r b0 t v) {d : DataW H} {p : List MemPlace} (h : DataW.Trod enc P W 0 spare held t v d p) (hw : ∀ w ∈ DataW.weights P t d, w ≤ reachBytes) :
    ∃ x : V, Fits P pz t [x] ∧ PRep P W (Before W) x v := by
  obtain ⟨a, len, cap, rfl⟩ := okWide_slice hu hv
  obtain ⟨fuel, hf⟩ := h
  obtain ⟨vs, hr, hfit⟩ := open_data pz hok fuel t _ d p ht hf hw
  match vs, hr with
  | [], hr => exact absurd hr.1 (by simp [Value.cells])
  | [x], hr => exact ⟨x, hfit, (hr.2 0 (by simp [Value.cells])).1⟩
  | _ :: _ :: _, hr => exact absurd hr.1 (by simp [Value.cells])
/-- **An argument, by value**: a struct. -/
theorem open_struct_arg {H : Type} {enc : TypeId × Value → H} {P : Program} (pz : TypeId → Bool) {W : World} {spare : Nat → Bool} {held : Bool} {ts : List TypeId} (hok : dataOk P ts = true) {t : TypeId} {fs : Array Field} (ht : t ∈ ts) (hu : P.underlying t = some (.struct fs))
    {r : Reach} {b0 : Nat} {v : Value} (hv : Value.okWide P W r b0 t v) {d : DataW H} {p : List MemPlace} (h : DataW.Trod enc P W 0 spare held t v d p) (hw : ∀ w ∈ DataW.weights P t d, w ≤ reachBytes) :
    ∃ vs : List V, Fits P pz t vs ∧ PRep P W (Before W) (.agg vs) v := by
  obtain ⟨cs, rfl, _⟩ := okWide_struct hu hv
  obtain ⟨fuel, hf⟩ := h
  obtain ⟨vs, hr, hfit⟩ := open_data pz hok fuel t _ d p ht hf hw
  refine ⟨vs, hfit, .agg (by simpa [Value.cells] using hr.1) fun j hj => ?_⟩
  have h1 := (hr.2 j (by rw [← hr.1]; exact hj)).1
  simpa [Value.cells, List.getD_eq_getElem?_getD, Array.getD_eq_getD_getElem?] using h1
theorem trod_places {H : Type} {enc : TypeId × Value → H} {P : Program} {W : World} {spare : Nat → Bool} {held : Bool} {t : TypeId} {v : Value} {d : DataW H} {p : List MemPlace} (h : DataW.Trod enc P W 0 spare held t v d p) : ∀ x ∈ p, x.block < W.heap.size := by
  obtain ⟨fuel, hf⟩ := h
  exact DataW.trod_lt fuel t _ _ hf
theorem sized_data {H : Type} {P : Program} {ts : List TypeId} {ds : List (DataW H)} (h : (DataW.weightsEach P ts ds).all (· ≤ reachBytes) = true) {j : Nat} {t : TypeId} {d : DataW H} (ht : ts[j]? = some t) (hd : ds[j]? = some d) :
    ∀ w ∈ DataW.weights P t d, w ≤ reachBytes := fun w hw => by
  simpa using List.all_eq_true.1 h w (DataW.weights_mem_each ht hd w hw)
theorem fits_int {P : Program} {pz : TypeId → Bool} {t : TypeId} {k : IntKind} {cs : List V} (hu : P.underlying t = some (.int k)) (h : Fits P pz t cs) : ∃ n : Int, cs = [.int k n] ∧ (Lit.int k n).wf = true := by
  cases h with
  | int h hw e => rw [hu] at h; cases h; exact ⟨_, e, hw⟩
  | bool h e => rw [hu] at h; cases h
  | str h hw e => rw [hu] at h; cases h
  | sl h ht hl hm he e => rw [hu] at h; cases h
  | st h hl he e => rw [hu] at h; cases h
theorem fits_bool {P : Program} {pz : TypeId → Bool} {t : TypeId} {cs : List V} (hu : P.underlying t = some .bool) (h : Fits P pz t cs) : ∃ b : Bool, cs = [.bool b] := by
  cases h with
  | int h hw e => rw [hu] at h; cases h
  | bool h e => exact ⟨_, e⟩
  | str h hw e => rw [hu] at h; cases h
  | sl h ht hl hm he e => rw [hu] at h; cases h
  | st h hl he e => rw [hu] at h; cases h
theorem fits_str {P : Program} {pz : TypeId → Bool} {t : TypeId} {cs : List V} (hu : P.underlying t = some .string) (h : Fits P pz t cs) : ∃ l : List UInt8, cs = [.str (B l)] ∧ l.length ≤ 140737488351232 := by
  cases h with
  | int h hw e => rw [hu] at h; cases h
  | bool h e => rw [hu] at h; cases h
  | str h hw e =>
    rename_i s
    exact ⟨s.data.toList, by rw [e, ← B_of], by simpa using hw⟩
  | sl h ht hl hm he e => rw [hu] at h; cases h
  | st h hl he e => rw [hu] at h; cases h
theorem fits_slz {P : Program} {pz : TypeId → Bool} {t el : TypeId} {cs : List V} (hu : P.underlying t = some (.slice el)) (h : Fits P pz t cs) :
    ∃ (tok : Tok) (es : List (List V)), cs = [.sl tok el es] ∧ ZTok (pz el) tok es ∧ es.length * P.bytesOf el ≤ 140737488351232 ∧ es.length ≤ maxLen ∧ ∀ i, i < es.length → Fits P pz el (es.getD i []) := by
  cases h with
  | int h hw e => rw [hu] at h; cases h
  | bool h e => rw [hu] at h; cases h
  | str h hw e => rw [hu] at h; cases h
  | sl h ht hl hm he e => rw [hu] at h; cases h; exact ⟨_, _, e, ht, hl, hm, he⟩
  | st h hl he e => rw [hu] at h; cases h
theorem fits_sl {P : Program} {pz : TypeId → Bool} {t el : TypeId} {cs : List V} (hu : P.underlying t = some (.slice el)) (hz : pz el = false) (h : Fits P pz t cs) :
    ∃ es : List (List V), cs = [.sl .no el es] ∧ es.length * P.bytesOf el ≤ 140737488351232 ∧ es.length ≤ maxLen ∧ ∀ i, i < es.length → Fits P pz el (es.getD i []) := by
  obtain ⟨tok, es, h1, h2, h3, h4, h5⟩ := fits_slz hu h
  unfold ZTok at h2
  rw [hz, if_neg (by simp)] at h2
  subst h2
  exact ⟨es, h1, h3, h4, h5⟩
/-- A struct's parts' types. -/
def partTypes (P : Program) (t : TypeId) : Option (List TypeId) := match P.underlying t with
  | some (.struct fs) => some (fs.toList.map (·.type))
  | _ => none
theorem fits_st {P : Program} {pz : TypeId → Bool} {t : TypeId} {ts : List TypeId} {cs : List V} (hu : partTypes P t = some ts) (h : Fits P pz t cs) :
    ∃ ps : List (List V), cs = ps.flatten ∧ ps.length = ts.length ∧ ∀ (i : Nat) (u : TypeId), ts[i]? = some u → Fits P pz u (ps.getD i []) := by
  unfold partTypes at hu
  cases h with
  | int h hw e => rw [h] at hu; cases hu
  | bool h e => rw [h] at hu; cases hu
  | str h hw e => rw [h] at hu; cases hu
  | sl h ht hl hm he e => rw [h] at hu; cases hu
  | st h hl he e =>
    rw [h] at hu
    obtain rfl := Option.some.inj hu
    refine ⟨_, e, by simpa using hl, fun i u hi => ?_⟩
    rw [List.getElem?_map] at hi
    obtain ⟨f, hf, rfl⟩ := Option.map_eq_some_iff.1 hi
    exact he i f ((Array.getElem?_toList ..).symm.trans hf)
/-- Rows of structs, as rows of a plain type. -/
theorem fits_rows {P : Program} {pz : TypeId → Bool} {α : Type} {el : TypeId} {v : α → List V} {ok : α → Prop} (h1 : ∀ cs, Fits P pz el cs → ∃ a, cs = v a ∧ ok a) :
    ∀ es : List (List V), (∀ i, i < es.length → Fits P pz el (es.getD i [])) → ∃ l : List α, es = l.map v ∧ ∀ a ∈ l, ok a
  | [], _ => ⟨[], rfl, fun a h => by cases h⟩
  | e :: es, h => by
    obtain ⟨a, ha, hok⟩ := h1 e (h 0 (by simp))
    obtain ⟨l, hl, hlok⟩ := fits_rows h1 es fun i hi => by simpa using h (i + 1) (by simpa using hi)
    refine ⟨a :: l, by rw [ha, hl]; rfl, fun x hx => ?_⟩
    rcases List.mem_cons.1 hx with rfl | hx
    · exact hok
    · exact hlok x hx
end Go.Proofs.Px
