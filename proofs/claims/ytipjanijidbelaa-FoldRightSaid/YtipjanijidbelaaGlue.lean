/- The listed variables and the machine's table: what the row's premise gives. Own work. -/
import Derived.Test.YtipjanijidbelaaCoreC
import Derived.Test.YtipjanijidbelaaAbS
import Derived.ProofKit
import Derived.LaidMore
import Derived.OpenShut
import Derived.WalkKit
import Derived.ShutString
import Derived.ChangeOld
import Derived.SizedLaws
namespace Go.Proofs.Ab
open Go Go.ChangeShapes Go.WideShapes Go.ChangeAt Go.WideMaps Go.WideElems Go.RowKit
/-- A listed table of texts, opened. -/
theorem laid_strings {H : Type} {enc : TypeId × Value → H} {P : Program} {W : World} {base : Nat} {spare : Nat → Bool} {held : Bool} {name : String} {g t e n fuel : Nat} {cs : Array Value} {ls : List (List UInt8)} {p : List MemPlace} (hg : P.globalNamed name = some g)
    (hu : P.underlying t = some (.array n e)) (he : P.underlying e = some .string) (hc : P.cellsOf e = 1) (hv : W.var? P name = some cs)
    (hd : DataW.trod enc P W base spare held fuel t cs.toList = some (.agg (ls.map fun l => .lit (.string l)), p)) : ∀ j l, ls[j]? = some l → W.cell? ⟨g, j, none⟩ = some (.string ⟨l.toArray⟩) := by
  intro j l hj
  obtain ⟨xs, m, _, hx, hl, hn, hel⟩ := DataW.trod_array hu hd
  simp only [Prod.mk.injEq, DataW.agg.injEq] at hx
  obtain ⟨hx, _⟩ := hx
  have hlen : ls.length = xs.length := by
    have := congrArg List.length hx
    simpa using this
  have hjl : j < ls.length := (List.getElem?_eq_some_iff.1 hj).1
  have hjx : j < xs.length := by omega
  have h1 := hel j (by omega)
  rw [List.getElem?_eq_getElem hjx, hc] at h1
  obtain ⟨s, h2, h3, _⟩ := DataW.trod_string he h1
  have h4 : (xs.map (·.1))[j]? = some (.lit (.string l)) := by
    rw [← hx, List.getElem?_map, hj]; rfl
  rw [List.getElem?_map, List.getElem?_eq_getElem hjx, h3] at h4
  have h5 : s.data.toList = l := by simpa using h4
  have h6 : s = ⟨l.toArray⟩ := by
    cases s with
    | mk d => subst h5; simp
  have h7 := World.var?_cell hg hv j
  rw [h7]
  have h8 : cs.toList[j]? = some (.string s) := by
    have h9 : ((cs.toList.drop (j * 1)).take 1)[0]? = some (.string s) := by rw [h2]; rfl
    rw [List.getElem?_take, if_pos (by omega), List.getElem?_drop] at h9
    simpa using h9
  rw [← h6]
  simpa using h8
theorem gl_strings {P : Program} {W : World} {g : Nat} {ls : List (List UInt8)} (h : ∀ j l, ls[j]? = some l → W.cell? ⟨g, j, none⟩ = some (.string ⟨l.toArray⟩)) :
    ∀ j, j < (ls.map fun l => V.str ⟨l.toArray⟩).length → ∃ x, W.cell? ⟨g, j, none⟩ = some x ∧ x.oneCell' = true ∧ PRep P W (Before W) ((ls.map fun l => V.str ⟨l.toArray⟩).getD j .undef) x := by
  intro j hj
  have hj' : j < ls.length := by simpa using hj
  refine ⟨_, h j ls[j] (List.getElem?_eq_getElem hj'), rfl, ?_⟩
  rw [List.getD_eq_getElem?_getD, List.getElem?_map, List.getElem?_eq_getElem hj']
  exact .str _
end Go.Proofs.Ab
