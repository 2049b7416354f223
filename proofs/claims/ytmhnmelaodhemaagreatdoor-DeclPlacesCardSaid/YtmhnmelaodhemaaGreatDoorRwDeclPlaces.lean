/- The law DeclPlaces: for every input the call answers true, and its arguments read as before; tied to the program's text. Printed by row.py of this work over declPlaces_den. -/
import Derived.Test.YtmhnmelaodhemaaGreatDoorRows
import Derived.Test.YtmhnmelaodhemaaGreatDoorCards
import Derived.Test.YtmhnmelaodhemaaGreatDoorTie
import Derived.SevenTiedAt
import Derived.Test.YtmhnmelaodhemaaGreatDoorDeclPlacesPackG
namespace Go.Proofs.YtmhnmelaodhemaaGreatDoor.declPlaces
open Go Go.Proofs.Ab Go.Proofs.Px Go.ChangeShapes Go.WideShapes Go.ChangeAt Go.WideMaps Go.WideElems Go.RowKit
open Go.ChangeMaps (open_string shut_string)
set_option linter.unusedVariables false
set_option maxRecDepth 100000
theorem own : ownKnob Tryz.prog.godebug = none := by kernel_rfl
theorem laidOut : laidOutB Tryz.prog = true := by kernel_rfl
noncomputable def laidL : List (String × DataW Unit) := [("parallax/lex.keys", Rows.laid_parallax_lex_keys), ("parallax/lex.signs", Rows.laid_parallax_lex_signs)]
def tab0 : List (List UInt8) := [[112, 114, 111, 99], [118, 97, 114], [105, 102], [101, 108, 115, 101], [119, 104, 105, 108, 101], [114, 101, 116, 117, 114, 110], [112, 114, 105, 110, 116], [114, 101, 97, 100], [97, 115, 115, 101, 114, 116], [105, 110, 116], [98, 111, 111, 108], [116, 114, 117, 101], [102, 97, 108, 115, 101]]
theorem g0 : Tryz.prog.globalNamed "parallax/lex.keys" = some 0 := by kernel_rfl
def tab1 : List (List UInt8) := [[61, 61], [33, 61], [60, 61], [38, 38], [124, 124], [40], [41], [123], [125], [91], [93], [44], [59], [61], [60], [33], [43], [45], [42], [47], [37]]
theorem g1 : Tryz.prog.globalNamed "parallax/lex.signs" = some 1 := by kernel_rfl
theorem t0 : (Tryz.prog.globals[0]?).map (·.type) = some 247 := by kernel_rfl
theorem t1 : (Tryz.prog.globals[1]?).map (·.type) = some 256 := by kernel_rfl
theorem strC : Tryz.prog.cellsOf 9 = 1 := by kernel_rfl
/-- The door's own heap meets the condition. -/
theorem door_met (os : Os) (args : Array Value) : laidMetH Tryz.prog laidL ((World.doorLaid Tryz.prog 400 os).forCall (fun _ _ => 0) ⟨#[], args, []⟩).memory :=
  laidMetH_of_parts3 (fuel := 8) (laidMet_of_run' 8 (by kernel_rfl) (by kernel_rfl)) (by kernel_rfl) (by kernel_rfl)
theorem of_laid {W : World} (h : laidMetH Tryz.prog laidL W) : ∀ i cs, Sp.gl i = some cs → ∀ j, j < cs.length → ∃ x, W.cell? ⟨i, j, none⟩ = some x ∧ x.oneCell' = true ∧ PRep Sp.P W (Before W) (cs.getD j .undef) x := by
  rw [MakeChecks.laidMetH_plain _ _ _ (by kernel_rfl)] at h
  obtain ⟨ps, ⟨h0g, h0t, h0c, h0f, h0p, h0q, h01, h02, h03, h04, ⟨h1g, h1t, h1c, h1f, h1p, h1q, h11, h12, h13, h14, _, _⟩, _⟩, _, _⟩ := h
  obtain rfl := Option.some.inj (g0.symm.trans h01)
  obtain rfl := Option.some.inj (t0.symm.trans h02)
  have s0 := gl_strings (P := Sp.P) (laid_strings (ls := tab0) g0 Tryz.underlying247 Tryz.underlying9 strC h03 (h04.trans rfl))
  obtain rfl := Option.some.inj (g1.symm.trans h11)
  obtain rfl := Option.some.inj (t1.symm.trans h12)
  have s1 := gl_strings (P := Sp.P) (laid_strings (ls := tab1) g1 Tryz.underlying256 Tryz.underlying9 strC h13 (h14.trans rfl))
  intro i cs hg
  have hc : (i = 0 ∧ cs = tab0.map fun l => V.str ⟨l.toArray⟩) ∨ (i = 1 ∧ cs = tab1.map fun l => V.str ⟨l.toArray⟩) := by
    have hg' : glTab i = some cs := hg
    unfold glTab at hg'
    split at hg'
    · exact .inl ⟨rfl, (Option.some.inj hg').symm⟩
    · exact .inr ⟨rfl, (Option.some.inj hg').symm⟩
    · cases hg'
  rcases hc with ⟨rfl, rfl⟩ | ⟨rfl, rfl⟩
  · exact s0
  · exact s1
theorem ok : PgOk Sp := ⟨by kernel_rfl, nat_ok⟩
theorem lifted (os : Os) (started : os.Started) (H : Type) (enc : TypeId × Value → H) :
    ReturnsInHanded {} Tryz.checked os 5 .any (fun w args => (Rows.declPlacesSpec.pre enc Tryz.prog Tryz.f5 [] false w args ∧ laidMetH Tryz.prog laidL w) ∧ sizedMet enc Tryz.prog Tryz.f5 (OpenSpec.ofChange Rows.declPlacesSpec) false w args)
      (Rows.declPlacesSpec.post enc Tryz.prog Tryz.f5 false true false false) := by
  refine returnsInHanded_of_change_and (C := Tryz.checked) (X := fun w _ => laidMetH Tryz.prog laidL w) (fun _ _ _ hh h => h.of_heap hh) own started (by kernel_rfl) Tryz.func5
    (ChangeSpec.witness_shaped (enc := enc) (C := Tryz.checked) (os := os) (X := fun w _ => laidMetH Tryz.prog laidL w) false (World.doorLaid Tryz.prog 400 os) #[.string ByteArray.empty] 8 rfl (World.shaped_of_RefB (by kernel_rfl) (by kernel_rfl)) (by kernel_rfl) (by kernel_rfl) (by kernel_rfl) (door_met os _)) ?_
  intro W base args ds gs before hval0 hW hcnd hsz0 hL _
  have hsz : (DataW.weightsEach Tryz.prog (Tryz.f5.params.toList ++ Rows.declPlacesSpec.plain.varTypes Tryz.prog) (ds ++ gs)).all (· ≤ reachBytes) = true := hsz0
  have hval : ∀ (j : Nat) t v, Tryz.f5.params[j]? = some t → args[j]? = some v → Value.okWide Tryz.prog W .any base t v := hval0
  have hW' := hW
  obtain ⟨p, q, hA0, hV, rfl, hfz, hnd⟩ := hW
  have hA : DataW.TrodAll enc Tryz.prog W 0 (fun _ => true) true Tryz.f5.params.toList args.toList ds p := hA0
  rw [Tryz.params5] at hA hval hsz
  obtain ⟨v0, vs0, d0, ds0, p0, q0, hargs, rfl, rfl, h0, r0⟩ := trodAll_cons hA
  obtain ⟨rfl, rfl, rfl⟩ := trodAll_nil r0
  obtain rfl : args = #[v0] := by cases args; simp_all
  obtain ⟨rfl, rfl⟩ := trodVars_none hV
  obtain ⟨a0, rfl, rfl, rfl, y0⟩ := open_string Tryz.underlying9 (hval 0 9 v0 rfl rfl) h0
  have w0 : a0.size ≤ 140737488351232 := by
    have z := sized_string hsz (j := 0) (t := 9) rfl rfl
    rw [Array.length_toList] at z
    exact z
  clear hA0 hval0 hsz0 hsz
  refine (law_true ok (vs := [.str a0]) (declPlaces_den a0 w0) (of_laid hL) (xs := #[.string a0]) rfl ?_).mono fun e W' ⟨he, bel⟩ => ?_
  · intro j hj
    match j, hj with
    | 0, _ => exact .str _
  subst he
  exact ⟨_, rfl, _, _, _, [], _, [], hW', trodAll_mk1 (shut_bool Tryz.underlying4 _), (trodAll_cons_mk (shut_string Tryz.underlying9 y0) trodAll_mk0), rfl, bel.frame _, fun h => by cases h⟩
theorem over : Rows.DeclPlacesSaid :=
  OpenClaim.holds_of_wide 5 Tryz.f5 rfl rfl rfl rfl rfl rfl rfl ⟨rfl, rfl, rfl, rfl, rfl⟩ rfl rfl rfl rfl rfl (by kernel_rfl) Tryz.func5 (by kernel_rfl)
    (of_decide_eq_true (by kernel_rfl)) (by unfold Func.isWrapper; first | (rw [if_pos (by decide +kernel)]; kernel_rfl) | (rw [if_neg (by decide +kernel)]; exact ⟨rfl, rfl⟩))
    (fun os started H enc _ => lifted os started H enc)
end Go.Proofs.YtmhnmelaodhemaaGreatDoor.declPlaces
namespace Go.Proofs.YtmhnmelaodhemaaGreatDoor
open Go Go.Proofs.Ab
set_option maxRecDepth 100000
/-- **The card of DeclPlaces.** -/
theorem declPlaces_card : Rows.DeclPlacesCardSaid :=
  Claim7.holds_tied_plain_at .later [] [.data, .data] true (true, "af45a20a3274a91faaf653a47d4c6cd923ad401fc01814d9b8d800525a0537ff") true
    declPlaces.over (fun _ h => by cases h) (by kernel_rfl) (fun _ h => by cases h) declPlaces_row_tie rfl ⟨rfl, rfl⟩ (by kernel_rfl) rfl
    (fun f fn hf hfn => by
      obtain rfl : f = 5 := Option.some.inj ((show Tryz.prog.funcNamed "parallax/parallaxlaw12.DeclPlaces" = some 5 by kernel_rfl).symm.trans hf) |>.symm
      obtain rfl : fn = Tryz.f5 := (Option.some.inj (Tryz.func5.symm.trans hfn)).symm
      exact ⟨by kernel_rfl, fun j t ht => by
        rw [Tryz.params5] at ht
        have hm : t ∈ [9] := by simpa using Array.mem_of_getElem? ht
        have hall : ([9].all fun u => !Tryz.prog.wantsStandIn u) = true := by kernel_rfl
        exact (show Tryz.prog.wantsStandIn t = false by simpa using List.all_eq_true.1 hall t hm)⟩)
    (by kernel_rfl)
end Go.Proofs.YtmhnmelaodhemaaGreatDoor
