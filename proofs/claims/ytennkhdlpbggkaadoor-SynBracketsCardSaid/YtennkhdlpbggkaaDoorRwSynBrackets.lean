/- The law SynBrackets: for every input the call answers true, and its arguments read as before; tied to the program's text. Printed by row.py of this work over synBrackets_den. -/
import Derived.Test.YtennkhdlpbggkaaDoorRows
import Derived.Test.YtennkhdlpbggkaaDoorCards
import Derived.Test.YtennkhdlpbggkaaDoorTie
import Derived.SevenTiedAt
import Derived.Test.YtennkhdlpbggkaaDoorSynBracketsPackF
namespace Go.Proofs.YtennkhdlpbggkaaDoor.synBrackets
open Go Go.Proofs.Ab Go.Proofs.Px Go.ChangeShapes Go.WideShapes Go.ChangeAt Go.WideMaps Go.WideElems Go.RowKit
open Go.ChangeMaps (open_string shut_string)
set_option linter.unusedVariables false
set_option maxRecDepth 100000
theorem own : ownKnob Tryd.prog.godebug = none := by kernel_rfl
theorem laidOut : laidOutB Tryd.prog = true := by kernel_rfl
noncomputable def laidL : List (String × DataW Unit) := [("parallax/lex.keys", Rows.laid_parallax_lex_keys), ("parallax/lex.signs", Rows.laid_parallax_lex_signs)]
def tab0 : List (List UInt8) := [[112, 114, 111, 99], [118, 97, 114], [105, 102], [101, 108, 115, 101], [119, 104, 105, 108, 101], [114, 101, 116, 117, 114, 110], [112, 114, 105, 110, 116], [114, 101, 97, 100], [97, 115, 115, 101, 114, 116], [105, 110, 116], [98, 111, 111, 108], [116, 114, 117, 101], [102, 97, 108, 115, 101]]
theorem g0 : Tryd.prog.globalNamed "parallax/lex.keys" = some 0 := by kernel_rfl
def tab1 : List (List UInt8) := [[61, 61], [33, 61], [60, 61], [38, 38], [124, 124], [40], [41], [123], [125], [91], [93], [44], [59], [61], [60], [33], [43], [45], [42], [47], [37]]
theorem g1 : Tryd.prog.globalNamed "parallax/lex.signs" = some 1 := by kernel_rfl
theorem t0 : (Tryd.prog.globals[0]?).map (·.type) = some 121 := by kernel_rfl
theorem t1 : (Tryd.prog.globals[1]?).map (·.type) = some 122 := by kernel_rfl
theorem strC : Tryd.prog.cellsOf 9 = 1 := by kernel_rfl
/-- The door's own heap meets the condition. -/
theorem door_met (os : Os) (args : Array Value) : laidMetH Tryd.prog laidL ((World.doorLaid Tryd.prog 400 os).forCall (fun _ _ => 0) ⟨#[], args, []⟩).memory :=
  laidMetH_of_parts3 (fuel := 8) (laidMet_of_run' 8 (by kernel_rfl) (by kernel_rfl)) (by kernel_rfl) (by kernel_rfl)
theorem of_laid {W : World} (h : laidMetH Tryd.prog laidL W) : ∀ i cs, Sp.gl i = some cs → ∀ j, j < cs.length → ∃ x, W.cell? ⟨i, j, none⟩ = some x ∧ x.oneCell' = true ∧ PRep Sp.P W (Before W) (cs.getD j .undef) x := by
  rw [MakeChecks.laidMetH_plain _ _ _ (by kernel_rfl)] at h
  obtain ⟨ps, ⟨h0g, h0t, h0c, h0f, h0p, h0q, h01, h02, h03, h04, ⟨h1g, h1t, h1c, h1f, h1p, h1q, h11, h12, h13, h14, _, _⟩, _⟩, _, _⟩ := h
  obtain rfl := Option.some.inj (g0.symm.trans h01)
  obtain rfl := Option.some.inj (t0.symm.trans h02)
  have s0 := gl_strings (P := Sp.P) (laid_strings (ls := tab0) g0 Tryd.underlying121 Tryd.underlying9 strC h03 (h04.trans rfl))
  obtain rfl := Option.some.inj (g1.symm.trans h11)
  obtain rfl := Option.some.inj (t1.symm.trans h12)
  have s1 := gl_strings (P := Sp.P) (laid_strings (ls := tab1) g1 Tryd.underlying122 Tryd.underlying9 strC h13 (h14.trans rfl))
  intro i cs hg
  have hc : (i = 0 ∧ cs = tab0.map fun l => V.str ⟨l.toArray⟩) ∨ (i = 1 ∧ cs = tab1.map fun l => V.str ⟨l.toArray⟩) := by
    have hg' : glTab i = some cs := hg
    unfold glTab at hg'
    split at hg'
    · exact .inl ⟨rfl, (Option.some.inj hg').symm⟩
    · exact .inr ⟨rfl, (Option.some.inj hg').symm⟩
    · cases hg'
  rcases hc with ⟨rfl, rfl⟩ | ⟨rfl, rfl⟩
  · exact s0
  · exact s1
theorem ok : PgOk Sp := ⟨by kernel_rfl, nat_ok⟩
theorem lifted (os : Os) (started : os.Started) (H : Type) (enc : TypeId × Value → H) :
    ReturnsInHanded {} Tryd.checked os 4 .any (fun w args => (Rows.synBracketsSpec.pre enc Tryd.prog Tryd.f4 [] false w args ∧ laidMetH Tryd.prog laidL w) ∧ sizedMet enc Tryd.prog Tryd.f4 (OpenSpec.ofChange Rows.synBracketsSpec) false w args)
      (Rows.synBracketsSpec.post enc Tryd.prog Tryd.f4 false true false false) := by
  refine returnsInHanded_of_change_and (C := Tryd.checked) (X := fun w _ => laidMetH Tryd.prog laidL w) (fun _ _ _ hh h => h.of_heap hh) own started (by kernel_rfl) Tryd.func4
    (ChangeSpec.witness_shaped (enc := enc) (C := Tryd.checked) (os := os) (X := fun w _ => laidMetH Tryd.prog laidL w) false (World.doorLaid Tryd.prog 400 os) #[.string ByteArray.empty, .int .i64 0] 8 rfl (World.shaped_of_RefB (by kernel_rfl) (by kernel_rfl)) (by kernel_rfl) (by kernel_rfl) (by kernel_rfl) (door_met os _)) ?_
  intro W base args ds gs before hval0 hW hcnd hsz0 hL _
  have hsz : (DataW.weightsEach Tryd.prog (Tryd.f4.params.toList ++ Rows.synBracketsSpec.plain.varTypes Tryd.prog) (ds ++ gs)).all (· ≤ reachBytes) = true := hsz0
  have hval : ∀ (j : Nat) t v, Tryd.f4.params[j]? = some t → args[j]? = some v → Value.okWide Tryd.prog W .any base t v := hval0
  have hW' := hW
  obtain ⟨p, q, hA0, hV, rfl, hfz, hnd⟩ := hW
  have hA : DataW.TrodAll enc Tryd.prog W 0 (fun _ => true) true Tryd.f4.params.toList args.toList ds p := hA0
  rw [Tryd.params4] at hA hval hsz
  obtain ⟨v0, vs0, d0, ds0, p0, q0, hargs, rfl, rfl, h0, r0⟩ := trodAll_cons hA
  obtain ⟨v1, vs1, d1, ds1, p1, q1, rfl, rfl, rfl, h1, r1⟩ := trodAll_cons r0
  obtain ⟨rfl, rfl, rfl⟩ := trodAll_nil r1
  obtain rfl : args = #[v0, v1] := by cases args; simp_all
  obtain ⟨rfl, rfl⟩ := trodVars_none hV
  obtain ⟨a0, rfl, rfl, rfl, y0⟩ := open_string Tryd.underlying9 (hval 0 9 v0 rfl rfl) h0
  have w0 : a0.size ≤ 140737488351232 := by
    have z := sized_string hsz (j := 0) (t := 9) rfl rfl
    rw [Array.length_toList] at z
    exact z
  obtain ⟨a1, rfl, rfl, rfl, w1⟩ := open_int Tryd.underlying3 (hval 1 3 v1 rfl rfl) h1
  clear hA0 hval0 hsz0 hsz
  refine (law_true ok (vs := [.str a0, .int .i64 a1]) (synBrackets_den a0 w0 a1 w1) (of_laid hL) (xs := #[.string a0, .int .i64 a1]) rfl ?_).mono fun e W' ⟨he, bel⟩ => ?_
  · intro j hj
    match j, hj with
    | 0, _ => exact .str _
    | 1, _ => exact .int _ _
  subst he
  exact ⟨_, rfl, _, _, _, [], _, [], hW', trodAll_mk1 (shut_bool Tryd.underlying4 _), (trodAll_cons_mk (shut_string Tryd.underlying9 y0) (trodAll_cons_mk (shut_int Tryd.underlying3 w1) trodAll_mk0)), rfl, bel.frame _, fun h => by cases h⟩
theorem over : Rows.SynBracketsSaid :=
  OpenClaim.holds_of_wide 4 Tryd.f4 rfl rfl rfl rfl rfl rfl rfl ⟨rfl, rfl, rfl, rfl, rfl⟩ rfl rfl rfl rfl rfl (by kernel_rfl) Tryd.func4 (by kernel_rfl)
    (of_decide_eq_true (by kernel_rfl)) (by unfold Func.isWrapper; first | (rw [if_pos (by decide +kernel)]; kernel_rfl) | (rw [if_neg (by decide +kernel)]; exact ⟨rfl, rfl⟩))
    (fun os started H enc _ => lifted os started H enc)
end Go.Proofs.YtennkhdlpbggkaaDoor.synBrackets
namespace Go.Proofs.YtennkhdlpbggkaaDoor
open Go Go.Proofs.Ab
set_option maxRecDepth 100000
/-- **The card of SynBrackets.** -/
theorem synBrackets_card : Rows.SynBracketsCardSaid :=
  Claim7.holds_tied_plain_at .later [] [.data, .data] true (true, "ce9fbdb7ce7820b4ab32dad704b734f501682c71ec0e4a2ad38a4250d3993ad2") true
    synBrackets.over (fun _ h => by cases h) (by kernel_rfl) (fun _ h => by cases h) synBrackets_row_tie rfl ⟨rfl, rfl⟩ (by kernel_rfl) rfl
    (fun f fn hf hfn => by
      obtain rfl : f = 4 := Option.some.inj ((show Tryd.prog.funcNamed "parallax/parallaxlaw03.SynBrackets" = some 4 by kernel_rfl).symm.trans hf) |>.symm
      obtain rfl : fn = Tryd.f4 := (Option.some.inj (Tryd.func4.symm.trans hfn)).symm
      exact ⟨by kernel_rfl, fun j t ht => by
        rw [Tryd.params4] at ht
        have hm : t ∈ [9, 3] := by simpa using Array.mem_of_getElem? ht
        have hall : ([9, 3].all fun u => !Tryd.prog.wantsStandIn u) = true := by kernel_rfl
        exact (show Tryd.prog.wantsStandIn t = false by simpa using List.all_eq_true.1 hall t hm)⟩)
    (by kernel_rfl)
end Go.Proofs.YtennkhdlpbggkaaDoor
