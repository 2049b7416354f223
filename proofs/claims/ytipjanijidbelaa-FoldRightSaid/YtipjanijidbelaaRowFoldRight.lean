/- The law FoldRight: for every input the call answers true, and its arguments read as before; tied to the program's text. Printed by row.py of this work over foldRight_den. -/
import Derived.Test.YtipjanijidbelaaRows
import Derived.Test.YtipjanijidbelaaGlue
import Derived.Test.YtipjanijidbelaaPxOpen
import Derived.Test.YtipjanijidbelaaLawFoldRight
import Derived.SevenTiedAt
namespace Go.Proofs.Ytipjanijidbelaa.foldRight
open Go Go.Proofs.Ab Go.Proofs.Px Go.ChangeShapes Go.WideShapes Go.ChangeAt Go.WideMaps Go.WideElems Go.RowKit
open Go.ChangeMaps (open_string shut_string)
set_option linter.unusedVariables false
set_option maxRecDepth 100000
theorem own : ownKnob Try.prog.godebug = none := by kernel_rfl
theorem laidOut : laidOutB Try.prog = true := by kernel_rfl
theorem of_laid {W0 : World} : ∀ i cs, Sp.gl i = some cs → ∀ j, j < cs.length → ∃ x, W0.cell? ⟨i, j, none⟩ = some x ∧ x.oneCell' = true ∧ PRep Sp.P W0 (Before W0) (cs.getD j .undef) x := fun i cs h => by cases h
theorem dataok : dataOk Try.prog [43, 41, 76, 9, 73, 78, 3, 74, 97, 2, 22, 24] = true := by kernel_rfl
theorem ok : PgOk Sp := ⟨by kernel_rfl, fun f => rfl⟩
theorem lifted (os : Os) (started : os.Started) (H : Type) (enc : TypeId × Value → H) :
    ReturnsInHanded {} Try.checked os 7 .any (fun w args => (Rows.foldRightSpec.pre enc Try.prog Try.f7 [] false w args ∧ True) ∧ sizedMet enc Try.prog Try.f7 (OpenSpec.ofChange Rows.foldRightSpec) false w args)
      (Rows.foldRightSpec.post enc Try.prog Try.f7 false true false false) := by
  refine returnsInHanded_of_change_and (C := Try.checked) (X := fun w _ => True) (fun _ _ _ hh h => trivial) own started (by kernel_rfl) Try.func7
    (ChangeSpec.witness_shaped (enc := enc) (C := Try.checked) (os := os) (X := fun w _ => True) false (World.doorLaid Try.prog 400 os) #[.agg #[.slice none 0 0]] 8 rfl (World.shaped_of_RefB (by kernel_rfl) (by kernel_rfl)) (by kernel_rfl) (by kernel_rfl) (by kernel_rfl) trivial) ?_
  intro W base args ds gs before hval0 hW hcnd hsz0 hL _
  have hsz : (DataW.weightsEach Try.prog (Try.f7.params.toList ++ Rows.foldRightSpec.plain.varTypes Try.prog) (ds ++ gs)).all (· ≤ reachBytes) = true := hsz0
  have hval : ∀ (j : Nat) t v, Try.f7.params[j]? = some t → args[j]? = some v → Value.okWide Try.prog W .any base t v := hval0
  have hW' := hW
  obtain ⟨p, q, hA0, hV, rfl, hfz, hnd⟩ := hW
  have hA : DataW.TrodAll enc Try.prog W 0 (fun _ => true) true Try.f7.params.toList args.toList ds p := hA0
  rw [Try.params7] at hA hval hsz
  obtain ⟨v0, vs0, d0, ds0, p0, q0, hargs, rfl, rfl, h0, r0⟩ := trodAll_cons hA
  obtain ⟨rfl, rfl, rfl⟩ := trodAll_nil r0
  obtain rfl : args = #[v0] := by cases args; simp_all
  obtain ⟨rfl, rfl⟩ := trodVars_none hV
  obtain ⟨x0, w0, rp0⟩ := open_struct_arg (enc := enc) Sp.pz dataok (t := 43) (by decide) Try.underlying43 (hval 0 43 v0 rfl rfl) h0 (sized_data hsz (j := 0) rfl rfl)
  clear hA0 hval0 hsz0 hsz
  refine (law_true ok (vs := [.agg x0]) (foldRight_den x0 w0) of_laid (xs := #[v0]) rfl ?_).mono fun e W' ⟨he, bel⟩ => ?_
  · intro j hj
    match j, hj with
    | 0, _ => exact rp0
  subst he
  exact ⟨_, rfl, _, _, _, [], _, [], hW', trodAll_mk1 (shut_bool Try.underlying4 _), (trodAll_cons_mk (Below.trod laidOut (by kernel_rfl) (of_decide_eq_true (by kernel_rfl)) h0 bel (trod_places h0)) trodAll_mk0), rfl, bel.frame _, fun h => by cases h⟩
theorem over : Rows.FoldRightSaid :=
  OpenClaim.holds_of_wide 7 Try.f7 rfl rfl rfl rfl rfl rfl rfl ⟨rfl, rfl, rfl, rfl, rfl⟩ rfl rfl rfl rfl rfl (by kernel_rfl) Try.func7 (by kernel_rfl)
    (of_decide_eq_true (by kernel_rfl)) (by unfold Func.isWrapper; first | (rw [if_pos (by decide +kernel)]; kernel_rfl) | (rw [if_neg (by decide +kernel)]; exact ⟨rfl, rfl⟩))
    (fun os started H enc _ => by
      have h := lifted os started H enc
      have e : (fun (w : World) (args : Array Value) => (Rows.foldRightSpec.pre enc Try.prog Try.f7 [] false w args ∧ True) ∧ sizedMet enc Try.prog Try.f7 (OpenSpec.ofChange Rows.foldRightSpec) false w args) = (fun w args => Rows.foldRightSpec.pre enc Try.prog Try.f7 [] false w args ∧ sizedMet enc Try.prog Try.f7 (OpenSpec.ofChange Rows.foldRightSpec) false w args) := by funext w args; rw [and_true]
      rw [e] at h
      exact h)
end Go.Proofs.Ytipjanijidbelaa.foldRight
namespace Go.Proofs.Ytipjanijidbelaa
/-- **FoldRight.** -/
theorem foldRight_holds : Rows.FoldRightSaid := foldRight.over
end Go.Proofs.Ytipjanijidbelaa
