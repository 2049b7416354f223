/- The law CheckMore: for every input the call answers true, and its arguments read as before; tied to the program's text. Printed by row.py of this work over checkMore_den. -/
import Derived.Test.YtkelkkjkbpdldaaRows
import Derived.Test.YtkelkkjkbpdldaaGlue
import Derived.Test.YtkelkkjkbpdldaaPxOpen
import Derived.Test.YtkelkkjkbpdldaaLawCheckMore
import Derived.SevenTiedAt
namespace Go.Proofs.Ytkelkkjkbpdldaa.checkMore
open Go Go.Proofs.Ab Go.Proofs.Px Go.ChangeShapes Go.WideShapes Go.ChangeAt Go.WideMaps Go.WideElems Go.RowKit
open Go.ChangeMaps (open_string shut_string)
set_option linter.unusedVariables false
set_option maxRecDepth 100000
theorem own : ownKnob Try.prog.godebug = none := by kernel_rfl
theorem laidOut : laidOutB Try.prog = true := by kernel_rfl
theorem of_laid {W0 : World} : ∀ i cs, Sp.gl i = some cs → ∀ j, j < cs.length → ∃ x, W0.cell? ⟨i, j, none⟩ = some x ∧ x.oneCell' = true ∧ PRep Sp.P W0 (Before W0) (cs.getD j .undef) x := fun i cs h => by cases h
theorem dataok : dataOk Try.prog [24, 22, 28, 9, 25, 52, 3, 26, 55, 2, 53, 68] = true := by kernel_rfl
theorem ok : PgOk Sp := ⟨by kernel_rfl, fun f => rfl⟩
theorem lifted (os : Os) (started : os.Started) (H : Type) (enc : TypeId × Value → H) :
    ReturnsInHanded {} Try.checked os 3 .any (fun w args => (Rows.checkMoreSpec.pre enc Try.prog Try.f3 [] false w args ∧ True) ∧ sizedMet enc Try.prog Try.f3 (OpenSpec.ofChange Rows.checkMoreSpec) false w args)
      (Rows.checkMoreSpec.post enc Try.prog Try.f3 false true false false) := by
  refine returnsInHanded_of_change_and (C := Try.checked) (X := fun w _ => True) (fun _ _ _ hh h => trivial) own started (by kernel_rfl) Try.func3
    (ChangeSpec.witness_shaped (enc := enc) (C := Try.checked) (os := os) (X := fun w _ => True) false (World.doorLaid Try.prog 400 os) #[.agg #[.slice none 0 0], .agg #[.string ByteArray.empty, .slice none 0 0, .int .i64 0, .slice none 0 0]] 8 rfl (World.shaped_of_RefB (by kernel_rfl) (by kernel_rfl)) (by kernel_rfl) (by kernel_rfl) (by kernel_rfl) trivial) ?_
  intro W base args ds gs before hval0 hW hcnd hsz0 hL _
  have hsz : (DataW.weightsEach Try.prog (Try.f3.params.toList ++ Rows.checkMoreSpec.plain.varTypes Try.prog) (ds ++ gs)).all (· ≤ reachBytes) = true := hsz0
  have hval : ∀ (j : Nat) t v, Try.f3.params[j]? = some t → args[j]? = some v → Value.okWide Try.prog W .any base t v := hval0
  have hW' := hW
  obtain ⟨p, q, hA0, hV, rfl, hfz, hnd⟩ := hW
  have hA : DataW.TrodAll enc Try.prog W 0 (fun _ => true) true Try.f3.params.toList args.toList ds p := hA0
  rw [Try.params3] at hA hval hsz
  obtain ⟨v0, vs0, d0, ds0, p0, q0, hargs, rfl, rfl, h0, r0⟩ := trodAll_cons hA
  obtain ⟨v1, vs1, d1, ds1, p1, q1, rfl, rfl, rfl, h1, r1⟩ := trodAll_cons r0
  obtain ⟨rfl, rfl, rfl⟩ := trodAll_nil r1
  obtain rfl : args = #[v0, v1] := by cases args; simp_all
  obtain ⟨rfl, rfl⟩ := trodVars_none hV
  obtain ⟨x0, w0, rp0⟩ := open_struct_arg (enc := enc) Sp.pz dataok (t := 24) (by decide) Try.underlying24 (hval 0 24 v0 rfl rfl) h0 (sized_data hsz (j := 0) rfl rfl)
  obtain ⟨x1, w1, rp1⟩ := open_struct_arg (enc := enc) Sp.pz dataok (t := 28) (by decide) Try.underlying28 (hval 1 28 v1 rfl rfl) h1 (sized_data hsz (j := 1) rfl rfl)
  clear hA0 hval0 hsz0 hsz
  refine (law_true ok (vs := [.agg x0, .agg x1]) (checkMore_den x0 w0 x1 w1) of_laid (xs := #[v0, v1]) rfl ?_).mono fun e W' ⟨he, bel⟩ => ?_
  · intro j hj
    match j, hj with
    | 0, _ => exact rp0
    | 1, _ => exact rp1
  subst he
  exact ⟨_, rfl, _, _, _, [], _, [], hW', trodAll_mk1 (shut_bool Try.underlying4 _), (trodAll_cons_mk (Below.trod laidOut (by kernel_rfl) (of_decide_eq_true (by kernel_rfl)) h0 bel (trod_places h0)) (trodAll_cons_mk (Below.trod laidOut (by kernel_rfl) (of_decide_eq_true (by kernel_rfl)) h1 bel (trod_places h1)) trodAll_mk0)), rfl, bel.frame _, fun h => by cases h⟩
theorem over : Rows.CheckMoreSaid :=
  OpenClaim.holds_of_wide 3 Try.f3 rfl rfl rfl rfl rfl rfl rfl ⟨rfl, rfl, rfl, rfl, rfl⟩ rfl rfl rfl rfl rfl (by kernel_rfl) Try.func3 (by kernel_rfl)
    (of_decide_eq_true (by kernel_rfl)) (by unfold Func.isWrapper; first | (rw [if_pos (by decide +kernel)]; kernel_rfl) | (rw [if_neg (by decide +kernel)]; exact ⟨rfl, rfl⟩))
    (fun os started H enc _ => by
      have h := lifted os started H enc
      have e : (fun (w : World) (args : Array Value) => (Rows.checkMoreSpec.pre enc Try.prog Try.f3 [] false w args ∧ True) ∧ sizedMet enc Try.prog Try.f3 (OpenSpec.ofChange Rows.checkMoreSpec) false w args) = (fun w args => Rows.checkMoreSpec.pre enc Try.prog Try.f3 [] false w args ∧ sizedMet enc Try.prog Try.f3 (OpenSpec.ofChange Rows.checkMoreSpec) false w args) := by funext w args; rw [and_true]
      rw [e] at h
      exact h)
end Go.Proofs.Ytkelkkjkbpdldaa.checkMore
namespace Go.Proofs.Ytkelkkjkbpdldaa
/-- **CheckMore.** -/
theorem checkMore_holds : Rows.CheckMoreSaid := checkMore.over
end Go.Proofs.Ytkelkkjkbpdldaa
