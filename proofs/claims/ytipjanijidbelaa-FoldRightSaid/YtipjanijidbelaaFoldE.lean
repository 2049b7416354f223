/- Folding changes no worth; folded twice is folded once. Own work. -/
import Derived.Test.YtipjanijidbelaaFoldD
namespace Go.Proofs.Ytipjanijidbelaa
open Go Go.Proofs.Ab Go.Proofs.Px
set_option linter.unusedVariables false
set_option linter.unusedSimpArgs false
set_option maxRecDepth 100000

theorem worth_intE (e : Ev) (n : Int) : worth e (intE n) = (n, 0) := by
  unfold intE
  rw [worth]
  simp [worthK, builtP, partsK, signOk]
theorem Ex.isInt_worth {x : Ex} {n : Int} (h : x.isInt n = true) (e : Ev) : worth e x = (n, 0) := by
  unfold Ex.isInt at h
  simp only [Bool.and_eq_true, decide_eq_true_eq] at h
  obtain ⟨k, s, m, l⟩ := x
  obtain ⟨⟨h1, h2⟩, h3⟩ := h
  simp only [Ex.kind_mk, Ex.num_mk, Ex.l_mk] at h1 h2 h3
  subst h1 h2 h3
  rw [worth]
  simp [worthK, builtP, partsK, signOk]
theorem Ex.isBool_worth {x : Ex} {n : Int} (h : x.isBool n = true) (h01 : n = 0 ∨ n = 1) (e : Ev) : worth e x = (n, 0) := by
  unfold Ex.isBool at h
  simp only [Bool.and_eq_true, decide_eq_true_eq] at h
  obtain ⟨k, s, m, l⟩ := x
  obtain ⟨⟨h1, h2⟩, h3⟩ := h
  simp only [Ex.kind_mk, Ex.num_mk, Ex.l_mk] at h1 h2 h3
  subst h1 h2
  cases l with
  | cons a b => cases h3
  | nil =>
    rw [worth]
    rcases h01 with rfl | rfl <;> simp [worthK, builtP, partsK, signOk]
theorem worth_un (e : Ev) (x : Ex) : worth e (.mk 5 [45] 0 [x]) = if (worth e x).2 ≠ 0 then (0, (worth e x).2) else (IntKind.i64.wrap (-(worth e x).1), 0) := by
  rw [worth, worths, worths]
  simp [worthK, builtP, partsK, signOk]
theorem worth_litP (e : Ev) {n : Int} (h : i64 n) : worth e (litP n) = (n, 0) := by
  unfold i64 at h
  unfold litP minI
  split
  · exact worth_intE e n
  · split
    · rename_i h1 h2
      subst h2
      rw [worth, worths, worths, worths, worth_un, worth_intE, worth_intE]
      simp [worthK, builtP, partsK, signOk, binSigns, twoR, twoP]
      decide
    · rw [worth_un, worth_intE]
      simp
      rw [wrap_in (by omega) (by omega)]
theorem worth_const (e : Ev) : ∀ x : Ex, ExOk x → ∀ n, constP x = some n → worth e x = (n, 0) := by
  refine Ex.ind fun k s m l ih hx n h => ?_
  obtain ⟨hk, hs, hm, hl, hok⟩ := hx.inv
  rw [constP] at h
  unfold constK at h
  rw [worth]
  unfold worthK
  cases hb : builtP k s m l.length with
  | false => rw [hb] at h; simp at h
  | true =>
    rw [hb, if_neg (fun h => Bool.noConfusion h)] at h
    rw [if_neg (fun h => Bool.noConfusion h)]
    rcases built_forms hb with ⟨rfl, hl⟩ | ⟨rfl, hl⟩ | ⟨rfl, hl⟩ | ⟨rfl, hl⟩ | ⟨rfl, hl, h5⟩ | ⟨rfl, hl, h6⟩
    · simp at h; simp [h.2]
    · simp at h; simp [h]
    · simp at h
    · simp at h
    · obtain ⟨y, rfl⟩ := List.length_eq_one_iff.1 hl
      rcases h5 with rfl | rfl
      · simp at h
        obtain ⟨⟨h1, h2, h3⟩, h4⟩ := h
        have hyi : y.isInt y.num = true := by unfold Ex.isInt; simp [h1, h2]
        have hyo := hok y (List.mem_singleton_self y)
        obtain ⟨yk, ys, ym, yl⟩ := y
        obtain ⟨_, _, hym, _⟩ := hyo.inv
        have hym' := i64_wf hym
        simp only [Ex.num_mk] at *
        unfold i64 at hym'
        rw [worths, worths, Ex.isInt_worth hyi e]
        simp
        rw [wrap_in (by omega) (by omega)]; exact h4
      · simp at h
    · obtain ⟨y, z, rfl⟩ := two_of hl
      by_cases s1 : s = [45]
      · subst s1
        simp at h
        obtain ⟨⟨h1, h2⟩, h3⟩ := h
        rw [constH] at h2
        rw [worths, worths, worths, ih y (List.mem_cons_self ..) (hok y (List.mem_cons_self ..)) _ h2, Ex.isInt_worth h1 e, ← h3]
        simp [twoR, twoP, minI]
        decide
      · simp [s1] at h
theorem worth_trap (e : Ev) (x : Ex) (h : (worth e x).2 ≠ 0) : (worth e x).1 = 0 := by
  obtain ⟨k, s, m, l⟩ := x
  rw [worth] at h ⊢
  revert h
  unfold worthK
  dsimp only
  repeat' split
  all_goals first | (intro h; exact absurd rfl h) | (intro h; rfl) | skip
  unfold twoR
  split
  · intro h; exact absurd rfl h
  · unfold twoP
    repeat' split
    all_goals first | (intro h; exact absurd rfl h) | (intro h; rfl)
theorem truthI_01 (b : Bool) : truthI b = 0 ∨ truthI b = 1 := by cases b <;> simp [truthI]
theorem truthI_ne {n : Int} (h : n = 0 ∨ n = 1) : truthI (!decide (n = 0)) = n := by rcases h with rfl | rfl <;> rfl
theorem logic_01 (e : Ev) (x : Ex) (h : x.logic = true) : (worth e x).1 = 0 ∨ (worth e x).1 = 1 := by
  unfold Ex.logic Ex.built at h
  simp only [Bool.and_eq_true, Bool.or_eq_true, decide_eq_true_eq] at h
  obtain ⟨k, s, m, l⟩ := x
  simp only [Ex.kind_mk, Ex.name_mk, Ex.num_mk, Ex.l_mk] at h
  obtain ⟨hb, h⟩ := h
  rw [worth]
  unfold worthK
  rw [hb, if_neg (fun h => Bool.noConfusion h)]
  rcases h with (rfl | ⟨rfl, rfl⟩) | ⟨rfl, hs⟩
  · have : m = 0 ∨ m = 1 := by
      unfold builtP at hb
      simp at hb
      exact hb.2
    simpa using this
  · simp
    split
    · exact truthI_01 _
    · exact .inl rfl
  · unfold logicSigns at hs
    simp only [List.mem_cons, List.not_mem_nil, or_false] at hs
    simp
    repeat' split
    all_goals first | exact .inl rfl | exact .inr rfl | skip
    rcases hs with rfl | rfl | rfl | rfl | rfl | rfl <;> simp [twoR, twoP, truthI_01]
theorem worthK_env (e : Ev) {k : Int} (h3 : k ≠ 3) (h4 : k ≠ 4) (s : List UInt8) (m : Int) (n : Nat) (rs : List (Int × Int)) : worthK e k s m n rs = worthK ev0 k s m n rs := by
  unfold worthK
  simp only [h3, h4, if_false]
theorem worths_const (e : Ev) : ∀ l : List Ex, (∀ x ∈ l, ExOk x) → (l.all fun y => (constP y).isSome) = true → worths e l = worths ev0 l
  | [], _, _ => rfl
  | x :: l, hok, h => by
    rw [List.all_cons, Bool.and_eq_true] at h
    obtain ⟨n, hn⟩ := Option.isSome_iff_exists.1 h.1
    rw [worths, worths, worth_const e x (hok x (List.mem_cons_self ..)) n hn, worth_const ev0 x (hok x (List.mem_cons_self ..)) n hn, worths_const e l (fun y hy => hok y (List.mem_cons_of_mem _ hy)) h.2]
theorem worth_constant (e : Ev) {x y : Ex} (hx : ExOk x) (h : constantP x = some y) : worth e y = worth e x := by
  unfold constantP at h
  split at h
  · rename_i hall
    split at h
    · cases h
    · rename_i hn
      simp only [not_or] at hn
      obtain ⟨h1, h2, h3⟩ := hn
      have h1' : (worth ev0 x).2 = 0 := by simpa using h1
      have hw := worth_in ev0_ok hx
      have hxe : worth e x = worth ev0 x := by
        obtain ⟨k, s, m, l⟩ := x
        simp only [Ex.kind_mk, Ex.l_mk] at *
        have hl := worths_const e l hx.l hall
        by_cases k3 : k = 3
        · subst k3
          cases hb : builtP 3 s m l.length with
          | false => rw [worth, worth]; simp [worthK, hb]
          | true =>
            rcases built_forms hb with ⟨h, _⟩ | ⟨h, _⟩ | ⟨_, h⟩ | ⟨h, _⟩ | ⟨h, _⟩ | ⟨h, _⟩
            · omega
            · omega
            · exact absurd (List.length_eq_zero_iff.1 h) h3
            · omega
            · omega
            · omega
        · rw [worth, worth, hl, worthK_env e k3 h2]
      have he : worth ev0 x = ((worth ev0 x).1, 0) := by rw [← h1']
      rw [hxe, he]
      split at h
      · rename_i hlg
        cases h
        unfold boolE
        rw [worth]
        rcases logic_01 ev0 x hlg with h01 | h01 <;> rw [h01] <;> simp [worthK, builtP, partsK, signOk]
      · cases h
        exact worth_litP e hw
  · cases h
theorem pair_trap {p : Int × Int} {t : Int} (h : p.2 ≠ 0) (h2 : p.1 = 0) : (0, p.2) = p := by rw [← h2]
theorem worth_bin (e : Ev) (s : List UInt8) (m : Int) (a b : Ex) (hs : s ∈ binSigns) : worth e (.mk 6 s m [a, b]) =
    if (worth e a).2 ≠ 0 then worth e a else if s = [38, 38] ∧ (worth e a).1 = 0 then (0, 0) else if s = [124, 124] ∧ (worth e a).1 ≠ 0 then (1, 0) else if (worth e b).2 ≠ 0 then worth e b else twoR s (worth e a).1 (worth e b).1 := by
  have hb : builtP 6 s m 2 = true := by simp [builtP, partsK, signOk, hs]
  rw [worth, worths, worths, worths]
  unfold worthK
  rw [show [a, b].length = 2 from rfl, hb]
  simp only [List.getD_cons_zero, List.getD_cons_succ]
  by_cases h1 : (worth e a).2 = 0
  · by_cases h2 : (worth e b).2 = 0
    · simp [h1, h2]
    · have := worth_trap e b h2
      have e2 : (0, (worth e b).2) = worth e b := by rw [← this]
      simp [h1, h2, e2]
  · have := worth_trap e a h1
    have e2 : (0, (worth e a).2) = worth e a := by rw [← this]
    simp [h1, e2]
theorem i64_wrap {n : Int} (h : i64 n) : IntKind.i64.wrap n = n := wrap_in h.1 h.2
theorem worth_less (e : Ev) (he : EvOk e) (s : List UInt8) (m : Int) (a b : Ex) (ha : ExOk a) (hb : ExOk b) (hs : s ∈ binSigns) : worth e (lessP s a b (.mk 6 s m [a, b])) = worth e (.mk 6 s m [a, b]) := by
  have ia := worth_in he ha
  have ib := worth_in he hb
  have hw := worth_bin e s m a b hs
  have pa : (worth e a).2 = 0 → worth e a = ((worth e a).1, 0) := fun h => by rw [← h]
  have pb : (worth e b).2 = 0 → worth e b = ((worth e b).1, 0) := fun h => by rw [← h]
  unfold lessP
  by_cases s1 : s = [38, 38]
  · subst s1
    rw [if_pos rfl]
    split
    · rename_i h
      have := Ex.isBool_worth h (.inl rfl) e
      rw [hw, this]; simp
    · split
      · rename_i h
        rw [Bool.and_eq_true] at h
        have h1 := Ex.isBool_worth h.1 (.inr rfl) e
        have h2 := logic_01 e b h.2
        rw [hw, h1]
        by_cases hb2 : (worth e b).2 = 0
        · simp [hb2, twoR, truthI_ne h2]; exact pb hb2
        · simp [hb2]
      · split
        · rename_i h
          rw [Bool.and_eq_true] at h
          have h1 := Ex.isBool_worth h.1 (.inr rfl) e
          have h2 := logic_01 e a h.2
          rw [hw, h1]
          by_cases ha2 : (worth e a).2 = 0
          · by_cases ha0 : (worth e a).1 = 0
            · rw [pa ha2, ha0]; simp
            · have : (worth e a).1 = 1 := by omega
              rw [pa ha2, this]; simp [twoR, truthI]
          · simp [ha2]
        · rfl
  rw [if_neg s1]
  by_cases s2 : s = [124, 124]
  · subst s2
    rw [if_pos rfl]
    split
    · rename_i h
      have := Ex.isBool_worth h (.inr rfl) e
      rw [hw, this]; simp
    · split
      · rename_i h
        rw [Bool.and_eq_true] at h
        have h1 := Ex.isBool_worth h.1 (.inl rfl) e
        have h2 := logic_01 e b h.2
        rw [hw, h1]
        by_cases hb2 : (worth e b).2 = 0
        · simp [hb2, twoR, truthI_ne h2]; exact pb hb2
        · simp [hb2]
      · split
        · rename_i h
          rw [Bool.and_eq_true] at h
          have h1 := Ex.isBool_worth h.1 (.inl rfl) e
          have h2 := logic_01 e a h.2
          rw [hw, h1]
          by_cases ha2 : (worth e a).2 = 0
          · by_cases ha0 : (worth e a).1 = 0
            · rw [pa ha2, ha0]; simp [twoR, truthI]
            · have : (worth e a).1 = 1 := by omega
              rw [pa ha2, this]; simp
          · simp [ha2]
        · rfl
  rw [if_neg s2]
  have hw' : worth e (.mk 6 s m [a, b]) = if (worth e a).2 ≠ 0 then worth e a else if (worth e b).2 ≠ 0 then worth e b else twoP s (worth e a).1 (worth e b).1 := by
    rw [hw]; simp [s1, s2, twoR]
  by_cases s3 : s = [43]
  · subst s3
    rw [if_pos rfl]
    split
    · rename_i h
      rw [Bool.and_eq_true] at h
      rw [hw', Ex.isInt_worth h.1 e]
      by_cases hb2 : (worth e b).2 = 0
      · simp [hb2, twoP, i64_wrap ib]; exact pb hb2
      · simp [hb2]
    · split
      · rename_i h
        rw [hw', Ex.isInt_worth h e]
        by_cases ha2 : (worth e a).2 = 0
        · simp [ha2, twoP, i64_wrap ia]; exact pa ha2
        · simp [ha2]
      · rfl
  rw [if_neg s3]
  by_cases s4 : s = [45]
  · subst s4
    rw [if_pos rfl]
    split
    · rename_i h
      rw [hw', Ex.isInt_worth h e]
      by_cases ha2 : (worth e a).2 = 0
      · simp [ha2, twoP, i64_wrap ia]; exact pa ha2
      · simp [ha2]
    · rfl
  rw [if_neg s4]
  by_cases s5 : s = [42]
  · subst s5
    rw [if_pos rfl]
    split
    · rename_i h
      rw [Bool.and_eq_true] at h
      rw [hw', Ex.isInt_worth h.1 e]
      by_cases hb2 : (worth e b).2 = 0
      · simp [hb2, twoP, i64_wrap ib]; exact pb hb2
      · simp [hb2]
    · split
      · rename_i h
        rw [hw', Ex.isInt_worth h e]
        by_cases ha2 : (worth e a).2 = 0
        · simp [ha2, twoP, i64_wrap ia]; exact pa ha2
        · simp [ha2]
      · rfl
  rw [if_neg s5]
  by_cases s6 : s = [47]
  · subst s6
    rw [if_pos rfl]
    split
    · rename_i h
      rw [hw', Ex.isInt_worth h e]
      by_cases ha2 : (worth e a).2 = 0
      · simp [ha2, twoP, i64_wrap ia]; exact pa ha2
      · simp [ha2]
    · rfl
  rw [if_neg s6]
theorem worth_unK (e : Ev) (s : List UInt8) (m : Int) (y : Ex) (hs : s = [45] ∨ s = [33]) : worth e (.mk 5 s m [y]) = if (worth e y).2 ≠ 0 then worth e y else if s = [33] then (truthI (decide ((worth e y).1 = 0)), 0) else (IntKind.i64.wrap (-(worth e y).1), 0) := by
  have hb : builtP 5 s m 1 = true := by rcases hs with rfl | rfl <;> simp [builtP, partsK, signOk]
  rw [worth, worths, worths]
  unfold worthK
  rw [show [y].length = 1 from rfl, hb]
  by_cases h1 : (worth e y).2 = 0
  · simp [h1]
  · have := worth_trap e y h1
    have e2 : (0, (worth e y).2) = worth e y := by rw [← this]
    simp [h1, e2]
theorem worth_step (e : Ev) (he : EvOk e) (x : Ex) (hx : ExOk x) (hb : x.built = true) : worth e (stepP x) = worth e x := by
  unfold stepP
  split
  · rfl
  · cases hc : constantP x with
    | some y => exact worth_constant e hx hc
    | none =>
      obtain ⟨k, s, m, l⟩ := x
      have hok := hx.l
      unfold Ex.built at hb
      simp only [Ex.kind_mk, Ex.name_mk, Ex.num_mk, Ex.l_mk] at *
      rcases built_forms hb with ⟨rfl, hl⟩ | ⟨rfl, hl⟩ | ⟨rfl, hl⟩ | ⟨rfl, hl⟩ | ⟨rfl, hl, h5⟩ | ⟨rfl, hl, h6⟩
      · obtain rfl := List.length_eq_zero_iff.1 hl; rfl
      · obtain rfl := List.length_eq_zero_iff.1 hl; rfl
      · obtain rfl := List.length_eq_zero_iff.1 hl; rfl
      · obtain ⟨y, rfl⟩ := List.length_eq_one_iff.1 hl; rfl
      · obtain ⟨y, rfl⟩ := List.length_eq_one_iff.1 hl
        show worth e (if (5 : Int) = 5 then unP s y (.mk 5 s m [y]) else _) = _
        rw [if_pos rfl]
        unfold unP
        cases hyl : y.l with
        | nil => rfl
        | cons z zl =>
          dsimp only
          split
          · rename_i h
            simp only [Bool.and_eq_true, Bool.or_eq_true, decide_eq_true_eq] at h
            obtain ⟨⟨⟨h1, h2⟩, h3⟩, h4⟩ := h
            have hyo := hok y (List.mem_singleton_self y)
            have hzo := hyo.l z (by rw [hyl]; exact List.mem_cons_self ..)
            have iz := worth_in he hzo
            obtain ⟨yk, ys, ym, yl⟩ := y
            simp only [Ex.kind_mk, Ex.name_mk, Ex.num_mk, Ex.l_mk, Ex.built] at *
            subst h1 h2 hyl
            rcases built_forms h3 with ⟨h, _⟩ | ⟨h, _⟩ | ⟨h, _⟩ | ⟨h, _⟩ | ⟨_, h, _⟩ | ⟨h, _⟩
            · omega
            · omega
            · omega
            · omega
            · obtain rfl : zl = [] := by simpa using h
              rw [worth_unK e ys m _ h5, worth_unK e ys ym _ h5]
              have pz : (worth e z).2 = 0 → worth e z = ((worth e z).1, 0) := fun h => by rw [← h]
              by_cases hz2 : (worth e z).2 = 0
              · rcases h5 with rfl | rfl
                · simp [hz2]
                  rw [pz hz2]
                  have : IntKind.i64.wrap (-IntKind.i64.wrap (-(worth e z).1)) = (worth e z).1 := by
                    unfold i64 at iz
                    rw [IntKind.wrap_i64, IntKind.wrap_i64]; omega
                  rw [this]
                · have h4' : z.logic = true := by
                    rcases h4 with h4 | h4
                    · cases h4
                    · exact h4
                  have h01 := logic_01 e z h4'
                  simp [hz2]
                  rw [pz hz2]
                  rcases h01 with h01 | h01 <;> rw [h01] <;> simp [truthI]
              · simp [hz2]
            · omega
          · rfl
      · obtain ⟨a, b, rfl⟩ := two_of hl
        show worth e (if (6 : Int) = 6 then lessP s a b (.mk 6 s m [a, b]) else _) = _
        rw [if_pos rfl]
        exact worth_less e he s m a b (hok a (List.mem_cons_self ..)) (hok b (List.mem_cons_of_mem _ (List.mem_singleton_self b))) h6
mutual
/-- **Folding changes no worth.** -/
theorem worth_fold (e : Ev) (he : EvOk e) : ∀ x : Ex, ExOk x → worth e (foldP x) = worth e x
  | .mk k s m l, hx => by
    rw [foldP]
    split
    · rename_i hb
      obtain ⟨h1, h2, h3, h4, h5⟩ := hx.inv
      have ho : ExOk (.mk k s m (foldPs l)) := .mk h1 h2 h3 (by rw [foldPs_len]; exact h4) (foldPs_ok h5)
      rw [worth_step e he _ ho (by unfold Ex.built; simp only [Ex.kind_mk, Ex.name_mk, Ex.num_mk, Ex.l_mk]; rw [foldPs_len]; exact hb)]
      rw [worth, worth, foldPs_len, worths_fold e he l h5]
    · rfl
theorem worths_fold (e : Ev) (he : EvOk e) : ∀ l : List Ex, (∀ x ∈ l, ExOk x) → worths e (foldPs l) = worths e l
  | [], _ => rfl
  | x :: l, h => by rw [foldPs, worths, worths, worth_fold e he x (h x (List.mem_cons_self ..)), worths_fold e he l (fun y hy => h y (List.mem_cons_of_mem _ hy))]
end
/-- What folding leaves as it is, with all its parts. -/
inductive Normal : Ex → Prop where
  | bad {x : Ex} (h : x.built = false) : Normal x
  | good {x : Ex} (h : x.built = true) (hl : ∀ y ∈ x.l, Normal y) (hs : stepP x = x) : Normal x
theorem foldPs_map : ∀ l : List Ex, foldPs l = l.map foldP
  | [] => rfl
  | x :: l => by rw [foldPs, foldPs_map l]; rfl
theorem Normal.fold {x : Ex} (h : Normal x) : foldP x = x := by
  induction h with
  | @bad x h =>
    obtain ⟨k, s, m, l⟩ := x
    unfold Ex.built at h
    simp only [Ex.kind_mk, Ex.name_mk, Ex.num_mk, Ex.l_mk] at h
    rw [foldP, h]; rfl
  | @good x h hl hs ih =>
    obtain ⟨k, s, m, l⟩ := x
    unfold Ex.built at h
    simp only [Ex.kind_mk, Ex.name_mk, Ex.num_mk, Ex.l_mk] at h ih
    have e : foldPs l = l := by
      rw [foldPs_map]
      conv => rhs; rw [← List.map_id l]
      exact List.map_congr_left fun y hy => ih y hy
    rw [foldP, if_pos h, e, hs]
theorem Normal.parts {x : Ex} (h : Normal x) (hb : x.built = true) : ∀ y ∈ x.l, Normal y := by
  cases h with
  | bad h => rw [h] at hb; cases hb
  | good _ hl _ => exact hl
theorem normal_leaf {x : Ex} (hl : x.l = []) (hc : x.built = true → (constP x).isSome = true) : Normal x := by
  cases hb : x.built with
  | false => exact .bad hb
  | true => exact .good hb (fun y hy => by rw [hl] at hy; cases hy) (by unfold stepP; rw [if_pos (hc hb)])
theorem normal_intE {n : Int} (h : 0 ≤ n) : Normal (intE n) := normal_leaf rfl fun _ => by unfold intE; rw [constP]; simp [constK, builtP, partsK, signOk, h]
theorem normal_boolE (n : Int) : Normal (boolE n) := normal_leaf rfl fun hb => by
  unfold boolE at *
  unfold Ex.built at hb
  simp only [Ex.kind_mk, Ex.name_mk, Ex.num_mk, Ex.l_mk] at hb
  rw [constP]; unfold constK; rw [hb]; simp
theorem normal_litP {n : Int} (h : i64 n) : Normal (litP n) := by
  unfold i64 at h
  have un : ∀ m : Int, 0 < m → Normal (.mk 5 [45] 0 [intE m]) := fun m hm => by
    refine .good rfl (fun y hy => ?_) ?_
    · have : y = intE m := by simpa using hy
      rw [this]; exact normal_intE (by omega)
    · unfold stepP
      rw [if_pos]
      rw [constP]
      simp [constK, builtP, partsK, signOk, intE, hm]
  unfold litP minI
  split
  · rename_i h0; exact normal_intE h0
  · split
    · refine .good rfl (fun y hy => ?_) ?_
      · have hy' : y ∈ [Ex.mk 5 [45] 0 [intE 9223372036854775807], intE 1] := hy
        rcases List.mem_cons.1 hy' with rfl | hy'
        · exact un _ (by omega)
        · have : y = intE 1 := by simpa using hy'
          rw [this]; exact normal_intE (by omega)
      · rfl
    · exact un _ (by omega)
theorem normal_step {x : Ex} (hx : ExOk x) (hb : x.built = true) (hl : ∀ y ∈ x.l, Normal y) : Normal (stepP x) := by
  by_cases hs : stepP x = x
  · rw [hs]; exact .good hb hl hs
  · have hs' := hs
    unfold stepP at hs ⊢
    by_cases hc : (constP x).isSome = true
    · rw [if_pos hc] at hs; exact absurd rfl hs
    · rw [if_neg hc] at hs ⊢
      cases hcc : constantP x with
      | some y =>
        dsimp only
        unfold constantP at hcc
        split at hcc
        · split at hcc
          · cases hcc
          · split at hcc
            · cases hcc; exact normal_boolE _
            · cases hcc; exact normal_litP (worth_in ev0_ok hx)
        · cases hcc
      | none =>
        rw [hcc] at hs
        dsimp only at hs ⊢
        split at hs
        · rename_i y hxl
          split at hs
          · rename_i h5
            rcases unP_mem x.name y x with h | ⟨z, l, h1, h2, h3⟩
            · exact absurd h hs
            · rw [if_pos h5, h3]
              exact (hl y (by rw [hxl]; exact List.mem_singleton_self y)).parts h2 z (by rw [h1]; exact List.mem_cons_self ..)
          · exact absurd rfl hs
        · rename_i a b hxl
          split at hs
          · rename_i h6
            rw [if_pos h6]
            rcases lessP_mem x.name a b x with h | h | h
            · rw [h]; exact hl a (by rw [hxl]; exact List.mem_cons_self ..)
            · rw [h]; exact hl b (by rw [hxl]; exact List.mem_cons_of_mem _ (List.mem_singleton_self b))
            · exact absurd h hs
          · exact absurd rfl hs
        · exact absurd rfl hs
mutual
theorem normal_fold : ∀ {x : Ex}, ExOk x → Normal (foldP x)
  | .mk k s m l, hx => by
    rw [foldP]
    split
    · rename_i hb
      obtain ⟨h1, h2, h3, h4, h5⟩ := hx.inv
      have ho : ExOk (.mk k s m (foldPs l)) := .mk h1 h2 h3 (by rw [foldPs_len]; exact h4) (foldPs_ok h5)
      exact normal_step ho (by unfold Ex.built; simp only [Ex.kind_mk, Ex.name_mk, Ex.num_mk, Ex.l_mk]; rw [foldPs_len]; exact hb) (normals_fold h5)
    · rename_i hb
      exact .bad (by unfold Ex.built; simpa using hb)
theorem normals_fold : ∀ {l : List Ex}, (∀ x ∈ l, ExOk x) → ∀ x ∈ foldPs l, Normal x
  | [], h, x, hx => by rw [foldPs] at hx; cases hx
  | y :: l, h, x, hx => by
    rw [foldPs] at hx
    rcases List.mem_cons.1 hx with rfl | hx
    · exact normal_fold (h y (List.mem_cons_self ..))
    · exact normals_fold (fun z hz => h z (List.mem_cons_of_mem _ hz)) x hx
end
/-- **Folded twice is folded once.** -/
theorem fold_twice {x : Ex} (hx : ExOk x) : foldP (foldP x) = foldP x := (normal_fold hx).fold
end Go.Proofs.Ytipjanijidbelaa
