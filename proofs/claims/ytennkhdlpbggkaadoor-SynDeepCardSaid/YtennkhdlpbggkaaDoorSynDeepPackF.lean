/- Own texts under the law SynDeep, merged, without what it does not lean on: part 6 of 6 (the abstract machine and its proof; residual forms; contracts; the plain law). -/
import Derived.Test.YtennkhdlpbggkaaDoorSynDeepPackE
import Derived.KernelRfl
set_option linter.unusedVariables false
set_option linter.unusedSimpArgs false
set_option linter.unusedSectionVars false
set_option maxRecDepth 100000
namespace Go.Proofs.YtennkhdlpbggkaaDoor
open Go Go.Proofs.Ab Go.Proofs.Px
def tJ (n : Int) : Tk := ⟨2, [], n, 0⟩
def dOp (h : Nat) : List Tk := match h with | 0 => [tS [40]] | 1 => [tS [45]] | 2 => [tS [33]] | 3 => [tN [97], tS [91]] | _ => [tJ 1, tS [43], tS [40]]
def dSh (h : Nat) : List Tk := match h with | 0 => [tS [41]] | 1 => [] | 2 => [] | 3 => [tS [93]] | _ => [tS [41]]
def dT (h : Nat) : Nat -> List Tk
 | 0 => [tJ 0]
 | n + 1 => dOp h ++ (dT h n ++ dSh h)
def dX (h : Nat) : Nat -> Ex
 | 0 => .mk 1 [] 0 []
 | n + 1 => match h with | 0 => dX h n | 1 => .mk 5 [45] 0 [dX h n] | 2 => .mk 5 [33] 0 [dX h n] | 3 => .mk 4 [97] 0 [dX h n] | _ => .mk 6 [43] 0 [.mk 1 [] 1 [], dX h n]
theorem dT_opens (h n : Nat) : ∃ t u, dT h n = t :: u ∧ opensT t = true := by
 cases n with
 | zero => exact ⟨_, _, rfl, rfl⟩
 | succ n =>
  rw [dT]
  match h with
  | 0 => exact ⟨_, _, rfl, rfl⟩
  | 1 => exact ⟨_, _, rfl, rfl⟩
  | 2 => exact ⟨_, _, rfl, rfl⟩
  | 3 => exact ⟨_, _, rfl, rfl⟩
  | _ + 4 => exact ⟨_, _, rfl, rfl⟩
theorem dT_pos (h n : Nat) : 0 < (dT h n).length := by
 obtain ⟨t, u, e, _⟩ := dT_opens h n
 rw [e]; simp
def dRes (l : List Tk) (h n : Nat) (d : Int) (k : Nat) : Rd := if d + n <= 60 then .ok (dX h n, k + (dT h n).length) else .error ((tk l (k + (61 - d).toNat * (dOp h).length)).at_, 31)
theorem tight_err {l : List Tk} {n d : Int} {k : Nat} {e : Int × Int} (h : oneW l d k = .error e) : tightW l n d k = .error e := by rw [tightW, h]
theorem tight_res {l : List Tk} {h n : Nat} {d m : Int} {k : Nat} (h1 : oneW l d k = dRes l h n d k) (h2 : k + (dT h n).length < l.length) (h3 : signT (tk l (k + (dT h n).length)) = 0) : tightW l m d k = dRes l h n d k := by
 have hp := dT_pos h n
 unfold dRes at *
 by_cases c : d + n <= 60
 ·rw [if_pos c] at *
  exact tight_of_one h1 (by omega) h2 h3
 ·rw [if_neg c] at *
  exact tight_err h1
theorem isT_tJ (m : Int) (s : List UInt8) : isT (tJ m) s = false := by simp [isT, tJ]
theorem one_num {l : List Tk} {d m : Int} {k : Nat} (hk : k < l.length) (hs : SimT (tJ m) (tk l k)) : oneW l d k = .ok (.mk 1 [] m [], k + 1) := by
 have e : ∀ s, isT (tk l k) s = false := fun s => by rw [isT_sim hs, isT_tJ]
 have k2 : (tk l k).kind = 2 := hs.1.symm
 have n2 : (tk l k).num = m := hs.2.2.symm
 rw [oneW, dif_pos hk, if_neg (by rw [e, e]; simp), if_neg (by rw [e]; simp), if_neg (by rw [e]; simp), if_neg (by rw [e]; simp), if_pos k2, n2]
theorem one_par {l : List Tk} {d : Int} {k h n : Nat} (hd : d <= 60) (h1 : k < l.length) (s1 : SimT (tS [40]) (tk l k)) (ho : opensT (tk l (k + 1)) = true) (ih : d + 1 <= 60 -> tightW l 1 (d + 1) (k + 1) = dRes l h n (d + 1) (k + 1)) (s2 : SimT (tS [41]) (tk l (k + 1 + (dT h n).length))) :
  oneW l d k = if d + 1 + n <= 60 then .ok (dX h n, k + 1 + (dT h n).length + 1) else .error ((tk l (k + 1 + (60 - d).toNat * (dOp h).length)).at_, 31) := by
 have e1 : ∀ s, isT (tk l k) s = decide (([40] : List UInt8) = s) := fun s => by rw [isT_sim s1, isT_S]
 rw [oneW, dif_pos h1, if_neg (by rw [e1, e1]; simp), if_pos (by rw [e1]; rfl)]
 unfold partR
 rw [ho, if_neg (by simp)]
 by_cases c : 60 < d + 1
 ·have : d = 60 := by omega
  subst this
  rw [if_pos c, if_neg (by omega)]
  unfold wantR
  simp
 ·rw [if_neg c, ih (by omega)]
  unfold dRes
  have e : (61 - (d + 1)).toNat = (60 - d).toNat := by congr 1; omega
  by_cases c2 : d + 1 + n <= 60
  ·rw [if_pos c2, if_pos c2]
   unfold wantR
   simp only
   rw [if_pos (by rw [isT_sim s2, isT_S]; rfl)]
   rfl
  ·rw [if_neg c2, if_neg c2, e]
   unfold wantR
   rfl
theorem one_un {l : List Tk} {d : Int} {k h n : Nat} {s : List UInt8} (hsg : s = [45] ∨ s = [33]) (hd : d <= 60) (h1 : k < l.length) (s1 : SimT (tS s) (tk l k)) (ho : opensT (tk l (k + 1)) = true) (ih : d + 1 <= 60 -> oneW l (d + 1) (k + 1) = dRes l h n (d + 1) (k + 1)) :
  oneW l d k = if d + 1 + n <= 60 then .ok (.mk 5 s 0 [dX h n], k + 1 + (dT h n).length) else .error ((tk l (k + 1 + (60 - d).toNat * (dOp h).length)).at_, 31) := by
 have e1 : ∀ u, isT (tk l k) u = decide (s = u) := fun u => by rw [isT_sim s1, isT_S]
 have et : (tk l k).text = s := s1.2.1.symm
 rw [oneW, dif_pos h1, if_pos (by rw [e1, e1]; rcases hsg with rfl | rfl <;> simp), et]
 unfold partR
 rw [ho, if_neg (by simp)]
 by_cases c : 60 < d + 1
 ·have : d = 60 := by omega
  subst this
  rw [if_pos c, if_neg (by omega)]
  simp
 ·rw [if_neg c, ih (by omega)]
  unfold dRes
  have e : (61 - (d + 1)).toNat = (60 - d).toNat := by congr 1; omega
  by_cases c2 : d + 1 + n <= 60
  ·rw [if_pos c2, if_pos c2]
  ·rw [if_neg c2, if_neg c2, e]
theorem one_ix {l : List Tk} {d : Int} {k h n : Nat} (hd : d <= 60) (h1 : k < l.length) (s1 : SimT (tN [97]) (tk l k)) (s3 : SimT (tS [91]) (tk l (k + 1))) (ho : opensT (tk l (k + 2)) = true) (ih : d + 1 <= 60 -> tightW l 1 (d + 1) (k + 2) = dRes l h n (d + 1) (k + 2)) (s2 : SimT (tS [93]) (tk l (k + 2 + (dT h n).length))) :
  oneW l d k = if d + 1 + n <= 60 then .ok (.mk 4 [97] 0 [dX h n], k + 2 + (dT h n).length + 1) else .error ((tk l (k + 2 + (60 - d).toNat * (dOp h).length)).at_, 31) := by
 have e1 : ∀ s, isT (tk l k) s = false := fun s => by rw [isT_sim s1, isT_N]
 have k1 : (tk l k).kind = 1 := s1.1.symm
 have et : (tk l k).text = [97] := s1.2.1.symm
 rw [oneW, dif_pos h1, if_neg (by rw [e1, e1]; simp), if_neg (by rw [e1]; simp), if_neg (by rw [e1]; simp), if_neg (by rw [e1]; simp), if_neg (by omega), if_neg (by omega), if_pos (by rw [isT_sim s3, isT_S]; rfl), et]
 unfold partR
 rw [ho, if_neg (by simp)]
 by_cases c : 60 < d + 1
 ·have : d = 60 := by omega
  subst this
  rw [if_pos c, if_neg (by omega)]
  unfold wantR
  simp
 ·rw [if_neg c, ih (by omega)]
  unfold dRes
  have e : (61 - (d + 1)).toNat = (60 - d).toNat := by congr 1; omega
  by_cases c2 : d + 1 + n <= 60
  ·rw [if_pos c2, if_pos c2]
   unfold wantR
   simp only
   rw [if_pos (by rw [isT_sim s2, isT_S]; rfl)]
  ·rw [if_neg c2, if_neg c2, e]
   unfold wantR
   rfl
theorem loop_end {l : List Tk} {n d m : Int} {x : Ex} {k : Nat} (hk : k < l.length) (h : signT (tk l k) = 0) : loopW l n d m x k = .ok (x, k) := by
 rw [loopW, dif_pos hk, if_pos (.inl h)]
theorem tight_sum {l : List Tk} {d : Int} {k h n : Nat} (hd : d <= 60) (h1 : k < l.length) (s0 : SimT (tJ 1) (tk l k)) (hk1 : k + 1 < l.length) (s1 : SimT (tS [43]) (tk l (k + 1))) (hk2 : k + 2 < l.length) (s2 : SimT (tS [40]) (tk l (k + 2))) (ho : opensT (tk l (k + 3)) = true) (ih : d + 1 <= 60 -> tightW l 1 (d + 1) (k + 3) = dRes l h n (d + 1) (k + 3)) (s4 : SimT (tS [41]) (tk l (k + 3 + (dT h n).length)))
  (hkj : k + 3 + (dT h n).length + 1 < l.length) (h3 : signT (tk l (k + 3 + (dT h n).length + 1)) = 0) :
  tightW l 1 d k = if d + 1 + n <= 60 then .ok (.mk 6 [43] 0 [.mk 1 [] 1 [], dX h n], k + 3 + (dT h n).length + 1) else .error ((tk l (k + 3 + (60 - d).toNat * (dOp h).length)).at_, 31) := by
 have hp := one_par hd hk2 s2 ho ih s4
 have sg : signT (tk l (k + 1)) = 4 := by rw [signT_sim s1]; rfl
 have et : (tk l (k + 1)).text = [43] := s1.2.1.symm
 rw [tightW, one_num h1 s0]
 simp only
 rw [dif_pos ⟨by omega, h1⟩, loopW, dif_pos hk1, if_neg (by rw [sg]; decide), sg, et]
 by_cases c2 : d + 1 + n <= 60
 ·rw [if_pos c2] at hp ⊢
  have ht : tightW l (4 + 1) d (k + 1 + 1) = .ok (dX h n, k + 3 + (dT h n).length + 1) := tight_of_one hp (by omega) hkj h3
  rw [ht]
  simp only
  rw [dif_pos (by omega), loop_end hkj h3]
 ·rw [if_neg c2] at hp ⊢
  have ht : tightW l (4 + 1) d (k + 1 + 1) = _ := tight_err hp
  rw [ht]
theorem deep_one (h n : Nat) : ∀ (l : List Tk) (d : Int) (k : Nat), d <= 60 -> Seg l k (dT h n) -> k + (dT h n).length < l.length -> (h < 4 -> oneW l d k = dRes l h n d k) ∧ (signT (tk l (k + (dT h n).length)) = 0 -> tightW l 1 d k = dRes l h n d k) := by
 induction n with
 | zero =>
  intro l d k hd hs hk
  have s := (hs.cons (b := [])).1
  have h1 := one_num (d := d) s.1 s.2
  have h2 : oneW l d k = dRes l h 0 d k := by
   unfold dRes
   rw [if_pos (by omega)]; exact h1
  exact ⟨fun _ => h2, fun h3 => tight_res h2 hk h3⟩
 | succ n ih =>
  intro l d k hd hs hk
  have hsh := hs
  rw [dT] at hs hk
  obtain ⟨sO, sR⟩ := hs.app
  obtain ⟨sT, sS⟩ := sR.app
  have hop : opensT (tk l (k + (dOp h).length)) = true := seg_opens sT (dT_opens h n)
  have hp := dT_pos h n
  match h with
  | 0 =>
   have o := (sO.cons (b := [])).1
   have c := (sS.cons (b := [])).1
   have kk : k + 1 + (dT 0 n).length < l.length := c.1
   have h2 : oneW l d k = dRes l 0 (n + 1) d k := by
    rw [one_par hd o.1 o.2 hop (fun h => ((ih l (d + 1) (k + 1) h sT kk).2 ((signT_sim c.2).trans rfl))) c.2]
    unfold dRes
    have e : (d + 1 + (n : Int) <= 60) = (d + ((n + 1 : Nat) : Int) <= 60) := by apply propext; omega
    have e2 : (k + 1 + (60 - d).toNat * (dOp 0).length) = k + (61 - d).toNat * (dOp 0).length := by show k + 1 + _ * 1 = k + _ * 1; omega
    have e3 : k + 1 + (dT 0 n).length + 1 = k + (dT 0 (n + 1)).length := by rw [dT]; simp [dOp, dSh]; omega
    simp only [e, e2, e3]
    rfl
   exact ⟨fun _ => h2, fun h3 => tight_res h2 (by rw [dT]; exact hk) h3⟩
  | 1 =>
   have o := (sO.cons (b := [])).1
   have kk : k + 1 + (dT 1 n).length < l.length := by simp [dOp, dSh] at hk; omega
   have h2 : oneW l d k = dRes l 1 (n + 1) d k := by
    rw [one_un (.inl rfl) hd o.1 o.2 hop (fun h => (ih l (d + 1) (k + 1) h sT kk).1 (by decide))]
    unfold dRes
    have e : (d + 1 + (n : Int) <= 60) = (d + ((n + 1 : Nat) : Int) <= 60) := by apply propext; omega
    have e2 : (k + 1 + (60 - d).toNat * (dOp 1).length) = k + (61 - d).toNat * (dOp 1).length := by show k + 1 + _ * 1 = k + _ * 1; omega
    have e3 : k + 1 + (dT 1 n).length = k + (dT 1 (n + 1)).length := by rw [dT]; simp [dOp, dSh]; omega
    simp only [e, e2, e3]
    rfl
   exact ⟨fun _ => h2, fun h3 => tight_res h2 (by rw [dT]; exact hk) h3⟩
  | 2 =>
   have o := (sO.cons (b := [])).1
   have kk : k + 1 + (dT 2 n).length < l.length := by simp [dOp, dSh] at hk; omega
   have h2 : oneW l d k = dRes l 2 (n + 1) d k := by
    rw [one_un (.inr rfl) hd o.1 o.2 hop (fun h => (ih l (d + 1) (k + 1) h sT kk).1 (by decide))]
    unfold dRes
    have e : (d + 1 + (n : Int) <= 60) = (d + ((n + 1 : Nat) : Int) <= 60) := by apply propext; omega
    have e2 : (k + 1 + (60 - d).toNat * (dOp 2).length) = k + (61 - d).toNat * (dOp 2).length := by show k + 1 + _ * 1 = k + _ * 1; omega
    have e3 : k + 1 + (dT 2 n).length = k + (dT 2 (n + 1)).length := by rw [dT]; simp [dOp, dSh]; omega
    simp only [e, e2, e3]
    rfl
   exact ⟨fun _ => h2, fun h3 => tight_res h2 (by rw [dT]; exact hk) h3⟩
  | 3 =>
   have o := (sO.cons (b := [tS [91]])).1
   have o2 := ((sO.cons (b := [tS [91]])).2.cons (b := [])).1
   have c := (sS.cons (b := [])).1
   have kk : k + 2 + (dT 3 n).length < l.length := c.1
   have h2 : oneW l d k = dRes l 3 (n + 1) d k := by
    rw [one_ix hd o.1 o.2 o2.2 hop (fun h => ((ih l (d + 1) (k + 2) h sT kk).2 ((signT_sim c.2).trans rfl))) c.2]
    unfold dRes
    have e : (d + 1 + (n : Int) <= 60) = (d + ((n + 1 : Nat) : Int) <= 60) := by apply propext; omega
    have e2 : (k + 2 + (60 - d).toNat * (dOp 3).length) = k + (61 - d).toNat * (dOp 3).length := by show k + 2 + _ * 2 = k + _ * 2; omega
    have e3 : k + 2 + (dT 3 n).length + 1 = k + (dT 3 (n + 1)).length := by rw [dT]; simp [dOp, dSh]; omega
    simp only [e, e2, e3]
    rfl
   exact ⟨fun _ => h2, fun h3 => tight_res h2 (by rw [dT]; exact hk) h3⟩
  | h + 4 =>
   have o := (sO.cons (b := [tS [43], tS [40]])).1
   have q := (sO.cons (b := [tS [43], tS [40]])).2
   have o2 := (q.cons (b := [tS [40]])).1
   have o3 := ((q.cons (b := [tS [40]])).2.cons (b := [])).1
   have c := (sS.cons (b := [])).1
   have kk : k + 3 + (dT (h + 4) n).length < l.length := c.1
   have e3 : k + 3 + (dT (h + 4) n).length + 1 = k + (dT (h + 4) (n + 1)).length := by rw [dT]; simp [dOp, dSh]; omega
   refine ⟨fun h => absurd h (by omega), fun h3 => ?_⟩
   rw [tight_sum hd o.1 o.2 o2.1 o2.2 o3.1 o3.2 hop (fun h' => ((ih l (d + 1) (k + 3) h' sT kk).2 ((signT_sim c.2).trans rfl))) c.2 (by rw [e3, dT]; exact hk) (by rw [e3]; exact h3)]
   unfold dRes
   have e : (d + 1 + (n : Int) <= 60) = (d + ((n + 1 : Nat) : Int) <= 60) := by apply propext; omega
   have e2 : (k + 3 + (60 - d).toNat * (dOp (h + 4)).length) = k + (61 - d).toNat * (dOp (h + 4)).length := by show k + 3 + _ * 3 = k + _ * 3; omega
   simp only [e, e2, e3]
   rfl
theorem most_if {R : Type} {n : Nat} (h : n <= 1099511627776) (a b : Option R) : (if n <= most then a else b) = a := if_pos h
end Go.Proofs.YtennkhdlpbggkaaDoor
namespace Go.Proofs.YtennkhdlpbggkaaDoor
open Go Go.Proofs.Ab
namespace syntax_plain
theorem eq (a0_0 : Int) (a0_1 : ByteArray) (a0_2 : Int) (a0_3 : List (List V)) : den Sp id [V.agg [V.int .i64 a0_0, V.str a0_1, V.int .i64 a0_2, V.sl .no T_api_Expr a0_3]] [] none =
  (bif (a0_0 != (1 : Int)) then (bif (!((!(decide (a0_1 = (ByteArray.mk #[])))) == (a0_0 != (2 : Int)))) then (some ⟨Out.ret (V.bool false), [], none⟩) else (bif (a0_2 != (0 : Int)) then (bif (a0_0 != (1 : Int)) then (bif (a0_0 != (2 : Int)) then (some ⟨Out.ret (V.bool false), [], none⟩) else (bif (a0_0 == (1 : Int)) then (bif (decide (a0_2 >= (0 : Int))) then (some ⟨Out.ret (V.bool ((a0_3.length : Int) == (0 : Int))), [], none⟩) else (some ⟨Out.ret (V.bool false), [], none⟩)) else (bif (a0_0 == (2 : Int)) then (bif (a0_2 == (0 : Int)) then (some ⟨Out.ret (V.bool ((a0_3.length : Int) == (0 : Int))), [], none⟩) else (bif (a0_2 == (1 : Int)) then (some ⟨Out.ret (V.bool ((a0_3.length : Int) == (0 : Int))), [], none⟩) else (some ⟨Out.ret (V.bool false), [], none⟩))) else (bif (a0_0 == (3 : Int)) then (some ⟨Out.ret (V.bool ((a0_3.length : Int) == (0 : Int))), [], none⟩) else (bif (a0_0 == (4 : Int)) then (some ⟨Out.ret (V.bool ((a0_3.length : Int) == (1 : Int))), [], none⟩) else (bif (a0_0 == (5 : Int)) then (bif (decide (a0_1 = (ByteArray.mk #[45]))) then (some ⟨Out.ret (V.bool ((a0_3.length : Int) == (1 : Int))), [], none⟩) else (bif (decide (a0_1 = (ByteArray.mk #[33]))) then (some ⟨Out.ret (V.bool ((a0_3.length : Int) == (1 : Int))), [], none⟩) else (some ⟨Out.ret (V.bool false), [], none⟩))) else (bif (a0_0 == (6 : Int)) then (den Sp syntax_level.id [V.str a0_1] [] none).bind (fun r14 => Res.onRet r14 (fun v15 => V.asInt v15 .i64 (fun n16 => bif (decide (n16 > (0 : Int))) then (some ⟨Out.ret (V.bool ((a0_3.length : Int) == (2 : Int))), [], none⟩) else (some ⟨Out.ret (V.bool false), [], none⟩)))) else (some ⟨Out.ret (V.bool false), [], none⟩)))))))) else (bif (a0_0 == (1 : Int)) then (bif (decide (a0_2 >= (0 : Int))) then (some ⟨Out.ret (V.bool ((a0_3.length : Int) == (0 : Int))), [], none⟩) else (some ⟨Out.ret (V.bool false), [], none⟩)) else (bif (a0_0 == (2 : Int)) then (bif (a0_2 == (0 : Int)) then (some ⟨Out.ret (V.bool ((a0_3.length : Int) == (0 : Int))), [], none⟩) else (bif (a0_2 == (1 : Int)) then (some ⟨Out.ret (V.bool ((a0_3.length : Int) == (0 : Int))), [], none⟩) else (some ⟨Out.ret (V.bool false), [], none⟩))) else (bif (a0_0 == (3 : Int)) then (some ⟨Out.ret (V.bool ((a0_3.length : Int) == (0 : Int))), [], none⟩) else (bif (a0_0 == (4 : Int)) then (some ⟨Out.ret (V.bool ((a0_3.length : Int) == (1 : Int))), [], none⟩) else (bif (a0_0 == (5 : Int)) then (bif (decide (a0_1 = (ByteArray.mk #[45]))) then (some ⟨Out.ret (V.bool ((a0_3.length : Int) == (1 : Int))), [], none⟩) else (bif (decide (a0_1 = (ByteArray.mk #[33]))) then (some ⟨Out.ret (V.bool ((a0_3.length : Int) == (1 : Int))), [], none⟩) else (some ⟨Out.ret (V.bool false), [], none⟩))) else (bif (a0_0 == (6 : Int)) then (den Sp syntax_level.id [V.str a0_1] [] none).bind (fun r14 => Res.onRet r14 (fun v15 => V.asInt v15 .i64 (fun n16 => bif (decide (n16 > (0 : Int))) then (some ⟨Out.ret (V.bool ((a0_3.length : Int) == (2 : Int))), [], none⟩) else (some ⟨Out.ret (V.bool false), [], none⟩)))) else (some ⟨Out.ret (V.bool false), [], none⟩)))))))) else (bif (a0_0 == (1 : Int)) then (bif (decide (a0_2 >= (0 : Int))) then (some ⟨Out.ret (V.bool ((a0_3.length : Int) == (0 : Int))), [], none⟩) else (some ⟨Out.ret (V.bool false), [], none⟩)) else (bif (a0_0 == (2 : Int)) then (bif (a0_2 == (0 : Int)) then (some ⟨Out.ret (V.bool ((a0_3.length : Int) == (0 : Int))), [], none⟩) else (bif (a0_2 == (1 : Int)) then (some ⟨Out.ret (V.bool ((a0_3.length : Int) == (0 : Int))), [], none⟩) else (some ⟨Out.ret (V.bool false), [], none⟩))) else (bif (a0_0 == (3 : Int)) then (some ⟨Out.ret (V.bool ((a0_3.length : Int) == (0 : Int))), [], none⟩) else (bif (a0_0 == (4 : Int)) then (some ⟨Out.ret (V.bool ((a0_3.length : Int) == (1 : Int))), [], none⟩) else (bif (a0_0 == (5 : Int)) then (bif (decide (a0_1 = (ByteArray.mk #[45]))) then (some ⟨Out.ret (V.bool ((a0_3.length : Int) == (1 : Int))), [], none⟩) else (bif (decide (a0_1 = (ByteArray.mk #[33]))) then (some ⟨Out.ret (V.bool ((a0_3.length : Int) == (1 : Int))), [], none⟩) else (some ⟨Out.ret (V.bool false), [], none⟩))) else (bif (a0_0 == (6 : Int)) then (den Sp syntax_level.id [V.str a0_1] [] none).bind (fun r14 => Res.onRet r14 (fun v15 => V.asInt v15 .i64 (fun n16 => bif (decide (n16 > (0 : Int))) then (some ⟨Out.ret (V.bool ((a0_3.length : Int) == (2 : Int))), [], none⟩) else (some ⟨Out.ret (V.bool false), [], none⟩)))) else (some ⟨Out.ret (V.bool false), [], none⟩))))))))) else (bif (!((!(decide (a0_1 = (ByteArray.mk #[])))) == false)) then (some ⟨Out.ret (V.bool false), [], none⟩) else (bif (a0_2 != (0 : Int)) then (bif (a0_0 != (1 : Int)) then (bif (a0_0 != (2 : Int)) then (some ⟨Out.ret (V.bool false), [], none⟩) else (bif (a0_0 == (1 : Int)) then (bif (decide (a0_2 >= (0 : Int))) then (some ⟨Out.ret (V.bool ((a0_3.length : Int) == (0 : Int))), [], none⟩) else (some ⟨Out.ret (V.bool false), [], none⟩)) else (bif (a0_0 == (2 : Int)) then (bif (a0_2 == (0 : Int)) then (some ⟨Out.ret (V.bool ((a0_3.length : Int) == (0 : Int))), [], none⟩) else (bif (a0_2 == (1 : Int)) then (some ⟨Out.ret (V.bool ((a0_3.length : Int) == (0 : Int))), [], none⟩) else (some ⟨Out.ret (V.bool false), [], none⟩))) else (bif (a0_0 == (3 : Int)) then (some ⟨Out.ret (V.bool ((a0_3.length : Int) == (0 : Int))), [], none⟩) else (bif (a0_0 == (4 : Int)) then (some ⟨Out.ret (V.bool ((a0_3.length : Int) == (1 : Int))), [], none⟩) else (bif (a0_0 == (5 : Int)) then (bif (decide (a0_1 = (ByteArray.mk #[45]))) then (some ⟨Out.ret (V.bool ((a0_3.length : Int) == (1 : Int))), [], none⟩) else (bif (decide (a0_1 = (ByteArray.mk #[33]))) then (some ⟨Out.ret (V.bool ((a0_3.length : Int) == (1 : Int))), [], none⟩) else (some ⟨Out.ret (V.bool false), [], none⟩))) else (bif (a0_0 == (6 : Int)) then (den Sp syntax_level.id [V.str a0_1] [] none).bind (fun r14 => Res.onRet r14 (fun v15 => V.asInt v15 .i64 (fun n16 => bif (decide (n16 > (0 : Int))) then (some ⟨Out.ret (V.bool ((a0_3.length : Int) == (2 : Int))), [], none⟩) else (some ⟨Out.ret (V.bool false), [], none⟩)))) else (some ⟨Out.ret (V.bool false), [], none⟩)))))))) else (bif (a0_0 == (1 : Int)) then (bif (decide (a0_2 >= (0 : Int))) then (some ⟨Out.ret (V.bool ((a0_3.length : Int) == (0 : Int))), [], none⟩) else (some ⟨Out.ret (V.bool false), [], none⟩)) else (bif (a0_0 == (2 : Int)) then (bif (a0_2 == (0 : Int)) then (some ⟨Out.ret (V.bool ((a0_3.length : Int) == (0 : Int))), [], none⟩) else (bif (a0_2 == (1 : Int)) then (some ⟨Out.ret (V.bool ((a0_3.length : Int) == (0 : Int))), [], none⟩) else (some ⟨Out.ret (V.bool false), [], none⟩))) else (bif (a0_0 == (3 : Int)) then (some ⟨Out.ret (V.bool ((a0_3.length : Int) == (0 : Int))), [], none⟩) else (bif (a0_0 == (4 : Int)) then (some ⟨Out.ret (V.bool ((a0_3.length : Int) == (1 : Int))), [], none⟩) else (bif (a0_0 == (5 : Int)) then (bif (decide (a0_1 = (ByteArray.mk #[45]))) then (some ⟨Out.ret (V.bool ((a0_3.length : Int) == (1 : Int))), [], none⟩) else (bif (decide (a0_1 = (ByteArray.mk #[33]))) then (some ⟨Out.ret (V.bool ((a0_3.length : Int) == (1 : Int))), [], none⟩) else (some ⟨Out.ret (V.bool false), [], none⟩))) else (bif (a0_0 == (6 : Int)) then (den Sp syntax_level.id [V.str a0_1] [] none).bind (fun r14 => Res.onRet r14 (fun v15 => V.asInt v15 .i64 (fun n16 => bif (decide (n16 > (0 : Int))) then (some ⟨Out.ret (V.bool ((a0_3.length : Int) == (2 : Int))), [], none⟩) else (some ⟨Out.ret (V.bool false), [], none⟩)))) else (some ⟨Out.ret (V.bool false), [], none⟩)))))))) else (bif (a0_0 == (1 : Int)) then (bif (decide (a0_2 >= (0 : Int))) then (some ⟨Out.ret (V.bool ((a0_3.length : Int) == (0 : Int))), [], none⟩) else (some ⟨Out.ret (V.bool false), [], none⟩)) else (bif (a0_0 == (2 : Int)) then (bif (a0_2 == (0 : Int)) then (some ⟨Out.ret (V.bool ((a0_3.length : Int) == (0 : Int))), [], none⟩) else (bif (a0_2 == (1 : Int)) then (some ⟨Out.ret (V.bool ((a0_3.length : Int) == (0 : Int))), [], none⟩) else (some ⟨Out.ret (V.bool false), [], none⟩))) else (bif (a0_0 == (3 : Int)) then (some ⟨Out.ret (V.bool ((a0_3.length : Int) == (0 : Int))), [], none⟩) else (bif (a0_0 == (4 : Int)) then (some ⟨Out.ret (V.bool ((a0_3.length : Int) == (1 : Int))), [], none⟩) else (bif (a0_0 == (5 : Int)) then (bif (decide (a0_1 = (ByteArray.mk #[45]))) then (some ⟨Out.ret (V.bool ((a0_3.length : Int) == (1 : Int))), [], none⟩) else (bif (decide (a0_1 = (ByteArray.mk #[33]))) then (some ⟨Out.ret (V.bool ((a0_3.length : Int) == (1 : Int))), [], none⟩) else (some ⟨Out.ret (V.bool false), [], none⟩))) else (bif (a0_0 == (6 : Int)) then (den Sp syntax_level.id [V.str a0_1] [] none).bind (fun r14 => Res.onRet r14 (fun v15 => V.asInt v15 .i64 (fun n16 => bif (decide (n16 > (0 : Int))) then (some ⟨Out.ret (V.bool ((a0_3.length : Int) == (2 : Int))), [], none⟩) else (some ⟨Out.ret (V.bool false), [], none⟩)))) else (some ⟨Out.ret (V.bool false), [], none⟩)))))))))) := (den_eq ..).trans (by kernel_rfl)
end syntax_plain
namespace syntax_writer_put
theorem eq (m0_0 : List (List V)) (m0_1 : Bool) (m0_2 : Int) (a1 : List (List V)) : den Sp id [V.ref 0 0, V.sl .no T_string a1] [Blk.cells T_syntax_writer [V.sl (Tok.row 0) T_string m0_0, V.bool m0_1, V.int .i64 m0_2] false] none =
  (if (((List.length m0_0) + (List.length a1)) <= most) then (some ⟨Out.ret (V.tup []), [Blk.cells T_syntax_writer [V.sl (Tok.row 0) T_string (m0_0 ++ a1), V.bool m0_1, V.int .i64 m0_2] false], none⟩) else none) := (den_eq ..).trans (by kernel_rfl)
end syntax_writer_put
namespace syntax_writer_need
theorem eq (m0_0 : List (List V)) (m0_1 : Bool) (m0_2 : Int) (a1 : Bool) : den Sp id [V.ref 0 0, V.bool a1] [Blk.cells T_syntax_writer [V.sl (Tok.row 0) T_string m0_0, V.bool m0_1, V.int .i64 m0_2] false] none =
  (bif m0_1 then (some ⟨Out.ret (V.tup []), [Blk.cells T_syntax_writer [V.sl (Tok.row 0) T_string m0_0, V.bool true, V.int .i64 m0_2] false], none⟩) else (some ⟨Out.ret (V.tup []), [Blk.cells T_syntax_writer [V.sl (Tok.row 0) T_string m0_0, V.bool (!a1), V.int .i64 m0_2] false], none⟩)) := (den_eq ..).trans (by kernel_rfl)
end syntax_writer_need
namespace syntax_writer_name
theorem eq (m0_0 : List (List V)) (m0_1 : Bool) (m0_2 : Int) (a1 : ByteArray) : den Sp id [V.ref 0 0, V.str a1] [Blk.cells T_syntax_writer [V.sl (Tok.row 0) T_string m0_0, V.bool m0_1, V.int .i64 m0_2] false] none =
  (den Sp lex_IsName.id [V.str a1] [] none).bind (fun r5 => Res.onRet r5 (fun v6 => V.asBool v6 (fun b7 => (den Sp syntax_writer_need.id [V.ref 0 0, V.bool b7] [Blk.cells T_syntax_writer [V.sl (Tok.row 0) T_string m0_0, V.bool m0_1, V.int .i64 m0_2] false] none).bind (fun r8 => Blk.asCells (List.getD (Res.bl r8) 0 (Blk.cells T_n0 [] true)) T_syntax_writer 3 (fun rd9 => V.asSlR (rd9 0) 0 T_string (fun es10 => V.asBool (rd9 1) (fun b11 => V.asInt (rd9 2) .i64 (fun n12 => Res.onRet r8 (fun v13 => V.asTup v13 0 (fun rd14 => (den Sp syntax_writer_put.id [V.ref 0 0, V.sl .no T_string [[V.str a1]]] [Blk.cells T_syntax_writer [V.sl (Tok.row 0) T_string es10, V.bool b11, V.int .i64 n12] false] none).bind (fun r16 => Blk.asCells (List.getD (Res.bl r16) 0 (Blk.cells T_n0 [] true)) T_syntax_writer 3 (fun rd17 => V.asSlR (rd17 0) 0 T_string (fun es18 => V.asBool (rd17 1) (fun b19 => V.asInt (rd17 2) .i64 (fun n20 => Res.onRet r16 (fun v21 => V.asTup v21 0 (fun rd22 => some ⟨Out.ret (V.tup []), [Blk.cells T_syntax_writer [V.sl (Tok.row 0) T_string es18, V.bool b19, V.int .i64 n20] false], none⟩))))))))))))))))) := (den_eq ..).trans (by kernel_rfl)
end syntax_writer_name
namespace syntax_writer_expr
theorem eq (m0_0 : List (List V)) (m0_1 : Bool) (m0_2 a1_0 : Int) (a1_1 : ByteArray) (a1_2 : Int) (a1_3 : List (List V)) (a2 : Int) : den Sp id [V.ref 0 0, V.agg [V.int .i64 a1_0, V.str a1_1, V.int .i64 a1_2, V.sl .no T_api_Expr a1_3], V.int .i64 a2] [Blk.cells T_syntax_writer [V.sl (Tok.row 0) T_string m0_0, V.bool m0_1, V.int .i64 m0_2] false] none =
  (den Sp syntax_plain.id [V.agg [V.int .i64 a1_0, V.str a1_1, V.int .i64 a1_2, V.sl .no T_api_Expr a1_3]] [] none).bind (fun r11 => Res.onRet r11 (fun v12 => V.asBool v12 (fun b13 => (den Sp syntax_writer_need.id [V.ref 0 0, V.bool b13] [Blk.cells T_syntax_writer [V.sl (Tok.row 0) T_string m0_0, V.bool m0_1, V.int .i64 (if (a2 > m0_2) then a2 else m0_2)] false] none).bind (fun r14 => Blk.asCells (List.getD (Res.bl r14) 0 (Blk.cells T_n0 [] true)) T_syntax_writer 3 (fun rd15 => V.asSlR (rd15 0) 0 T_string (fun es16 => V.asBool (rd15 1) (fun b17 => V.asInt (rd15 2) .i64 (fun n18 => Res.onRet r14 (fun v19 => V.asTup v19 0 (fun rd20 => bif b17 then (some ⟨Out.ret (V.tup []), [Blk.cells T_syntax_writer [V.sl (Tok.row 0) T_string es16, V.bool b17, V.int .i64 n18] false], none⟩) else (bif (a1_0 == (1 : Int)) then (den Sp num_Text.id [V.int .i64 a1_2] [] none).bind (fun r25 => Res.onRet r25 (fun v26 => V.asStr v26 (fun s27 => (den Sp syntax_writer_put.id [V.ref 0 0, V.sl .no T_string [[V.str s27]]] [Blk.cells T_syntax_writer [V.sl (Tok.row 0) T_string es16, V.bool b17, V.int .i64 n18] false] none).bind (fun r28 => Blk.asCells (List.getD (Res.bl r28) 0 (Blk.cells T_n0 [] true)) T_syntax_writer 3 (fun rd29 => V.asSlR (rd29 0) 0 T_string (fun es30 => V.asBool (rd29 1) (fun b31 => V.asInt (rd29 2) .i64 (fun n32 => Res.onRet r28 (fun v33 => V.asTup v33 0 (fun rd34 => some ⟨Out.ret (V.tup []), [Blk.cells T_syntax_writer [V.sl (Tok.row 0) T_string es30, V.bool b31, V.int .i64 n32] false], none⟩)))))))))) else (bif (a1_0 == (2 : Int)) then (bif (a1_2 == (1 : Int)) then (den Sp syntax_writer_put.id [V.ref 0 0, V.sl .no T_string [[V.str (ByteArray.mk #[116, 114, 117, 101])]]] [Blk.cells T_syntax_writer [V.sl (Tok.row 0) T_string es16, V.bool b17, V.int .i64 n18] false] none).bind (fun r27 => Blk.asCells (List.getD (Res.bl r27) 0 (Blk.cells T_n0 [] true)) T_syntax_writer 3 (fun rd28 => V.asSlR (rd28 0) 0 T_string (fun es29 => V.asBool (rd28 1) (fun b30 => V.asInt (rd28 2) .i64 (fun n31 => Res.onRet r27 (fun v32 => V.asTup v32 0 (fun rd33 => some ⟨Out.ret (V.tup []), [Blk.cells T_syntax_writer [V.sl (Tok.row 0) T_string es29, V.bool b30, V.int .i64 n31] false], none⟩))))))) else (den Sp syntax_writer_put.id [V.ref 0 0, V.sl .no T_string [[V.str (ByteArray.mk #[102, 97, 108, 115, 101])]]] [Blk.cells T_syntax_writer [V.sl (Tok.row 0) T_string es16, V.bool b17, V.int .i64 n18] false] none).bind (fun r27 => Blk.asCells (List.getD (Res.bl r27) 0 (Blk.cells T_n0 [] true)) T_syntax_writer 3 (fun rd28 => V.asSlR (rd28 0) 0 T_string (fun es29 => V.asBool (rd28 1) (fun b30 => V.asInt (rd28 2) .i64 (fun n31 => Res.onRet r27 (fun v32 => V.asTup v32 0 (fun rd33 => some ⟨Out.ret (V.tup []), [Blk.cells T_syntax_writer [V.sl (Tok.row 0) T_string es29, V.bool b30, V.int .i64 n31] false], none⟩)))))))) else (bif (a1_0 == (3 : Int)) then (den Sp syntax_writer_name.id [V.ref 0 0, V.str a1_1] [Blk.cells T_syntax_writer [V.sl (Tok.row 0) T_string es16, V.bool b17, V.int .i64 n18] false] none).bind (fun r27 => Blk.asCells (List.getD (Res.bl r27) 0 (Blk.cells T_n0 [] true)) T_syntax_writer 3 (fun rd28 => V.asSlR (rd28 0) 0 T_string (fun es29 => V.asBool (rd28 1) (fun b30 => V.asInt (rd28 2) .i64 (fun n31 => Res.onRet r27 (fun v32 => V.asTup v32 0 (fun rd33 => bif (a1_0 == (4 : Int)) then (den Sp syntax_writer_put.id [V.ref 0 0, V.sl .no T_string [[V.str (ByteArray.mk #[91])]]] [Blk.cells T_syntax_writer [V.sl (Tok.row 0) T_string es29, V.bool b30, V.int .i64 n31] false] none).bind (fun r36 => Blk.asCells (List.getD (Res.bl r36) 0 (Blk.cells T_n0 [] true)) T_syntax_writer 3 (fun rd37 => V.asSlR (rd37 0) 0 T_string (fun es38 => V.asBool (rd37 1) (fun b39 => V.asInt (rd37 2) .i64 (fun n40 => Res.onRet r36 (fun v41 => V.asTup v41 0 (fun rd42 => if (((0 : Int) <= (0 : Int)) ∧ ((0 : Int) < (a1_3.length : Int))) then (V.asInt (List.getD (List.getD a1_3 0 []) 0 V.undef) .i64 (fun n44 => V.asStr (List.getD (List.getD a1_3 0 []) 1 V.undef) (fun s45 => V.asInt (List.getD (List.getD a1_3 0 []) 2 V.undef) .i64 (fun n46 => V.asSl (List.getD (List.getD a1_3 0 []) 3 V.undef) T_api_Expr (fun es47 => (den Sp syntax_writer_expr.id [V.ref 0 0, V.agg [V.int .i64 n44, V.str s45, V.int .i64 n46, V.sl .no T_api_Expr es47], V.int .i64 (IntKind.wrap .i64 (a2 + (1 : Int)))] [Blk.cells T_syntax_writer [V.sl (Tok.row 0) T_string es38, V.bool b39, V.int .i64 n40] false] none).bind (fun r48 => Blk.asCells (List.getD (Res.bl r48) 0 (Blk.cells T_n0 [] true)) T_syntax_writer 3 (fun rd49 => V.asSlR (rd49 0) 0 T_string (fun es50 => V.asBool (rd49 1) (fun b51 => V.asInt (rd49 2) .i64 (fun n52 => Res.onRet r48 (fun v53 => V.asTup v53 0 (fun rd54 => (den Sp syntax_writer_put.id [V.ref 0 0, V.sl .no T_string [[V.str (ByteArray.mk #[93])]]] [Blk.cells T_syntax_writer [V.sl (Tok.row 0) T_string es50, V.bool b51, V.int .i64 n52] false] none).bind (fun r56 => Blk.asCells (List.getD (Res.bl r56) 0 (Blk.cells T_n0 [] true)) T_syntax_writer 3 (fun rd57 => V.asSlR (rd57 0) 0 T_string (fun es58 => V.asBool (rd57 1) (fun b59 => V.asInt (rd57 2) .i64 (fun n60 => Res.onRet r56 (fun v61 => V.asTup v61 0 (fun rd62 => some ⟨Out.ret (V.tup []), [Blk.cells T_syntax_writer [V.sl (Tok.row 0) T_string es58, V.bool b59, V.int .i64 n60] false], none⟩))))))))))))))))))) else none))))))) else (some ⟨Out.ret (V.tup []), [Blk.cells T_syntax_writer [V.sl (Tok.row 0) T_string es29, V.bool b30, V.int .i64 n31] false], none⟩)))))))) else (bif (a1_0 == (4 : Int)) then (den Sp syntax_writer_name.id [V.ref 0 0, V.str a1_1] [Blk.cells T_syntax_writer [V.sl (Tok.row 0) T_string es16, V.bool b17, V.int .i64 n18] false] none).bind (fun r28 => Blk.asCells (List.getD (Res.bl r28) 0 (Blk.cells T_n0 [] true)) T_syntax_writer 3 (fun rd29 => V.asSlR (rd29 0) 0 T_string (fun es30 => V.asBool (rd29 1) (fun b31 => V.asInt (rd29 2) .i64 (fun n32 => Res.onRet r28 (fun v33 => V.asTup v33 0 (fun rd34 => bif (a1_0 == (4 : Int)) then (den Sp syntax_writer_put.id [V.ref 0 0, V.sl .no T_string [[V.str (ByteArray.mk #[91])]]] [Blk.cells T_syntax_writer [V.sl (Tok.row 0) T_string es30, V.bool b31, V.int .i64 n32] false] none).bind (fun r37 => Blk.asCells (List.getD (Res.bl r37) 0 (Blk.cells T_n0 [] true)) T_syntax_writer 3 (fun rd38 => V.asSlR (rd38 0) 0 T_string (fun es39 => V.asBool (rd38 1) (fun b40 => V.asInt (rd38 2) .i64 (fun n41 => Res.onRet r37 (fun v42 => V.asTup v42 0 (fun rd43 => if (((0 : Int) <= (0 : Int)) ∧ ((0 : Int) < (a1_3.length : Int))) then (V.asInt (List.getD (List.getD a1_3 0 []) 0 V.undef) .i64 (fun n45 => V.asStr (List.getD (List.getD a1_3 0 []) 1 V.undef) (fun s46 => V.asInt (List.getD (List.getD a1_3 0 []) 2 V.undef) .i64 (fun n47 => V.asSl (List.getD (List.getD a1_3 0 []) 3 V.undef) T_api_Expr (fun es48 => (den Sp syntax_writer_expr.id [V.ref 0 0, V.agg [V.int .i64 n45, V.str s46, V.int .i64 n47, V.sl .no T_api_Expr es48], V.int .i64 (IntKind.wrap .i64 (a2 + (1 : Int)))] [Blk.cells T_syntax_writer [V.sl (Tok.row 0) T_string es39, V.bool b40, V.int .i64 n41] false] none).bind (fun r49 => Blk.asCells (List.getD (Res.bl r49) 0 (Blk.cells T_n0 [] true)) T_syntax_writer 3 (fun rd50 => V.asSlR (rd50 0) 0 T_string (fun es51 => V.asBool (rd50 1) (fun b52 => V.asInt (rd50 2) .i64 (fun n53 => Res.onRet r49 (fun v54 => V.asTup v54 0 (fun rd55 => (den Sp syntax_writer_put.id [V.ref 0 0, V.sl .no T_string [[V.str (ByteArray.mk #[93])]]] [Blk.cells T_syntax_writer [V.sl (Tok.row 0) T_string es51, V.bool b52, V.int .i64 n53] false] none).bind (fun r57 => Blk.asCells (List.getD (Res.bl r57) 0 (Blk.cells T_n0 [] true)) T_syntax_writer 3 (fun rd58 => V.asSlR (rd58 0) 0 T_string (fun es59 => V.asBool (rd58 1) (fun b60 => V.asInt (rd58 2) .i64 (fun n61 => Res.onRet r57 (fun v62 => V.asTup v62 0 (fun rd63 => some ⟨Out.ret (V.tup []), [Blk.cells T_syntax_writer [V.sl (Tok.row 0) T_string es59, V.bool b60, V.int .i64 n61] false], none⟩))))))))))))))))))) else none))))))) else (some ⟨Out.ret (V.tup []), [Blk.cells T_syntax_writer [V.sl (Tok.row 0) T_string es30, V.bool b31, V.int .i64 n32] false], none⟩)))))))) else (bif (a1_0 == (5 : Int)) then (den Sp syntax_writer_put.id [V.ref 0 0, V.sl .no T_string [[V.str a1_1]]] [Blk.cells T_syntax_writer [V.sl (Tok.row 0) T_string es16, V.bool b17, V.int .i64 n18] false] none).bind (fun r29 => Blk.asCells (List.getD (Res.bl r29) 0 (Blk.cells T_n0 [] true)) T_syntax_writer 3 (fun rd30 => V.asSlR (rd30 0) 0 T_string (fun es31 => V.asBool (rd30 1) (fun b32 => V.asInt (rd30 2) .i64 (fun n33 => Res.onRet r29 (fun v34 => V.asTup v34 0 (fun rd35 => if (((0 : Int) <= (0 : Int)) ∧ ((0 : Int) < (a1_3.length : Int))) then (V.asInt (List.getD (List.getD a1_3 0 []) 0 V.undef) .i64 (fun n38 => V.asStr (List.getD (List.getD a1_3 0 []) 1 V.undef) (fun s39 => V.asInt (List.getD (List.getD a1_3 0 []) 2 V.undef) .i64 (fun n40 => V.asSl (List.getD (List.getD a1_3 0 []) 3 V.undef) T_api_Expr (fun es41 => (den Sp syntax_writer_operand.id [V.ref 0 0, V.agg [V.int .i64 n38, V.str s39, V.int .i64 n40, V.sl .no T_api_Expr es41], V.int .i64 (IntKind.wrap .i64 (a2 + (1 : Int)))] [Blk.cells T_syntax_writer [V.sl (Tok.row 0) T_string es31, V.bool b32, V.int .i64 (if ((IntKind.wrap .i64 (a2 + (1 : Int))) > n33) then (IntKind.wrap .i64 (a2 + (1 : Int))) else n33)] false] none).bind (fun r42 => Blk.asCells (List.getD (Res.bl r42) 0 (Blk.cells T_n0 [] true)) T_syntax_writer 3 (fun rd43 => V.asSlR (rd43 0) 0 T_string (fun es44 => V.asBool (rd43 1) (fun b45 => V.asInt (rd43 2) .i64 (fun n46 => Res.onRet r42 (fun v47 => V.asTup v47 0 (fun rd48 => some ⟨Out.ret (V.tup []), [Blk.cells T_syntax_writer [V.sl (Tok.row 0) T_string es44, V.bool b45, V.int .i64 n46] false], none⟩)))))))))))) else none))))))) else (bif (a1_0 == (6 : Int)) then (if (((0 : Int) <= (0 : Int)) ∧ ((0 : Int) < (a1_3.length : Int))) then (V.asInt (List.getD (List.getD a1_3 0 []) 0 V.undef) .i64 (fun n30 => V.asStr (List.getD (List.getD a1_3 0 []) 1 V.undef) (fun s31 => V.asInt (List.getD (List.getD a1_3 0 []) 2 V.undef) .i64 (fun n32 => V.asSl (List.getD (List.getD a1_3 0 []) 3 V.undef) T_api_Expr (fun es33 => (den Sp syntax_writer_operand.id [V.ref 0 0, V.agg [V.int .i64 n30, V.str s31, V.int .i64 n32, V.sl .no T_api_Expr es33], V.int .i64 a2] [Blk.cells T_syntax_writer [V.sl (Tok.row 0) T_string es16, V.bool b17, V.int .i64 n18] false] none).bind (fun r34 => Blk.asCells (List.getD (Res.bl r34) 0 (Blk.cells T_n0 [] true)) T_syntax_writer 3 (fun rd35 => V.asSlR (rd35 0) 0 T_string (fun es36 => V.asBool (rd35 1) (fun b37 => V.asInt (rd35 2) .i64 (fun n38 => Res.onRet r34 (fun v39 => V.asTup v39 0 (fun rd40 => (den Sp syntax_writer_put.id [V.ref 0 0, V.sl .no T_string [[V.str a1_1]]] [Blk.cells T_syntax_writer [V.sl (Tok.row 0) T_string es36, V.bool b37, V.int .i64 n38] false] none).bind (fun r42 => Blk.asCells (List.getD (Res.bl r42) 0 (Blk.cells T_n0 [] true)) T_syntax_writer 3 (fun rd43 => V.asSlR (rd43 0) 0 T_string (fun es44 => V.asBool (rd43 1) (fun b45 => V.asInt (rd43 2) .i64 (fun n46 => Res.onRet r42 (fun v47 => V.asTup v47 0 (fun rd48 => if (((0 : Int) <= (1 : Int)) ∧ ((1 : Int) < (a1_3.length : Int))) then (V.asInt (List.getD (List.getD a1_3 1 []) 0 V.undef) .i64 (fun n50 => V.asStr (List.getD (List.getD a1_3 1 []) 1 V.undef) (fun s51 => V.asInt (List.getD (List.getD a1_3 1 []) 2 V.undef) .i64 (fun n52 => V.asSl (List.getD (List.getD a1_3 1 []) 3 V.undef) T_api_Expr (fun es53 => (den Sp syntax_writer_operand.id [V.ref 0 0, V.agg [V.int .i64 n50, V.str s51, V.int .i64 n52, V.sl .no T_api_Expr es53], V.int .i64 a2] [Blk.cells T_syntax_writer [V.sl (Tok.row 0) T_string es44, V.bool b45, V.int .i64 n46] false] none).bind (fun r54 => Blk.asCells (List.getD (Res.bl r54) 0 (Blk.cells T_n0 [] true)) T_syntax_writer 3 (fun rd55 => V.asSlR (rd55 0) 0 T_string (fun es56 => V.asBool (rd55 1) (fun b57 => V.asInt (rd55 2) .i64 (fun n58 => Res.onRet r54 (fun v59 => V.asTup v59 0 (fun rd60 => some ⟨Out.ret (V.tup []), [Blk.cells T_syntax_writer [V.sl (Tok.row 0) T_string es56, V.bool b57, V.int .i64 n58] false], none⟩)))))))))))) else none))))))))))))))))))) else none) else (some ⟨Out.ret (V.tup []), [Blk.cells T_syntax_writer [V.sl (Tok.row 0) T_string es16, V.bool b17, V.int .i64 n18] false], none⟩))))))))))))))))) := (den_eq ..).trans (by kernel_rfl)
end syntax_writer_expr
namespace syntax_writer_operand
theorem eq (m0_0 : List (List V)) (m0_1 : Bool) (m0_2 a1_0 : Int) (a1_1 : ByteArray) (a1_2 : Int) (a1_3 : List (List V)) (a2 : Int) : den Sp id [V.ref 0 0, V.agg [V.int .i64 a1_0, V.str a1_1, V.int .i64 a1_2, V.sl .no T_api_Expr a1_3], V.int .i64 a2] [Blk.cells T_syntax_writer [V.sl (Tok.row 0) T_string m0_0, V.bool m0_1, V.int .i64 m0_2] false] none =
  (bif (a1_0 == (6 : Int)) then (den Sp syntax_writer_put.id [V.ref 0 0, V.sl .no T_string [[V.str (ByteArray.mk #[40])]]] [Blk.cells T_syntax_writer [V.sl (Tok.row 0) T_string m0_0, V.bool m0_1, V.int .i64 m0_2] false] none).bind (fun r11 => Blk.asCells (List.getD (Res.bl r11) 0 (Blk.cells T_n0 [] true)) T_syntax_writer 3 (fun rd12 => V.asSlR (rd12 0) 0 T_string (fun es13 => V.asBool (rd12 1) (fun b14 => V.asInt (rd12 2) .i64 (fun n15 => Res.onRet r11 (fun v16 => V.asTup v16 0 (fun rd17 => (den Sp syntax_writer_expr.id [V.ref 0 0, V.agg [V.int .i64 a1_0, V.str a1_1, V.int .i64 a1_2, V.sl .no T_api_Expr a1_3], V.int .i64 (IntKind.wrap .i64 (a2 + (1 : Int)))] [Blk.cells T_syntax_writer [V.sl (Tok.row 0) T_string es13, V.bool b14, V.int .i64 n15] false] none).bind (fun r19 => Blk.asCells (List.getD (Res.bl r19) 0 (Blk.cells T_n0 [] true)) T_syntax_writer 3 (fun rd20 => V.asSlR (rd20 0) 0 T_string (fun es21 => V.asBool (rd20 1) (fun b22 => V.asInt (rd20 2) .i64 (fun n23 => Res.onRet r19 (fun v24 => V.asTup v24 0 (fun rd25 => (den Sp syntax_writer_put.id [V.ref 0 0, V.sl .no T_string [[V.str (ByteArray.mk #[41])]]] [Blk.cells T_syntax_writer [V.sl (Tok.row 0) T_string es21, V.bool b22, V.int .i64 n23] false] none).bind (fun r27 => Blk.asCells (List.getD (Res.bl r27) 0 (Blk.cells T_n0 [] true)) T_syntax_writer 3 (fun rd28 => V.asSlR (rd28 0) 0 T_string (fun es29 => V.asBool (rd28 1) (fun b30 => V.asInt (rd28 2) .i64 (fun n31 => Res.onRet r27 (fun v32 => V.asTup v32 0 (fun rd33 => some ⟨Out.ret (V.tup []), [Blk.cells T_syntax_writer [V.sl (Tok.row 0) T_string es29, V.bool b30, V.int .i64 n31] false], none⟩))))))))))))))))))))) else (den Sp syntax_writer_expr.id [V.ref 0 0, V.agg [V.int .i64 a1_0, V.str a1_1, V.int .i64 a1_2, V.sl .no T_api_Expr a1_3], V.int .i64 a2] [Blk.cells T_syntax_writer [V.sl (Tok.row 0) T_string m0_0, V.bool m0_1, V.int .i64 m0_2] false] none).bind (fun r11 => Blk.asCells (List.getD (Res.bl r11) 0 (Blk.cells T_n0 [] true)) T_syntax_writer 3 (fun rd12 => V.asSlR (rd12 0) 0 T_string (fun es13 => V.asBool (rd12 1) (fun b14 => V.asInt (rd12 2) .i64 (fun n15 => Res.onRet r11 (fun v16 => V.asTup v16 0 (fun rd17 => some ⟨Out.ret (V.tup []), [Blk.cells T_syntax_writer [V.sl (Tok.row 0) T_string es13, V.bool b14, V.int .i64 n15] false], none⟩)))))))) := (den_eq ..).trans (by kernel_rfl)
end syntax_writer_operand
namespace syntax_writer_done
theorem eq (m0_0 : List (List V)) (m0_1 : Bool) (m0_2 : Int) : den Sp id [V.ref 0 0] [Blk.cells T_syntax_writer [V.sl (Tok.row 0) T_string m0_0, V.bool m0_1, V.int .i64 m0_2] false] none =
  (bif m0_1 then (some ⟨Out.ret (V.tup [V.str (ByteArray.mk #[]), V.int .i64 (32 : Int)]), [Blk.cells T_syntax_writer [V.sl (Tok.row 0) T_string m0_0, V.bool m0_1, V.int .i64 m0_2] false], none⟩) else (bif (decide (m0_2 > (60 : Int))) then (some ⟨Out.ret (V.tup [V.str (ByteArray.mk #[]), V.int .i64 (31 : Int)]), [Blk.cells T_syntax_writer [V.sl (Tok.row 0) T_string m0_0, V.bool m0_1, V.int .i64 m0_2] false], none⟩) else (den Sp num_Join.id [V.sl .no T_string m0_0] [] none).bind (fun r7 => Res.onRet r7 (fun v8 => V.asStr v8 (fun s9 => some ⟨Out.ret (V.tup [V.str s9, V.int .i64 (0 : Int)]), [Blk.cells T_syntax_writer [V.sl (Tok.row 0) T_string m0_0, V.bool m0_1, V.int .i64 m0_2] false], none⟩))))) := (den_eq ..).trans (by kernel_rfl)
end syntax_writer_done
namespace syntax_PrintExpr
theorem eq (a0_0 : Int) (a0_1 : ByteArray) (a0_2 : Int) (a0_3 : List (List V)) : den Sp id [V.agg [V.int .i64 a0_0, V.str a0_1, V.int .i64 a0_2, V.sl .no T_api_Expr a0_3]] [] none =
  (den Sp syntax_writer_expr.id [V.ref 0 0, V.agg [V.int .i64 a0_0, V.str a0_1, V.int .i64 a0_2, V.sl .no T_api_Expr a0_3], V.int .i64 (1 : Int)] [Blk.cells T_syntax_writer [V.sl (Tok.row 0) T_string [], V.bool false, V.int .i64 (0 : Int)] false] none).bind (fun r7 => Blk.asCells (List.getD (Res.bl r7) 0 (Blk.cells T_n0 [] true)) T_syntax_writer 3 (fun rd8 => V.asSlR (rd8 0) 0 T_string (fun es9 => V.asBool (rd8 1) (fun b10 => V.asInt (rd8 2) .i64 (fun n11 => Res.onRet r7 (fun v12 => V.asTup v12 0 (fun rd13 => (den Sp syntax_writer_done.id [V.ref 0 0] [Blk.cells T_syntax_writer [V.sl (Tok.row 0) T_string es9, V.bool b10, V.int .i64 n11] false] none).bind (fun r15 => Blk.asCells (List.getD (Res.bl r15) 0 (Blk.cells T_n0 [] true)) T_syntax_writer 3 (fun rd16 => V.asSlR (rd16 0) 0 T_string (fun es17 => V.asBool (rd16 1) (fun b18 => V.asInt (rd16 2) .i64 (fun n19 => Res.onRet r15 (fun v20 => V.asTup v20 2 (fun rd21 => V.asStr (rd21 0) (fun s22 => V.asInt (rd21 1) .i64 (fun n23 => some ⟨Out.ret (V.tup [V.str s22, V.int .i64 n23]), [], none⟩)))))))))))))))) := (den_eq ..).trans (by kernel_rfl)
end syntax_PrintExpr
end Go.Proofs.YtennkhdlpbggkaaDoor
namespace Go.Proofs.YtennkhdlpbggkaaDoor
open Go Go.Proofs.Ab Go.Proofs.Px
theorem level_is (s : List UInt8) : den Sp syntax_level.id [.str (B s)] [] none = some ⟨.ret (.int .i64 (levelP s)), [], none⟩ := by
 rw [syntax_level.eq]
 unfold levelP
 by_cases h1 : s = [124, 124]
 ·subst h1; rfl
 by_cases h2 : s = [38, 38]
 ·subst h2; rfl
 by_cases h3 : s = [61, 61]
 ·subst h3; rfl
 by_cases h4 : s = [33, 61]
 ·subst h4; rfl
 by_cases h5 : s = [60]
 ·subst h5; rfl
 by_cases h6 : s = [60, 61]
 ·subst h6; rfl
 by_cases h7 : s = [43]
 ·subst h7; rfl
 by_cases h8 : s = [45]
 ·subst h8; rfl
 by_cases h9 : s = [42]
 ·subst h9; rfl
 by_cases h10 : s = [47]
 ·subst h10; rfl
 by_cases h11 : s = [37]
 ·subst h11; rfl
 simp [h1, h2, h3, h4, h5, h6, h7, h8, h9, h10, h11]
theorem plain_is (k : Int) (n : List UInt8) (m : Int) (l : List Ex) : den Sp syntax_plain.id [.agg (Ex.v (.mk k n m l))] [] none = some ⟨.ret (.bool (plainK k n m l.length)), [], none⟩ := by
 rw [Ex.v_mk, syntax_plain.eq, level_is, List.length_map]
 unfold plainK
 by_cases h1 : k = 1
 ·subst h1
  by_cases c1 : n = [] <;> by_cases c2 : 0 <= m <;> simp [c1, c2] <;> omega
 by_cases h2 : k = 2
 ·subst h2
  by_cases c1 : n = [] <;> by_cases c2 : m = 0 <;> by_cases c3 : m = 1 <;> simp [c1, c2, c3] <;> omega
 by_cases h3 : k = 3
 ·subst h3
  by_cases c1 : n = [] <;> by_cases c2 : m = 0 <;> simp [c1, c2] <;> omega
 by_cases h4 : k = 4
 ·subst h4
  by_cases c1 : n = [] <;> by_cases c2 : m = 0 <;> simp [c1, c2] <;> omega
 by_cases h5 : k = 5
 ·subst h5
  by_cases c1 : n = []
  ·subst c1; simp
  ·by_cases c2 : m = 0 <;> by_cases c3 : n = [45] <;> by_cases c4 : n = [33] <;> simp [c1, c2, c3, c4] <;> omega
 by_cases h6 : k = 6
 ·subst h6
  by_cases c1 : n = []
  ·subst c1; simp [levelP]
  ·by_cases c2 : m = 0 <;> by_cases c3 : 0 < levelP n <;> simp [c1, c2, c3] <;> omega
 by_cases c1 : n = [] <;> by_cases c2 : m = 0 <;> simp [h1, h2, h3, h4, h5, h6, c1, c2]
def wB (ws : List (List UInt8)) (b : Bool) (d : Int) : Blk := .cells T_syntax_writer [.sl (.row 0) T_string (sv ws), .bool b, .int .i64 d] false
theorem sv_append (a b : List (List UInt8)) : sv a ++ sv b = sv (a ++ b) := by simp [sv]
theorem put_is (ws l : List (List UInt8)) (b : Bool) (d : Int) (h : ws.length + l.length <= 1099511627776) : den Sp syntax_writer_put.id [.ref 0 0, .sl .no T_string (sv l)] [wB ws b d] none = some ⟨.ret (.tup []), [wB (ws ++ l) b d], none⟩ := by
 unfold wB
 rw [syntax_writer_put.eq, sv_len, sv_len, most_if h, sv_append]
theorem need_is (ws : List (List UInt8)) (b ok : Bool) (d : Int) : den Sp syntax_writer_need.id [.ref 0 0, .bool ok] [wB ws b d] none = some ⟨.ret (.tup []), [wB ws (b || !ok) d], none⟩ := by
 unfold wB
 rw [syntax_writer_need.eq]
 cases b <;> rfl
theorem wname_is (ws : List (List UInt8)) (n : List UInt8) (b : Bool) (d : Int) (hn : n.length <= 140737488351232) (h : ws.length + 1 <= 1099511627776) :
  den Sp syntax_writer_name.id [.ref 0 0, .str (B n)] [wB ws b d] none = some ⟨.ret (.tup []), [wB (ws ++ [n]) (b || !isName (B n)) d], none⟩ := by
 have e1 := need_is ws b (isName (B n)) d
 have e2 := put_is ws [n] (b || !isName (B n)) d (by simpa using h)
 unfold wB at *
 rw [syntax_writer_name.eq, lex_IsName_is _ (by rw [B_size]; omega)]
 simp [e1]
 rw [show ([[V.str (B n)]] : List (List V)) = sv [n] from rfl, e2]
 simp
def WrE (f : Nat) (x : Ex) (w : List (List UInt8)) (h : Int) (c : Nat) (e : Int) : Prop :=
 ∀ (ws : List (List UInt8)) (b : Bool) (d t : Int), 0 <= t -> t + 4 * (x.size : Int) + e <= 1099511627776 -> ws.length + c <= 1099511627776 ->
  ∃ (ws' : List (List UInt8)) (b' : Bool) (d' : Int), den Sp f [.ref 0 0, .agg x.v, .int .i64 t] [wB ws b d] none = some ⟨.ret (.tup []), [wB ws' b' d'], none⟩ ∧
   ws'.length <= ws.length + c ∧ b' = (b || !okX x) ∧ (b' = false -> ws' = ws ++ w ∧ d' = max d (t + h))
theorem operand_of (x : Ex) (hE : WrE syntax_writer_expr.id x (exW x) (hX x) (8 * x.size) 0) : WrE syntax_writer_operand.id x (sideW x.kind (exW x)) (sideH x.kind (hX x)) (8 * x.size + 2) 1 := by
 intro ws b d t ht ht2 hl
 have hp := Ex.size_pos x
 by_cases hk : x.kind = 6
 ·obtain ⟨ws1, b1, d1, e1, f1, f2, f3⟩ := hE (ws ++ [[40]]) b d (t + 1) (by omega) (by omega) (by simp; omega)
  have p1 : den Sp syntax_writer_put.id [.ref 0 0, .sl .no T_string [[.str (B [40])]]] [wB ws b d] none = _ := put_is ws [[40]] b d (by simp; omega)
  have p2 : den Sp syntax_writer_put.id [.ref 0 0, .sl .no T_string [[.str (B [41])]]] [wB ws1 b1 d1] none = _ := put_is ws1 [[41]] b1 d1 (by simp at f1 ⊢; omega)
  have w1 : IntKind.wrap .i64 (t + 1) = t + 1 := wrap_in (by omega) (by omega)
  refine ⟨ws1 ++ [[41]], b1, d1, ?_, by simp at f1 ⊢; omega, f2, fun h => ?_⟩
  ·unfold wB at *
   have e0 := Ex.v_is x
   rw [e0, syntax_writer_operand.eq, <- e0]
   simp [hk, p1, w1, e1, p2]
  ·obtain ⟨g1, g2⟩ := f3 h
   refine ⟨by rw [g1]; simp [sideW, hk], by rw [g2]; unfold sideH; rw [if_pos hk]; omega⟩
 ·obtain ⟨ws1, b1, d1, e1, f1, f2, f3⟩ := hE ws b d t ht (by omega) (by omega)
  refine ⟨ws1, b1, d1, ?_, by omega, f2, fun h => ?_⟩
  ·unfold wB at *
   have e0 := Ex.v_is x
   rw [e0, syntax_writer_operand.eq, <- e0]
   simp [hk, e1]
  ·obtain ⟨g1, g2⟩ := f3 h
   refine ⟨by rw [g1]; simp [sideW, hk], by rw [g2]; unfold sideH; rw [if_neg hk]⟩
theorem wexpr_is : ∀ x : Ex, ExOk x -> WrE syntax_writer_expr.id x (exW x) (hX x) (8 * x.size) 0 := by
 refine Ex.ind fun k n m l ih ho => ?_
 intro ws b d t ht ht2 hl
 obtain ⟨ok, on, om, ol, oh⟩ := ho.inv
 rw [Ex.size] at ht2 hl ⊢
 have e1 := plain_is k n m l
 have e2 := need_is ws b (plainK k n m l.length) (if t > d then t else d)
 rw [Ex.v_mk] at e1 ⊢
 rw [exW, hX, okX]
 cases hb : (b || !plainK k n m l.length) with
 | true =>
  refine ⟨ws, true, if t > d then t else d, ?_, by omega, ?_, nofun⟩
  ·unfold wB at *
   rw [syntax_writer_expr.eq]
   simp [e1, e2, hb]
  ·cases b <;> simp at hb ⊢
   simp [hb]
 | false =>
  obtain ⟨rfl, hp⟩ : b = false ∧ plainK k n m l.length = true := by
   cases b <;> simp at hb ⊢
   exact hb
  rw [hp] at e1 e2
  simp only [Bool.not_true, Bool.or_false, hp, Bool.true_and, Bool.false_or] at e2 ⊢
  have hm64 := om
  generalize hD : (if t > d then t else d) = D at e2
  have hD2 : D = max d t := by rw [<- hD]; split <;> omega
  have w1 : IntKind.wrap .i64 (t + 1) = t + 1 := wrap_in (by omega) (by omega)
  unfold wK hK
  rcases plain_forms hp with ⟨rfl, rfl, hm, rfl⟩ | ⟨rfl, rfl, hm, rfl⟩ | ⟨rfl, hn, rfl, rfl⟩ | ⟨rfl, hn, rfl, x, rfl⟩ | ⟨rfl, hn, rfl, x, rfl⟩ | ⟨rfl, hn, rfl, x, y, rfl⟩ <;> simp only [List.map_nil, List.map_cons] at e1 ⊢
  ·have p1 : den Sp syntax_writer_put.id [.ref 0 0, .sl .no T_string [[.str (B (decs m))]]] [wB ws false D] none = _ := put_is ws [decs m] false D (by simp; omega)
   obtain ⟨m1, m2⟩ := i64_bounds om
   refine ⟨ws ++ [decs m], false, D, ?_, by simp; omega, by simp [namedK, okXs], fun _ => ⟨by simp, by simp; omega⟩⟩
   unfold wB at *
   rw [syntax_writer_expr.eq]
   simp [e1, e2, hD, num_Text_is m m1 m2, p1]
  ·have p1 : den Sp syntax_writer_put.id [.ref 0 0, .sl .no T_string [[.str (B [116, 114, 117, 101])]]] [wB ws false D] none = _ := put_is ws [[116, 114, 117, 101]] false D (by simp; omega)
   have p2 : den Sp syntax_writer_put.id [.ref 0 0, .sl .no T_string [[.str (B [102, 97, 108, 115, 101])]]] [wB ws false D] none = _ := put_is ws [[102, 97, 108, 115, 101]] false D (by simp; omega)
   by_cases c : m = 1
   ·subst c
    refine ⟨ws ++ [[116, 114, 117, 101]], false, D, ?_, by simp; omega, by simp [namedK, okXs], fun _ => ⟨by simp, by simp; omega⟩⟩
    unfold wB at *
    rw [syntax_writer_expr.eq]
    simp [e1, e2, hD, p1]
   ·refine ⟨ws ++ [[102, 97, 108, 115, 101]], false, D, ?_, by simp; omega, by simp [namedK, okXs], fun _ => ⟨by simp [c], by simp; omega⟩⟩
    unfold wB at *
    rw [syntax_writer_expr.eq]
    simp [e1, e2, hD, c, p2]
  ·have p1 := wname_is ws n false D on (by omega)
   refine ⟨ws ++ [n], !isName (B n), D, ?_, by simp; omega, by simp [namedK, okXs], fun _ => ⟨by simp, by simp; omega⟩⟩
   unfold wB at *
   rw [syntax_writer_expr.eq]
   simp [e1, e2, hD, p1]
  ·have hsx : Ex.sizes [x] = x.size := by simp [Ex.sizes]
   have p1 := wname_is ws n false D on (by omega)
   rw [Bool.false_or] at p1
   have p2 : den Sp syntax_writer_put.id [.ref 0 0, .sl .no T_string [[.str (B [91])]]] [wB (ws ++ [n]) (!isName (B n)) D] none = _ := put_is (ws ++ [n]) [[91]] (!isName (B n)) D (by simp; omega)
   obtain ⟨ws1, b1, d1, q1, q2, q3, q4⟩ := ih x (by simp) (oh x (by simp)) (ws ++ [n, [91]]) (!isName (B n)) D (t + 1) (by omega) (by omega) (by simp; omega)
   have p3 : den Sp syntax_writer_put.id [.ref 0 0, .sl .no T_string [[.str (B [93])]]] [wB ws1 b1 d1] none = _ := put_is ws1 [[93]] b1 d1 (by simp at q2 ⊢; omega)
   refine ⟨ws1 ++ [[93]], b1, d1, ?_, by simp at q2 ⊢; omega, by rw [q3]; simp [namedK, okXs], fun h => ?_⟩
   ·unfold wB at *
    rw [syntax_writer_expr.eq]
    simp [e1, e2, hD, p1, p2, w1, q1, p3]
   ·obtain ⟨g1, g2⟩ := q4 h
    have ho : okX x = true := by
     rw [q3] at h
     cases c : okX x with
     | true => rfl
     | false => simp [c] at h
    obtain ⟨_, h0, _⟩ := okX_weigh x ho
    refine ⟨by rw [g1]; simp [exWs], ?_⟩
    rw [g2]; simp [hXs]; omega
  ·have hsx : Ex.sizes [x] = x.size := by simp [Ex.sizes]
   have p1 : den Sp syntax_writer_put.id [.ref 0 0, .sl .no T_string [[.str (B n)]]] [wB ws false D] none = _ := put_is ws [n] false D (by simp; omega)
   obtain ⟨ws1, b1, d1, q1, q2, q3, q4⟩ := operand_of x (ih x (by simp) (oh x (by simp))) (ws ++ [n]) false (if t + 1 > D then t + 1 else D) (t + 1) (by omega) (by omega) (by simp; omega)
   refine ⟨ws1, b1, d1, ?_, by simp at q2 ⊢; omega, by rw [q3]; simp [namedK, okXs], fun h => ?_⟩
   ·unfold wB at *
    rw [syntax_writer_expr.eq]
    simp [e1, e2, hD, p1, w1, q1]
   ·obtain ⟨g1, g2⟩ := q4 h
    have ho : okX x = true := by
     rw [q3] at h
     cases c : okX x with
     | true => rfl
     | false => simp [c] at h
    obtain ⟨_, h0, _⟩ := okX_weigh x ho
    refine ⟨by rw [g1]; simp [exWs], ?_⟩
    rw [g2]; simp [hXs]
    unfold sideH
    split <;> split <;> omega
  ·have hsx : Ex.sizes [x, y] = x.size + y.size := by simp [Ex.sizes]
   have p2 : ∀ (ws : List (List UInt8)) (b : Bool) (d : Int), ws.length + 1 <= 1099511627776 -> den Sp syntax_writer_put.id [.ref 0 0, .sl .no T_string [[.str (B n)]]] [wB ws b d] none = some ⟨.ret (.tup []), [wB (ws ++ [n]) b d], none⟩ := fun ws b d h => put_is ws [n] b d (by simpa using h)
   obtain ⟨ws1, b1, d1, q1, q2, q3, q4⟩ := operand_of x (ih x (by simp) (oh x (by simp))) ws false D t (by omega) (by omega) (by omega)
   have p3 := p2 ws1 b1 d1 (by omega)
   obtain ⟨ws2, b2, d2, r1, r2, r3, r4⟩ := operand_of y (ih y (by simp) (oh y (by simp))) (ws1 ++ [n]) b1 d1 t (by omega) (by omega) (by simp; omega)
   refine ⟨ws2, b2, d2, ?_, by simp at r2 ⊢; omega, by rw [r3, q3]; simp [namedK, okXs], fun h => ?_⟩
   ·unfold wB at *
    rw [syntax_writer_expr.eq]
    simp [e1, e2, hD, q1, p3, r1]
   ·obtain ⟨g1, g2⟩ := r4 h
    have h1 : b1 = false := by
     rw [r3] at h
     cases b1 <;> simp at h ⊢
    obtain ⟨g3, g4⟩ := q4 h1
    have ho : okX x = true := by
     rw [q3] at h1
     cases c : okX x with
     | true => rfl
     | false => simp [c] at h1
    obtain ⟨_, h0, _⟩ := okX_weigh x ho
    refine ⟨by rw [g1, g3]; simp [exWs], ?_⟩
    rw [g2, g4]; simp [hXs]
    unfold sideH
    split <;> split <;> omega
theorem done_is (ws : List (List UInt8)) (b : Bool) (d : Int) (hl : ws.length < 4611686018427387904) (hw : b = false -> ¬ 60 < d -> weighW ws <= 1099511627776) : den Sp syntax_writer_done.id [.ref 0 0] [wB ws b d] none =
  some ⟨.ret (if b then .tup [.str (B []), .int .i64 32] else if 60 < d then .tup [.str (B []), .int .i64 31] else .tup [.str (B (joinL ws)), .int .i64 0]), [wB ws b d], none⟩ := by
 unfold wB
 rw [syntax_writer_done.eq]
 cases b with
 | true => rfl
 | false =>
  by_cases c : 60 < d
  ·simp [c]
  ·simp [c, num_Join_is ws hl (hw rfl c)]
theorem syntax_PrintExpr_is (x : Ex) (ho : ExOk x) (hs : x.size <= 1000000) : den Sp syntax_PrintExpr.id [.agg x.v] [] none = some ⟨.ret (.tup [.str (B (prX x).1), .int .i64 (prX x).2]), [], none⟩ := by
 obtain ⟨ws, b, d, e1, e2, e3, e4⟩ := wexpr_is x ho [] false 0 1 (by omega) (by omega) (by simp; omega)
 have hw : b = false -> ¬ 60 < d -> weighW ws <= 1099511627776 := by
  intro hb _
  rw [(e4 hb).1]
  have ok : okX x = true := by
   rw [e3] at hb
   cases c : okX x with
   | true => rfl
   | false => simp [c] at hb
  have := (okX_weigh x ok).1
  simp; omega
 have e5 := done_is ws b d (by simp at e2; omega) hw
 have e1 : den Sp syntax_writer_expr.id [.ref 0 0, .agg x.v, .int .i64 1] [.cells T_syntax_writer [.sl (.row 0) T_string [], .bool false, .int .i64 0] false] none = _ := e1
 unfold wB at *
 have e0 := Ex.v_is x
 rw [e0, syntax_PrintExpr.eq, <- e0]
 unfold prX
 cases ok : okX x with
 | true =>
  simp only [ok, Bool.not_true, Bool.or_false] at e3
  subst e3
  obtain ⟨g1, g2⟩ := e4 rfl
  have h0 := (okX_weigh x ok).2.1
  have g3 : d = 1 + hX x := by omega
  subst g3
  rw [List.nil_append] at g1
  subst g1
  by_cases c : 60 < 1 + hX x <;> simp [e1, e5, c]
 | false =>
  simp only [ok, Bool.not_false, Bool.or_true] at e3
  subst e3
  simp [e1, e5]
def bOp (h : Nat) : List UInt8 := match h with | 0 => [40, 32] | 1 => [45, 32] | 2 => [33, 32] | 3 => [97, 32, 91, 32] | _ => [49, 32, 43, 32, 40, 32]
def bSh (h : Nat) : List UInt8 := match h with | 0 => [32, 41] | 1 => [] | 2 => [] | 3 => [32, 93] | _ => [32, 41]
def bT (h : Nat) : Nat -> List UInt8
 | 0 => [48]
 | n + 1 => bOp h ++ bT h n ++ bSh h
theorem good_J {n : Int} (h : n = 0 ∨ n = 1) : GoodT (tJ n) := by
 rcases h with rfl | rfl <;> exact ⟨by decide, ⟨by decide, by decide, by decide, by decide⟩⟩
theorem dT_good (h n : Nat) : ∀ t ∈ dT h n, GoodT t := by
 have g1 : ∀ t ∈ dOp h, GoodT t := by
  match h with
  | 0 => intro t ht; rw [List.mem_singleton.1 ht]; exact good_S (by decide) (by decide)
  | 1 => intro t ht; rw [List.mem_singleton.1 ht]; exact good_S (by decide) (by decide)
  | 2 => intro t ht; rw [List.mem_singleton.1 ht]; exact good_S (by decide) (by decide)
  | 3 =>
   intro t ht
   have ht : t = tN [97] ∨ t = tS [91] := by simpa [dOp] using ht
   rcases ht with rfl | rfl
   ·exact good_N (by decide)
   ·exact good_S (by decide) (by decide)
  | _ + 4 =>
   intro t ht
   have ht : t = tJ 1 ∨ t = tS [43] ∨ t = tS [40] := by simpa [dOp] using ht
   rcases ht with rfl | rfl | rfl
   ·exact good_J (.inr rfl)
   ·exact good_S (by decide) (by decide)
   ·exact good_S (by decide) (by decide)
 have g2 : ∀ t ∈ dSh h, GoodT t := by
  match h with
  | 0 => intro t ht; rw [List.mem_singleton.1 ht]; exact good_S (by decide) (by decide)
  | 1 => intro t ht; cases ht
  | 2 => intro t ht; cases ht
  | 3 => intro t ht; rw [List.mem_singleton.1 ht]; exact good_S (by decide) (by decide)
  | _ + 4 => intro t ht; rw [List.mem_singleton.1 ht]; exact good_S (by decide) (by decide)
 induction n with
 | zero => intro t ht; rw [List.mem_singleton.1 ht]; exact good_J (.inl rfl)
 | succ n ih =>
  intro t ht
  rw [dT, List.mem_append, List.mem_append] at ht
  rcases ht with ht | ht | ht
  ·exact g1 t ht
  ·exact ih t ht
  ·exact g2 t ht
theorem dT_ne (h n : Nat) : (dT h n).map wrT ≠ [] := by
 have := dT_pos h n
 intro e
 rw [List.map_eq_nil_iff] at e
 rw [e] at this; cases this
theorem dT_text (h n : Nat) : joinL ((dT h n).map wrT) = bT h n := by
 induction n with
 | zero => rfl
 | succ n ih =>
  have hne := dT_ne h n
  rw [dT, List.map_append, List.map_append, bT]
  have a1 : (dOp h).map wrT ≠ [] := by
   match h with
   | 0 => nofun
   | 1 => nofun
   | 2 => nofun
   | 3 => nofun
   | _ + 4 => nofun
  have a2 : joinL ((dOp h).map wrT) ++ [32] = bOp h := by
   match h with
   | 0 => rfl
   | 1 => rfl
   | 2 => rfl
   | 3 => rfl
   | _ + 4 => rfl
  by_cases c : dSh h = []
  ·rw [c, List.map_nil, List.append_nil, joinL_app _ a1 hne, ih]
   have : bSh h = [] := by
    match h, c with
    | 0, c => exact absurd (show [tS [41]] = [] from c) (by simp)
    | 1, _ => rfl
    | 2, _ => rfl
    | 3, c => exact absurd (show [tS [93]] = [] from c) (by simp)
    | _ + 4, c => exact absurd (show [tS [41]] = [] from c) (by simp)
   rw [this, List.append_nil, <- a2]; simp
  ·have a3 : 32 :: joinL ((dSh h).map wrT) = bSh h := by
    match h, c with
    | 0, _ => rfl
    | 1, c => exact absurd rfl c
    | 2, c => exact absurd rfl c
    | 3, _ => rfl
    | _ + 4, _ => rfl
   have a4 : (dSh h).map wrT ≠ [] := by simpa using c
   rw [joinL_app _ a1 (by simp [hne]), joinL_app _ hne a4, ih, <- a2, <- a3]; simp
theorem bT_len (h n : Nat) : (bT h n).length <= 1 + 8 * n := by
 induction n with
 | zero => exact Nat.le_refl _
 | succ n ih =>
  rw [bT, List.length_append, List.length_append]
  have : (bOp h).length + (bSh h).length <= 8 := by
   match h with
   | 0 => decide
   | 1 => decide
   | 2 => decide
   | 3 => decide
   | _ + 4 => exact Nat.le_refl 8
  omega
theorem dT_len (h n : Nat) : (dT h n).length <= 1 + 4 * n := by
 induction n with
 | zero => exact Nat.le_refl _
 | succ n ih =>
  rw [dT, List.length_append, List.length_append]
  have : (dOp h).length + (dSh h).length <= 4 := by
   match h with
   | 0 => decide
   | 1 => decide
   | 2 => decide
   | 3 => decide
   | _ + 4 => exact Nat.le_refl 4
  omega
theorem laid_get (N : Nat) : ∀ (ts : List Tk) (i : Nat) (h : i < ts.length), tk (laid N ts) i = ⟨ts[i].kind, ts[i].text, ts[i].num, ((N - (joinL ((ts.drop i).map wrT)).length : Nat) : Int)⟩
 | [], i, h => by cases h
 | t :: ts, 0, h => rfl
 | t :: ts, i + 1, h => by
  have := laid_get N ts i (by simpa using h)
  simp only [List.getElem_cons_succ, List.drop_succ_cons]
  rw [<- this]; rfl
theorem laid_last (N : Nat) : ∀ ts : List Tk, tk (laid N ts) ts.length = ⟨0, [], 0, (N : Int)⟩
 | [] => rfl
 | t :: ts => by
  have := laid_last N ts
  rw [<- this]; rfl
theorem laid_seg (N : Nat) (ts : List Tk) : Seg (laid N ts) 0 ts := fun i h => by
 rw [Nat.zero_add, laid_length, laid_get N ts i h]
 exact ⟨by omega, rfl, rfl, rfl⟩
def reps {α : Type} (a : List α) : Nat -> List α
 | 0 => []
 | m + 1 => a ++ reps a m
theorem reps_length {α : Type} (a : List α) : ∀ m, (reps a m).length = m * a.length
 | 0 => by simp [reps]
 | m + 1 => by rw [reps, List.length_append, reps_length a m, Nat.add_mul]; omega
theorem dT_split (h : Nat) : ∀ (m n : Nat), m <= n -> ∃ tl, tl ≠ [] ∧ dT h n = reps (dOp h) m ++ tl
 | 0, n, _ => ⟨dT h n, (fun e => by have := dT_pos h n; rw [e] at this; cases this), rfl⟩
 | m + 1, 0, hm => by omega
 | m + 1, n + 1, hm => by
  obtain ⟨tl, h1, h2⟩ := dT_split h m n (by omega)
  refine ⟨tl ++ dSh h, by simp [h1], ?_⟩
  rw [dT, h2, reps]; simp
theorem reps_join (h : Nat) {tl : List Tk} (ht : tl ≠ []) : ∀ m, (joinL ((reps (dOp h) m ++ tl).map wrT)).length = m * (bOp h).length + (joinL (tl.map wrT)).length
 | 0 => by simp [reps]
 | m + 1 => by
  have a1 : (dOp h).map wrT ≠ [] := by
   match h with
   | 0 => nofun
   | 1 => nofun
   | 2 => nofun
   | 3 => nofun
   | _ + 4 => nofun
  have a2 : (joinL ((dOp h).map wrT)).length + 1 = (bOp h).length := by
   match h with
   | 0 => rfl
   | 1 => rfl
   | 2 => rfl
   | 3 => rfl
   | _ + 4 => rfl
  have ih := reps_join h ht m
  rw [reps, List.append_assoc, List.map_append, joinL_app _ a1 (by simp [ht]), List.length_append, List.length_cons, ih, Nat.add_mul]
  omega
theorem exprS_deep (h n : Nat) (hn : n <= 90) : exprS (bT h n) = if n + 1 <= 60 then (dX h n, 0, 0) else (zeroX, ((60 * (bOp h).length : Nat) : Int), 31) := by
 have hg := dT_good h n
 have hl := bT_len h n
 have hd := dT_len h n
 have hs : scan (bT h n) = (laid (bT h n).length (dT h n), 0, 0) := by
  have := scan_laid (ts := dT h n) hg (by rw [dT_text]; omega) (by omega)
  rw [dT_text] at this
  exact this
 have hp := dT_pos h n
 have hlen := laid_length (bT h n).length (dT h n)
 have hlast := laid_last (bT h n).length (dT h n)
 have hT := (deep_one h n (laid (bT h n).length (dT h n)) 1 0 (by decide) (laid_seg _ _) (by omega)).2 (by rw [Nat.zero_add, hlast]; rfl)
 have ho := seg_opens (laid_seg (bT h n).length (dT h n)) (dT_opens h n)
 unfold exprS
 rw [hs]
 simp only
 rw [if_neg (by simp), part_ok ho (by decide), hT]
 unfold dRes
 by_cases c : n + 1 <= 60
 ·rw [if_pos (by omega), if_pos c]
  simp only
  rw [Nat.zero_add, hlast, if_pos rfl]
 ·rw [if_neg (by omega), if_neg c]
  simp only
  obtain ⟨tl, t1, t2⟩ := dT_split h 60 n (by omega)
  have hi : 60 * (dOp h).length < (dT h n).length := by
   rw [t2, List.length_append, reps_length]
   have := List.length_pos_iff.2 t1
   omega
  have e : 0 + (61 - (1 : Int)).toNat * (dOp h).length = 60 * (dOp h).length := by rw [Nat.zero_add]; rfl
  rw [e, laid_get _ _ _ hi]
  simp only
  have hN : (bT h n).length = 60 * (bOp h).length + (joinL (tl.map wrT)).length := by rw [<- dT_text, t2, reps_join h t1]
  have hdr : (dT h n).drop (60 * (dOp h).length) = tl := by
   rw [t2, List.drop_append_of_le_length (by rw [reps_length]; exact Nat.le_refl _), <- reps_length (dOp h) 60, List.drop_length, List.nil_append]
  rw [hdr, hN, Nat.add_sub_cancel]
theorem dX_0 (h : Nat) : dX h 0 = .mk 1 [] 0 [] := rfl
theorem dX_4 (h n : Nat) : dX (h + 4) (n + 1) = .mk 6 [43] 0 [.mk 1 [] 1 [], dX (h + 4) n] := rfl
theorem num_ok (m : Int) (h : m = 0 ∨ m = 1) : okX (.mk 1 [] m []) = true ∧ hX (.mk 1 [] m []) = 0 ∧ ExOk (.mk 1 [] m []) := by
 rcases h with rfl | rfl <;> exact ⟨by decide, by decide, .mk (by decide) (by decide) (by decide) (by decide) (fun _ h => by cases h)⟩
theorem okX_un (s : List UInt8) (x : Ex) (hs : s = [45] ∨ s = [33]) (h : okX x = true) : okX (.mk 5 s 0 [x]) = true := by
 rw [okX, okXs, h, okXs]
 rcases hs with rfl | rfl <;> rfl
theorem okX_ix (x : Ex) (h : okX x = true) : okX (.mk 4 [97] 0 [x]) = true := by
 rw [okX, okXs, h, okXs]
 show (plainK 4 [97] 0 1 && namedK 4 [97] && (true && true)) = true
 decide
theorem okX_sum (x : Ex) (h : okX x = true) : okX (.mk 6 [43] 0 [.mk 1 [] 1 [], x]) = true := by
 rw [okX, okXs, okXs, h, okXs, (num_ok 1 (.inr rfl)).1]
 show (plainK 6 [43] 0 2 && namedK 6 [43] && (true && (true && true))) = true
 decide
theorem dX_ok (h n : Nat) : okX (dX h n) = true := by
 induction n with
 | zero => exact (num_ok 0 (.inl rfl)).1
 | succ n ih =>
  match h with
  | 0 => exact ih
  | 1 => exact okX_un _ _ (.inl rfl) ih
  | 2 => exact okX_un _ _ (.inr rfl) ih
  | 3 => exact okX_ix _ ih
  | _ + 4 => exact okX_sum _ ih
theorem dX_in (h n : Nat) : ExOk (dX h n) := by
 have one : ∀ (k : Int) (s : List UInt8) (x : Ex), (Lit.int .i64 k).wf = true -> s.length <= 140737488351232 -> ExOk x -> ExOk (.mk k s 0 [x]) := fun k s x h1 h2 h3 => .mk h1 h2 (by decide) (by simp) (fun y hy => by rw [List.mem_singleton.1 hy]; exact h3)
 induction n with
 | zero => exact (num_ok 0 (.inl rfl)).2.2
 | succ n ih =>
  match h with
  | 0 => exact ih
  | 1 => exact one 5 [45] _ (by decide) (by decide) ih
  | 2 => exact one 5 [33] _ (by decide) (by decide) ih
  | 3 => exact one 4 [97] _ (by decide) (by decide) ih
  | h + 4 => exact .mk (by decide) (by decide) (by decide) (by simp) (fun y hy => by
    have hy : y = .mk 1 [] 1 [] ∨ y = dX (h + 4) n := by simpa using hy
    rcases hy with rfl | rfl
    ·exact (num_ok 1 (.inr rfl)).2.2
    ·exact ih)
theorem dX_size (h n : Nat) : (dX h n).size <= 1 + 2 * n := by
 induction n with
 | zero => exact Nat.le_refl _
 | succ n ih =>
  match h with
  | 0 => exact Nat.le_trans ih (by omega)
  | 1 => rw [dX]; simp [Ex.size, Ex.sizes]; omega
  | 2 => rw [dX]; simp [Ex.size, Ex.sizes]; omega
  | 3 => rw [dX]; simp [Ex.size, Ex.sizes]; omega
  | h + 4 => rw [dX_4]; simp [Ex.size, Ex.sizes]; omega
theorem dX_kind (h n : Nat) (hh : h < 4) : (dX h n).kind ≠ 6 := by
 induction n with
 | zero => exact (by decide : (1 : Int) ≠ 6)
 | succ n ih =>
  match h with
  | 0 => exact ih
  | 1 => exact (by decide : (5 : Int) ≠ 6)
  | 2 => exact (by decide : (5 : Int) ≠ 6)
  | 3 => exact (by decide : (4 : Int) ≠ 6)
theorem dX_hX (h n : Nat) : 0 <= hX (dX h n) ∧ hX (dX h n) + (if (dX h n).kind = 6 then 1 else 0) <= n := by
 induction n with
 | zero => rw [dX_0]; exact ⟨by decide, by decide⟩
 | succ n ih =>
  have un : ∀ (s : List UInt8), (dX h n).kind ≠ 6 -> 0 <= hX (.mk 5 s 0 [dX h n]) ∧ hX (.mk 5 s 0 [dX h n]) + (if (Ex.mk 5 s 0 [dX h n]).kind = 6 then 1 else 0) <= ((n + 1 : Nat) : Int) := fun s h6 => by
   rw [if_neg h6] at ih
   have e : hX (.mk 5 s 0 [dX h n]) = sideH (dX h n).kind (hX (dX h n)) + 1 := by rw [hX, hXs]; rfl
   rw [e, if_neg (by show ¬ (5 : Int) = 6; decide)]
   unfold sideH
   rw [if_neg h6]
   omega
  match h with
  | 0 => exact ⟨ih.1, by have := ih.2; show hX (dX 0 n) + (if (dX 0 n).kind = 6 then 1 else 0) <= _; omega⟩
  | 1 => exact un _ (dX_kind 1 n (by decide))
  | 2 => exact un _ (dX_kind 2 n (by decide))
  | 3 =>
   have h6 := dX_kind 3 n (by decide)
   rw [if_neg h6] at ih
   have e : hX (dX 3 (n + 1)) = hX (dX 3 n) + 1 := by rw [dX, hX, hXs]; rfl
   rw [e, if_neg (dX_kind 3 (n + 1) (by decide))]
   omega
  | h + 4 =>
   have e : hX (dX (h + 4) (n + 1)) = max (sideH 1 0) (sideH (dX (h + 4) n).kind (hX (dX (h + 4) n))) := by
    rw [dX_4, hX, hXs, hXs, hXs]; rfl
   have e6 : (dX (h + 4) (n + 1)).kind = 6 := rfl
   rw [e, e6, if_pos rfl]
   have s1 : sideH 1 0 = 0 := by decide
   rw [s1]
   unfold sideH
   by_cases c : (dX (h + 4) n).kind = 6
   ·rw [if_pos c] at ih ⊢
    omega
   ·rw [if_neg c] at ih ⊢
    cases n with
    | zero => rw [dX_0]; exact ⟨by decide, by decide⟩
    | succ n => exact absurd rfl c
theorem dX_words (h n : Nat) (h0 : 1 <= h) (hh : h < 4) : exW (dX h n) = (dT h n).map wrT := by
 induction n with
 | zero => rw [dX_0]; exact (by decide : exW (.mk 1 [] 0 []) = [[48]])
 | succ n ih =>
  have h6 := dX_kind h n hh
  have un : ∀ (s : List UInt8), exW (.mk 5 s 0 [dX h n]) = s :: exW (dX h n) := fun s => by
   have : exW (.mk 5 s 0 [dX h n]) = s :: sideW (dX h n).kind (exW (dX h n)) := by rw [exW, exWs]; rfl
   rw [this]
   unfold sideW
   rw [if_neg h6]
  match h, h0, hh with
  | 1, _, _ =>
   have e : exW (dX 1 (n + 1)) = [45] :: exW (dX 1 n) := un [45]
   rw [e, ih, dT]
   simp [dOp, dSh, wrT_S]
  | 2, _, _ =>
   have e : exW (dX 2 (n + 1)) = [33] :: exW (dX 2 n) := un [33]
   rw [e, ih, dT]
   simp [dOp, dSh, wrT_S]
  | 3, _, _ =>
   have e : exW (dX 3 (n + 1)) = [97] :: [91] :: (exW (dX 3 n) ++ [[93]]) := by rw [dX, exW, exWs]; rfl
   rw [e, ih, dT]
   simp [dOp, dSh, wrT_S, wrT_N]
theorem joinL_ne (w : List UInt8) (l : List (List UInt8)) (h : w ≠ []) : 0 < (joinL (w :: l)).length := by
 rw [joinL_tail, List.length_append]
 have := List.length_pos_iff.2 h
 omega
theorem dX_long (h n : Nat) : 0 < (joinL (exW (dX (h + 4) n))).length := by
 cases n with
 | zero => rw [dX_0]; decide
 | succ n =>
  have e : exW (dX (h + 4) (n + 1)) = [49] :: ([43] :: sideW (dX (h + 4) n).kind (exW (dX (h + 4) n))) := by rw [dX_4, exW, exWs, exWs, exWs]; rfl
  rw [e]
  exact joinL_ne _ _ (by decide)
theorem prX_deep (h n : Nat) (hn : n + 1 <= 60) : prX (dX h n) = (joinL (exW (dX h n)), 0) := by
 have h2 := (dX_hX h n).2
 have h1 := (dX_hX h n).1
 unfold prX
 rw [if_pos (dX_ok h n), if_neg (by split at h2 <;> omega)]
end Go.Proofs.YtennkhdlpbggkaaDoor
namespace Go.Proofs.YtennkhdlpbggkaaDoor
open Go Go.Proofs.Ab
namespace ref01_Among
theorem eq (a0 a1 : Int) : den Sp id [V.int .i64 a0, V.int .i64 a1] [] none =
  (bif (decide (a1 < (1 : Int))) then (some ⟨Out.ret (V.int .i64 (0 : Int)), [], none⟩) else (if (a1 = (0 : Int)) then none else (bif (decide ((Int.tmod a0 a1) < (0 : Int))) then (some ⟨Out.ret (V.int .i64 (IntKind.wrap .i64 ((Int.tmod a0 a1) + a1))), [], none⟩) else (some ⟨Out.ret (V.int .i64 (Int.tmod a0 a1)), [], none⟩)))) := (den_eq ..).trans (by kernel_rfl)
end ref01_Among
end Go.Proofs.YtennkhdlpbggkaaDoor
namespace Go.Proofs.YtennkhdlpbggkaaDoor
open Go Go.Proofs.Ab Go.Proofs.Px
theorem ref01_Among_is (a n : Int) (h0 : 1 <= n) (h1 : n <= 1000000000) : den Sp ref01_Among.id [.int .i64 a, .int .i64 n] [] none = some ⟨.ret (.int .i64 (a % n)), [], none⟩ := by
 rw [ref01_Among.eq]
 have hn : ¬ n < 1 := by omega
 have hn0 : ¬ n = 0 := by omega
 have hm0 := Int.emod_nonneg a hn0
 have hm1 := Int.emod_lt_of_pos a (show 0 < n by omega)
 have ht : Int.tmod a n = if 0 <= a ∨ n ∣ a then a % n else a % n - n := by
  have := Int.tmod_eq_emod (a := a) (b := n)
  rw [this]
  have e : (n.natAbs : Int) = n := by omega
  split
  ·simp
  ·rw [e]
 by_cases c : 0 <= a ∨ n ∣ a
 ·rw [if_pos c] at ht
  simp [hn, hn0, ht, show ¬ a % n < 0 by omega]
 ·rw [if_neg c] at ht
  have h2 : a % n - n < 0 := by omega
  simp (disch := omega) [hn, hn0, ht, h2, wrap_in]
end Go.Proofs.YtennkhdlpbggkaaDoor
namespace Go.Proofs.YtennkhdlpbggkaaDoor
open Go Go.Proofs.Ab
theorem ks_p1 : den Sp syntax_Parse.id [.str ⟨#[112, 114, 111, 99, 32, 109, 97, 105, 110, 32, 40, 32, 41, 32, 123, 32, 112, 114, 105, 110, 116, 32, 49, 32, 43, 32, 50, 32, 42, 32, 51, 32, 59, 32, 125]⟩] [] none = (some ⟨(Out.ret (V.tup [(V.agg [(V.sl Tok.no T_api_Proc [[(V.str (ByteArray.mk #[109, 97, 105, 110])), (V.sl Tok.no T_api_Param []), (V.int IntKind.i64 (0 : Int)), (V.sl Tok.no T_api_Stmt [[(V.int IntKind.i64 (8 : Int)), (V.str (ByteArray.mk #[])), (V.str (ByteArray.mk #[])), (V.int IntKind.i64 (0 : Int)), (V.sl Tok.no T_api_Expr [[(V.int IntKind.i64 (6 : Int)), (V.str (ByteArray.mk #[43])), (V.int IntKind.i64 (0 : Int)), (V.sl Tok.no T_api_Expr [[(V.int IntKind.i64 (1 : Int)), (V.str (ByteArray.mk #[])), (V.int IntKind.i64 (1 : Int)), (V.sl Tok.no T_api_Expr [])], [(V.int IntKind.i64 (6 : Int)), (V.str (ByteArray.mk #[42])), (V.int IntKind.i64 (0 : Int)), (V.sl Tok.no T_api_Expr [[(V.int IntKind.i64 (1 : Int)), (V.str (ByteArray.mk #[])), (V.int IntKind.i64 (2 : Int)), (V.sl Tok.no T_api_Expr [])], [(V.int IntKind.i64 (1 : Int)), (V.str (ByteArray.mk #[])), (V.int IntKind.i64 (3 : Int)), (V.sl Tok.no T_api_Expr [])]])]])]]), (V.sl Tok.no T_api_Stmt []), (V.sl Tok.no T_api_Stmt [])]])]])]), (V.int IntKind.i64 (0 : Int)), (V.int IntKind.i64 (0 : Int))])), [], none⟩) :=
 callN_le Sp 90 40 (show callN Sp 90 40 syntax_Parse.id [.str ⟨#[112, 114, 111, 99, 32, 109, 97, 105, 110, 32, 40, 32, 41, 32, 123, 32, 112, 114, 105, 110, 116, 32, 49, 32, 43, 32, 50, 32, 42, 32, 51, 32, 59, 32, 125]⟩] [] none = (some ⟨(Out.ret (V.tup [(V.agg [(V.sl Tok.no T_api_Proc [[(V.str (ByteArray.mk #[109, 97, 105, 110])), (V.sl Tok.no T_api_Param []), (V.int IntKind.i64 (0 : Int)), (V.sl Tok.no T_api_Stmt [[(V.int IntKind.i64 (8 : Int)), (V.str (ByteArray.mk #[])), (V.str (ByteArray.mk #[])), (V.int IntKind.i64 (0 : Int)), (V.sl Tok.no T_api_Expr [[(V.int IntKind.i64 (6 : Int)), (V.str (ByteArray.mk #[43])), (V.int IntKind.i64 (0 : Int)), (V.sl Tok.no T_api_Expr [[(V.int IntKind.i64 (1 : Int)), (V.str (ByteArray.mk #[])), (V.int IntKind.i64 (1 : Int)), (V.sl Tok.no T_api_Expr [])], [(V.int IntKind.i64 (6 : Int)), (V.str (ByteArray.mk #[42])), (V.int IntKind.i64 (0 : Int)), (V.sl Tok.no T_api_Expr [[(V.int IntKind.i64 (1 : Int)), (V.str (ByteArray.mk #[])), (V.int IntKind.i64 (2 : Int)), (V.sl Tok.no T_api_Expr [])], [(V.int IntKind.i64 (1 : Int)), (V.str (ByteArray.mk #[])), (V.int IntKind.i64 (3 : Int)), (V.sl Tok.no T_api_Expr [])]])]])]]), (V.sl Tok.no T_api_Stmt []), (V.sl Tok.no T_api_Stmt [])]])]])]), (V.int IntKind.i64 (0 : Int)), (V.int IntKind.i64 (0 : Int))])), [], none⟩) by kernel_rfl)
theorem ks_pr : den Sp syntax_Print.id [(V.agg [(V.sl Tok.no T_api_Proc [[(V.str (ByteArray.mk #[109, 97, 105, 110])), (V.sl Tok.no T_api_Param []), (V.int IntKind.i64 (0 : Int)), (V.sl Tok.no T_api_Stmt [[(V.int IntKind.i64 (8 : Int)), (V.str (ByteArray.mk #[])), (V.str (ByteArray.mk #[])), (V.int IntKind.i64 (0 : Int)), (V.sl Tok.no T_api_Expr [[(V.int IntKind.i64 (6 : Int)), (V.str (ByteArray.mk #[43])), (V.int IntKind.i64 (0 : Int)), (V.sl Tok.no T_api_Expr [[(V.int IntKind.i64 (1 : Int)), (V.str (ByteArray.mk #[])), (V.int IntKind.i64 (1 : Int)), (V.sl Tok.no T_api_Expr [])], [(V.int IntKind.i64 (6 : Int)), (V.str (ByteArray.mk #[42])), (V.int IntKind.i64 (0 : Int)), (V.sl Tok.no T_api_Expr [[(V.int IntKind.i64 (1 : Int)), (V.str (ByteArray.mk #[])), (V.int IntKind.i64 (2 : Int)), (V.sl Tok.no T_api_Expr [])], [(V.int IntKind.i64 (1 : Int)), (V.str (ByteArray.mk #[])), (V.int IntKind.i64 (3 : Int)), (V.sl Tok.no T_api_Expr [])]])]])]]), (V.sl Tok.no T_api_Stmt []), (V.sl Tok.no T_api_Stmt [])]])]])])] [] none = (some ⟨(Out.ret (V.tup [(V.str (ByteArray.mk #[112, 114, 111, 99, 32, 109, 97, 105, 110, 32, 40, 32, 41, 32, 123, 32, 112, 114, 105, 110, 116, 32, 49, 32, 43, 32, 40, 32, 50, 32, 42, 32, 51, 32, 41, 32, 59, 32, 125])), (V.int IntKind.i64 (0 : Int))])), [], none⟩) :=
 callN_le Sp 90 40 (show callN Sp 90 40 syntax_Print.id [(V.agg [(V.sl Tok.no T_api_Proc [[(V.str (ByteArray.mk #[109, 97, 105, 110])), (V.sl Tok.no T_api_Param []), (V.int IntKind.i64 (0 : Int)), (V.sl Tok.no T_api_Stmt [[(V.int IntKind.i64 (8 : Int)), (V.str (ByteArray.mk #[])), (V.str (ByteArray.mk #[])), (V.int IntKind.i64 (0 : Int)), (V.sl Tok.no T_api_Expr [[(V.int IntKind.i64 (6 : Int)), (V.str (ByteArray.mk #[43])), (V.int IntKind.i64 (0 : Int)), (V.sl Tok.no T_api_Expr [[(V.int IntKind.i64 (1 : Int)), (V.str (ByteArray.mk #[])), (V.int IntKind.i64 (1 : Int)), (V.sl Tok.no T_api_Expr [])], [(V.int IntKind.i64 (6 : Int)), (V.str (ByteArray.mk #[42])), (V.int IntKind.i64 (0 : Int)), (V.sl Tok.no T_api_Expr [[(V.int IntKind.i64 (1 : Int)), (V.str (ByteArray.mk #[])), (V.int IntKind.i64 (2 : Int)), (V.sl Tok.no T_api_Expr [])], [(V.int IntKind.i64 (1 : Int)), (V.str (ByteArray.mk #[])), (V.int IntKind.i64 (3 : Int)), (V.sl Tok.no T_api_Expr [])]])]])]]), (V.sl Tok.no T_api_Stmt []), (V.sl Tok.no T_api_Stmt [])]])]])])] [] none = (some ⟨(Out.ret (V.tup [(V.str (ByteArray.mk #[112, 114, 111, 99, 32, 109, 97, 105, 110, 32, 40, 32, 41, 32, 123, 32, 112, 114, 105, 110, 116, 32, 49, 32, 43, 32, 40, 32, 50, 32, 42, 32, 51, 32, 41, 32, 59, 32, 125])), (V.int IntKind.i64 (0 : Int))])), [], none⟩) by kernel_rfl)
theorem ks_p2 : den Sp syntax_Parse.id [.str ⟨#[112, 114, 111, 99, 32, 102, 32, 40, 32, 105, 110, 116, 32, 97, 32, 44, 32, 41, 32, 123, 32, 125]⟩] [] none = (some ⟨(Out.ret (V.tup [(V.agg [(V.sl Tok.no T_api_Proc [])]), (V.int IntKind.i64 (17 : Int)), (V.int IntKind.i64 (30 : Int))])), [], none⟩) :=
 callN_le Sp 90 40 (show callN Sp 90 40 syntax_Parse.id [.str ⟨#[112, 114, 111, 99, 32, 102, 32, 40, 32, 105, 110, 116, 32, 97, 32, 44, 32, 41, 32, 123, 32, 125]⟩] [] none = (some ⟨(Out.ret (V.tup [(V.agg [(V.sl Tok.no T_api_Proc [])]), (V.int IntKind.i64 (17 : Int)), (V.int IntKind.i64 (30 : Int))])), [], none⟩) by kernel_rfl)
theorem ks_x : den Sp syntax_Expr.id [.str ⟨#[45, 32, 97, 32, 91, 32, 49, 32, 93, 32, 60, 32, 50, 32, 38, 38, 32, 116, 114, 117, 101]⟩] [] none = (some ⟨(Out.ret (V.tup [(V.agg [(V.int IntKind.i64 (6 : Int)), (V.str (ByteArray.mk #[38, 38])), (V.int IntKind.i64 (0 : Int)), (V.sl Tok.no T_api_Expr [[(V.int IntKind.i64 (6 : Int)), (V.str (ByteArray.mk #[60])), (V.int IntKind.i64 (0 : Int)), (V.sl Tok.no T_api_Expr [[(V.int IntKind.i64 (5 : Int)), (V.str (ByteArray.mk #[45])), (V.int IntKind.i64 (0 : Int)), (V.sl Tok.no T_api_Expr [[(V.int IntKind.i64 (4 : Int)), (V.str (ByteArray.mk #[97])), (V.int IntKind.i64 (0 : Int)), (V.sl Tok.no T_api_Expr [[(V.int IntKind.i64 (1 : Int)), (V.str (ByteArray.mk #[])), (V.int IntKind.i64 (1 : Int)), (V.sl Tok.no T_api_Expr [])]])]])], [(V.int IntKind.i64 (1 : Int)), (V.str (ByteArray.mk #[])), (V.int IntKind.i64 (2 : Int)), (V.sl Tok.no T_api_Expr [])]])], [(V.int IntKind.i64 (2 : Int)), (V.str (ByteArray.mk #[])), (V.int IntKind.i64 (1 : Int)), (V.sl Tok.no T_api_Expr [])]])]), (V.int IntKind.i64 (0 : Int)), (V.int IntKind.i64 (0 : Int))])), [], none⟩) :=
 callN_le Sp 90 40 (show callN Sp 90 40 syntax_Expr.id [.str ⟨#[45, 32, 97, 32, 91, 32, 49, 32, 93, 32, 60, 32, 50, 32, 38, 38, 32, 116, 114, 117, 101]⟩] [] none = (some ⟨(Out.ret (V.tup [(V.agg [(V.int IntKind.i64 (6 : Int)), (V.str (ByteArray.mk #[38, 38])), (V.int IntKind.i64 (0 : Int)), (V.sl Tok.no T_api_Expr [[(V.int IntKind.i64 (6 : Int)), (V.str (ByteArray.mk #[60])), (V.int IntKind.i64 (0 : Int)), (V.sl Tok.no T_api_Expr [[(V.int IntKind.i64 (5 : Int)), (V.str (ByteArray.mk #[45])), (V.int IntKind.i64 (0 : Int)), (V.sl Tok.no T_api_Expr [[(V.int IntKind.i64 (4 : Int)), (V.str (ByteArray.mk #[97])), (V.int IntKind.i64 (0 : Int)), (V.sl Tok.no T_api_Expr [[(V.int IntKind.i64 (1 : Int)), (V.str (ByteArray.mk #[])), (V.int IntKind.i64 (1 : Int)), (V.sl Tok.no T_api_Expr [])]])]])], [(V.int IntKind.i64 (1 : Int)), (V.str (ByteArray.mk #[])), (V.int IntKind.i64 (2 : Int)), (V.sl Tok.no T_api_Expr [])]])], [(V.int IntKind.i64 (2 : Int)), (V.str (ByteArray.mk #[])), (V.int IntKind.i64 (1 : Int)), (V.sl Tok.no T_api_Expr [])]])]), (V.int IntKind.i64 (0 : Int)), (V.int IntKind.i64 (0 : Int))])), [], none⟩) by kernel_rfl)
theorem ks_t : den Sp syntax_PrintExpr.id [(V.agg [(V.int IntKind.i64 (6 : Int)), (V.str (ByteArray.mk #[38, 38])), (V.int IntKind.i64 (0 : Int)), (V.sl Tok.no T_api_Expr [[(V.int IntKind.i64 (6 : Int)), (V.str (ByteArray.mk #[60])), (V.int IntKind.i64 (0 : Int)), (V.sl Tok.no T_api_Expr [[(V.int IntKind.i64 (5 : Int)), (V.str (ByteArray.mk #[45])), (V.int IntKind.i64 (0 : Int)), (V.sl Tok.no T_api_Expr [[(V.int IntKind.i64 (4 : Int)), (V.str (ByteArray.mk #[97])), (V.int IntKind.i64 (0 : Int)), (V.sl Tok.no T_api_Expr [[(V.int IntKind.i64 (1 : Int)), (V.str (ByteArray.mk #[])), (V.int IntKind.i64 (1 : Int)), (V.sl Tok.no T_api_Expr [])]])]])], [(V.int IntKind.i64 (1 : Int)), (V.str (ByteArray.mk #[])), (V.int IntKind.i64 (2 : Int)), (V.sl Tok.no T_api_Expr [])]])], [(V.int IntKind.i64 (2 : Int)), (V.str (ByteArray.mk #[])), (V.int IntKind.i64 (1 : Int)), (V.sl Tok.no T_api_Expr [])]])])] [] none = (some ⟨(Out.ret (V.tup [(V.str (ByteArray.mk #[40, 32, 45, 32, 97, 32, 91, 32, 49, 32, 93, 32, 60, 32, 50, 32, 41, 32, 38, 38, 32, 116, 114, 117, 101])), (V.int IntKind.i64 (0 : Int))])), [], none⟩) :=
 callN_le Sp 90 40 (show callN Sp 90 40 syntax_PrintExpr.id [(V.agg [(V.int IntKind.i64 (6 : Int)), (V.str (ByteArray.mk #[38, 38])), (V.int IntKind.i64 (0 : Int)), (V.sl Tok.no T_api_Expr [[(V.int IntKind.i64 (6 : Int)), (V.str (ByteArray.mk #[60])), (V.int IntKind.i64 (0 : Int)), (V.sl Tok.no T_api_Expr [[(V.int IntKind.i64 (5 : Int)), (V.str (ByteArray.mk #[45])), (V.int IntKind.i64 (0 : Int)), (V.sl Tok.no T_api_Expr [[(V.int IntKind.i64 (4 : Int)), (V.str (ByteArray.mk #[97])), (V.int IntKind.i64 (0 : Int)), (V.sl Tok.no T_api_Expr [[(V.int IntKind.i64 (1 : Int)), (V.str (ByteArray.mk #[])), (V.int IntKind.i64 (1 : Int)), (V.sl Tok.no T_api_Expr [])]])]])], [(V.int IntKind.i64 (1 : Int)), (V.str (ByteArray.mk #[])), (V.int IntKind.i64 (2 : Int)), (V.sl Tok.no T_api_Expr [])]])], [(V.int IntKind.i64 (2 : Int)), (V.str (ByteArray.mk #[])), (V.int IntKind.i64 (1 : Int)), (V.sl Tok.no T_api_Expr [])]])])] [] none = (some ⟨(Out.ret (V.tup [(V.str (ByteArray.mk #[40, 32, 45, 32, 97, 32, 91, 32, 49, 32, 93, 32, 60, 32, 50, 32, 41, 32, 38, 38, 32, 116, 114, 117, 101])), (V.int IntKind.i64 (0 : Int))])), [], none⟩) by kernel_rfl)
namespace law03_known
theorem eq : den Sp id [] [] none =
  (den Sp syntax_Parse.id [V.str (ByteArray.mk #[112, 114, 111, 99, 32, 109, 97, 105, 110, 32, 40, 32, 41, 32, 123, 32, 112, 114, 105, 110, 116, 32, 49, 32, 43, 32, 50, 32, 42, 32, 51, 32, 59, 32, 125])] [] none).bind (fun r2 => Res.onRet r2 (fun v3 => V.asTup v3 3 (fun rd4 => V.asAgg (rd4 0) 1 (fun rd5 => V.asSl (rd5 0) T_api_Proc (fun es6 => V.asInt (rd4 1) .i64 (fun n7 => V.asInt (rd4 2) .i64 (fun n8 => (den Sp syntax_Print.id [V.agg [V.sl .no T_api_Proc es6]] [] none).bind (fun r10 => Res.onRet r10 (fun v11 => V.asTup v11 2 (fun rd12 => V.asStr (rd12 0) (fun s13 => V.asInt (rd12 1) .i64 (fun n14 => (den Sp syntax_Parse.id [V.str (ByteArray.mk #[112, 114, 111, 99, 32, 102, 32, 40, 32, 105, 110, 116, 32, 97, 32, 44, 32, 41, 32, 123, 32, 125])] [] none).bind (fun r16 => Res.onRet r16 (fun v17 => V.asTup v17 3 (fun rd18 => V.asAgg (rd18 0) 1 (fun rd19 => V.asSl (rd19 0) T_api_Proc (fun es20 => V.asInt (rd18 1) .i64 (fun n21 => V.asInt (rd18 2) .i64 (fun n22 => (den Sp syntax_Expr.id [V.str (ByteArray.mk #[45, 32, 97, 32, 91, 32, 49, 32, 93, 32, 60, 32, 50, 32, 38, 38, 32, 116, 114, 117, 101])] [] none).bind (fun r24 => Res.onRet r24 (fun v25 => V.asTup v25 3 (fun rd26 => V.asAgg (rd26 0) 4 (fun rd27 => V.asInt (rd27 0) .i64 (fun n28 => V.asStr (rd27 1) (fun s29 => V.asInt (rd27 2) .i64 (fun n30 => V.asSl (rd27 3) T_api_Expr (fun es31 => V.asInt (rd26 1) .i64 (fun n32 => V.asInt (rd26 2) .i64 (fun n33 => (den Sp syntax_PrintExpr.id [V.agg [V.int .i64 n28, V.str s29, V.int .i64 n30, V.sl .no T_api_Expr es31]] [] none).bind (fun r35 => Res.onRet r35 (fun v36 => V.asTup v36 2 (fun rd37 => V.asStr (rd37 0) (fun s38 => V.asInt (rd37 1) .i64 (fun n39 => bif (n8 == (0 : Int)) then (bif (n14 == (0 : Int)) then (bif (decide (s13 = (ByteArray.mk #[112, 114, 111, 99, 32, 109, 97, 105, 110, 32, 40, 32, 41, 32, 123, 32, 112, 114, 105, 110, 116, 32, 49, 32, 43, 32, 40, 32, 50, 32, 42, 32, 51, 32, 41, 32, 59, 32, 125]))) then (bif (n21 == (17 : Int)) then (bif (n22 == (30 : Int)) then (bif (n33 == (0 : Int)) then (bif (n39 == (0 : Int)) then (some ⟨Out.ret (V.bool (decide (s38 = (ByteArray.mk #[40, 32, 45, 32, 97, 32, 91, 32, 49, 32, 93, 32, 60, 32, 50, 32, 41, 32, 38, 38, 32, 116, 114, 117, 101])))), [], none⟩) else (some ⟨Out.ret (V.bool false), [], none⟩)) else (some ⟨Out.ret (V.bool false), [], none⟩)) else (some ⟨Out.ret (V.bool false), [], none⟩)) else (some ⟨Out.ret (V.bool false), [], none⟩)) else (some ⟨Out.ret (V.bool false), [], none⟩)) else (some ⟨Out.ret (V.bool false), [], none⟩)) else (some ⟨Out.ret (V.bool false), [], none⟩))))))))))))))))))))))))))))))))))) := (den_eq ..).trans (by kernel_rfl)
end law03_known
end Go.Proofs.YtennkhdlpbggkaaDoor
namespace Go.Proofs.YtennkhdlpbggkaaDoor
open Go Go.Proofs.Ab Go.Proofs.Px
theorem law03_known_is : den Sp law03_known.id [] [] none = some ⟨.ret (.bool true), [], none⟩ := by
 rw [law03_known.eq]
 simp only [ks_p1, ks_pr, ks_p2, ks_x, ks_t, Option.bind_some, onRet_ret, asAgg_agg, asTup_tup, List.length_cons, List.length_nil, Nat.zero_add, Nat.reduceAdd, List.getD_cons_zero, List.getD_cons_succ, asInt_int, asStr_str, asSl_sl, asBool_bool, bne_self_eq_false, cond_false]
 rfl
end Go.Proofs.YtennkhdlpbggkaaDoor
namespace Go.Proofs.YtennkhdlpbggkaaDoor
open Go Go.Proofs.Ab
namespace law03_SynDeep
noncomputable abbrev e (p : List Nat) := ev Sp (den Sp) id Tryd.f5.ntmps (cAt (bodyOf Tryd.f5) p)
noncomputable abbrev cn (n0 : List Nat) := canon Sp id n0
noncomputable abbrev K : K := kFin Sp (den Sp) (Sp.oo id) Tryd.f5 0
noncomputable def L1_1_1_1_1_0_1_0 (i0 i1 : Int) (s2 s3 s4 : ByteArray) (i5 : Int) : Option Res := LP (e [1, 1, 1, 1, 1, 0, 1, 0, 0]) (cn []) (kBlk 0 (kSeq (e [1, 1, 1, 1, 1, 1]) (K))) ([(0, (V.int .i64 i0)), (1, (V.int .i64 i1)), (5, (V.str s2)), (6, (V.str s3)), (7, (V.str s4)), (8, (V.int .i64 i5))], ⟨[], [], [], [], none⟩)
theorem L1_1_1_1_1_0_1_0_eq (i0 i1 : Int) (s2 s3 s4 : ByteArray) (i5 : Int) : L1_1_1_1_1_0_1_0 i0 i1 s2 s3 s4 i5 =
  (bif (decide (i5 < i0)) then (if (((ByteArray.size s2) + (ByteArray.size s4)) <= most) then (if (((ByteArray.size (s2 ++ s4)) + (ByteArray.size s3)) <= most) then (L1_1_1_1_1_0_1_0 i0 i1 s2 s3 ((s2 ++ s4) ++ s3) (IntKind.wrap .i64 (i5 + (1 : Int)))) else none) else none) else (den Sp syntax_Expr.id [V.str s4] [] none).bind (fun r27 => Res.onRet r27 (fun v28 => V.asTup v28 3 (fun rd29 => V.asAgg (rd29 0) 4 (fun rd30 => V.asInt (rd30 0) .i64 (fun n31 => V.asStr (rd30 1) (fun s32 => V.asInt (rd30 2) .i64 (fun n33 => V.asSl (rd30 3) T_api_Expr (fun es34 => V.asInt (rd29 1) .i64 (fun n35 => V.asInt (rd29 2) .i64 (fun n36 => bif (decide ((IntKind.wrap .i64 (i0 + (1 : Int))) > (60 : Int))) then (bif (n36 == (31 : Int)) then (bif (n35 == (IntKind.wrap .i64 ((((ByteArray.size s2) : Nat) : Int) * (60 : Int)))) then (den Sp law03_known.id [] [] none).bind (fun r40 => Res.onRet r40 (fun v41 => V.asBool v41 (fun b42 => some ⟨Out.ret (V.bool b42), [], none⟩))) else (some ⟨Out.ret (V.bool false), [], none⟩)) else (some ⟨Out.ret (V.bool false), [], none⟩)) else (den Sp syntax_PrintExpr.id [V.agg [V.int .i64 n31, V.str s32, V.int .i64 n33, V.sl .no T_api_Expr es34]] [] none).bind (fun r39 => Res.onRet r39 (fun v40 => V.asTup v40 2 (fun rd41 => V.asStr (rd41 0) (fun s42 => V.asInt (rd41 1) .i64 (fun n43 => (den Sp ref01_Among.id [V.int .i64 i1, V.int .i64 (5 : Int)] [] none).bind (fun r45 => Res.onRet r45 (fun v46 => V.asInt v46 .i64 (fun n47 => bif (n47 == (0 : Int)) then (bif (n36 == (0 : Int)) then (bif (n43 == (0 : Int)) then (bif (decide (s42 = (ByteArray.mk #[48]))) then (den Sp law03_known.id [] [] none).bind (fun r49 => Res.onRet r49 (fun v50 => V.asBool v50 (fun b51 => some ⟨Out.ret (V.bool b51), [], none⟩))) else (some ⟨Out.ret (V.bool false), [], none⟩)) else (some ⟨Out.ret (V.bool false), [], none⟩)) else (some ⟨Out.ret (V.bool false), [], none⟩)) else (den Sp ref01_Among.id [V.int .i64 i1, V.int .i64 (5 : Int)] [] none).bind (fun r49 => Res.onRet r49 (fun v50 => V.asInt v50 .i64 (fun n51 => bif (n51 == (4 : Int)) then (bif (n36 == (0 : Int)) then (bif (n43 == (0 : Int)) then (bif (decide ((((ByteArray.size s42) : Nat) : Int) > (0 : Int))) then (den Sp law03_known.id [] [] none).bind (fun r53 => Res.onRet r53 (fun v54 => V.asBool v54 (fun b55 => some ⟨Out.ret (V.bool b55), [], none⟩))) else (some ⟨Out.ret (V.bool false), [], none⟩)) else (some ⟨Out.ret (V.bool false), [], none⟩)) else (some ⟨Out.ret (V.bool false), [], none⟩)) else (bif (n36 == (0 : Int)) then (bif (n43 == (0 : Int)) then (bif (decide (s42 = s4)) then (den Sp law03_known.id [] [] none).bind (fun r53 => Res.onRet r53 (fun v54 => V.asBool v54 (fun b55 => some ⟨Out.ret (V.bool b55), [], none⟩))) else (some ⟨Out.ret (V.bool false), [], none⟩)) else (some ⟨Out.ret (V.bool false), [], none⟩)) else (some ⟨Out.ret (V.bool false), [], none⟩)))))))))))))))))))))))) := (LP_eq ..).trans (by kernel_rfl)
theorem eq (a0 a1 : Int) : den Sp id [V.int .i64 a0, V.int .i64 a1] [] none =
  (den Sp ref01_Among.id [V.int .i64 a0, V.int .i64 (90 : Int)] [] none).bind (fun r4 => Res.onRet r4 (fun v5 => V.asInt v5 .i64 (fun n6 => (den Sp ref01_Among.id [V.int .i64 a1, V.int .i64 (5 : Int)] [] none).bind (fun r8 => Res.onRet r8 (fun v9 => V.asInt v9 .i64 (fun n10 => if (((0 : Int) <= n10) ∧ (n10 < ((5 : Nat) : Int))) then (V.asStr (List.getD (List.getD [[V.str (ByteArray.mk #[40, 32])], [V.str (ByteArray.mk #[45, 32])], [V.str (ByteArray.mk #[33, 32])], [V.str (ByteArray.mk #[97, 32, 91, 32])], [V.str (ByteArray.mk #[49, 32, 43, 32, 40, 32])]] (Int.toNat n10) []) 0 V.undef) (fun s11 => (den Sp ref01_Among.id [V.int .i64 a1, V.int .i64 (5 : Int)] [] none).bind (fun r13 => Res.onRet r13 (fun v14 => V.asInt v14 .i64 (fun n15 => if (((0 : Int) <= n15) ∧ (n15 < ((5 : Nat) : Int))) then (V.asStr (List.getD (List.getD [[V.str (ByteArray.mk #[32, 41])], [V.str (ByteArray.mk #[])], [V.str (ByteArray.mk #[])], [V.str (ByteArray.mk #[32, 93])], [V.str (ByteArray.mk #[32, 41])]] (Int.toNat n15) []) 0 V.undef) (fun s16 => L1_1_1_1_1_0_1_0 n6 a1 s11 s16 (ByteArray.mk #[48]) (0 : Int))) else none))))) else none)))))) := (den_eq ..).trans (by kernel_rfl)
end law03_SynDeep
end Go.Proofs.YtennkhdlpbggkaaDoor
namespace Go.Proofs.YtennkhdlpbggkaaDoor
open Go Go.Proofs.Ab Go.Proofs.Px
attribute [local congr] bind_h asInt_h asBool_h asStr_h asSl_h asSlR_h asAgg_h asTup_h asIface_h asCells_h onRet_h onOut_h cond_h
theorem deep_done (n h : Nat) (how : Int) (hn : n <= 90) (hh : h < 5) (hk : how % 5 = (h : Int)) :
  law03_SynDeep.L1_1_1_1_1_0_1_0 (n : Int) how (B (bOp h)) (B (bSh h)) (B (bT h n)) (n : Int) = some ⟨.ret (.bool true), [], none⟩ := by
 have hl := bT_len h n
 have hE := syntax_Expr_is (bT h n) (by omega)
 rw [exprS_deep h n hn] at hE
 have hA := ref01_Among_is how 5 (by decide) (by decide)
 rw [hk] at hA
 have hK := law03_known_is
 have c0 : decide ((n : Int) < (n : Int)) = false := decide_eq_false (by omega)
 have w : IntKind.i64.wrap ((n : Int) + 1) = (n : Int) + 1 := wrap_in (by omega) (by omega)
 by_cases c : n + 1 <= 60
 ·have c1 : decide ((n : Int) + 1 > 60) = false := decide_eq_false (by omega)
  rw [if_pos c] at hE
  unfold exprV at hE
  have hP := syntax_PrintExpr_is (dX h n) (dX_in h n) (by have := dX_size h n; omega)
  rw [prX_deep h n c] at hP
  have z : ((0 : Int) == 0) = true := by decide
  rw [law03_SynDeep.L1_1_1_1_1_0_1_0_eq]
  match h, hh with
  | 0, _ =>
   have t : decide (B (joinL (exW (dX 0 n))) = B [48]) = true := by
    have : ∀ n, dX 0 n = .mk 1 [] 0 [] := fun n => by
     induction n with
     | zero => rfl
     | succ n ih => exact ih
    rw [this]; exact decide_eq_true (by rfl)
   have e0 : (((0 : Nat) : Int) == 0) = true := by decide
   simp only [hE, hA, hP, hK, c0, w, c1, z, e0, t, lq, lz, lx, if_true, if_false]
  | 1, _ =>
   have t : decide (B (joinL (exW (dX 1 n))) = B (bT 1 n)) = true := by rw [dX_words 1 n (by decide) (by decide), dT_text]; exact decide_eq_true rfl
   have e0 : (((1 : Nat) : Int) == 0) = false := by decide
   have e4 : (((1 : Nat) : Int) == 4) = false := by decide
   simp only [hE, hA, hP, hK, c0, w, c1, z, e0, e4, t, lq, lz, lx, if_true, if_false]
  | 2, _ =>
   have t : decide (B (joinL (exW (dX 2 n))) = B (bT 2 n)) = true := by rw [dX_words 2 n (by decide) (by decide), dT_text]; exact decide_eq_true rfl
   have e0 : (((2 : Nat) : Int) == 0) = false := by decide
   have e4 : (((2 : Nat) : Int) == 4) = false := by decide
   simp only [hE, hA, hP, hK, c0, w, c1, z, e0, e4, t, lq, lz, lx, if_true, if_false]
  | 3, _ =>
   have t : decide (B (joinL (exW (dX 3 n))) = B (bT 3 n)) = true := by rw [dX_words 3 n (by decide) (by decide), dT_text]; exact decide_eq_true rfl
   have e0 : (((3 : Nat) : Int) == 0) = false := by decide
   have e4 : (((3 : Nat) : Int) == 4) = false := by decide
   simp only [hE, hA, hP, hK, c0, w, c1, z, e0, e4, t, lq, lz, lx, if_true, if_false]
  | 4, _ =>
   have hp : 0 < (joinL (exW (dX 4 n))).length := dX_long 0 n
   have t : decide ((((B (joinL (exW (dX 4 n)))).size : Nat) : Int) > 0) = true := by
    apply decide_eq_true
    rw [B_size]; omega
   have e0 : (((4 : Nat) : Int) == 0) = false := by decide
   have e4 : (((4 : Nat) : Int) == 4) = true := by decide
   simp only [hE, hA, hP, hK, c0, w, c1, z, e0, e4, t, lq, lz, lx, if_true, if_false]
 ·have c1 : decide ((n : Int) + 1 > 60) = true := decide_eq_true (by omega)
  rw [if_neg c] at hE
  unfold exprV at hE
  have z : ((31 : Int) == 31) = true := by decide
  have hb : (bOp h).length <= 8 := by
   match h with
   | 0 => decide
   | 1 => decide
   | 2 => decide
   | 3 => decide
   | _ + 4 => exact (by decide : 6 <= 8)
  have e : (((60 * (bOp h).length : Nat) : Int) == IntKind.i64.wrap ((((bOp h).length : Nat) : Int) * 60)) = true := by
   rw [wrap_in (by omega) (by omega), beq_iff_eq]; omega
  rw [law03_SynDeep.L1_1_1_1_1_0_1_0_eq]
  simp only [hE, hA, hK, c0, w, c1, z, e, B_size, lq, lz, lx, if_true, if_false]
theorem deep_loop (n h : Nat) (how : Int) (hn : n <= 90) (hh : h < 5) (hk : how % 5 = (h : Int)) :
  ∀ i : Nat, i <= n -> law03_SynDeep.L1_1_1_1_1_0_1_0 (n : Int) how (B (bOp h)) (B (bSh h)) (B (bT h i)) (i : Int) = some ⟨.ret (.bool true), [], none⟩ := by
 refine down (deep_done n h how hn hh hk) fun i hi ih => ?_
 have hl := bT_len h (i + 1)
 have e : bT h (i + 1) = bOp h ++ bT h i ++ bSh h := rfl
 have h1 : (bOp h).length + (bT h i).length <= 1099511627776 := by rw [e] at hl; simp at hl; omega
 have h2 : (bOp h ++ bT h i).length + (bSh h).length <= 1099511627776 := by rw [e] at hl; simp at hl ⊢; omega
 have c0 : decide ((i : Int) < (n : Int)) = true := decide_eq_true (by omega)
 have w : IntKind.i64.wrap ((i : Int) + 1) = ((i + 1 : Nat) : Int) := by rw [wrap_in (by omega) (by omega)]; omega
 have m : most = 1099511627776 := rfl
 rw [law03_SynDeep.L1_1_1_1_1_0_1_0_eq, c0, cond_true, B_append, B_append, B_size, B_size, B_size, B_size, m, if_pos h1, if_pos h2, w]
 exact ih
theorem synDeep_den (n : Int) (w1 : (Lit.int .i64 n).wf = true) (how : Int) (w2 : (Lit.int .i64 how).wf = true) : den Sp law03_SynDeep.id [.int .i64 n, .int .i64 how] [] none = some ⟨.ret (.bool true), [], none⟩ := by
 have h1 := ref01_Among_is n 90 (by decide) (by decide)
 have h2 := ref01_Among_is how 5 (by decide) (by decide)
 obtain ⟨m, hm⟩ : ∃ m : Nat, n % 90 = (m : Int) := ⟨(n % 90).toNat, by omega⟩
 obtain ⟨h, hh⟩ : ∃ h : Nat, how % 5 = (h : Int) := ⟨(how % 5).toNat, by omega⟩
 have hm9 : m <= 90 := by omega
 have hh5 : h < 5 := by omega
 have key := deep_loop m h how hm9 hh5 hh 0 (by omega)
 rw [hm] at h1
 rw [hh] at h2
 have r : (0 : Int) <= (h : Int) ∧ (h : Int) < ((5 : Nat) : Int) := ⟨by omega, by omega⟩
 rw [law03_SynDeep.eq]
 match h, hh5 with
 | 0, _ => simp only [h1, h2, if_pos r, lz, if_true, if_false]; exact key
 | 1, _ => simp only [h1, h2, if_pos r, lz, if_true, if_false]; exact key
 | 2, _ => simp only [h1, h2, if_pos r, lz, if_true, if_false]; exact key
 | 3, _ => simp only [h1, h2, if_pos r, lz, if_true, if_false]; exact key
 | 4, _ => simp only [h1, h2, if_pos r, lz, if_true, if_false]; exact key
end Go.Proofs.YtennkhdlpbggkaaDoor
