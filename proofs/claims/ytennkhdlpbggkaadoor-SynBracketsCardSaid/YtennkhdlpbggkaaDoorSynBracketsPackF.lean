/- Own texts under the law SynBrackets, merged, without what it does not lean on: part 6 of 6 (the abstract machine and its proof; residual forms; contracts; the plain law). -/
import Derived.Test.YtennkhdlpbggkaaDoorSynBracketsPackE
import Derived.KernelRfl
set_option linter.unusedVariables false
set_option linter.unusedSimpArgs false
set_option linter.unusedSectionVars false
set_option maxRecDepth 100000
namespace Go.Proofs.YtennkhdlpbggkaaDoor
open Go Go.Proofs.Ab Go.Proofs.Px
theorem tight_bad {l : List Tk} {n d : Int} {k : Nat} {e : Int × Int} (h : oneW l d k = .error e) : tightW l n d k = .error e := by rw [tightW, h]
theorem rds_part {l : List Tk} (hl : Ended l) {k : Nat} (hk : k < l.length) {n d : Int} {e : Int × Int} (h : partR l d k (tightW l n d k) = .error e) : e.2 = 30 ∨ e.2 = 31 := by
 unfold partR at h
 split at h
 ·cases h; exact .inl rfl
 split at h
 ·cases h; exact .inr rfl
 ·exact (rds_all hl (fun e => e.2 = 30 ∨ e.2 = 31) (fun _ => .inl rfl) (fun _ => .inr rfl) _ k (Nat.le_refl _) hk).2.1 n d e h
theorem read_wrapped {L0 L1 : List Tk} {m K : Nat} (H : Wrapped L0 L1 m K) (hm : m < 10) :
  (∀ x j, partR L0 1 0 (tightW L0 1 1 0) = .ok (x, j) -> (tk L0 j).kind = 0 -> partR L1 1 0 (tightW L1 1 1 0) = .ok (x, m + K + m) ∨ ∃ e, partR L1 1 0 (tightW L1 1 1 0) = .error e ∧ e.2 = 31) ∧
  (∀ e, partR L0 1 0 (tightW L0 1 1 0) = .error e -> e.2 = 31 -> ∃ e', partR L1 1 0 (tightW L1 1 1 0) = .error e') := by
 have W := H.w
 have hl0 := W.len
 have hl1 := H.len
 have base := rel_part W (Nat.zero_le K) (d := 1) (d' := 1 + (m : Int)) (by omega) ((rel_all W _ 0 (Nat.le_refl _) (Nat.zero_le K) 1 (1 + (m : Int)) (by omega)).2.1 1)
 rw [Nat.add_zero] at base
 have go : ∀ t, t < m -> ∀ r : Rd, partR L1 (1 + ((m - t : Nat) : Int)) (m - t) (tightW L1 1 (1 + ((m - t : Nat) : Int)) (m - t)) = r ->
   (∀ x, r = .ok (x, m + K + t) -> partR L1 (1 + ((m - (t + 1) : Nat) : Int)) (m - (t + 1)) (tightW L1 1 (1 + ((m - (t + 1) : Nat) : Int)) (m - (t + 1))) = .ok (x, m + K + (t + 1))) ∧
   (∀ e, r = .error e -> partR L1 (1 + ((m - (t + 1) : Nat) : Int)) (m - (t + 1)) (tightW L1 1 (1 + ((m - (t + 1) : Nat) : Int)) (m - (t + 1))) = .error e) := by
  intro t ht r hr
  obtain ⟨k, hk⟩ : ∃ k, m - t = k + 1 := ⟨m - t - 1, by omega⟩
  have hk' : m - (t + 1) = k := by omega
  rw [hk] at hr
  rw [hk']
  have so := H.o k (by omega)
  have ho : opensT (tk L1 k) = true := by rw [opensT_sim so]; rfl
  have e1 : ∀ s, isT (tk L1 k) s = decide (([40] : List UInt8) = s) := fun s => by rw [isT_sim so, isT_S]
  have kl : k < L1.length := by omega
  have hd : (1 : Int) + ((k + 1 : Nat) : Int) = 1 + (k : Int) + 1 := by omega
  rw [hd] at hr
  have one : oneW L1 (1 + (k : Int)) k = wantR L1 [41] r id := by
   rw [one_eq kl, if_neg (by rw [e1, e1]; simp), if_pos (by rw [e1]; rfl), hr]
  refine ⟨fun x hx => ?_, fun e he => ?_⟩
  ·rw [part_ok ho (by omega)]
   have sc := H.c t (by omega)
   have h1 : oneW L1 (1 + (k : Int)) k = .ok (x, m + K + t + 1) := by
    rw [one, hx]
    show (if isT (tk L1 (m + K + t)) [41] then _ else _) = _
    rw [isT_sim sc, isT_S]; rfl
   refine tight_of_one h1 (by omega) (by omega) ?_
   by_cases c : t + 1 < m
   ·rw [signT_sim (H.c (t + 1) c)]; rfl
   ·have : m + K + (t + 1) = m + K + m := by omega
    rw [this]
    unfold signT
    rw [H.e]; simp
  ·rw [part_ok ho (by omega)]
   refine tight_bad ?_
   rw [one, he]; rfl
 have z : partR L1 1 0 (tightW L1 1 1 0) = partR L1 (1 + ((m - m : Nat) : Int)) (m - m) (tightW L1 1 (1 + ((m - m : Nat) : Int)) (m - m)) := by rw [Nat.sub_self]; rfl
 have b : partR L1 (1 + (m : Int)) m (tightW L1 1 (1 + (m : Int)) m) = partR L1 (1 + ((m - 0 : Nat) : Int)) (m - 0) (tightW L1 1 (1 + ((m - 0 : Nat) : Int)) (m - 0)) := by rw [Nat.sub_zero]
 have okc : ∀ x, partR L1 (1 + (m : Int)) m (tightW L1 1 (1 + (m : Int)) m) = .ok (x, m + K) -> ∀ t, t <= m -> partR L1 (1 + ((m - t : Nat) : Int)) (m - t) (tightW L1 1 (1 + ((m - t : Nat) : Int)) (m - t)) = .ok (x, m + K + t) := by
  intro x hx t
  induction t with
  | zero => intro _; rw [<- b, hx]; rfl
  | succ t ih => intro ht; exact (go t (by omega) _ rfl).1 x (ih (by omega))
 have erc : ∀ e, partR L1 (1 + (m : Int)) m (tightW L1 1 (1 + (m : Int)) m) = .error e -> ∀ t, t <= m -> partR L1 (1 + ((m - t : Nat) : Int)) (m - t) (tightW L1 1 (1 + ((m - t : Nat) : Int)) (m - t)) = .error e := by
  intro e he t
  induction t with
  | zero => intro _; rw [<- b, he]
  | succ t ih => intro ht; exact (go t (by omega) _ rfl).2 e (ih (by omega))
 refine ⟨fun x j hx hj => ?_, fun e he h31 => ?_⟩
 ·rw [hx] at base
  obtain ⟨h1, h2⟩ := base
  have hjK : j = K := by
   have := (W.e0.last j (by omega)).1 hj
   omega
  subst hjK
  rcases h2 with h | ⟨e, h, he⟩
  ·exact .inl (by rw [z]; exact okc x h m (Nat.le_refl _))
  ·exact .inr ⟨e, by rw [z]; exact erc e h m (Nat.le_refl _), he⟩
 ·rw [he] at base
  obtain ⟨e', h⟩ := base h31
  exact ⟨e', by rw [z]; exact erc e' h m (Nat.le_refl _)⟩
theorem brackets (s : List UInt8) (m : Nat) (hs : s.length <= 2000) (hm9 : m < 10) :
  ((exprS s).2.2 = 0 -> (exprS (opB m ++ (s ++ shB m)) = ((exprS s).1, 0, 0) ∧ (exprS s).2.1 = 0) ∨ (exprS (opB m ++ (s ++ shB m))).2.2 = 31) ∧
  ((exprS s).2.2 ≠ 0 -> (exprS s).2.2 ≠ 30 -> (exprS (opB m ++ (s ++ shB m))).2.2 ≠ 0) := by
 by_cases hm : m = 0
 ·subst hm
  have e : opB 0 ++ (s ++ shB 0) = s := by simp [opB, shB]
  rw [e]
  refine ⟨fun h => .inl ?_, fun h _ => h⟩
  have h1 : (exprS s).2.1 = 0 := by
   unfold exprS at h ⊢
   by_cases c : (scan s).2.2 ≠ 0
   ·rw [if_pos c] at h; exact absurd h c
   ·rw [if_neg c] at h ⊢
    have c0 : (scan s).2.2 = 0 := by omega
    have g := scan_ended (by omega) c0
    cases hq : partR (scan s).1 1 0 (tightW (scan s).1 1 1 0) with
    | error e =>
     rw [hq] at h
     have hP := rds_part g.1 g.2.2.1 hq
     simp only at h
     omega
    | ok q =>
     obtain ⟨x, j⟩ := q
     rw [hq] at h
     simp only at h ⊢
     by_cases k0 : (tk (scan s).1 j).kind = 0
     ·rw [if_pos k0]
     ·rw [if_neg k0] at h; exact absurd h (show ¬ (30 : Int) = 0 by decide)
  refine ⟨?_, h1⟩
  have : exprS s = ((exprS s).1, (exprS s).2.1, (exprS s).2.2) := rfl
  rw [h, h1] at this
  exact this
 ·have hT : (opB m ++ (s ++ shB m)).length <= 3000 := by rw [List.length_append, List.length_append, opB_length, shB_length]; omega
  rcases scan_wrapped s m hs (by omega) hm9 with ⟨h0, h1⟩ | ⟨h0, h1, K, H⟩
  ·have e0 : (exprS s).2.2 = 20 := by unfold exprS; rw [if_pos (by rw [h0]; decide)]; exact h0
   have e1 : (exprS (opB m ++ (s ++ shB m))).2.2 = 20 := by unfold exprS; rw [if_pos (by rw [h1]; decide)]; exact h1
   rw [e0, e1]
   exact ⟨fun h => absurd h (by decide), fun _ _ => by decide⟩
  ·obtain ⟨r1, r2⟩ := read_wrapped H hm9
   have g0 := scan_ended (by omega) h0
   have g1 := scan_ended (by omega) h1
   have x0 : exprS s = match partR (scan s).1 1 0 (tightW (scan s).1 1 1 0) with | .error e => (zeroX, e.1, e.2) | .ok (x, j) => if (tk (scan s).1 j).kind = 0 then (x, 0, 0) else (zeroX, (tk (scan s).1 j).at_, 30) := by
    unfold exprS; rw [if_neg (by rw [h0]; decide)]; rfl
   have x1 : exprS (opB m ++ (s ++ shB m)) = match partR (scan (opB m ++ (s ++ shB m))).1 1 0 (tightW (scan (opB m ++ (s ++ shB m))).1 1 1 0) with | .error e => (zeroX, e.1, e.2) | .ok (x, j) => if (tk (scan (opB m ++ (s ++ shB m))).1 j).kind = 0 then (x, 0, 0) else (zeroX, (tk (scan (opB m ++ (s ++ shB m))).1 j).at_, 30) := by
    unfold exprS; rw [if_neg (by rw [h1]; decide)]; rfl
   rw [x0, x1]
   generalize (scan s).1 = L0 at *
   generalize (scan (opB m ++ (s ++ shB m))).1 = L1 at *
   cases hq : partR L0 1 0 (tightW L0 1 1 0) with
   | error e =>
    have hP := rds_part g0.1 g0.2.2.1 hq
    refine ⟨fun h => ?_, fun _ h30 => ?_⟩
    ·simp only at h; omega
    ·simp only at h30
     obtain ⟨e', he'⟩ := r2 e hq (by omega)
     rw [he']
     have hP' := rds_part g1.1 g1.2.2.1 he'
     simp only
     omega
   | ok q =>
    obtain ⟨x, j⟩ := q
    simp only
    by_cases k0 : (tk L0 j).kind = 0
    ·rw [if_pos k0]
     refine ⟨fun _ => ?_, fun h => absurd rfl h⟩
     rcases r1 x j hq k0 with h | ⟨e, h, he⟩
     ·rw [h]
      simp only
      rw [if_pos H.e]
      exact .inl (by simp)
     ·rw [h]
      exact .inr he
    ·rw [if_neg k0]
     exact ⟨fun h => absurd h (show ¬ (30 : Int) = 0 by decide), fun _ h => absurd rfl h⟩
end Go.Proofs.YtennkhdlpbggkaaDoor
namespace Go.Proofs.YtennkhdlpbggkaaDoor
open Go Go.Proofs.Ab
namespace ref03_SameExpr
theorem eq (a0_0 : Int) (a0_1 : ByteArray) (a0_2 : Int) (a0_3 : List (List V)) (a1_0 : Int) (a1_1 : ByteArray) (a1_2 : Int) (a1_3 : List (List V)) : den Sp id [V.agg [V.int .i64 a0_0, V.str a0_1, V.int .i64 a0_2, V.sl .no T_api_Expr a0_3], V.agg [V.int .i64 a1_0, V.str a1_1, V.int .i64 a1_2, V.sl .no T_api_Expr a1_3]] [] none =
  (bif (a0_0 != a1_0) then (some ⟨Out.ret (V.bool false), [], none⟩) else (bif (!(decide (a0_1 = a1_1))) then (some ⟨Out.ret (V.bool false), [], none⟩) else (bif (a0_2 != a1_2) then (some ⟨Out.ret (V.bool false), [], none⟩) else (den Sp ref03_SameExprs.id [V.sl .no T_api_Expr a0_3, V.sl .no T_api_Expr a1_3] [] none).bind (fun r11 => Res.onRet r11 (fun v12 => V.asBool v12 (fun b13 => some ⟨Out.ret (V.bool b13), [], none⟩)))))) := (den_eq ..).trans (by kernel_rfl)
end ref03_SameExpr
namespace ref03_SameExprs
noncomputable abbrev e (p : List Nat) := ev Sp (den Sp) id Tryd.f29.ntmps (cAt (bodyOf Tryd.f29) p)
noncomputable abbrev cn (n0 : List Nat) := canon Sp id n0
noncomputable abbrev K : K := kFin Sp (den Sp) (Sp.oo id) Tryd.f29 0
noncomputable def L1_1_0_1_0 (l0 l1 : List (List V)) (i2 : Int) : Option Res := LP (e [1, 1, 0, 1, 0, 0]) (cn []) (kBlk 0 (kSeq (e [1, 1, 1]) (K))) ([(0, (V.sl .no T_api_Expr l0)), (1, (V.sl .no T_api_Expr l1)), (5, (V.int .i64 i2))], ⟨[], [], [], [], none⟩)
theorem L1_1_0_1_0_eq (l0 l1 : List (List V)) (i2 : Int) : L1_1_0_1_0 l0 l1 i2 =
  (bif (decide (i2 < (l0.length : Int))) then (if (((0 : Int) <= i2) ∧ (i2 < (l0.length : Int))) then (V.asInt (List.getD (List.getD l0 (Int.toNat i2) []) 0 V.undef) .i64 (fun n10 => V.asStr (List.getD (List.getD l0 (Int.toNat i2) []) 1 V.undef) (fun s11 => V.asInt (List.getD (List.getD l0 (Int.toNat i2) []) 2 V.undef) .i64 (fun n12 => V.asSl (List.getD (List.getD l0 (Int.toNat i2) []) 3 V.undef) T_api_Expr (fun es13 => if (((0 : Int) <= i2) ∧ (i2 < (l1.length : Int))) then (V.asInt (List.getD (List.getD l1 (Int.toNat i2) []) 0 V.undef) .i64 (fun n14 => V.asStr (List.getD (List.getD l1 (Int.toNat i2) []) 1 V.undef) (fun s15 => V.asInt (List.getD (List.getD l1 (Int.toNat i2) []) 2 V.undef) .i64 (fun n16 => V.asSl (List.getD (List.getD l1 (Int.toNat i2) []) 3 V.undef) T_api_Expr (fun es17 => (den Sp ref03_SameExpr.id [V.agg [V.int .i64 n10, V.str s11, V.int .i64 n12, V.sl .no T_api_Expr es13], V.agg [V.int .i64 n14, V.str s15, V.int .i64 n16, V.sl .no T_api_Expr es17]] [] none).bind (fun r18 => Res.onRet r18 (fun v19 => V.asBool v19 (fun b20 => bif (!b20) then (some ⟨Out.ret (V.bool false), [], none⟩) else (L1_1_0_1_0 l0 l1 (IntKind.wrap .i64 (i2 + (1 : Int)))))))))))) else none))))) else none) else (some ⟨Out.ret (V.bool true), [], none⟩)) := (LP_eq ..).trans (by kernel_rfl)
theorem eq (a0 a1 : List (List V)) : den Sp id [V.sl .no T_api_Expr a0, V.sl .no T_api_Expr a1] [] none =
  (bif ((a0.length : Int) != (a1.length : Int)) then (some ⟨Out.ret (V.bool false), [], none⟩) else (L1_1_0_1_0 a0 a1 (0 : Int))) := (den_eq ..).trans (by kernel_rfl)
end ref03_SameExprs
end Go.Proofs.YtennkhdlpbggkaaDoor
namespace Go.Proofs.YtennkhdlpbggkaaDoor
open Go Go.Proofs.Ab Go.Proofs.Px
attribute [local congr] bind_h asInt_h asBool_h asStr_h asSl_h asSlR_h asAgg_h asTup_h asIface_h asCells_h onRet_h onOut_h cond_h
theorem sames_of (l : List Ex) (hl : l.length <= 140737488351232) (h : ∀ x ∈ l, den Sp ref03_SameExpr.id [.agg x.v, .agg x.v] [] none = some ⟨.ret (.bool true), [], none⟩) :
  den Sp ref03_SameExprs.id [.sl .no T_api_Expr (l.map Ex.v), .sl .no T_api_Expr (l.map Ex.v)] [] none = some ⟨.ret (.bool true), [], none⟩ := by
 have key : ∀ i : Nat, i <= l.length -> ref03_SameExprs.L1_1_0_1_0 (l.map Ex.v) (l.map Ex.v) (i : Int) = some ⟨.ret (.bool true), [], none⟩ := by
  refine down ?_ fun i hi ih => ?_
  ·rw [ref03_SameExprs.L1_1_0_1_0_eq, List.length_map, decide_eq_false (Int.lt_irrefl _), cond_false]
  ·have hx := h _ (List.getElem_mem hi)
   have w := wrap_nat (i := i) (by omega)
   rw [ref03_SameExprs.L1_1_0_1_0_eq]
   simp only [List.length_map, decide_eq_true (show (i : Int) < (l.length : Int) by omega), if_pos (Px.in_row hi), Int.toNat_natCast, map_at _ _ _ hi, hx, w, ih, lz, lx, if_true, if_false]
 have h0 := key 0 (Nat.zero_le _)
 rw [ref03_SameExprs.eq]
 simp only [bne_self_eq_false, cond_false]
 exact h0
theorem same_self : ∀ x : Ex, ExOk x -> den Sp ref03_SameExpr.id [.agg x.v, .agg x.v] [] none = some ⟨.ret (.bool true), [], none⟩ := by
 refine Ex.ind fun k n m l ih ho => ?_
 obtain ⟨ok, on, om, ol, oh⟩ := ho.inv
 have h := sames_of l ol fun x hx => ih x hx (oh x hx)
 rw [Ex.v_mk, ref03_SameExpr.eq]
 simp only [bne_self_eq_false, decide_true, h, lz, lx, if_true, if_false]
end Go.Proofs.YtennkhdlpbggkaaDoor
namespace Go.Proofs.YtennkhdlpbggkaaDoor
open Go Go.Proofs.Ab
namespace ref01_Among
theorem eq (a0 a1 : Int) : den Sp id [V.int .i64 a0, V.int .i64 a1] [] none =
  (bif (decide (a1 < (1 : Int))) then (some ⟨Out.ret (V.int .i64 (0 : Int)), [], none⟩) else (if (a1 = (0 : Int)) then none else (bif (decide ((Int.tmod a0 a1) < (0 : Int))) then (some ⟨Out.ret (V.int .i64 (IntKind.wrap .i64 ((Int.tmod a0 a1) + a1))), [], none⟩) else (some ⟨Out.ret (V.int .i64 (Int.tmod a0 a1)), [], none⟩)))) := (den_eq ..).trans (by kernel_rfl)
end ref01_Among
end Go.Proofs.YtennkhdlpbggkaaDoor
namespace Go.Proofs.YtennkhdlpbggkaaDoor
open Go Go.Proofs.Ab Go.Proofs.Px
theorem ref01_Among_is (a n : Int) (h0 : 1 <= n) (h1 : n <= 1000000000) : den Sp ref01_Among.id [.int .i64 a, .int .i64 n] [] none = some ⟨.ret (.int .i64 (a % n)), [], none⟩ := by
 rw [ref01_Among.eq]
 have hn : ¬ n < 1 := by omega
 have hn0 : ¬ n = 0 := by omega
 have hm0 := Int.emod_nonneg a hn0
 have hm1 := Int.emod_lt_of_pos a (show 0 < n by omega)
 have ht : Int.tmod a n = if 0 <= a ∨ n ∣ a then a % n else a % n - n := by
  have := Int.tmod_eq_emod (a := a) (b := n)
  rw [this]
  have e : (n.natAbs : Int) = n := by omega
  split
  ·simp
  ·rw [e]
 by_cases c : 0 <= a ∨ n ∣ a
 ·rw [if_pos c] at ht
  simp [hn, hn0, ht, show ¬ a % n < 0 by omega]
 ·rw [if_neg c] at ht
  have h2 : a % n - n < 0 := by omega
  simp (disch := omega) [hn, hn0, ht, h2, wrap_in]
end Go.Proofs.YtennkhdlpbggkaaDoor
namespace Go.Proofs.YtennkhdlpbggkaaDoor
open Go Go.Proofs.Ab
theorem ks_p1 : den Sp syntax_Parse.id [.str ⟨#[112, 114, 111, 99, 32, 109, 97, 105, 110, 32, 40, 32, 41, 32, 123, 32, 112, 114, 105, 110, 116, 32, 49, 32, 43, 32, 50, 32, 42, 32, 51, 32, 59, 32, 125]⟩] [] none = (some ⟨(Out.ret (V.tup [(V.agg [(V.sl Tok.no T_api_Proc [[(V.str (ByteArray.mk #[109, 97, 105, 110])), (V.sl Tok.no T_api_Param []), (V.int IntKind.i64 (0 : Int)), (V.sl Tok.no T_api_Stmt [[(V.int IntKind.i64 (8 : Int)), (V.str (ByteArray.mk #[])), (V.str (ByteArray.mk #[])), (V.int IntKind.i64 (0 : Int)), (V.sl Tok.no T_api_Expr [[(V.int IntKind.i64 (6 : Int)), (V.str (ByteArray.mk #[43])), (V.int IntKind.i64 (0 : Int)), (V.sl Tok.no T_api_Expr [[(V.int IntKind.i64 (1 : Int)), (V.str (ByteArray.mk #[])), (V.int IntKind.i64 (1 : Int)), (V.sl Tok.no T_api_Expr [])], [(V.int IntKind.i64 (6 : Int)), (V.str (ByteArray.mk #[42])), (V.int IntKind.i64 (0 : Int)), (V.sl Tok.no T_api_Expr [[(V.int IntKind.i64 (1 : Int)), (V.str (ByteArray.mk #[])), (V.int IntKind.i64 (2 : Int)), (V.sl Tok.no T_api_Expr [])], [(V.int IntKind.i64 (1 : Int)), (V.str (ByteArray.mk #[])), (V.int IntKind.i64 (3 : Int)), (V.sl Tok.no T_api_Expr [])]])]])]]), (V.sl Tok.no T_api_Stmt []), (V.sl Tok.no T_api_Stmt [])]])]])]), (V.int IntKind.i64 (0 : Int)), (V.int IntKind.i64 (0 : Int))])), [], none⟩) :=
 callN_le Sp 90 40 (show callN Sp 90 40 syntax_Parse.id [.str ⟨#[112, 114, 111, 99, 32, 109, 97, 105, 110, 32, 40, 32, 41, 32, 123, 32, 112, 114, 105, 110, 116, 32, 49, 32, 43, 32, 50, 32, 42, 32, 51, 32, 59, 32, 125]⟩] [] none = (some ⟨(Out.ret (V.tup [(V.agg [(V.sl Tok.no T_api_Proc [[(V.str (ByteArray.mk #[109, 97, 105, 110])), (V.sl Tok.no T_api_Param []), (V.int IntKind.i64 (0 : Int)), (V.sl Tok.no T_api_Stmt [[(V.int IntKind.i64 (8 : Int)), (V.str (ByteArray.mk #[])), (V.str (ByteArray.mk #[])), (V.int IntKind.i64 (0 : Int)), (V.sl Tok.no T_api_Expr [[(V.int IntKind.i64 (6 : Int)), (V.str (ByteArray.mk #[43])), (V.int IntKind.i64 (0 : Int)), (V.sl Tok.no T_api_Expr [[(V.int IntKind.i64 (1 : Int)), (V.str (ByteArray.mk #[])), (V.int IntKind.i64 (1 : Int)), (V.sl Tok.no T_api_Expr [])], [(V.int IntKind.i64 (6 : Int)), (V.str (ByteArray.mk #[42])), (V.int IntKind.i64 (0 : Int)), (V.sl Tok.no T_api_Expr [[(V.int IntKind.i64 (1 : Int)), (V.str (ByteArray.mk #[])), (V.int IntKind.i64 (2 : Int)), (V.sl Tok.no T_api_Expr [])], [(V.int IntKind.i64 (1 : Int)), (V.str (ByteArray.mk #[])), (V.int IntKind.i64 (3 : Int)), (V.sl Tok.no T_api_Expr [])]])]])]]), (V.sl Tok.no T_api_Stmt []), (V.sl Tok.no T_api_Stmt [])]])]])]), (V.int IntKind.i64 (0 : Int)), (V.int IntKind.i64 (0 : Int))])), [], none⟩) by kernel_rfl)
theorem ks_pr : den Sp syntax_Print.id [(V.agg [(V.sl Tok.no T_api_Proc [[(V.str (ByteArray.mk #[109, 97, 105, 110])), (V.sl Tok.no T_api_Param []), (V.int IntKind.i64 (0 : Int)), (V.sl Tok.no T_api_Stmt [[(V.int IntKind.i64 (8 : Int)), (V.str (ByteArray.mk #[])), (V.str (ByteArray.mk #[])), (V.int IntKind.i64 (0 : Int)), (V.sl Tok.no T_api_Expr [[(V.int IntKind.i64 (6 : Int)), (V.str (ByteArray.mk #[43])), (V.int IntKind.i64 (0 : Int)), (V.sl Tok.no T_api_Expr [[(V.int IntKind.i64 (1 : Int)), (V.str (ByteArray.mk #[])), (V.int IntKind.i64 (1 : Int)), (V.sl Tok.no T_api_Expr [])], [(V.int IntKind.i64 (6 : Int)), (V.str (ByteArray.mk #[42])), (V.int IntKind.i64 (0 : Int)), (V.sl Tok.no T_api_Expr [[(V.int IntKind.i64 (1 : Int)), (V.str (ByteArray.mk #[])), (V.int IntKind.i64 (2 : Int)), (V.sl Tok.no T_api_Expr [])], [(V.int IntKind.i64 (1 : Int)), (V.str (ByteArray.mk #[])), (V.int IntKind.i64 (3 : Int)), (V.sl Tok.no T_api_Expr [])]])]])]]), (V.sl Tok.no T_api_Stmt []), (V.sl Tok.no T_api_Stmt [])]])]])])] [] none = (some ⟨(Out.ret (V.tup [(V.str (ByteArray.mk #[112, 114, 111, 99, 32, 109, 97, 105, 110, 32, 40, 32, 41, 32, 123, 32, 112, 114, 105, 110, 116, 32, 49, 32, 43, 32, 40, 32, 50, 32, 42, 32, 51, 32, 41, 32, 59, 32, 125])), (V.int IntKind.i64 (0 : Int))])), [], none⟩) :=
 callN_le Sp 90 40 (show callN Sp 90 40 syntax_Print.id [(V.agg [(V.sl Tok.no T_api_Proc [[(V.str (ByteArray.mk #[109, 97, 105, 110])), (V.sl Tok.no T_api_Param []), (V.int IntKind.i64 (0 : Int)), (V.sl Tok.no T_api_Stmt [[(V.int IntKind.i64 (8 : Int)), (V.str (ByteArray.mk #[])), (V.str (ByteArray.mk #[])), (V.int IntKind.i64 (0 : Int)), (V.sl Tok.no T_api_Expr [[(V.int IntKind.i64 (6 : Int)), (V.str (ByteArray.mk #[43])), (V.int IntKind.i64 (0 : Int)), (V.sl Tok.no T_api_Expr [[(V.int IntKind.i64 (1 : Int)), (V.str (ByteArray.mk #[])), (V.int IntKind.i64 (1 : Int)), (V.sl Tok.no T_api_Expr [])], [(V.int IntKind.i64 (6 : Int)), (V.str (ByteArray.mk #[42])), (V.int IntKind.i64 (0 : Int)), (V.sl Tok.no T_api_Expr [[(V.int IntKind.i64 (1 : Int)), (V.str (ByteArray.mk #[])), (V.int IntKind.i64 (2 : Int)), (V.sl Tok.no T_api_Expr [])], [(V.int IntKind.i64 (1 : Int)), (V.str (ByteArray.mk #[])), (V.int IntKind.i64 (3 : Int)), (V.sl Tok.no T_api_Expr [])]])]])]]), (V.sl Tok.no T_api_Stmt []), (V.sl Tok.no T_api_Stmt [])]])]])])] [] none = (some ⟨(Out.ret (V.tup [(V.str (ByteArray.mk #[112, 114, 111, 99, 32, 109, 97, 105, 110, 32, 40, 32, 41, 32, 123, 32, 112, 114, 105, 110, 116, 32, 49, 32, 43, 32, 40, 32, 50, 32, 42, 32, 51, 32, 41, 32, 59, 32, 125])), (V.int IntKind.i64 (0 : Int))])), [], none⟩) by kernel_rfl)
theorem ks_p2 : den Sp syntax_Parse.id [.str ⟨#[112, 114, 111, 99, 32, 102, 32, 40, 32, 105, 110, 116, 32, 97, 32, 44, 32, 41, 32, 123, 32, 125]⟩] [] none = (some ⟨(Out.ret (V.tup [(V.agg [(V.sl Tok.no T_api_Proc [])]), (V.int IntKind.i64 (17 : Int)), (V.int IntKind.i64 (30 : Int))])), [], none⟩) :=
 callN_le Sp 90 40 (show callN Sp 90 40 syntax_Parse.id [.str ⟨#[112, 114, 111, 99, 32, 102, 32, 40, 32, 105, 110, 116, 32, 97, 32, 44, 32, 41, 32, 123, 32, 125]⟩] [] none = (some ⟨(Out.ret (V.tup [(V.agg [(V.sl Tok.no T_api_Proc [])]), (V.int IntKind.i64 (17 : Int)), (V.int IntKind.i64 (30 : Int))])), [], none⟩) by kernel_rfl)
theorem ks_x : den Sp syntax_Expr.id [.str ⟨#[45, 32, 97, 32, 91, 32, 49, 32, 93, 32, 60, 32, 50, 32, 38, 38, 32, 116, 114, 117, 101]⟩] [] none = (some ⟨(Out.ret (V.tup [(V.agg [(V.int IntKind.i64 (6 : Int)), (V.str (ByteArray.mk #[38, 38])), (V.int IntKind.i64 (0 : Int)), (V.sl Tok.no T_api_Expr [[(V.int IntKind.i64 (6 : Int)), (V.str (ByteArray.mk #[60])), (V.int IntKind.i64 (0 : Int)), (V.sl Tok.no T_api_Expr [[(V.int IntKind.i64 (5 : Int)), (V.str (ByteArray.mk #[45])), (V.int IntKind.i64 (0 : Int)), (V.sl Tok.no T_api_Expr [[(V.int IntKind.i64 (4 : Int)), (V.str (ByteArray.mk #[97])), (V.int IntKind.i64 (0 : Int)), (V.sl Tok.no T_api_Expr [[(V.int IntKind.i64 (1 : Int)), (V.str (ByteArray.mk #[])), (V.int IntKind.i64 (1 : Int)), (V.sl Tok.no T_api_Expr [])]])]])], [(V.int IntKind.i64 (1 : Int)), (V.str (ByteArray.mk #[])), (V.int IntKind.i64 (2 : Int)), (V.sl Tok.no T_api_Expr [])]])], [(V.int IntKind.i64 (2 : Int)), (V.str (ByteArray.mk #[])), (V.int IntKind.i64 (1 : Int)), (V.sl Tok.no T_api_Expr [])]])]), (V.int IntKind.i64 (0 : Int)), (V.int IntKind.i64 (0 : Int))])), [], none⟩) :=
 callN_le Sp 90 40 (show callN Sp 90 40 syntax_Expr.id [.str ⟨#[45, 32, 97, 32, 91, 32, 49, 32, 93, 32, 60, 32, 50, 32, 38, 38, 32, 116, 114, 117, 101]⟩] [] none = (some ⟨(Out.ret (V.tup [(V.agg [(V.int IntKind.i64 (6 : Int)), (V.str (ByteArray.mk #[38, 38])), (V.int IntKind.i64 (0 : Int)), (V.sl Tok.no T_api_Expr [[(V.int IntKind.i64 (6 : Int)), (V.str (ByteArray.mk #[60])), (V.int IntKind.i64 (0 : Int)), (V.sl Tok.no T_api_Expr [[(V.int IntKind.i64 (5 : Int)), (V.str (ByteArray.mk #[45])), (V.int IntKind.i64 (0 : Int)), (V.sl Tok.no T_api_Expr [[(V.int IntKind.i64 (4 : Int)), (V.str (ByteArray.mk #[97])), (V.int IntKind.i64 (0 : Int)), (V.sl Tok.no T_api_Expr [[(V.int IntKind.i64 (1 : Int)), (V.str (ByteArray.mk #[])), (V.int IntKind.i64 (1 : Int)), (V.sl Tok.no T_api_Expr [])]])]])], [(V.int IntKind.i64 (1 : Int)), (V.str (ByteArray.mk #[])), (V.int IntKind.i64 (2 : Int)), (V.sl Tok.no T_api_Expr [])]])], [(V.int IntKind.i64 (2 : Int)), (V.str (ByteArray.mk #[])), (V.int IntKind.i64 (1 : Int)), (V.sl Tok.no T_api_Expr [])]])]), (V.int IntKind.i64 (0 : Int)), (V.int IntKind.i64 (0 : Int))])), [], none⟩) by kernel_rfl)
theorem ks_t : den Sp syntax_PrintExpr.id [(V.agg [(V.int IntKind.i64 (6 : Int)), (V.str (ByteArray.mk #[38, 38])), (V.int IntKind.i64 (0 : Int)), (V.sl Tok.no T_api_Expr [[(V.int IntKind.i64 (6 : Int)), (V.str (ByteArray.mk #[60])), (V.int IntKind.i64 (0 : Int)), (V.sl Tok.no T_api_Expr [[(V.int IntKind.i64 (5 : Int)), (V.str (ByteArray.mk #[45])), (V.int IntKind.i64 (0 : Int)), (V.sl Tok.no T_api_Expr [[(V.int IntKind.i64 (4 : Int)), (V.str (ByteArray.mk #[97])), (V.int IntKind.i64 (0 : Int)), (V.sl Tok.no T_api_Expr [[(V.int IntKind.i64 (1 : Int)), (V.str (ByteArray.mk #[])), (V.int IntKind.i64 (1 : Int)), (V.sl Tok.no T_api_Expr [])]])]])], [(V.int IntKind.i64 (1 : Int)), (V.str (ByteArray.mk #[])), (V.int IntKind.i64 (2 : Int)), (V.sl Tok.no T_api_Expr [])]])], [(V.int IntKind.i64 (2 : Int)), (V.str (ByteArray.mk #[])), (V.int IntKind.i64 (1 : Int)), (V.sl Tok.no T_api_Expr [])]])])] [] none = (some ⟨(Out.ret (V.tup [(V.str (ByteArray.mk #[40, 32, 45, 32, 97, 32, 91, 32, 49, 32, 93, 32, 60, 32, 50, 32, 41, 32, 38, 38, 32, 116, 114, 117, 101])), (V.int IntKind.i64 (0 : Int))])), [], none⟩) :=
 callN_le Sp 90 40 (show callN Sp 90 40 syntax_PrintExpr.id [(V.agg [(V.int IntKind.i64 (6 : Int)), (V.str (ByteArray.mk #[38, 38])), (V.int IntKind.i64 (0 : Int)), (V.sl Tok.no T_api_Expr [[(V.int IntKind.i64 (6 : Int)), (V.str (ByteArray.mk #[60])), (V.int IntKind.i64 (0 : Int)), (V.sl Tok.no T_api_Expr [[(V.int IntKind.i64 (5 : Int)), (V.str (ByteArray.mk #[45])), (V.int IntKind.i64 (0 : Int)), (V.sl Tok.no T_api_Expr [[(V.int IntKind.i64 (4 : Int)), (V.str (ByteArray.mk #[97])), (V.int IntKind.i64 (0 : Int)), (V.sl Tok.no T_api_Expr [[(V.int IntKind.i64 (1 : Int)), (V.str (ByteArray.mk #[])), (V.int IntKind.i64 (1 : Int)), (V.sl Tok.no T_api_Expr [])]])]])], [(V.int IntKind.i64 (1 : Int)), (V.str (ByteArray.mk #[])), (V.int IntKind.i64 (2 : Int)), (V.sl Tok.no T_api_Expr [])]])], [(V.int IntKind.i64 (2 : Int)), (V.str (ByteArray.mk #[])), (V.int IntKind.i64 (1 : Int)), (V.sl Tok.no T_api_Expr [])]])])] [] none = (some ⟨(Out.ret (V.tup [(V.str (ByteArray.mk #[40, 32, 45, 32, 97, 32, 91, 32, 49, 32, 93, 32, 60, 32, 50, 32, 41, 32, 38, 38, 32, 116, 114, 117, 101])), (V.int IntKind.i64 (0 : Int))])), [], none⟩) by kernel_rfl)
namespace law03_known
theorem eq : den Sp id [] [] none =
  (den Sp syntax_Parse.id [V.str (ByteArray.mk #[112, 114, 111, 99, 32, 109, 97, 105, 110, 32, 40, 32, 41, 32, 123, 32, 112, 114, 105, 110, 116, 32, 49, 32, 43, 32, 50, 32, 42, 32, 51, 32, 59, 32, 125])] [] none).bind (fun r2 => Res.onRet r2 (fun v3 => V.asTup v3 3 (fun rd4 => V.asAgg (rd4 0) 1 (fun rd5 => V.asSl (rd5 0) T_api_Proc (fun es6 => V.asInt (rd4 1) .i64 (fun n7 => V.asInt (rd4 2) .i64 (fun n8 => (den Sp syntax_Print.id [V.agg [V.sl .no T_api_Proc es6]] [] none).bind (fun r10 => Res.onRet r10 (fun v11 => V.asTup v11 2 (fun rd12 => V.asStr (rd12 0) (fun s13 => V.asInt (rd12 1) .i64 (fun n14 => (den Sp syntax_Parse.id [V.str (ByteArray.mk #[112, 114, 111, 99, 32, 102, 32, 40, 32, 105, 110, 116, 32, 97, 32, 44, 32, 41, 32, 123, 32, 125])] [] none).bind (fun r16 => Res.onRet r16 (fun v17 => V.asTup v17 3 (fun rd18 => V.asAgg (rd18 0) 1 (fun rd19 => V.asSl (rd19 0) T_api_Proc (fun es20 => V.asInt (rd18 1) .i64 (fun n21 => V.asInt (rd18 2) .i64 (fun n22 => (den Sp syntax_Expr.id [V.str (ByteArray.mk #[45, 32, 97, 32, 91, 32, 49, 32, 93, 32, 60, 32, 50, 32, 38, 38, 32, 116, 114, 117, 101])] [] none).bind (fun r24 => Res.onRet r24 (fun v25 => V.asTup v25 3 (fun rd26 => V.asAgg (rd26 0) 4 (fun rd27 => V.asInt (rd27 0) .i64 (fun n28 => V.asStr (rd27 1) (fun s29 => V.asInt (rd27 2) .i64 (fun n30 => V.asSl (rd27 3) T_api_Expr (fun es31 => V.asInt (rd26 1) .i64 (fun n32 => V.asInt (rd26 2) .i64 (fun n33 => (den Sp syntax_PrintExpr.id [V.agg [V.int .i64 n28, V.str s29, V.int .i64 n30, V.sl .no T_api_Expr es31]] [] none).bind (fun r35 => Res.onRet r35 (fun v36 => V.asTup v36 2 (fun rd37 => V.asStr (rd37 0) (fun s38 => V.asInt (rd37 1) .i64 (fun n39 => bif (n8 == (0 : Int)) then (bif (n14 == (0 : Int)) then (bif (decide (s13 = (ByteArray.mk #[112, 114, 111, 99, 32, 109, 97, 105, 110, 32, 40, 32, 41, 32, 123, 32, 112, 114, 105, 110, 116, 32, 49, 32, 43, 32, 40, 32, 50, 32, 42, 32, 51, 32, 41, 32, 59, 32, 125]))) then (bif (n21 == (17 : Int)) then (bif (n22 == (30 : Int)) then (bif (n33 == (0 : Int)) then (bif (n39 == (0 : Int)) then (some ⟨Out.ret (V.bool (decide (s38 = (ByteArray.mk #[40, 32, 45, 32, 97, 32, 91, 32, 49, 32, 93, 32, 60, 32, 50, 32, 41, 32, 38, 38, 32, 116, 114, 117, 101])))), [], none⟩) else (some ⟨Out.ret (V.bool false), [], none⟩)) else (some ⟨Out.ret (V.bool false), [], none⟩)) else (some ⟨Out.ret (V.bool false), [], none⟩)) else (some ⟨Out.ret (V.bool false), [], none⟩)) else (some ⟨Out.ret (V.bool false), [], none⟩)) else (some ⟨Out.ret (V.bool false), [], none⟩)) else (some ⟨Out.ret (V.bool false), [], none⟩))))))))))))))))))))))))))))))))))) := (den_eq ..).trans (by kernel_rfl)
end law03_known
end Go.Proofs.YtennkhdlpbggkaaDoor
namespace Go.Proofs.YtennkhdlpbggkaaDoor
open Go Go.Proofs.Ab Go.Proofs.Px
theorem law03_known_is : den Sp law03_known.id [] [] none = some ⟨.ret (.bool true), [], none⟩ := by
 rw [law03_known.eq]
 simp only [ks_p1, ks_pr, ks_p2, ks_x, ks_t, Option.bind_some, onRet_ret, asAgg_agg, asTup_tup, List.length_cons, List.length_nil, Nat.zero_add, Nat.reduceAdd, List.getD_cons_zero, List.getD_cons_succ, asInt_int, asStr_str, asSl_sl, asBool_bool, bne_self_eq_false, cond_false]
 rfl
end Go.Proofs.YtennkhdlpbggkaaDoor
namespace Go.Proofs.YtennkhdlpbggkaaDoor
open Go Go.Proofs.Ab
namespace law03_SynBrackets
noncomputable abbrev e (p : List Nat) := ev Sp (den Sp) id Tryd.f4.ntmps (cAt (bodyOf Tryd.f4) p)
noncomputable abbrev cn (n0 : List Nat) := canon Sp id n0
noncomputable abbrev K : K := kFin Sp (den Sp) (Sp.oo id) Tryd.f4 0
noncomputable def L1_1_1_1_0_1_0 (s0 : ByteArray) (i1 i2 : Int) (s3 s4 : ByteArray) (i5 i6 : Int) (s7 : ByteArray) (i8 : Int) (l9 : List (List V)) : Option Res := LP (e [1, 1, 1, 1, 0, 1, 0, 0]) (cn [1005]) (kBlk 0 (kSeq (e [1, 1, 1, 1, 1]) (K))) ([(0, (V.str s0)), (1, (V.int .i64 i1)), (5, (V.ref 1005 0)), (7, (V.int .i64 i2)), (8, (V.str s3)), (9, (V.str s4)), (10, (V.int .i64 i5))], ⟨[(1005, (Blk.cells T_api_Expr [V.int .i64 i6, V.str s7, V.int .i64 i8, V.sl .no T_api_Expr l9] false))], [], [], [], none⟩)
theorem L1_1_1_1_0_1_0_eq (s0 : ByteArray) (i1 i2 : Int) (s3 s4 : ByteArray) (i5 i6 : Int) (s7 : ByteArray) (i8 : Int) (l9 : List (List V)) : L1_1_1_1_0_1_0 s0 i1 i2 s3 s4 i5 i6 s7 i8 l9 =
  (den Sp ref01_Among.id [V.int .i64 i1, V.int .i64 (10 : Int)] [] none).bind (fun r28 => Res.onRet r28 (fun v29 => V.asInt v29 .i64 (fun n30 => bif (decide (i5 < n30)) then (if (((ByteArray.size s3) + 2) <= most) then (if (((ByteArray.size s4) + 2) <= most) then (L1_1_1_1_0_1_0 s0 i1 i2 (s3 ++ (ByteArray.mk #[40, 32])) (s4 ++ (ByteArray.mk #[10, 41])) (IntKind.wrap .i64 (i5 + (1 : Int))) i6 s7 i8 l9) else none) else none) else (if (((ByteArray.size s3) + (ByteArray.size s0)) <= most) then (if (((ByteArray.size (s3 ++ s0)) + (ByteArray.size s4)) <= most) then (den Sp syntax_Expr.id [V.str ((s3 ++ s0) ++ s4)] [] none).bind (fun r32 => Res.onRet r32 (fun v33 => V.asTup v33 3 (fun rd34 => V.asAgg (rd34 0) 4 (fun rd35 => V.asInt (rd35 0) .i64 (fun n36 => V.asStr (rd35 1) (fun s37 => V.asInt (rd35 2) .i64 (fun n38 => V.asSl (rd35 3) T_api_Expr (fun es39 => V.asInt (rd34 1) .i64 (fun n40 => V.asInt (rd34 2) .i64 (fun n41 => bif (i2 != (0 : Int)) then (bif (n41 != (0 : Int)) then (den Sp law03_known.id [] [] none).bind (fun r44 => Res.onRet r44 (fun v45 => V.asBool v45 (fun b46 => some ⟨Out.ret (V.bool b46), [], none⟩))) else (bif (i2 == (30 : Int)) then (den Sp law03_known.id [] [] none).bind (fun r44 => Res.onRet r44 (fun v45 => V.asBool v45 (fun b46 => some ⟨Out.ret (V.bool b46), [], none⟩))) else (some ⟨Out.ret (V.bool false), [], none⟩))) else (bif (n41 == (0 : Int)) then (den Sp ref03_SameExpr.id [V.agg [V.int .i64 i6, V.str s7, V.int .i64 i8, V.sl .no T_api_Expr l9], V.agg [V.int .i64 n36, V.str s37, V.int .i64 n38, V.sl .no T_api_Expr es39]] [] none).bind (fun r44 => Res.onRet r44 (fun v45 => V.asBool v45 (fun b46 => bif b46 then (den Sp law03_known.id [] [] none).bind (fun r47 => Res.onRet r47 (fun v48 => V.asBool v48 (fun b49 => some ⟨Out.ret (V.bool b49), [], none⟩))) else (bif (n41 == (31 : Int)) then (den Sp law03_known.id [] [] none).bind (fun r47 => Res.onRet r47 (fun v48 => V.asBool v48 (fun b49 => some ⟨Out.ret (V.bool b49), [], none⟩))) else (bif (n41 == (2 : Int)) then (bif (decide ((((ByteArray.size s0) : Nat) : Int) > (1500 : Int))) then (den Sp law03_known.id [] [] none).bind (fun r47 => Res.onRet r47 (fun v48 => V.asBool v48 (fun b49 => some ⟨Out.ret (V.bool b49), [], none⟩))) else (some ⟨Out.ret (V.bool false), [], none⟩)) else (some ⟨Out.ret (V.bool false), [], none⟩)))))) else (bif (n41 == (31 : Int)) then (den Sp law03_known.id [] [] none).bind (fun r44 => Res.onRet r44 (fun v45 => V.asBool v45 (fun b46 => some ⟨Out.ret (V.bool b46), [], none⟩))) else (bif (n41 == (2 : Int)) then (bif (decide ((((ByteArray.size s0) : Nat) : Int) > (1500 : Int))) then (den Sp law03_known.id [] [] none).bind (fun r44 => Res.onRet r44 (fun v45 => V.asBool v45 (fun b46 => some ⟨Out.ret (V.bool b46), [], none⟩))) else (some ⟨Out.ret (V.bool false), [], none⟩)) else (some ⟨Out.ret (V.bool false), [], none⟩)))))))))))))) else none) else none)))) := (LP_eq ..).trans (by kernel_rfl)
theorem eq (a0 : ByteArray) (a1 : Int) : den Sp id [V.str a0, V.int .i64 a1] [] none =
  (bif (decide ((((ByteArray.size a0) : Nat) : Int) > (2000 : Int))) then (den Sp law03_known.id [] [] none).bind (fun r5 => Res.onRet r5 (fun v6 => V.asBool v6 (fun b7 => some ⟨Out.ret (V.bool b7), [], none⟩))) else (den Sp syntax_Expr.id [V.str a0] [] none).bind (fun r5 => Res.onRet r5 (fun v6 => V.asTup v6 3 (fun rd7 => V.asAgg (rd7 0) 4 (fun rd8 => V.asInt (rd8 0) .i64 (fun n9 => V.asStr (rd8 1) (fun s10 => V.asInt (rd8 2) .i64 (fun n11 => V.asSl (rd8 3) T_api_Expr (fun es12 => V.asInt (rd7 1) .i64 (fun n13 => V.asInt (rd7 2) .i64 (fun n14 => L1_1_1_1_0_1_0 a0 a1 n14 (ByteArray.mk #[]) (ByteArray.mk #[]) (0 : Int) n9 s10 n11 es12))))))))))) := (den_eq ..).trans (by kernel_rfl)
end law03_SynBrackets
end Go.Proofs.YtennkhdlpbggkaaDoor
namespace Go.Proofs.YtennkhdlpbggkaaDoor
open Go Go.Proofs.Ab Go.Proofs.Px
attribute [local congr] bind_h asInt_h asBool_h asStr_h asSl_h asSlR_h asAgg_h asTup_h asIface_h asCells_h onRet_h onOut_h cond_h
theorem right_wr : ∀ {l : List Tk}, rightL l = true -> ∀ (k : Nat), k < l.length -> (tk l k).kind ≠ 0 -> wrOk (tk l k) = true
 | [], h, k, hk, _ => by cases hk
 | [t], h, k, hk, h0 => by
  have : k = 0 := by simpa using hk
  subst this
  unfold rightL endT at h
  simp only [Bool.and_eq_true, decide_eq_true_eq] at h
  exact absurd h.1.1 h0
 | t :: u :: l, h, 0, hk, h0 => by
  unfold rightL at h
  rw [Bool.and_eq_true] at h
  exact h.1
 | t :: u :: l, h, k + 1, hk, h0 => by
  unfold rightL at h
  rw [Bool.and_eq_true] at h
  exact right_wr h.2 k (by simpa using hk) h0
theorem exprS_in (s : List UInt8) (hs : s.length <= 140737488351232) : ExOk (exprS s).1 := by
 have hz : ExOk zeroX := .mk (by decide) (by decide) (by decide) (by decide) (fun x h => by cases h)
 unfold exprS
 by_cases c : (scan s).2.2 = 0
 ·rw [if_neg (fun h => h c)]
  obtain ⟨g1, g2, g3, g4, g5⟩ := scan_ended hs c
  cases hq : partR (scan s).1 1 0 (tightW (scan s).1 1 1 0) with
  | error e => exact hz
  | ok q =>
   obtain ⟨x, j⟩ := q
   simp only
   by_cases k0 : (tk (scan s).1 j).kind = 0
   ·rw [if_pos k0]
    have hg : ∀ k, k < (scan s).1.length -> (tk (scan s).1 k).kind ≠ 0 -> wrOk (tk (scan s).1 k) = true ∧ TkOk (tk (scan s).1 k) := fun k hk h0 => ⟨right_wr g5 k hk h0, by
     have : tk (scan s).1 k = (scan s).1[k] := by
      unfold tk
      rw [List.getD_eq_getElem?_getD, List.getElem?_eq_getElem hk]; rfl
     rw [this]; exact g4 _ (List.getElem_mem hk)⟩
    exact ((rds_ok g1 hg _ 0 (Nat.le_refl _) g3).2.1 1 1 x j (partR_ok hq)).1
   ·rw [if_neg k0]; exact hz
 ·rw [if_pos c]; exact hz
theorem brk_done (s : List UInt8) (n : Int) (m : Nat) (hs : s.length <= 2000) (hm : m < 10) (hn : n % 10 = (m : Int)) :
  law03_SynBrackets.L1_1_1_1_0_1_0 (B s) n (exprS s).2.2 (B (opB m)) (B (shB m)) (m : Int) (exprS s).1.kind (B (exprS s).1.name) (exprS s).1.num ((exprS s).1.l.map Ex.v) = some ⟨.ret (.bool true), [], none⟩ := by
 obtain ⟨b1, b2⟩ := brackets s m hs hm
 have hA := ref01_Among_is n 10 (by decide) (by decide)
 rw [hn] at hA
 have hK := law03_known_is
 have c0 : decide ((m : Int) < (m : Int)) = false := decide_eq_false (by omega)
 have l1 := opB_length m
 have l2 := shB_length m
 have mo : most = 1099511627776 := rfl
 have z1 : (opB m).length + s.length <= most := by rw [mo]; omega
 have z2 : (opB m ++ s).length + (shB m).length <= most := by rw [mo, List.length_append]; omega
 have hE := syntax_Expr_is (opB m ++ s ++ shB m) (by rw [List.length_append, List.length_append]; omega)
 rw [List.append_assoc] at hE
 have hX := exprS_in s (by omega)
 have hS := same_self _ hX
 generalize exprS s = q at *
 obtain ⟨x, a, e⟩ := q
 generalize exprS (opB m ++ (s ++ shB m)) = r at *
 obtain ⟨y, a', e'⟩ := r
 unfold exprV at hE
 simp only at b1 b2 hE hS hX ⊢
 rw [law03_SynBrackets.L1_1_1_1_0_1_0_eq]
 have hx : [V.int .i64 x.kind, V.str (B x.name), V.int .i64 x.num, V.sl .no T_api_Expr (x.l.map Ex.v)] = x.v := (Ex.v_is x).symm
 by_cases c : e = 0
 ·have d1 : (e != 0) = false := by simpa using c
  rcases b1 c with ⟨h1, h2⟩ | h1
  ·injection h1 with h1 h3
   injection h3 with h3 h4
   subst h1
   have d2 : (e' == 0) = true := by simpa using h4
   simp only [hA, c0, B_append, B_size, if_pos z1, if_pos z2, List.append_assoc, hE, d1, d2, hx, hS, hK, lz, lx, if_true, if_false]
  ·have d2 : (e' == 0) = false := by rw [h1]; decide
   have d3 : (e' == 31) = true := by rw [h1]; decide
   simp only [hA, c0, B_append, B_size, if_pos z1, if_pos z2, List.append_assoc, hE, d1, d2, d3, hK, lz, lx, if_true, if_false]
 ·have d1 : (e != 0) = true := by simpa using c
  by_cases c3 : e = 30
  ·have d3 : (e == 30) = true := by simpa using c3
   cases d2 : (e' != 0) with
   | true => simp only [hA, c0, B_append, B_size, if_pos z1, if_pos z2, List.append_assoc, hE, d1, d2, hK, lz, lx, if_true, if_false]
   | false => simp only [hA, c0, B_append, B_size, if_pos z1, if_pos z2, List.append_assoc, hE, d1, d2, d3, hK, lz, lx, if_true, if_false]
  ·have d2 : (e' != 0) = true := by simpa using b2 c c3
   simp only [hA, c0, B_append, B_size, if_pos z1, if_pos z2, List.append_assoc, hE, d1, d2, hK, lz, lx, if_true, if_false]
theorem brk_loop (s : List UInt8) (n : Int) (m : Nat) (hs : s.length <= 2000) (hm : m < 10) (hn : n % 10 = (m : Int)) :
  ∀ i : Nat, i <= m -> law03_SynBrackets.L1_1_1_1_0_1_0 (B s) n (exprS s).2.2 (B (opB i)) (B (shB i)) (i : Int) (exprS s).1.kind (B (exprS s).1.name) (exprS s).1.num ((exprS s).1.l.map Ex.v) = some ⟨.ret (.bool true), [], none⟩ := by
 refine down (brk_done s n m hs hm hn) fun i hi ih => ?_
 have hA := ref01_Among_is n 10 (by decide) (by decide)
 rw [hn] at hA
 have c0 : decide ((i : Int) < (m : Int)) = true := decide_eq_true (by omega)
 have w : IntKind.i64.wrap ((i : Int) + 1) = ((i + 1 : Nat) : Int) := by rw [wrap_in (by omega) (by omega)]; omega
 have mo : most = 1099511627776 := rfl
 have z1 : (opB i).length + 2 <= most := by rw [mo, opB_length]; omega
 have z2 : (shB i).length + 2 <= most := by rw [mo, shB_length]; omega
 have e1 : B (opB i) ++ ByteArray.mk #[40, 32] = B (opB (i + 1)) := B_append (opB i) [40, 32]
 have e2 : B (shB i) ++ ByteArray.mk #[10, 41] = B (shB (i + 1)) := B_append (shB i) [10, 41]
 rw [law03_SynBrackets.L1_1_1_1_0_1_0_eq, hA, Option.bind_some, onRet_ret, asInt_int, c0, cond_true, B_size, B_size, if_pos z1, if_pos z2, e1, e2, w]
 exact ih
theorem synBrackets_den (a0 : ByteArray) (h0 : a0.size <= 140737488351232) (n : Int) (w1 : (Lit.int .i64 n).wf = true) : den Sp law03_SynBrackets.id [.str a0, .int .i64 n] [] none = some ⟨.ret (.bool true), [], none⟩ := by
 obtain ⟨s, rfl⟩ : ∃ s, a0 = B s := ⟨a0.data.toList, rfl⟩
 rw [B_size] at h0
 have hK := law03_known_is
 rw [law03_SynBrackets.eq, B_size]
 by_cases c : s.length <= 2000
 ·have c1 : decide (((s.length : Nat) : Int) > 2000) = false := decide_eq_false (by omega)
  obtain ⟨m, hm⟩ : ∃ m : Nat, n % 10 = (m : Int) := ⟨(n % 10).toNat, by omega⟩
  have key := brk_loop s n m c (by omega) hm 0 (by omega)
  have hE := syntax_Expr_is s (by omega)
  unfold exprV at hE
  rw [c1, cond_false]
  simp only [hE, lz, lx, if_true, if_false]
  exact key
 ·have c1 : decide (((s.length : Nat) : Int) > 2000) = true := decide_eq_true (by omega)
  rw [c1, cond_true]
  simp only [hK, lz, if_true, if_false]
end Go.Proofs.YtennkhdlpbggkaaDoor
