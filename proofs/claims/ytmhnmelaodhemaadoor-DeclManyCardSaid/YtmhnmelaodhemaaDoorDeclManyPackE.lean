/- Own texts under the law DeclMany, merged, without what it does not lean on: part 5 of 5 (the abstract machine and its proof; residual forms; contracts; the plain law). -/
import Derived.Test.YtmhnmelaodhemaaDoorDeclManyPackD
import Derived.Laws.Bits64
set_option linter.unusedVariables false
set_option linter.unusedSimpArgs false
set_option linter.unusedSectionVars false
set_option maxRecDepth 100000
namespace Go.Proofs.YtmhnmelaodhemaaDoor
open Go Go.Proofs.Ab Go.Proofs.Px
attribute [local congr] bind_h asInt_h asBool_h asStr_h asSl_h asSlR_h asAgg_h asTup_h asIface_h asCells_h onRet_h onOut_h cond_h
theorem sun_v (m : Int) (s : List UInt8) (x : Ex) : Ex.v (.mk m s 0 [x]) = [.int .i64 m, .str (B s), .int .i64 0, .sl .no T_api_Expr [x.v]] := by rw [Ex.v_mk]; rfl
theorem sbin_v (s : List UInt8) (x y : Ex) : Ex.v (.mk 6 s 0 [x, y]) = [.int .i64 6, .str (B s), .int .i64 0, .sl .no T_api_Expr [x.v, y.v]] := by rw [Ex.v_mk]; rfl
theorem sleaf_v (m : Int) (s : List UInt8) (n : Int) : Ex.v (.mk m s n []) = [.int .i64 m, .str (B s), .int .i64 n, .sl .no T_api_Expr []] := by rw [Ex.v_mk]; rfl
theorem level_ne {s : List UInt8} (h : levelT s ≠ 0) : s ≠ [] := fun e => h (by rw [e]; rfl)
theorem isT_of {t : Tk} {s : List UInt8} (h : isT t s = true) : (t.kind = 3 ∨ t.kind = 4) ∧ t.text = s := by
 unfold isT at h
 simpa only [Bool.and_eq_true, Bool.or_eq_true, decide_eq_true_eq] using h
section
variable {l : List Tk} (hl : Ended l) (hn : l.length <= 100000)
include hl hn
structure FarS (l : List Tk) (k : Nat) : Prop where
 un : ∀ k', k < k' -> k' < l.length -> ∀ (d : Int) ps, 0 <= d -> d <= 60 -> RsX l ps (oneW l d k') (den Sp syntax_reader_unary.id [.ref 0 0, .int .i64 d] [rsB l k' ps] none)
 bin : ∀ k', k < k' -> k' < l.length -> ∀ (n d : Int) ps, 1 <= n -> n <= 6 -> 0 <= d -> d <= 60 -> RsX l ps (tightW l n d k') (den Sp syntax_reader_bin.id [.ref 0 0, .int .i64 n, .int .i64 d] [rsB l k' ps] none)
theorem expr_s {k : Nat} (hk : k < l.length) (d : Int) (ps : List (List V)) (hT : d <= 60 -> RsX l ps (tightW l 1 d k) (den Sp syntax_reader_bin.id [.ref 0 0, .int .i64 1, .int .i64 d] [rsB l k ps] none)) :
  RsX l ps (partR l d k (tightW l 1 d k)) (den Sp syntax_reader_expr.id [.ref 0 0, .int .i64 d] [rsB l k ps] none) := by
 have h1 := begins_s hn hk ps
 have h2 := deep_s hn hk d (opensT (tk l k))
 unfold partR
 unfold RsT at h2
 cases c : opensT (tk l k) with
 | false =>
  rw [c] at h1 h2
  rw [if_pos rfl] at h2 ⊢
  obtain ⟨j, h2⟩ := h2
  refine ⟨j, ?_⟩
  (try unfold rsB at *); (try unfold tkB at *); (try unfold givenS at *)
  rw [syntax_reader_expr.eq]
  simp only [h1, h2, lz, lx, if_true, if_false]
 | true =>
  rw [c] at h1 h2
  rw [if_neg (by simp)] at h2 ⊢
  by_cases c6 : 60 < d
  ·rw [if_pos c6] at h2 ⊢
   obtain ⟨j, h2⟩ := h2
   refine ⟨j, ?_⟩
   (try unfold rsB at *); (try unfold tkB at *); (try unfold givenS at *)
   rw [syntax_reader_expr.eq]
   simp only [h1, h2, lz, lx, if_true, if_false]
  ·rw [if_neg c6] at h2 ⊢
   simp only at h2
   have hT := hT (by omega)
   unfold RsX at *
   cases hq : tightW l 1 d k with
   | error e =>
    rw [hq] at hT
    obtain ⟨j, hT⟩ := hT
    refine ⟨j, ?_⟩
    (try unfold rsB at *); (try unfold tkB at *); (try unfold givenS at *)
    rw [syntax_reader_expr.eq]
    simp only [h1, h2, hT, lz, lx, if_true, if_false]
   | ok q =>
    obtain ⟨x, j⟩ := q
    rw [hq] at hT
    simp only at hT ⊢
    (try unfold rsB at *); (try unfold tkB at *); (try unfold givenS at *)
    rw [syntax_reader_expr.eq]
    simp only [h1, h2, hT, lz, lx, if_true, if_false]
noncomputable def un1 (l : List Tk) (ps : List (List V)) (d : Int) (i : Int) (k : Nat) : Option Res := syntax_reader_unary.L1_0_1_0 d i (l.map Tk.v) (k : Int) ps
theorem un_at {k : Nat} (hk : k < l.length) (d : Int) (ps : List (List V)) (h0 : 0 <= d) (h6 : d <= 60) (far : FarS l k) (i : Nat) (s : List UInt8) (hi : i < 2) (hs : List.getD [V.str (B [45]), V.str (B [33])] ((Int.toNat (i : Int)) * 1 + 0) .undef = .str (B s)) :
  (isT (tk l k) s = true -> RsX l ps (partR l (d + 1) (k + 1) (match oneW l (d + 1) (k + 1) with | .error e => .error e | .ok (x, j) => .ok (.mk 5 s 0 [x], j))) (un1 l ps d i k)) ∧
  (isT (tk l k) s = false -> un1 l ps d i k = un1 l ps d (i + 1 : Nat) k) := by
 have hh := has_s hn hk s
 have c2 : decide ((i : Int) < 2) = true := decide_eq_true (by omega)
 have hd : IntKind.i64.wrap (d + 1) = d + 1 := wrap_in (by omega) (by omega)
 have wi := wr1 (show i < 1099511627776 by omega)
 have ri : (0 : Int) <= (i : Int) ∧ (i : Int) < ((2 : Nat) : Int) := ⟨by omega, by omega⟩
 refine ⟨fun c => ?_, fun c => ?_⟩
 ·rw [c] at hh
  simp only [if_true] at hh
  have hk1 := hl.isT hk c
  have h1 := begins_s hn hk1 ps
  have h2 := deep_s hn hk1 (d + 1) (opensT (tk l (k + 1)))
  unfold partR
  unfold RsT at h2
  cases co : opensT (tk l (k + 1)) with
  | false =>
   rw [co] at h1 h2
   rw [if_pos rfl] at h2 ⊢
   obtain ⟨j, h2⟩ := h2
   refine ⟨j, ?_⟩
   (try unfold un1 at *); (try unfold rsB at *); (try unfold tkB at *); (try unfold givenS at *)
   rw [syntax_reader_unary.L1_0_1_0_eq]
   simp only [hh, h1, h2, c2, hd, wi, if_pos ri, hs, lz, lx, if_true, if_false]
  | true =>
   rw [co] at h1 h2
   rw [if_neg (by simp)] at h2 ⊢
   by_cases c6 : 60 < d + 1
   ·rw [if_pos c6] at h2 ⊢
    obtain ⟨j, h2⟩ := h2
    refine ⟨j, ?_⟩
    (try unfold un1 at *); (try unfold rsB at *); (try unfold tkB at *); (try unfold givenS at *)
    rw [syntax_reader_unary.L1_0_1_0_eq]
    simp only [hh, h1, h2, c2, hd, wi, if_pos ri, hs, lz, lx, if_true, if_false]
   ·rw [if_neg c6] at h2 ⊢
    simp only at h2
    have ih := far.un (k + 1) (by omega) hk1 (d + 1) ps (by omega) (by omega)
    unfold RsX at *
    cases hq : oneW l (d + 1) (k + 1) with
    | error e =>
     rw [hq] at ih
     obtain ⟨j, ih⟩ := ih
     refine ⟨j, ?_⟩
     (try unfold un1 at *); (try unfold rsB at *); (try unfold tkB at *); (try unfold givenS at *)
     rw [syntax_reader_unary.L1_0_1_0_eq]
     simp only [hh, h1, h2, ih, c2, hd, wi, if_pos ri, hs, lz, lx, if_true, if_false]
    | ok q =>
     obtain ⟨x, j⟩ := q
     rw [hq] at ih
     simp only at ih ⊢
     rw [sun_v]
     (try unfold un1 at *); (try unfold rsB at *); (try unfold tkB at *); (try unfold givenS at *)
     rw [syntax_reader_unary.L1_0_1_0_eq]
     simp only [hh, h1, h2, ih, c2, hd, wi, if_pos ri, hs, lz, lx, if_true, if_false]
 ·rw [c] at hh
  simp only [Bool.false_eq_true, if_false] at hh
  (try unfold un1 at *); (try unfold rsB at *); (try unfold tkB at *); (try unfold givenS at *)
  rw [syntax_reader_unary.L1_0_1_0_eq]
  simp only [hh, c2, hd, wi, if_pos ri, hs, lz, lx, if_true, if_false]
theorem un_s {k : Nat} (hk : k < l.length) (d : Int) (ps : List (List V)) (h0 : 0 <= d) (h6 : d <= 60) (far : FarS l k) : RsX l ps (oneW l d k) (den Sp syntax_reader_unary.id [.ref 0 0, .int .i64 d] [rsB l k ps] none) := by
 have e0 : den Sp syntax_reader_unary.id [.ref 0 0, .int .i64 d] [rsB l k ps] none = un1 l ps d (0 : Nat) k := by
  unfold rsB un1
  rw [syntax_reader_unary.eq]; rfl
 have u0 := un_at hl hn hk d ps h0 h6 far 0 [45] (by decide) rfl
 have u1 := un_at hl hn hk d ps h0 h6 far 1 [33] (by decide) rfl
 rw [e0, oneW, dif_pos hk]
 by_cases c45 : isT (tk l k) [45] = true
 ·rw [if_pos (.inl c45), ((isT_of c45).2 : (tk l k).text = [45])]
  exact u0.1 c45
 have c45' : isT (tk l k) [45] = false := by simpa using c45
 rw [u0.2 c45']
 by_cases c33 : isT (tk l k) [33] = true
 ·rw [if_pos (.inr c33), ((isT_of c33).2 : (tk l k).text = [33])]
  exact u1.1 c33
 have c33' : isT (tk l k) [33] = false := by simpa using c33
 show RsX l ps _ (un1 l ps d (1 : Nat) k)
 rw [u1.2 c33', if_neg (by rw [c45', c33']; simp)]
 clear u0 u1 e0
 have r := row_in hk
 have hh := fun s => has_s hn hk s
 have hd : IntKind.i64.wrap (d + 1) = d + 1 := wrap_in (by omega) (by omega)
 have hw := wr1 (show k < 1099511627776 by omega)
 have c2 : decide ((((1 : Nat) + 1 : Nat) : Int) < 2) = false := rfl
 by_cases c40 : isT (tk l k) [40] = true
 ·have h40 := hh [40]
  rw [if_pos c40] at h40 ⊢
  rw [c40] at h40
  have hk1 := hl.isT hk c40
  have ih := expr_s hl hn hk1 (d + 1) ps fun h => far.bin (k + 1) (by omega) hk1 1 (d + 1) ps (by omega) (by omega) (by omega) h
  unfold wantR
  unfold RsX at *
  cases hq : partR l (d + 1) (k + 1) (tightW l 1 (d + 1) (k + 1)) with
  | error e =>
   rw [hq] at ih
   obtain ⟨j, ih⟩ := ih
   refine ⟨j, ?_⟩
   (try unfold un1 at *); (try unfold rsB at *); (try unfold tkB at *); (try unfold givenS at *)
   rw [syntax_reader_unary.L1_0_1_0_eq]
   simp only [h40, ih, c2, hd, hw, if_pos r, Int.toNat_natCast, tok_g hk, tkv_0, tkv_1, tkv_2, tkv_3, lz, lx, if_true, if_false]
  | ok q =>
   obtain ⟨x, j⟩ := q
   rw [hq] at ih
   have hj := (tight_goes hl hk1 (partR_ok hq)).2
   have hnd := need_s hn hj [41]
   unfold RsT at hnd
   simp only at ih ⊢
   by_cases c41 : isT (tk l j) [41] = true
   ·rw [if_pos c41] at hnd ⊢
    simp only [id] at hnd ⊢
    (try unfold un1 at *); (try unfold rsB at *); (try unfold tkB at *); (try unfold givenS at *)
    rw [syntax_reader_unary.L1_0_1_0_eq]
    simp only [h40, ih, hnd, c2, hd, hw, if_pos r, Int.toNat_natCast, tok_g hk, tkv_0, tkv_1, tkv_2, tkv_3, lz, lx, if_true, if_false]
   ·rw [if_neg c41] at hnd ⊢
    obtain ⟨j2, hnd⟩ := hnd
    refine ⟨j2, ?_⟩
    (try unfold un1 at *); (try unfold rsB at *); (try unfold tkB at *); (try unfold givenS at *)
    rw [syntax_reader_unary.L1_0_1_0_eq]
    simp only [h40, ih, hnd, c2, hd, hw, if_pos r, Int.toNat_natCast, tok_g hk, tkv_0, tkv_1, tkv_2, tkv_3, lz, lx, if_true, if_false]
 have h40 := hh [40]
 rw [if_neg c40] at h40 ⊢
 rw [show isT (tk l k) [40] = false by simpa using c40] at h40
 by_cases ct : isT (tk l k) [116, 114, 117, 101] = true
 ·have ht := hh [116, 114, 117, 101]
  rw [if_pos ct] at ht ⊢
  rw [ct] at ht
  unfold RsX
  simp only
  rw [sleaf_v]
  (try unfold un1 at *); (try unfold rsB at *); (try unfold tkB at *); (try unfold givenS at *)
  rw [syntax_reader_unary.L1_0_1_0_eq]
  simp only [h40, ht, c2, hd, hw, if_pos r, Int.toNat_natCast, tok_g hk, tkv_0, tkv_1, tkv_2, tkv_3, lz, lx, if_true, if_false]
 have ht := hh [116, 114, 117, 101]
 rw [if_neg ct] at ht ⊢
 rw [show isT (tk l k) [116, 114, 117, 101] = false by simpa using ct] at ht
 by_cases cf : isT (tk l k) [102, 97, 108, 115, 101] = true
 ·have hf := hh [102, 97, 108, 115, 101]
  rw [if_pos cf] at hf ⊢
  rw [cf] at hf
  unfold RsX
  simp only
  rw [sleaf_v]
  (try unfold un1 at *); (try unfold rsB at *); (try unfold tkB at *); (try unfold givenS at *)
  rw [syntax_reader_unary.L1_0_1_0_eq]
  simp only [h40, ht, hf, c2, hd, hw, if_pos r, Int.toNat_natCast, tok_g hk, tkv_0, tkv_1, tkv_2, tkv_3, lz, lx, if_true, if_false]
 have hf := hh [102, 97, 108, 115, 101]
 rw [if_neg cf] at hf ⊢
 rw [show isT (tk l k) [102, 97, 108, 115, 101] = false by simpa using cf] at hf
 by_cases c2k : (tk l k).kind = 2
 ·rw [if_pos c2k]
  have c2' : ((tk l k).kind == 2) = true := by simpa using c2k
  unfold RsX
  simp only
  rw [sleaf_v]
  (try unfold un1 at *); (try unfold rsB at *); (try unfold tkB at *); (try unfold givenS at *)
  rw [syntax_reader_unary.L1_0_1_0_eq]
  simp only [h40, ht, hf, c2', c2, hd, hw, if_pos r, Int.toNat_natCast, tok_g hk, tkv_0, tkv_1, tkv_2, tkv_3, lz, lx, if_true, if_false]
 rw [if_neg c2k]
 have c2' : ((tk l k).kind == 2) = false := by simpa using c2k
 have hnm := name_s hn hk
 unfold RsT nameR wrongR at hnm
 by_cases c1 : (tk l k).kind = 1
 ·rw [if_pos c1] at hnm
  simp only at hnm
  rw [if_neg (by omega)]
  have hk1 := hl.next hk (by omega)
  have hg := has_s hn hk1 [91]
  by_cases c91 : isT (tk l (k + 1)) [91] = true
  ·rw [if_pos c91] at hg ⊢
   rw [c91] at hg
   have hk2 := hl.isT hk1 c91
   have ih := expr_s hl hn hk2 (d + 1) ps fun h => far.bin (k + 2) (by omega) hk2 1 (d + 1) ps (by omega) (by omega) (by omega) h
   unfold wantR
   unfold RsX at *
   cases hq : partR l (d + 1) (k + 2) (tightW l 1 (d + 1) (k + 2)) with
   | error e =>
    have q2 : partR l (d + 1) (k + 1 + 1) (tightW l 1 (d + 1) (k + 1 + 1)) = _ := hq
    rw [q2] at ih
    obtain ⟨j, ih⟩ := ih
    refine ⟨j, ?_⟩
    (try unfold un1 at *); (try unfold rsB at *); (try unfold tkB at *); (try unfold givenS at *)
    rw [syntax_reader_unary.L1_0_1_0_eq]
    simp only [h40, ht, hf, c2', hnm, hg, ih, c2, hd, hw, if_pos r, Int.toNat_natCast, tok_g hk, tkv_0, tkv_1, tkv_2, tkv_3, lz, lx, if_true, if_false]
   | ok q =>
    obtain ⟨x, j⟩ := q
    have q2 : partR l (d + 1) (k + 1 + 1) (tightW l 1 (d + 1) (k + 1 + 1)) = _ := hq
    rw [q2] at ih
    have hj := (tight_goes hl hk2 (partR_ok hq)).2
    have hnd := need_s hn hj [93]
    unfold RsT at hnd
    simp only at ih ⊢
    by_cases c93 : isT (tk l j) [93] = true
    ·rw [if_pos c93] at hnd ⊢
     simp only at hnd ⊢
     rw [sun_v]
     (try unfold un1 at *); (try unfold rsB at *); (try unfold tkB at *); (try unfold givenS at *)
     rw [syntax_reader_unary.L1_0_1_0_eq]
     simp only [h40, ht, hf, c2', hnm, hg, ih, hnd, c2, hd, hw, if_pos r, Int.toNat_natCast, tok_g hk, tkv_0, tkv_1, tkv_2, tkv_3, lz, lx, if_true, if_false]
    ·rw [if_neg c93] at hnd ⊢
     obtain ⟨j2, hnd⟩ := hnd
     refine ⟨j2, ?_⟩
     (try unfold un1 at *); (try unfold rsB at *); (try unfold tkB at *); (try unfold givenS at *)
     rw [syntax_reader_unary.L1_0_1_0_eq]
     simp only [h40, ht, hf, c2', hnm, hg, ih, hnd, c2, hd, hw, if_pos r, Int.toNat_natCast, tok_g hk, tkv_0, tkv_1, tkv_2, tkv_3, lz, lx, if_true, if_false]
  ·rw [if_neg c91] at hg ⊢
   rw [show isT (tk l (k + 1)) [91] = false by simpa using c91] at hg
   unfold RsX
   simp only
   rw [sleaf_v]
   (try unfold un1 at *); (try unfold rsB at *); (try unfold tkB at *); (try unfold givenS at *)
   rw [syntax_reader_unary.L1_0_1_0_eq]
   simp only [h40, ht, hf, c2', hnm, hg, c2, hd, hw, if_pos r, Int.toNat_natCast, tok_g hk, tkv_0, tkv_1, tkv_2, tkv_3, lz, lx, if_true, if_false]
 ·rw [if_neg c1] at hnm
  obtain ⟨j, hnm⟩ := hnm
  rw [if_pos c1]
  refine ⟨j, ?_⟩
  (try unfold un1 at *); (try unfold rsB at *); (try unfold tkB at *); (try unfold givenS at *)
  rw [syntax_reader_unary.L1_0_1_0_eq]
  simp only [h40, ht, hf, c2', hnm, c2, hd, hw, if_pos r, Int.toNat_natCast, tok_g hk, tkv_0, tkv_1, tkv_2, tkv_3, lz, lx, if_true, if_false]
noncomputable def lev1 (l : List Tk) (ps : List (List V)) (n d : Int) (s : List UInt8) (x : Ex) (k : Nat) : Option Res := syntax_reader_bin.L1_1_1_0_1_0 n d (B s) (l.map Tk.v) (k : Int) ps x.kind (B x.name) x.num (x.l.map Ex.v)
def signAt (l : List Tk) (n : Int) (k : Nat) : List UInt8 := if signT (tk l k) = n then (tk l k).text else []
theorem lev_s {k : Nat} (hk : k < l.length) (n d : Int) (ps : List (List V)) (n1 : 1 <= n) (n5 : n <= 5) (h0 : 0 <= d) (h6 : d <= 60) (x : Ex) (far : FarS l k)
  (hnext : ∀ k', k < k' -> k' < l.length -> ∀ x, RsX l ps (levW l n d x k') (lev1 l ps n d (signAt l n k') x k')) : RsX l ps (levW l n d x k) (lev1 l ps n d (signAt l n k) x k) := by
 have hw := wr1 (show k < 1099511627776 by omega)
 have hwn : IntKind.i64.wrap (n + 1) = n + 1 := wrap_in (by omega) (by omega)
 rw [levW, dif_pos hk]
 unfold signAt
 by_cases c : signT (tk l k) = n
 ·rw [if_pos c, if_neg (show ¬ signT (tk l k) ≠ n from fun h => h c)]
  have c4 : (tk l k).kind = 4 ∧ levelT (tk l k).text = n := by
   unfold signT at c
   by_cases c4 : (tk l k).kind = 4
   ·rw [if_pos c4] at c; exact ⟨c4, c⟩
   ·rw [if_neg c4] at c; omega
  have hk1 := hl.next hk (by omega)
  have hne : (tk l k).text ≠ [] := level_ne (by rw [c4.2]; omega)
  have hne' : ∀ i : Decidable (B (tk l k).text = B []), @decide _ i = false := fun i => @decide_eq_false _ i fun h => hne (B_inj.1 h)
  have ih := far.bin (k + 1) (by omega) hk1 (n + 1) d ps (by omega) (by omega) h0 h6
  unfold RsX at ih ⊢
  cases hq : tightW l (n + 1) d (k + 1) with
  | error e =>
   rw [hq] at ih
   obtain ⟨j, ih⟩ := ih
   refine ⟨j, ?_⟩
   (try unfold lev1 at *); (try unfold rsB at *); (try unfold tkB at *); (try unfold givenS at *)
   rw [syntax_reader_bin.L1_1_1_0_1_0_eq]
   simp only [ih, hw, hwn, lz, lx, if_true, if_false]
   simp [hne, B_inj]
  | ok q =>
   obtain ⟨y, j⟩ := q
   rw [hq] at ih
   have hj := tight_goes hl hk1 hq
   simp only at ih ⊢
   by_cases c3 : n = 3
   ·rw [if_pos c3]
    have c3' : (n == 3) = true := by simpa using c3
    simp only
    rw [sbin_v]
    (try unfold lev1 at *); (try unfold rsB at *); (try unfold tkB at *); (try unfold givenS at *)
    rw [syntax_reader_bin.L1_1_1_0_1_0_eq]
    simp only [ih, hw, hwn, c3', lz, lx, if_true, if_false]
    simp [hne, B_inj]
   ·rw [if_neg c3, dif_pos (show k < j by omega)]
    have c3' : (n == 3) = false := by simpa using c3
    have hs := sign_s hn hj.2 ps n n1
    have e : lev1 l ps n d (tk l k).text x k = lev1 l ps n d (signAt l n j) (.mk 6 (tk l k).text 0 [x, y]) j := by
     (try unfold lev1 at *); (try unfold rsB at *); (try unfold tkB at *); (try unfold givenS at *)
     rw [syntax_reader_bin.L1_1_1_0_1_0_eq]
     simp only [ih, hw, hwn, c3', hs, lz, lx, if_true, if_false]
     simp [hne, B_inj, signAt]
    rw [e]
    exact hnext j (by omega) hj.2 _
 ·rw [if_neg c, if_pos c]
  unfold RsX
  simp only
  (try unfold lev1 at *); (try unfold rsB at *); (try unfold tkB at *); (try unfold givenS at *)
  rw [syntax_reader_bin.L1_1_1_0_1_0_eq]
  simp only [decide_true, lz, lx, if_true, if_false]
theorem all_s : ∀ m k : Nat, l.length - k <= m -> k < l.length ->
  (∀ (d : Int) ps, 0 <= d -> d <= 60 -> RsX l ps (oneW l d k) (den Sp syntax_reader_unary.id [.ref 0 0, .int .i64 d] [rsB l k ps] none)) ∧
  (∀ (n d : Int) ps, 1 <= n -> n <= 6 -> 0 <= d -> d <= 60 -> RsX l ps (tightW l n d k) (den Sp syntax_reader_bin.id [.ref 0 0, .int .i64 n, .int .i64 d] [rsB l k ps] none)) ∧
  (∀ (n d : Int) ps x, 1 <= n -> n <= 5 -> 0 <= d -> d <= 60 -> RsX l ps (levW l n d x k) (lev1 l ps n d (signAt l n k) x k)) := by
 intro m
 induction m with
 | zero => intro k h1 h2; omega
 | succ m ih =>
  intro k hm hk
  have far : FarS l k := ⟨fun k' h1 h2 => (ih k' (by omega) h2).1, fun k' h1 h2 => (ih k' (by omega) h2).2.1⟩
  have un := fun d ps h0 h6 => un_s hl hn hk d ps h0 h6 far
  have lev := fun (n d : Int) ps x n1 n5 h0 h6 => lev_s hl hn hk n d ps n1 n5 h0 h6 x far fun k' h1 h2 x => (ih k' (by omega) h2).2.2 n d ps x n1 n5 h0 h6
  refine ⟨un, ?_, lev⟩
  have bin : ∀ (q : Nat) (n d : Int) ps, n + (q : Int) = 6 -> 1 <= n -> 0 <= d -> d <= 60 -> RsX l ps (tightW l n d k) (den Sp syntax_reader_bin.id [.ref 0 0, .int .i64 n, .int .i64 d] [rsB l k ps] none) := by
   intro q
   induction q with
   | zero =>
    intro n d ps hq n1 h0 h6
    obtain rfl : n = 6 := by omega
    rw [tight_one hl hk]
    have h := un d ps h0 h6
    have c : decide ((6 : Int) > 5) = true := by decide
    unfold RsX at *
    cases hq : oneW l d k with
    | error e =>
     rw [hq] at h
     obtain ⟨j, h⟩ := h
     refine ⟨j, ?_⟩
     (try unfold rsB at *); (try unfold tkB at *); (try unfold givenS at *)
     rw [syntax_reader_bin.eq]
     simp only [h, c, lz, lx, if_true, if_false]
    | ok q =>
     obtain ⟨x, j⟩ := q
     rw [hq] at h
     simp only at h ⊢
     (try unfold rsB at *); (try unfold tkB at *); (try unfold givenS at *)
     rw [syntax_reader_bin.eq]
     simp only [h, c, lz, lx, if_true, if_false]
   | succ q ihq =>
    intro n d ps hq n1 h0 h6
    have hwn : IntKind.i64.wrap (n + 1) = n + 1 := wrap_in (by omega) (by omega)
    have c : decide (n > 5) = false := decide_eq_false (by omega)
    have h := ihq (n + 1) d ps (by omega) (by omega) h0 h6
    rw [tight_lev hl hk n d n1 (by omega)]
    unfold thenR
    unfold RsX at h
    cases hq : tightW l (n + 1) d k with
    | error e =>
     rw [hq] at h
     obtain ⟨j, h⟩ := h
     refine ⟨j, ?_⟩
     (try unfold rsB at *); (try unfold tkB at *); (try unfold givenS at *)
     rw [syntax_reader_bin.eq]
     simp only [h, c, hwn, lz, lx, if_true, if_false]
    | ok r =>
     obtain ⟨x, j⟩ := r
     rw [hq] at h
     have hj := tight_goes hl hk hq
     simp only at h ⊢
     have hs := sign_s hn hj.2 ps n n1
     have e : den Sp syntax_reader_bin.id [.ref 0 0, .int .i64 n, .int .i64 d] [rsB l k ps] none = lev1 l ps n d (signAt l n j) x j := by
      (try unfold lev1 at *); (try unfold rsB at *); (try unfold tkB at *); (try unfold givenS at *)
      rw [syntax_reader_bin.eq]
      simp only [h, c, hwn, hs, lz, lx, if_true, if_false]
      rfl
     rw [e]
     exact (ih j (by omega) hj.2).2.2 n d ps x n1 (by omega) h0 h6
  exact fun n d ps n1 n6 h0 h6 => bin (6 - n).toNat n d ps (by omega) n1 h0 h6
theorem expr_s_is {k : Nat} (hk : k < l.length) (d : Int) (ps : List (List V)) (h0 : 0 <= d) : RsX l ps (partR l d k (tightW l 1 d k)) (den Sp syntax_reader_expr.id [.ref 0 0, .int .i64 d] [rsB l k ps] none) :=
 expr_s hl hn hk d ps fun h => (all_s hl hn _ k (Nat.le_refl _) hk).2.1 1 d ps (by decide) (by decide) h0 h
theorem syntax_ReadExpr_is (hr : den Sp lex_Right.id [.sl .no T_api_Token (l.map Tk.v)] [] none = some ⟨.ret (.bool true), [], none⟩) : ReadsE syntax_ReadExpr.id l := by
 intro k hk
 have h := expr_s_is hl hn hk 1 [] (by decide)
 have k1 : decide ((k : Int) < 0) = false := decide_eq_false (by omega)
 have k2 : decide ((k : Int) >= (l.length : Int)) = false := decide_eq_false (by omega)
 unfold readE
 unfold RsX at h
 rw [syntax_ReadExpr.eq]
 simp only [hr, k1, k2, List.length_map, lz, lx, if_true, if_false]
 rw [syntax_ReadExpr.J1_1_0_eq]
 cases hq : partR l 1 k (tightW l 1 1 k) with
 | error e =>
  rw [hq] at h
  obtain ⟨j, h⟩ := h
  (try unfold rsB at *); (try unfold tkB at *); (try unfold givenS at *)
  simp only [sleaf_v]
  simp only [h, syntax_ReadExpr_1.eq1, syntax_caught.eq, asTup_2, onPn_none, onPn_some, List.nil_append, lz, lx, if_true, if_false]
 | ok q =>
  obtain ⟨x, j⟩ := q
  rw [hq] at h
  simp only at h ⊢
  (try unfold rsB at *); (try unfold tkB at *); (try unfold givenS at *)
  simp only [h, syntax_ReadExpr_1.eq0, onPn_none, onPn_some, lz, lx, if_true, if_false]
end
end Go.Proofs.YtmhnmelaodhemaaDoor
namespace Go.Proofs.YtmhnmelaodhemaaDoor
open Go Go.Proofs.Ab
namespace lex_letter
theorem eq (a0 : Int) : den Sp id [V.int IntKind.u8 a0] [] none =
  (bif (decide (a0 >= (65 : Int))) then (bif (decide (a0 <= (90 : Int))) then (some ⟨Out.ret (V.bool true), [], none⟩) else (bif (decide (a0 >= (97 : Int))) then (some ⟨Out.ret (V.bool (decide (a0 <= (122 : Int)))), [], none⟩) else (some ⟨Out.ret (V.bool false), [], none⟩))) else (bif (decide (a0 >= (97 : Int))) then (some ⟨Out.ret (V.bool (decide (a0 <= (122 : Int)))), [], none⟩) else (some ⟨Out.ret (V.bool false), [], none⟩))) := (den_eq ..).trans (by kernel_rfl)
end lex_letter
namespace lex_digit
theorem eq (a0 : Int) : den Sp id [V.int IntKind.u8 a0] [] none =
  (bif (decide (a0 >= (48 : Int))) then (some ⟨Out.ret (V.bool (decide (a0 <= (57 : Int)))), [], none⟩) else (some ⟨Out.ret (V.bool false), [], none⟩)) := (den_eq ..).trans (by kernel_rfl)
end lex_digit
namespace lex_inner
theorem eq (a0 : Int) : den Sp id [V.int IntKind.u8 a0] [] none =
  (den Sp lex_letter.id [V.int IntKind.u8 a0] [] none).bind (fun r3 => Res.onRet r3 (fun v4 => V.asBool v4 (fun b5 => bif b5 then (some ⟨Out.ret (V.bool true), [], none⟩) else (den Sp lex_digit.id [V.int IntKind.u8 a0] [] none).bind (fun r6 => Res.onRet r6 (fun v7 => V.asBool v7 (fun b8 => bif b8 then (some ⟨Out.ret (V.bool true), [], none⟩) else (some ⟨Out.ret (V.bool (a0 == (95 : Int))), [], none⟩))))))) := (den_eq ..).trans (by kernel_rfl)
end lex_inner
namespace lex_isKey
noncomputable abbrev e (p : List Nat) := ev Sp (den Sp) id Tryd.f47.ntmps (cAt (bodyOf Tryd.f47) p)
noncomputable abbrev cn (n0 : List Nat) := canon Sp id n0
noncomputable abbrev K : K := kFin Sp (den Sp) Tryd.f47 0
noncomputable def L1_0_1_0 (s0 : ByteArray) (i1 : Int) : Option Res := LP (e [1, 0, 1, 0, 0]) (cn []) (kBlk 0 (kSeq (e [1, 1]) (K))) ([(0, (V.str s0)), (5, (V.agg [V.str (ByteArray.mk #[112, 114, 111, 99]), V.str (ByteArray.mk #[118, 97, 114]), V.str (ByteArray.mk #[105, 102]), V.str (ByteArray.mk #[101, 108, 115, 101]), V.str (ByteArray.mk #[119, 104, 105, 108, 101]), V.str (ByteArray.mk #[114, 101, 116, 117, 114, 110]), V.str (ByteArray.mk #[112, 114, 105, 110, 116]), V.str (ByteArray.mk #[114, 101, 97, 100]), V.str (ByteArray.mk #[97, 115, 115, 101, 114, 116]), V.str (ByteArray.mk #[105, 110, 116]), V.str (ByteArray.mk #[98, 111, 111, 108]), V.str (ByteArray.mk #[116, 114, 117, 101]), V.str (ByteArray.mk #[102, 97, 108, 115, 101])])), (6, (V.int .i64 i1))], ⟨[], [], [], [], none⟩)
theorem L1_0_1_0_eq (s0 : ByteArray) (i1 : Int) : L1_0_1_0 s0 i1 =
  (bif (decide (i1 < (13 : Int))) then (if (((0 : Int) <= i1) ∧ (i1 < ((13 : Nat) : Int))) then (V.asStr (List.getD [V.str (ByteArray.mk #[112, 114, 111, 99]), V.str (ByteArray.mk #[118, 97, 114]), V.str (ByteArray.mk #[105, 102]), V.str (ByteArray.mk #[101, 108, 115, 101]), V.str (ByteArray.mk #[119, 104, 105, 108, 101]), V.str (ByteArray.mk #[114, 101, 116, 117, 114, 110]), V.str (ByteArray.mk #[112, 114, 105, 110, 116]), V.str (ByteArray.mk #[114, 101, 97, 100]), V.str (ByteArray.mk #[97, 115, 115, 101, 114, 116]), V.str (ByteArray.mk #[105, 110, 116]), V.str (ByteArray.mk #[98, 111, 111, 108]), V.str (ByteArray.mk #[116, 114, 117, 101]), V.str (ByteArray.mk #[102, 97, 108, 115, 101])] (((Int.toNat i1) * 1) + 0) V.undef) (fun s7 => bif (decide (s0 = s7)) then (some ⟨Out.ret (V.bool true), [], none⟩) else (L1_0_1_0 s0 (IntKind.wrap .i64 (i1 + (1 : Int)))))) else none) else (some ⟨Out.ret (V.bool false), [], none⟩)) := (LP_eq ..).trans (by kernel_rfl)
theorem eq (a0 : ByteArray) : den Sp id [V.str a0] [] none =
  (L1_0_1_0 a0 (0 : Int)) := (den_eq ..).trans (by kernel_rfl)
end lex_isKey
namespace lex_IsName
noncomputable abbrev e (p : List Nat) := ev Sp (den Sp) id Tryd.f38.ntmps (cAt (bodyOf Tryd.f38) p)
noncomputable abbrev cn (n0 : List Nat) := canon Sp id n0
noncomputable abbrev K : K := kFin Sp (den Sp) Tryd.f38 0
noncomputable def L1_1_0_1_0 (s0 : ByteArray) (i1 i2 : Int) : Option Res := LP (e [1, 1, 0, 1, 0, 0]) (cn []) (kBlk 0 (kSeq (e [1, 1, 1]) (K))) ([(0, (V.str s0)), (22, (V.int .i64 i1)), (23, (V.int .i64 i2))], ⟨[], [], [], [], none⟩)
theorem L1_1_0_1_0_eq (s0 : ByteArray) (i1 i2 : Int) : L1_1_0_1_0 s0 i1 i2 =
  (bif (decide (i2 < i1)) then (if (((0 : Int) <= i2) ∧ (i2 < (((ByteArray.size s0) : Nat) : Int))) then (den Sp lex_inner.id [V.int IntKind.u8 (byteAt s0 (Int.toNat i2))] [] none).bind (fun r16 => Res.onRet r16 (fun v17 => V.asBool v17 (fun b18 => bif (!b18) then (some ⟨Out.ret (V.bool false), [], none⟩) else (L1_1_0_1_0 s0 i1 (IntKind.wrap .i64 (i2 + (1 : Int))))))) else none) else (some ⟨Out.ret (V.bool true), [], none⟩)) := (LP_eq ..).trans (by kernel_rfl)
theorem eq (a0 : ByteArray) : den Sp id [V.str a0] [] none =
  (bif (decide (a0 = (ByteArray.mk #[]))) then (some ⟨Out.ret (V.bool false), [], none⟩) else (bif (decide ((((ByteArray.size a0) : Nat) : Int) > (40 : Int))) then (some ⟨Out.ret (V.bool false), [], none⟩) else (if (((0 : Int) <= (0 : Int)) ∧ ((0 : Int) < (((ByteArray.size a0) : Nat) : Int))) then (den Sp lex_letter.id [V.int IntKind.u8 (byteAt a0 0)] [] none).bind (fun r3 => Res.onRet r3 (fun v4 => V.asBool v4 (fun b5 => bif (!b5) then (some ⟨Out.ret (V.bool false), [], none⟩) else (den Sp lex_isKey.id [V.str a0] [] none).bind (fun r6 => Res.onRet r6 (fun v7 => V.asBool v7 (fun b8 => bif b8 then (some ⟨Out.ret (V.bool false), [], none⟩) else (L1_1_0_1_0 a0 (((ByteArray.size a0) : Nat) : Int) (0 : Int)))))))) else none))) := (den_eq ..).trans (by kernel_rfl)
end lex_IsName
namespace num_Text
noncomputable abbrev e (p : List Nat) := ev Sp (den Sp) id Tryd.f39.ntmps (cAt (bodyOf Tryd.f39) p)
noncomputable abbrev cn (n0 : List Nat) := canon Sp id n0
noncomputable abbrev K : K := kFin Sp (den Sp) Tryd.f39 0
noncomputable def L1_1_1_1_1_0_0 (i0 i1 i2 : Int) (l3 : List (List V)) : Option Res := LP (e [1, 1, 1, 1, 1, 0, 0, 0]) (cn [1003]) (kBlk 0 (kSeq (e [1, 1, 1, 1, 1, 1]) (K))) ([(0, (V.int .i64 i0)), (3, (V.ref 1003 0)), (4, (V.int .i64 i1)), (5, (V.int IntKind.u64 i2))], ⟨[(1003, (Blk.vec T_uint8 l3 false))], [], [], [], none⟩)
theorem L1_1_1_1_1_0_0_eq (i0 i1 i2 : Int) (l3 : List (List V)) : L1_1_1_1_1_0_0 i0 i1 i2 l3 =
  (if (((0 : Int) <= (IntKind.wrap .i64 (i1 - (1 : Int)))) ∧ (((IntKind.wrap .i64 (i1 - (1 : Int))) < ((20 : Nat) : Int)) ∧ ((IntKind.wrap .i64 (i1 - (1 : Int))) < (l3.length : Int)))) then (bif ((IntKind.wrap IntKind.u64 (Int.tdiv i2 (10 : Int))) == (0 : Int)) then (bif (decide (i0 < (0 : Int))) then (if (((0 : Int) <= (IntKind.wrap .i64 ((IntKind.wrap .i64 (i1 - (1 : Int))) - (1 : Int)))) ∧ (((IntKind.wrap .i64 ((IntKind.wrap .i64 (i1 - (1 : Int))) - (1 : Int))) < ((20 : Nat) : Int)) ∧ ((IntKind.wrap .i64 ((IntKind.wrap .i64 (i1 - (1 : Int))) - (1 : Int))) < (((List.length (List.set l3 (Int.toNat (IntKind.wrap .i64 (i1 - (1 : Int)))) [V.int IntKind.u8 (IntKind.wrap IntKind.u8 (IntKind.wrap IntKind.u64 ((48 : Int) + (Int.tmod i2 (10 : Int)))))])) : Nat) : Int)))) then (if ((0 : Int) <= (IntKind.wrap .i64 ((IntKind.wrap .i64 (i1 - (1 : Int))) - (1 : Int)))) then (if (((Int.toNat (IntKind.wrap .i64 ((IntKind.wrap .i64 (i1 - (1 : Int))) - (1 : Int)))) <= 20) ∧ ((List.length (List.set (List.set l3 (Int.toNat (IntKind.wrap .i64 (i1 - (1 : Int)))) [V.int IntKind.u8 (IntKind.wrap IntKind.u8 (IntKind.wrap IntKind.u64 ((48 : Int) + (Int.tmod i2 (10 : Int)))))]) (Int.toNat (IntKind.wrap .i64 ((IntKind.wrap .i64 (i1 - (1 : Int))) - (1 : Int)))) [V.int IntKind.u8 (45 : Int)])) = 20)) then (if (((bytesOk (List.take (20 - (Int.toNat (IntKind.wrap .i64 ((IntKind.wrap .i64 (i1 - (1 : Int))) - (1 : Int))))) (List.drop (Int.toNat (IntKind.wrap .i64 ((IntKind.wrap .i64 (i1 - (1 : Int))) - (1 : Int)))) (List.set (List.set l3 (Int.toNat (IntKind.wrap .i64 (i1 - (1 : Int)))) [V.int IntKind.u8 (IntKind.wrap IntKind.u8 (IntKind.wrap IntKind.u64 ((48 : Int) + (Int.tmod i2 (10 : Int)))))]) (Int.toNat (IntKind.wrap .i64 ((IntKind.wrap .i64 (i1 - (1 : Int))) - (1 : Int)))) [V.int IntKind.u8 (45 : Int)])))) = true) ∧ (((Int.toNat (IntKind.wrap .i64 ((IntKind.wrap .i64 (i1 - (1 : Int))) - (1 : Int)))) + (20 - (Int.toNat (IntKind.wrap .i64 ((IntKind.wrap .i64 (i1 - (1 : Int))) - (1 : Int)))))) <= (List.length (List.set (List.set l3 (Int.toNat (IntKind.wrap .i64 (i1 - (1 : Int)))) [V.int IntKind.u8 (IntKind.wrap IntKind.u8 (IntKind.wrap IntKind.u64 ((48 : Int) + (Int.tmod i2 (10 : Int)))))]) (Int.toNat (IntKind.wrap .i64 ((IntKind.wrap .i64 (i1 - (1 : Int))) - (1 : Int)))) [V.int IntKind.u8 (45 : Int)])))) then (some ⟨Out.ret (V.str (ByteArray.mk (toBytes (List.take (20 - (Int.toNat (IntKind.wrap .i64 ((IntKind.wrap .i64 (i1 - (1 : Int))) - (1 : Int))))) (List.drop (Int.toNat (IntKind.wrap .i64 ((IntKind.wrap .i64 (i1 - (1 : Int))) - (1 : Int)))) (List.set (List.set l3 (Int.toNat (IntKind.wrap .i64 (i1 - (1 : Int)))) [V.int IntKind.u8 (IntKind.wrap IntKind.u8 (IntKind.wrap IntKind.u64 ((48 : Int) + (Int.tmod i2 (10 : Int)))))]) (Int.toNat (IntKind.wrap .i64 ((IntKind.wrap .i64 (i1 - (1 : Int))) - (1 : Int)))) [V.int IntKind.u8 (45 : Int)])))).toArray)), [], none⟩) else none) else none) else none) else none) else (if ((0 : Int) <= (IntKind.wrap .i64 (i1 - (1 : Int)))) then (if (((Int.toNat (IntKind.wrap .i64 (i1 - (1 : Int)))) <= 20) ∧ ((List.length (List.set l3 (Int.toNat (IntKind.wrap .i64 (i1 - (1 : Int)))) [V.int IntKind.u8 (IntKind.wrap IntKind.u8 (IntKind.wrap IntKind.u64 ((48 : Int) + (Int.tmod i2 (10 : Int)))))])) = 20)) then (if (((bytesOk (List.take (20 - (Int.toNat (IntKind.wrap .i64 (i1 - (1 : Int))))) (List.drop (Int.toNat (IntKind.wrap .i64 (i1 - (1 : Int)))) (List.set l3 (Int.toNat (IntKind.wrap .i64 (i1 - (1 : Int)))) [V.int IntKind.u8 (IntKind.wrap IntKind.u8 (IntKind.wrap IntKind.u64 ((48 : Int) + (Int.tmod i2 (10 : Int)))))])))) = true) ∧ (((Int.toNat (IntKind.wrap .i64 (i1 - (1 : Int)))) + (20 - (Int.toNat (IntKind.wrap .i64 (i1 - (1 : Int)))))) <= (List.length (List.set l3 (Int.toNat (IntKind.wrap .i64 (i1 - (1 : Int)))) [V.int IntKind.u8 (IntKind.wrap IntKind.u8 (IntKind.wrap IntKind.u64 ((48 : Int) + (Int.tmod i2 (10 : Int)))))])))) then (some ⟨Out.ret (V.str (ByteArray.mk (toBytes (List.take (20 - (Int.toNat (IntKind.wrap .i64 (i1 - (1 : Int))))) (List.drop (Int.toNat (IntKind.wrap .i64 (i1 - (1 : Int)))) (List.set l3 (Int.toNat (IntKind.wrap .i64 (i1 - (1 : Int)))) [V.int IntKind.u8 (IntKind.wrap IntKind.u8 (IntKind.wrap IntKind.u64 ((48 : Int) + (Int.tmod i2 (10 : Int)))))])))).toArray)), [], none⟩) else none) else none) else none)) else (L1_1_1_1_1_0_0 i0 (IntKind.wrap .i64 (i1 - (1 : Int))) (IntKind.wrap IntKind.u64 (Int.tdiv i2 (10 : Int))) (List.set l3 (Int.toNat (IntKind.wrap .i64 (i1 - (1 : Int)))) [V.int IntKind.u8 (IntKind.wrap IntKind.u8 (IntKind.wrap IntKind.u64 ((48 : Int) + (Int.tmod i2 (10 : Int)))))]))) else none) := (LP_eq ..).trans (by kernel_rfl)
theorem eq (a0 : Int) : den Sp id [V.int .i64 a0] [] none =
  (bif (decide (a0 < (0 : Int))) then (L1_1_1_1_1_0_0 a0 (20 : Int) (IntKind.wrap IntKind.u64 ((0 : Int) - (IntKind.wrap IntKind.u64 a0))) [[V.int IntKind.u8 (0 : Int)], [V.int IntKind.u8 (0 : Int)], [V.int IntKind.u8 (0 : Int)], [V.int IntKind.u8 (0 : Int)], [V.int IntKind.u8 (0 : Int)], [V.int IntKind.u8 (0 : Int)], [V.int IntKind.u8 (0 : Int)], [V.int IntKind.u8 (0 : Int)], [V.int IntKind.u8 (0 : Int)], [V.int IntKind.u8 (0 : Int)], [V.int IntKind.u8 (0 : Int)], [V.int IntKind.u8 (0 : Int)], [V.int IntKind.u8 (0 : Int)], [V.int IntKind.u8 (0 : Int)], [V.int IntKind.u8 (0 : Int)], [V.int IntKind.u8 (0 : Int)], [V.int IntKind.u8 (0 : Int)], [V.int IntKind.u8 (0 : Int)], [V.int IntKind.u8 (0 : Int)], [V.int IntKind.u8 (0 : Int)]]) else (L1_1_1_1_1_0_0 a0 (20 : Int) (IntKind.wrap IntKind.u64 a0) [[V.int IntKind.u8 (0 : Int)], [V.int IntKind.u8 (0 : Int)], [V.int IntKind.u8 (0 : Int)], [V.int IntKind.u8 (0 : Int)], [V.int IntKind.u8 (0 : Int)], [V.int IntKind.u8 (0 : Int)], [V.int IntKind.u8 (0 : Int)], [V.int IntKind.u8 (0 : Int)], [V.int IntKind.u8 (0 : Int)], [V.int IntKind.u8 (0 : Int)], [V.int IntKind.u8 (0 : Int)], [V.int IntKind.u8 (0 : Int)], [V.int IntKind.u8 (0 : Int)], [V.int IntKind.u8 (0 : Int)], [V.int IntKind.u8 (0 : Int)], [V.int IntKind.u8 (0 : Int)], [V.int IntKind.u8 (0 : Int)], [V.int IntKind.u8 (0 : Int)], [V.int IntKind.u8 (0 : Int)], [V.int IntKind.u8 (0 : Int)]])) := (den_eq ..).trans (by kernel_rfl)
end num_Text
namespace lex_Scan
noncomputable abbrev e (p : List Nat) := ev Sp (den Sp) id Tryd.f13.ntmps (cAt (bodyOf Tryd.f13) p)
noncomputable abbrev cn (n0 : List Nat) := canon Sp id n0
noncomputable abbrev K : K := kFin Sp (den Sp) Tryd.f13 0
noncomputable def L1_1_1_1_0 (l0 : List (List V)) (s1 : ByteArray) (i2 : Int) : Option Res := LP (e [1, 1, 1, 1, 0, 0]) (cn [1015]) (kBlk 0 (K)) ([(5, (V.ref 1015 0)), (6, (V.sl (Tok.row 0) T_api_Token l0))], ⟨[(1015, (Blk.cells T_lex_reader [V.str s1, V.int .i64 i2] false))], [0], [], [], none⟩)
theorem L1_1_1_1_0_eq (l0 : List (List V)) (s1 : ByteArray) (i2 : Int) : L1_1_1_1_0 l0 s1 i2 =
  (den Sp lex_reader_blank.id [V.ref 0 0] [Blk.cells T_lex_reader [V.str s1, V.int .i64 i2] false] none).bind (fun r9 => Blk.asCells (List.getD (Res.bl r9) 0 (Blk.cells T_n0 [] true)) T_lex_reader 2 (fun rd10 => V.asStr (rd10 0) (fun s11 => V.asInt (rd10 1) .i64 (fun n12 => Res.onRet r9 (fun v13 => V.asTup v13 0 (fun rd14 => (den Sp lex_reader_next.id [V.ref 0 0] [Blk.cells T_lex_reader [V.str s11, V.int .i64 n12] false] none).bind (fun r17 => Blk.asCells (List.getD (Res.bl r17) 0 (Blk.cells T_n0 [] true)) T_lex_reader 2 (fun rd18 => V.asStr (rd18 0) (fun s19 => V.asInt (rd18 1) .i64 (fun n20 => Res.onRet r17 (fun v21 => V.asTup v21 2 (fun rd22 => V.asAgg (rd22 0) 4 (fun rd23 => V.asInt (rd23 0) .i64 (fun n24 => V.asStr (rd23 1) (fun s25 => V.asInt (rd23 2) .i64 (fun n26 => V.asInt (rd23 3) .i64 (fun n27 => V.asBool (rd22 1) (fun b28 => bif (!b28) then (some ⟨Out.ret (V.tup [V.sl .no T_api_Token [], V.int .i64 n12, V.int .i64 (20 : Int)]), [], none⟩) else (bif ((l0.length : Int) == (4000 : Int)) then (some ⟨Out.ret (V.tup [V.sl .no T_api_Token [], V.int .i64 n12, V.int .i64 (2 : Int)]), [], none⟩) else (if (((List.length l0) + (List.length [[V.int .i64 n24, V.str s25, V.int .i64 n26, V.int .i64 n27]])) <= most) then (bif (n24 == (0 : Int)) then (some ⟨Out.ret (V.tup [V.sl .no T_api_Token (l0 ++ [[V.int .i64 n24, V.str s25, V.int .i64 n26, V.int .i64 n27]]), V.int .i64 (0 : Int), V.int .i64 (0 : Int)]), [], none⟩) else (L1_1_1_1_0 (l0 ++ [[V.int .i64 n24, V.str s25, V.int .i64 n26, V.int .i64 n27]]) s19 n20)) else none)))))))))))))))))))) := (LP_eq ..).trans (by kernel_rfl)
theorem eq (a0 : ByteArray) : den Sp id [V.str a0] [] none =
  (bif (decide ((((ByteArray.size a0) : Nat) : Int) > (16384 : Int))) then (some ⟨Out.ret (V.tup [V.sl .no T_api_Token [], V.int .i64 (0 : Int), V.int .i64 (2 : Int)]), [], none⟩) else (L1_1_1_1_0 [] a0 (0 : Int))) := (den_eq ..).trans (by kernel_rfl)
end lex_Scan
namespace lex_reader_blank
noncomputable abbrev e (p : List Nat) := ev Sp (den Sp) id Tryd.f24.ntmps (cAt (bodyOf Tryd.f24) p)
noncomputable abbrev cn (n0 : List Nat) := canon Sp id n0
noncomputable abbrev K : K := kFin Sp (den Sp) Tryd.f24 1
noncomputable def L0 (s0 : ByteArray) (i1 : Int) : Option Res := LP (e [0, 0]) (cn [0]) (kBlk 0 (K)) ([(0, (V.ref 0 0))], ⟨[(0, (Blk.cells T_lex_reader [V.str s0, V.int .i64 i1] false))], [], [], [], none⟩)
noncomputable def L0_0_1_0_1_0_1_1_1_0_0 (s0 : ByteArray) (i1 : Int) : Option Res := LP (e [0, 0, 1, 0, 1, 0, 1, 1, 1, 0, 0, 0]) (cn [0]) (kBlk 3 (kBlk 2 (kBlk 1 (kLp (e [0, 0]) (cn [0]) (kBlk 0 (K)))))) ([(0, (V.ref 0 0))], ⟨[(0, (Blk.cells T_lex_reader [V.str s0, V.int .i64 i1] false))], [], [], [], none⟩)
theorem L0_eq (s0 : ByteArray) (i1 : Int) : L0 s0 i1 =
  (bif (decide (i1 < (((ByteArray.size s0) : Nat) : Int))) then (if (((0 : Int) <= i1) ∧ (i1 < (((ByteArray.size s0) : Nat) : Int))) then (bif ((byteAt s0 (Int.toNat i1)) == (32 : Int)) then (L0 s0 (IntKind.wrap .i64 (i1 + (1 : Int)))) else (bif ((byteAt s0 (Int.toNat i1)) == (10 : Int)) then (L0 s0 (IntKind.wrap .i64 (i1 + (1 : Int)))) else (bif ((byteAt s0 (Int.toNat i1)) == (35 : Int)) then (L0_0_1_0_1_0_1_1_1_0_0 s0 i1) else (some ⟨Out.ret (V.tup []), [Blk.cells T_lex_reader [V.str s0, V.int .i64 i1] false], none⟩)))) else none) else (some ⟨Out.ret (V.tup []), [Blk.cells T_lex_reader [V.str s0, V.int .i64 i1] false], none⟩)) := (LP_eq ..).trans (by kernel_rfl)
theorem L0_0_1_0_1_0_1_1_1_0_0_eq (s0 : ByteArray) (i1 : Int) : L0_0_1_0_1_0_1_1_1_0_0 s0 i1 =
  (bif (decide (i1 < (((ByteArray.size s0) : Nat) : Int))) then (if (((0 : Int) <= i1) ∧ (i1 < (((ByteArray.size s0) : Nat) : Int))) then (bif ((byteAt s0 (Int.toNat i1)) != (10 : Int)) then (L0_0_1_0_1_0_1_1_1_0_0 s0 (IntKind.wrap .i64 (i1 + (1 : Int)))) else (L0 s0 i1)) else none) else (L0 s0 i1)) := (LP_eq ..).trans (by kernel_rfl)
theorem eq (m0_0 : ByteArray) (m0_1 : Int) : den Sp id [V.ref 0 0] [Blk.cells T_lex_reader [V.str m0_0, V.int .i64 m0_1] false] none =
  (L0 m0_0 m0_1) := (den_eq ..).trans (by kernel_rfl)
end lex_reader_blank
namespace lex_reader_next
theorem eq (m0_0 : ByteArray) (m0_1 : Int) : den Sp id [V.ref 0 0] [Blk.cells T_lex_reader [V.str m0_0, V.int .i64 m0_1] false] none =
  (bif (m0_1 == (((ByteArray.size m0_0) : Nat) : Int)) then (some ⟨Out.ret (V.tup [V.agg [V.int .i64 (0 : Int), V.str (ByteArray.mk #[]), V.int .i64 (0 : Int), V.int .i64 m0_1], V.bool true]), [Blk.cells T_lex_reader [V.str m0_0, V.int .i64 m0_1] false], none⟩) else (if (((0 : Int) <= m0_1) ∧ (m0_1 < (((ByteArray.size m0_0) : Nat) : Int))) then (den Sp lex_letter.id [V.int IntKind.u8 (byteAt m0_0 (Int.toNat m0_1))] [] none).bind (fun r7 => Res.onRet r7 (fun v8 => V.asBool v8 (fun b9 => bif b9 then (den Sp lex_reader_word.id [V.ref 0 0] [Blk.cells T_lex_reader [V.str m0_0, V.int .i64 m0_1] false] none).bind (fun r11 => Blk.asCells (List.getD (Res.bl r11) 0 (Blk.cells T_n0 [] true)) T_lex_reader 2 (fun rd12 => V.asStr (rd12 0) (fun s13 => V.asInt (rd12 1) .i64 (fun n14 => Res.onRet r11 (fun v15 => V.asStr v15 (fun s16 => (den Sp lex_isKey.id [V.str s16] [] none).bind (fun r18 => Res.onRet r18 (fun v19 => V.asBool v19 (fun b20 => bif b20 then (some ⟨Out.ret (V.tup [V.agg [V.int .i64 (3 : Int), V.str s16, V.int .i64 (0 : Int), V.int .i64 m0_1], V.bool (decide ((((ByteArray.size s16) : Nat) : Int) <= (40 : Int)))]), [Blk.cells T_lex_reader [V.str s13, V.int .i64 (IntKind.wrap .i64 (n14 + (((ByteArray.size s16) : Nat) : Int)))] false], none⟩) else (some ⟨Out.ret (V.tup [V.agg [V.int .i64 (1 : Int), V.str s16, V.int .i64 (0 : Int), V.int .i64 m0_1], V.bool (decide ((((ByteArray.size s16) : Nat) : Int) <= (40 : Int)))]), [Blk.cells T_lex_reader [V.str s13, V.int .i64 (IntKind.wrap .i64 (n14 + (((ByteArray.size s16) : Nat) : Int)))] false], none⟩)))))))))) else (den Sp lex_digit.id [V.int IntKind.u8 (byteAt m0_0 (Int.toNat m0_1))] [] none).bind (fun r11 => Res.onRet r11 (fun v12 => V.asBool v12 (fun b13 => bif b13 then (den Sp lex_reader_word.id [V.ref 0 0] [Blk.cells T_lex_reader [V.str m0_0, V.int .i64 m0_1] false] none).bind (fun r15 => Blk.asCells (List.getD (Res.bl r15) 0 (Blk.cells T_n0 [] true)) T_lex_reader 2 (fun rd16 => V.asStr (rd16 0) (fun s17 => V.asInt (rd16 1) .i64 (fun n18 => Res.onRet r15 (fun v19 => V.asStr v19 (fun s20 => (den Sp num_Parse.id [V.str s20] [] none).bind (fun r22 => Res.onRet r22 (fun v23 => V.asTup v23 2 (fun rd24 => V.asInt (rd24 0) .i64 (fun n25 => V.asInt (rd24 1) .i64 (fun n26 => some ⟨Out.ret (V.tup [V.agg [V.int .i64 (2 : Int), V.str (ByteArray.mk #[]), V.int .i64 n25, V.int .i64 m0_1], V.bool (n26 == (0 : Int))]), [Blk.cells T_lex_reader [V.str s17, V.int .i64 (IntKind.wrap .i64 (n18 + (((ByteArray.size s20) : Nat) : Int)))] false], none⟩))))))))))) else (if ((0 : Int) <= m0_1) then (if (((Int.toNat m0_1) <= (ByteArray.size m0_0)) ∧ ((ByteArray.size m0_0) <= (ByteArray.size m0_0))) then (den Sp lex_sign.id [V.str (ByteArray.extract m0_0 (Int.toNat m0_1) (ByteArray.size m0_0))] [] none).bind (fun r15 => Res.onRet r15 (fun v16 => V.asStr v16 (fun s17 => some ⟨Out.ret (V.tup [V.agg [V.int .i64 (4 : Int), V.str s17, V.int .i64 (0 : Int), V.int .i64 m0_1], V.bool (!(decide (s17 = (ByteArray.mk #[]))))]), [Blk.cells T_lex_reader [V.str m0_0, V.int .i64 (IntKind.wrap .i64 (m0_1 + (((ByteArray.size s17) : Nat) : Int)))] false], none⟩))) else none) else none))))))) else none)) := (den_eq ..).trans (by kernel_rfl)
end lex_reader_next
namespace lex_reader_word
noncomputable abbrev e (p : List Nat) := ev Sp (den Sp) id Tryd.f46.ntmps (cAt (bodyOf Tryd.f46) p)
noncomputable abbrev cn (n0 : List Nat) := canon Sp id n0
noncomputable abbrev K : K := kFin Sp (den Sp) Tryd.f46 1
noncomputable def L1_1_0_0 (i0 : Int) (s1 : ByteArray) (i2 : Int) : Option Res := LP (e [1, 1, 0, 0, 0]) (cn [0]) (kBlk 0 (kSeq (e [1, 1, 1]) (K))) ([(0, (V.ref 0 0)), (3, (V.int .i64 i0))], ⟨[(0, (Blk.cells T_lex_reader [V.str s1, V.int .i64 i2] false))], [], [], [], none⟩)
theorem L1_1_0_0_eq (i0 : Int) (s1 : ByteArray) (i2 : Int) : L1_1_0_0 i0 s1 i2 =
  (bif (decide (i0 < (((ByteArray.size s1) : Nat) : Int))) then (if (((0 : Int) <= i0) ∧ (i0 < (((ByteArray.size s1) : Nat) : Int))) then (den Sp lex_inner.id [V.int IntKind.u8 (byteAt s1 (Int.toNat i0))] [] none).bind (fun r8 => Res.onRet r8 (fun v9 => V.asBool v9 (fun b10 => bif b10 then (L1_1_0_0 (IntKind.wrap .i64 (i0 + (1 : Int))) s1 i2) else (if ((0 : Int) <= i2) then (if ((0 : Int) <= i0) then (if (((Int.toNat i2) <= (Int.toNat i0)) ∧ ((Int.toNat i0) <= (ByteArray.size s1))) then (some ⟨Out.ret (V.str (ByteArray.extract s1 (Int.toNat i2) (Int.toNat i0))), [Blk.cells T_lex_reader [V.str s1, V.int .i64 i2] false], none⟩) else none) else none) else none)))) else none) else (if ((0 : Int) <= i2) then (if ((0 : Int) <= i0) then (if (((Int.toNat i2) <= (Int.toNat i0)) ∧ ((Int.toNat i0) <= (ByteArray.size s1))) then (some ⟨Out.ret (V.str (ByteArray.extract s1 (Int.toNat i2) (Int.toNat i0))), [Blk.cells T_lex_reader [V.str s1, V.int .i64 i2] false], none⟩) else none) else none) else none)) := (LP_eq ..).trans (by kernel_rfl)
theorem eq (m0_0 : ByteArray) (m0_1 : Int) : den Sp id [V.ref 0 0] [Blk.cells T_lex_reader [V.str m0_0, V.int .i64 m0_1] false] none =
  (L1_1_0_0 m0_1 m0_0 m0_1) := (den_eq ..).trans (by kernel_rfl)
end lex_reader_word
namespace lex_sign
noncomputable abbrev e (p : List Nat) := ev Sp (den Sp) id Tryd.f50.ntmps (cAt (bodyOf Tryd.f50) p)
noncomputable abbrev cn (n0 : List Nat) := canon Sp id n0
noncomputable abbrev K : K := kFin Sp (den Sp) Tryd.f50 0
noncomputable def L1_0_1_1_0_1_0 (s0 : ByteArray) (i1 : Int) : Option Res := LP (e [1, 0, 1, 1, 0, 1, 0, 0]) (cn []) (kBlk 0 (kSeq (e [1, 0, 1, 1, 1]) (K))) ([(0, (V.str s0)), (3, (V.str (ByteArray.mk #[]))), (6, (V.agg [V.str (ByteArray.mk #[61, 61]), V.str (ByteArray.mk #[33, 61]), V.str (ByteArray.mk #[60, 61]), V.str (ByteArray.mk #[38, 38]), V.str (ByteArray.mk #[124, 124]), V.str (ByteArray.mk #[40]), V.str (ByteArray.mk #[41]), V.str (ByteArray.mk #[123]), V.str (ByteArray.mk #[125]), V.str (ByteArray.mk #[91]), V.str (ByteArray.mk #[93]), V.str (ByteArray.mk #[44]), V.str (ByteArray.mk #[59]), V.str (ByteArray.mk #[61]), V.str (ByteArray.mk #[60]), V.str (ByteArray.mk #[33]), V.str (ByteArray.mk #[43]), V.str (ByteArray.mk #[45]), V.str (ByteArray.mk #[42]), V.str (ByteArray.mk #[47]), V.str (ByteArray.mk #[37])])), (7, (V.int .i64 i1))], ⟨[], [], [], [], none⟩)
theorem L1_0_1_1_0_1_0_eq (s0 : ByteArray) (i1 : Int) : L1_0_1_1_0_1_0 s0 i1 =
  (bif (decide (i1 < (21 : Int))) then (if (((0 : Int) <= i1) ∧ (i1 < ((21 : Nat) : Int))) then (V.asStr (List.getD [V.str (ByteArray.mk #[61, 61]), V.str (ByteArray.mk #[33, 61]), V.str (ByteArray.mk #[60, 61]), V.str (ByteArray.mk #[38, 38]), V.str (ByteArray.mk #[124, 124]), V.str (ByteArray.mk #[40]), V.str (ByteArray.mk #[41]), V.str (ByteArray.mk #[123]), V.str (ByteArray.mk #[125]), V.str (ByteArray.mk #[91]), V.str (ByteArray.mk #[93]), V.str (ByteArray.mk #[44]), V.str (ByteArray.mk #[59]), V.str (ByteArray.mk #[61]), V.str (ByteArray.mk #[60]), V.str (ByteArray.mk #[33]), V.str (ByteArray.mk #[43]), V.str (ByteArray.mk #[45]), V.str (ByteArray.mk #[42]), V.str (ByteArray.mk #[47]), V.str (ByteArray.mk #[37])] (((Int.toNat i1) * 1) + 0) V.undef) (fun s8 => bif (decide ((((ByteArray.size s8) : Nat) : Int) <= (((ByteArray.size s0) : Nat) : Int))) then (if ((0 <= (Int.toNat (((ByteArray.size s8) : Nat) : Int))) ∧ ((Int.toNat (((ByteArray.size s8) : Nat) : Int)) <= (ByteArray.size s0))) then (bif (decide ((ByteArray.extract s0 0 (Int.toNat (((ByteArray.size s8) : Nat) : Int))) = s8)) then (some ⟨Out.ret (V.str s8), [], none⟩) else (L1_0_1_1_0_1_0 s0 (IntKind.wrap .i64 (i1 + (1 : Int))))) else none) else (L1_0_1_1_0_1_0 s0 (IntKind.wrap .i64 (i1 + (1 : Int)))))) else none) else (some ⟨Out.ret (V.str (ByteArray.mk #[])), [], none⟩)) := (LP_eq ..).trans (by kernel_rfl)
theorem eq (a0 : ByteArray) : den Sp id [V.str a0] [] none =
  (L1_0_1_1_0_1_0 a0 (0 : Int)) := (den_eq ..).trans (by kernel_rfl)
end lex_sign
namespace num_Parse
noncomputable abbrev e (p : List Nat) := ev Sp (den Sp) id Tryd.f49.ntmps (cAt (bodyOf Tryd.f49) p)
noncomputable abbrev cn (n0 : List Nat) := canon Sp id n0
noncomputable abbrev K : K := kFin Sp (den Sp) Tryd.f49 0
noncomputable def L1_0_1_1_1_1_1_0_1_0 (s0 : ByteArray) (i1 i2 : Int) : Option Res := LP (e [1, 0, 1, 1, 1, 1, 1, 0, 1, 0, 0]) (cn []) (kBlk 0 (kSeq (e [1, 0, 1, 1, 1, 1, 1, 1]) (K))) ([(4, (V.str s0)), (5, (V.bool true)), (6, (V.int IntKind.u64 i1)), (7, (V.bool true)), (8, (V.int .i64 i2))], ⟨[], [], [], [], none⟩)
noncomputable def L1_0_1_1_1_1_1_0_1_0v1 (s0 : ByteArray) (i1 : Int) (b2 : Bool) (i3 : Int) : Option Res := LP (e [1, 0, 1, 1, 1, 1, 1, 0, 1, 0, 0]) (cn []) (kBlk 0 (kSeq (e [1, 0, 1, 1, 1, 1, 1, 1]) (K))) ([(4, (V.str s0)), (5, (V.bool true)), (6, (V.int IntKind.u64 i1)), (7, (V.bool b2)), (8, (V.int .i64 i3))], ⟨[], [], [], [], none⟩)
noncomputable def L1_0_1_1_1_1_1_0_1_0v2 (s0 : ByteArray) (i1 i2 : Int) : Option Res := LP (e [1, 0, 1, 1, 1, 1, 1, 0, 1, 0, 0]) (cn []) (kBlk 0 (kSeq (e [1, 0, 1, 1, 1, 1, 1, 1]) (K))) ([(4, (V.str s0)), (5, (V.bool false)), (6, (V.int IntKind.u64 i1)), (7, (V.bool true)), (8, (V.int .i64 i2))], ⟨[], [], [], [], none⟩)
noncomputable def L1_0_1_1_1_1_1_0_1_0v3 (s0 : ByteArray) (i1 : Int) (b2 : Bool) (i3 : Int) : Option Res := LP (e [1, 0, 1, 1, 1, 1, 1, 0, 1, 0, 0]) (cn []) (kBlk 0 (kSeq (e [1, 0, 1, 1, 1, 1, 1, 1]) (K))) ([(4, (V.str s0)), (5, (V.bool false)), (6, (V.int IntKind.u64 i1)), (7, (V.bool b2)), (8, (V.int .i64 i3))], ⟨[], [], [], [], none⟩)
theorem L1_0_1_1_1_1_1_0_1_0v2_eq (s0 : ByteArray) (i1 i2 : Int) : L1_0_1_1_1_1_1_0_1_0v2 s0 i1 i2 =
  (bif (decide (i2 < (((ByteArray.size s0) : Nat) : Int))) then (if (((0 : Int) <= i2) ∧ (i2 < (((ByteArray.size s0) : Nat) : Int))) then (if (((0 : Int) <= i2) ∧ (i2 < (((ByteArray.size s0) : Nat) : Int))) then (bif (decide ((byteAt s0 (Int.toNat i2)) < (48 : Int))) then (some ⟨Out.ret (V.tup [V.int .i64 (0 : Int), V.int .i64 (10 : Int)]), [], none⟩) else (bif (decide ((IntKind.wrap IntKind.u64 ((IntKind.wrap IntKind.u64 (byteAt s0 (Int.toNat i2))) - (48 : Int))) > (9 : Int))) then (some ⟨Out.ret (V.tup [V.int .i64 (0 : Int), V.int .i64 (10 : Int)]), [], none⟩) else (bif (decide (i1 > (IntKind.wrap IntKind.u64 (Int.tdiv (IntKind.wrap IntKind.u64 ((9223372036854775808 : Int) - (IntKind.wrap IntKind.u64 ((IntKind.wrap IntKind.u64 (byteAt s0 (Int.toNat i2))) - (48 : Int))))) (10 : Int))))) then (some ⟨Out.ret (V.tup [V.int .i64 (0 : Int), V.int .i64 (10 : Int)]), [], none⟩) else (L1_0_1_1_1_1_1_0_1_0v2 s0 (IntKind.wrap IntKind.u64 ((IntKind.wrap IntKind.u64 (i1 * (10 : Int))) + (IntKind.wrap IntKind.u64 ((IntKind.wrap IntKind.u64 (byteAt s0 (Int.toNat i2))) - (48 : Int))))) (IntKind.wrap .i64 (i2 + (1 : Int))))))) else none) else none) else (bif (i1 == (9223372036854775808 : Int)) then (some ⟨Out.ret (V.tup [V.int .i64 (0 : Int), V.int .i64 (10 : Int)]), [], none⟩) else (some ⟨Out.ret (V.tup [V.int .i64 (IntKind.wrap .i64 i1), V.int .i64 (0 : Int)]), [], none⟩))) := (LP_eq ..).trans (by kernel_rfl)
theorem L1_0_1_1_1_1_1_0_1_0v3_eq (s0 : ByteArray) (i1 : Int) (b2 : Bool) (i3 : Int) : L1_0_1_1_1_1_1_0_1_0v3 s0 i1 b2 i3 =
  (bif b2 then (bif (decide (i3 < (((ByteArray.size s0) : Nat) : Int))) then (if (((0 : Int) <= i3) ∧ (i3 < (((ByteArray.size s0) : Nat) : Int))) then (if (((0 : Int) <= i3) ∧ (i3 < (((ByteArray.size s0) : Nat) : Int))) then (bif (decide ((byteAt s0 (Int.toNat i3)) < (48 : Int))) then (some ⟨Out.ret (V.tup [V.int .i64 (0 : Int), V.int .i64 (10 : Int)]), [], none⟩) else (bif (decide ((IntKind.wrap IntKind.u64 ((IntKind.wrap IntKind.u64 (byteAt s0 (Int.toNat i3))) - (48 : Int))) > (9 : Int))) then (some ⟨Out.ret (V.tup [V.int .i64 (0 : Int), V.int .i64 (10 : Int)]), [], none⟩) else (bif (decide (i1 > (IntKind.wrap IntKind.u64 (Int.tdiv (IntKind.wrap IntKind.u64 ((9223372036854775808 : Int) - (IntKind.wrap IntKind.u64 ((IntKind.wrap IntKind.u64 (byteAt s0 (Int.toNat i3))) - (48 : Int))))) (10 : Int))))) then (some ⟨Out.ret (V.tup [V.int .i64 (0 : Int), V.int .i64 (10 : Int)]), [], none⟩) else (L1_0_1_1_1_1_1_0_1_0v3 s0 (IntKind.wrap IntKind.u64 ((IntKind.wrap IntKind.u64 (i1 * (10 : Int))) + (IntKind.wrap IntKind.u64 ((IntKind.wrap IntKind.u64 (byteAt s0 (Int.toNat i3))) - (48 : Int))))) b2 (IntKind.wrap .i64 (i3 + (1 : Int))))))) else none) else none) else (bif (!b2) then (some ⟨Out.ret (V.tup [V.int .i64 (0 : Int), V.int .i64 (10 : Int)]), [], none⟩) else (bif (i1 == (9223372036854775808 : Int)) then (some ⟨Out.ret (V.tup [V.int .i64 (0 : Int), V.int .i64 (10 : Int)]), [], none⟩) else (some ⟨Out.ret (V.tup [V.int .i64 (IntKind.wrap .i64 i1), V.int .i64 (0 : Int)]), [], none⟩)))) else (bif (!b2) then (some ⟨Out.ret (V.tup [V.int .i64 (0 : Int), V.int .i64 (10 : Int)]), [], none⟩) else (bif (i1 == (9223372036854775808 : Int)) then (some ⟨Out.ret (V.tup [V.int .i64 (0 : Int), V.int .i64 (10 : Int)]), [], none⟩) else (some ⟨Out.ret (V.tup [V.int .i64 (IntKind.wrap .i64 i1), V.int .i64 (0 : Int)]), [], none⟩)))) := (LP_eq ..).trans (by kernel_rfl)
theorem eq (a0 : ByteArray) : den Sp id [V.str a0] [] none =
  (bif (!(decide (a0 = (ByteArray.mk #[])))) then (if (((0 : Int) <= (0 : Int)) ∧ ((0 : Int) < (((ByteArray.size a0) : Nat) : Int))) then (bif ((byteAt a0 0) == (45 : Int)) then (if ((1 <= (ByteArray.size a0)) ∧ ((ByteArray.size a0) <= (ByteArray.size a0))) then (bif (!(decide ((ByteArray.extract a0 1 (ByteArray.size a0)) = (ByteArray.mk #[])))) then (if (((0 : Int) <= (0 : Int)) ∧ ((0 : Int) < (((ByteArray.size (ByteArray.extract a0 1 (ByteArray.size a0))) : Nat) : Int))) then (bif ((byteAt (ByteArray.extract a0 1 (ByteArray.size a0)) 0) != (48 : Int)) then (L1_0_1_1_1_1_1_0_1_0 (ByteArray.extract a0 1 (ByteArray.size a0)) (0 : Int) (0 : Int)) else (L1_0_1_1_1_1_1_0_1_0v1 (ByteArray.extract a0 1 (ByteArray.size a0)) (0 : Int) ((((ByteArray.size a0) : Nat) : Int) == (1 : Int)) (0 : Int))) else none) else (L1_0_1_1_1_1_1_0_1_0v1 (ByteArray.extract a0 1 (ByteArray.size a0)) (0 : Int) false (0 : Int))) else none) else (bif (!(decide (a0 = (ByteArray.mk #[])))) then (if (((0 : Int) <= (0 : Int)) ∧ ((0 : Int) < (((ByteArray.size a0) : Nat) : Int))) then (bif ((byteAt a0 0) != (48 : Int)) then (L1_0_1_1_1_1_1_0_1_0v2 a0 (0 : Int) (0 : Int)) else (L1_0_1_1_1_1_1_0_1_0v3 a0 (0 : Int) ((((ByteArray.size a0) : Nat) : Int) == (1 : Int)) (0 : Int))) else none) else (L1_0_1_1_1_1_1_0_1_0v3 a0 (0 : Int) false (0 : Int)))) else none) else (bif (!(decide (a0 = (ByteArray.mk #[])))) then (if (((0 : Int) <= (0 : Int)) ∧ ((0 : Int) < (((ByteArray.size a0) : Nat) : Int))) then (bif ((byteAt a0 0) != (48 : Int)) then (L1_0_1_1_1_1_1_0_1_0v2 a0 (0 : Int) (0 : Int)) else (L1_0_1_1_1_1_1_0_1_0v3 a0 (0 : Int) ((((ByteArray.size a0) : Nat) : Int) == (1 : Int)) (0 : Int))) else none) else (L1_0_1_1_1_1_1_0_1_0v3 a0 (0 : Int) false (0 : Int)))) := (den_eq ..).trans (by kernel_rfl)
end num_Parse
namespace lex_Right
noncomputable abbrev e (p : List Nat) := ev Sp (den Sp) id Tryd.f57.ntmps (cAt (bodyOf Tryd.f57) p)
noncomputable abbrev cn (n0 : List Nat) := canon Sp id n0
noncomputable abbrev K : K := kFin Sp (den Sp) Tryd.f57 0
noncomputable def L1_0_1_0 (l0 l1 : List (List V)) (i2 i3 : Int) : Option Res := LP (e [1, 0, 1, 0, 0]) (cn []) (kBlk 0 (kSeq (e [1, 1]) (K))) ([(0, (V.sl .no T_api_Token l0)), (7, (V.sl .no T_api_Token l1)), (8, (V.int .i64 i2)), (9, (V.int .i64 i3))], ⟨[], [], [], [], none⟩)
theorem L1_0_1_0_eq (l0 l1 : List (List V)) (i2 i3 : Int) : L1_0_1_0 l0 l1 i2 i3 =
  (bif (decide (i3 < i2)) then (if (((0 : Int) <= i3) ∧ (i3 < (l1.length : Int))) then (V.asInt (List.getD (List.getD l1 (Int.toNat i3) []) 0 V.undef) .i64 (fun n9 => V.asStr (List.getD (List.getD l1 (Int.toNat i3) []) 1 V.undef) (fun s10 => V.asInt (List.getD (List.getD l1 (Int.toNat i3) []) 2 V.undef) .i64 (fun n11 => V.asInt (List.getD (List.getD l1 (Int.toNat i3) []) 3 V.undef) .i64 (fun n12 => bif (i3 == (IntKind.wrap .i64 ((l0.length : Int) - (1 : Int)))) then (bif (n9 == (0 : Int)) then (bif (decide (s10 = (ByteArray.mk #[]))) then (some ⟨Out.ret (V.bool (n11 == (0 : Int))), [], none⟩) else (some ⟨Out.ret (V.bool false), [], none⟩)) else (some ⟨Out.ret (V.bool false), [], none⟩)) else (den Sp lex_written.id [V.agg [V.int .i64 n9, V.str s10, V.int .i64 n11, V.int .i64 n12]] [] none).bind (fun r15 => Res.onRet r15 (fun v16 => V.asTup v16 2 (fun rd17 => V.asStr (rd17 0) (fun s18 => V.asBool (rd17 1) (fun b19 => bif (!b19) then (some ⟨Out.ret (V.bool false), [], none⟩) else (L1_0_1_0 l0 l1 i2 (IntKind.wrap .i64 (i3 + (1 : Int)))))))))))))) else none) else (some ⟨Out.ret (V.bool false), [], none⟩)) := (LP_eq ..).trans (by kernel_rfl)
theorem eq (a0 : (List (List V))) : den Sp id [V.sl .no T_api_Token a0] [] none =
  (L1_0_1_0 a0 a0 (a0.length : Int) (0 : Int)) := (den_eq ..).trans (by kernel_rfl)
end lex_Right
namespace lex_written
theorem eq (a0_0 : Int) (a0_1 : ByteArray) (a0_2 a0_3 : Int) : den Sp id [V.agg [V.int .i64 a0_0, V.str a0_1, V.int .i64 a0_2, V.int .i64 a0_3]] [] none =
  (bif (a0_0 == (1 : Int)) then (bif (a0_2 == (0 : Int)) then (den Sp lex_IsName.id [V.str a0_1] [] none).bind (fun r8 => Res.onRet r8 (fun v9 => V.asBool v9 (fun b10 => some ⟨Out.ret (V.tup [V.str a0_1, V.bool b10]), [], none⟩))) else (some ⟨Out.ret (V.tup [V.str a0_1, V.bool false]), [], none⟩)) else (bif (a0_0 == (3 : Int)) then (bif (a0_2 == (0 : Int)) then (den Sp lex_isKey.id [V.str a0_1] [] none).bind (fun r9 => Res.onRet r9 (fun v10 => V.asBool v10 (fun b11 => some ⟨Out.ret (V.tup [V.str a0_1, V.bool b11]), [], none⟩))) else (some ⟨Out.ret (V.tup [V.str a0_1, V.bool false]), [], none⟩)) else (bif (a0_0 == (4 : Int)) then (bif (a0_2 == (0 : Int)) then (bif (!(decide (a0_1 = (ByteArray.mk #[])))) then (den Sp lex_sign.id [V.str a0_1] [] none).bind (fun r10 => Res.onRet r10 (fun v11 => V.asStr v11 (fun s12 => some ⟨Out.ret (V.tup [V.str a0_1, V.bool (decide (s12 = a0_1))]), [], none⟩))) else (some ⟨Out.ret (V.tup [V.str a0_1, V.bool false]), [], none⟩)) else (some ⟨Out.ret (V.tup [V.str a0_1, V.bool false]), [], none⟩)) else (bif (a0_0 == (2 : Int)) then (den Sp num_Text.id [V.int .i64 a0_2] [] none).bind (fun r11 => Res.onRet r11 (fun v12 => V.asStr v12 (fun s13 => bif (decide (a0_1 = (ByteArray.mk #[]))) then (some ⟨Out.ret (V.tup [V.str s13, V.bool (decide (a0_2 >= (0 : Int)))]), [], none⟩) else (some ⟨Out.ret (V.tup [V.str s13, V.bool false]), [], none⟩)))) else (some ⟨Out.ret (V.tup [V.str (ByteArray.mk #[]), V.bool false]), [], none⟩))))) := (den_eq ..).trans (by kernel_rfl)
end lex_written
end Go.Proofs.YtmhnmelaodhemaaDoor
namespace Go.Proofs.YtmhnmelaodhemaaDoor
open Go Go.Proofs.Ab Go.Proofs.Px
theorem sz_str : sz (Pg.P Sp) 9 = 1 := by kernel_rfl
theorem lex_letter_is (c : Int) : den Sp lex_letter.id [.int .u8 c] [] none = some ⟨.ret (.bool (letter c)), [], none⟩ := by
 rw [lex_letter.eq]
 unfold letter
 by_cases h1 : 65 <= c <;> by_cases h2 : c <= 90 <;> by_cases h3 : 97 <= c <;> simp [h1, h2, h3]
theorem lex_digit_is (c : Int) : den Sp lex_digit.id [.int .u8 c] [] none = some ⟨.ret (.bool (digit c)), [], none⟩ := by
 rw [lex_digit.eq]
 unfold digit
 by_cases h1 : 48 <= c <;> simp [h1]
theorem lex_inner_is (c : Int) : den Sp lex_inner.id [.int .u8 c] [] none = some ⟨.ret (.bool (inner c)), [], none⟩ := by
 rw [lex_inner.eq, lex_letter_is, lex_digit_is]
 unfold inner
 cases letter c <;> cases digit c <;> simp
theorem lex_isKey_is (s : ByteArray) : den Sp lex_isKey.id [.str s] [] none = some ⟨.ret (.bool (isKey s)), [], none⟩ := by
 rw [lex_isKey.eq]
 have key : ∀ i : Nat, i <= 13 -> lex_isKey.L1_0_1_0 s (i : Int) = some ⟨.ret (.bool (isIn s (keys.drop i))), [], none⟩ := by
  refine down ?_ fun i hi ih => ?_
  ·rw [lex_isKey.L1_0_1_0_eq]; rfl
  ·rw [lex_isKey.L1_0_1_0_eq, wrap_nat (by omega), ih, isIn_step (show i < keys.length from hi)]
   have h1 : ((i : Int) < 13) := by omega
   have h2 : ((0 : Int) <= i ∧ (i : Int) < ((13 : Nat) : Int)) := by omega
   rw [show (decide ((i : Int) < 13)) = true by simp [h1], cond_true, if_pos h2]
   try rw [sz_str]
   have hi' : i < keys.length := hi
   have h3 : (keys.map V.str).getD ((Int.toNat (i : Int)) * 1 + 0) V.undef = V.str (keys[i]'hi') := by
    rw [List.getD_eq_getElem?_getD, List.getElem?_map, show Int.toNat (i : Int) * 1 + 0 = i by simp, List.getElem?_eq_getElem hi']
    rfl
   refine (congrArg (fun v => V.asStr v _) h3).trans ?_
   rw [asStr_str]
   generalize keys[i]'hi' = kk
   by_cases he : s = kk
   ·subst he; simp
   ·have he' : ¬ kk = s := fun h => he h.symm
    simp [he, he']
 exact key 0 (by omega)
theorem lex_IsName_is (s : ByteArray) (hs : s.size < 4611686018427387904) : den Sp lex_IsName.id [.str s] [] none = some ⟨.ret (.bool (isName s)), [], none⟩ := by
 rw [lex_IsName.eq, lex_letter_is, lex_isKey_is]
 have key : ∀ i : Nat, i <= s.size -> lex_IsName.L1_1_0_1_0 s (s.size : Int) (i : Int) = some ⟨.ret (.bool (allF (fun i => inner (byteAt s i)) s.size i)), [], none⟩ := by
  refine down ?_ fun i hi ih => ?_
  ·rw [lex_IsName.L1_1_0_1_0_eq, allF_end]; simp
  ·rw [lex_IsName.L1_1_0_1_0_eq, wrap_nat (by omega), ih, lex_inner_is, allF_step hi]
   have h1 : ((i : Int) < (s.size : Int)) := by omega
   cases hin : inner (byteAt s i) <;> simp [hi, hin]
 unfold isName
 by_cases h0 : s = ⟨#[]⟩
 ·subst h0; rfl
 ·have hsz : 0 < s.size := by
   rcases Nat.eq_zero_or_pos s.size with h | h
   ·exact absurd ((empty_iff s).2 h) h0
   ·exact h
  by_cases h1 : 40 < s.size
  ·have h1' : ¬ s.size <= 40 := by omega
   have h3 : ((s.size : Int) > 40) := by omega
   simp [h0, show ¬ s = B [] from h0, h1', h3]
  ·have h1' : s.size <= 40 := by omega
   have h2 : ¬ ((s.size : Int) > 40) := by omega
   have hk := key 0 (by omega)
   rw [show ((0 : Nat) : Int) = (0 : Int) from rfl] at hk
   cases hl : letter (byteAt s 0) <;> cases hq : isKey s <;> simp [h0, show ¬ s = B [] from h0, h1', h2, hsz, hl, hq, hk]
theorem lex_sign_is (l : List UInt8) (hl : l.length < 4611686018427387904) : den Sp lex_sign.id [.str (B l)] [] none = some ⟨.ret (.str (B (sign l))), [], none⟩ := by
 rw [lex_sign.eq]
 have key : ∀ i : Nat, i <= 21 -> lex_sign.L1_0_1_1_0_1_0 (B l) (i : Int) = some ⟨.ret (.str (B (signIn l (signs.drop i)))), [], none⟩ := by
  refine down ?_ fun i hi ih => ?_
  ·rw [lex_sign.L1_0_1_1_0_1_0_eq]; rfl
  ·rw [lex_sign.L1_0_1_1_0_1_0_eq, wrap_nat (by omega), ih]
   have hi' : i < signs.length := hi
   have h1 : ((i : Int) < 21) := by omega
   have h2 : ((0 : Int) <= i ∧ (i : Int) < ((21 : Nat) : Int)) := by omega
   rw [show (decide ((i : Int) < 21)) = true by simp [h1], cond_true, if_pos h2]
   try rw [sz_str]
   have h3 : (signs.map fun x => V.str (B x)).getD ((Int.toNat (i : Int)) * 1 + 0) V.undef = V.str (B (signs[i]'hi')) := by
    rw [List.getD_eq_getElem?_getD, List.getElem?_map, show Int.toNat (i : Int) * 1 + 0 = i by simp, List.getElem?_eq_getElem hi']
    rfl
   refine (congrArg (fun v => V.asStr v _) h3).trans ?_
   rw [asStr_str, List.drop_eq_getElem_cons hi']
   generalize signs[i]'hi' = x
   have hs : signIn l (x :: signs.drop (i + 1)) = if l.take x.length = x then x else signIn l (signs.drop (i + 1)) := rfl
   rw [hs]
   simp only [B_size, Int.toNat_natCast, B_extract, List.drop_zero, Nat.sub_zero, B_dec, Nat.zero_le, true_and]
   by_cases hx : x.length <= l.length
   ·have h4 : ((x.length : Nat) : Int) <= ((l.length : Nat) : Int) := by omega
    simp only [h4, decide_true, cond_true, hx, if_true]
    by_cases he : l.take x.length = x
    ·simp [he]
    ·simp [he]
   ·have h4 : ¬ ((x.length : Nat) : Int) <= ((l.length : Nat) : Int) := by omega
    have he : ¬ l.take x.length = x := fun h => by
     have := congrArg List.length h
     simp at this; omega
    simp [h4, he]
 exact key 0 (by omega)
def rd (l : List UInt8) (i : Int) : Blk := .cells T_lex_reader [.str (B l), .int .i64 i] false
theorem blank_T (l : List UInt8) (hl : l.length < 4611686018427387904) (i : Nat) (hi : i < l.length) (c : UInt8) (hc : l.getD i 0 = c) :
  lex_reader_blank.L0_0_1_0_1_0_1_1_1_0_0 (B l) (i : Int) = bif (c == 10) then lex_reader_blank.L0 (B l) (i : Int) else lex_reader_blank.L0_0_1_0_1_0_1_1_1_0_0 (B l) ((i + 1 : Nat) : Int) := by
 have hlt : ((i : Int) < (l.length : Int)) := by omega
 have hcond : (0 : Int) <= (i : Int) ∧ (i : Int) < (l.length : Int) := ⟨by omega, hlt⟩
 rw [lex_reader_blank.L0_0_1_0_1_0_1_1_1_0_0_eq, wrap_nat (by omega), B_size, decide_eq_true hlt, cond_true, if_pos hcond, Int.toNat_natCast, B_byte, hc]
 have hne : ((c.toNat : Int) != (10 : Int)) = !(c == 10) := congrArg not (byte_eq c 10 (by omega))
 rw [hne]
 cases (c == 10) <;> simp only [Bool.not_false, Bool.not_true, cond_true, cond_false]
theorem blank_F (l : List UInt8) (hl : l.length < 4611686018427387904) (i : Nat) (hi : i < l.length) (c : UInt8) (hc : l.getD i 0 = c) :
  lex_reader_blank.L0 (B l) (i : Int) = bif (c == 32) then lex_reader_blank.L0 (B l) ((i + 1 : Nat) : Int) else bif (c == 10) then lex_reader_blank.L0 (B l) ((i + 1 : Nat) : Int) else
   bif (c == 35) then lex_reader_blank.L0_0_1_0_1_0_1_1_1_0_0 (B l) (i : Int) else some ⟨.ret (.tup []), [rd l (i : Int)], none⟩ := by
 have hlt : ((i : Int) < (l.length : Int)) := by omega
 have hcond : (0 : Int) <= (i : Int) ∧ (i : Int) < (l.length : Int) := ⟨by omega, hlt⟩
 rw [lex_reader_blank.L0_eq, wrap_nat (by omega), B_size, decide_eq_true hlt, cond_true, if_pos hcond, Int.toNat_natCast, B_byte, hc]
 have h1 : ((c.toNat : Int) == (32 : Int)) = (c == 32) := byte_eq c 32 (by omega)
 have h2 : ((c.toNat : Int) == (10 : Int)) = (c == 10) := byte_eq c 10 (by omega)
 have h3 : ((c.toNat : Int) == (35 : Int)) = (c == 35) := byte_eq c 35 (by omega)
 rw [h1, h2, h3]
 unfold rd
 cases (c == 32) <;> cases (c == 10) <;> cases (c == 35) <;> simp only [cond_true, cond_false]
theorem lex_blank_is (l : List UInt8) (hl : l.length < 4611686018427387904) (i : Nat) (hi : i <= l.length) :
  den Sp lex_reader_blank.id [.ref 0 0] [rd l i] none = some ⟨.ret (.tup []), [rd l ((l.length - (sk false (l.drop i)).length : Nat) : Int)], none⟩ := by
 show den Sp lex_reader_blank.id [.ref 0 0] [.cells T_lex_reader [.str (B l), .int .i64 i] false] none = _
 rw [lex_reader_blank.eq]
 have key : ∀ i : Nat, i <= l.length -> lex_reader_blank.L0 (B l) (i : Int) = some ⟨.ret (.tup []), [rd l ((l.length - (sk false (l.drop i)).length : Nat) : Int)], none⟩ ∧
   lex_reader_blank.L0_0_1_0_1_0_1_1_1_0_0 (B l) (i : Int) = some ⟨.ret (.tup []), [rd l ((l.length - (sk true (l.drop i)).length : Nat) : Int)], none⟩ := by
  refine down ?_ fun i hi ih => ?_
  ·have hlt : ¬ ((l.length : Int) < (l.length : Int)) := by omega
   have h0 : lex_reader_blank.L0 (B l) (l.length : Int) = some ⟨.ret (.tup []), [rd l ((l.length : Nat) : Int)], none⟩ := by
    rw [lex_reader_blank.L0_eq, B_size, decide_eq_false hlt]; rfl
   have h1 : lex_reader_blank.L0_0_1_0_1_0_1_1_1_0_0 (B l) (l.length : Int) = lex_reader_blank.L0 (B l) (l.length : Int) := by
    rw [lex_reader_blank.L0_0_1_0_1_0_1_1_1_0_0_eq, B_size, decide_eq_false hlt]; rfl
   rw [h1, h0, List.drop_length]
   exact ⟨rfl, rfl⟩
  ·obtain ⟨ih1, ih2⟩ := ih
   obtain ⟨c, hc⟩ : ∃ c, l.getD i 0 = c := ⟨_, rfl⟩
   have hd := drop_cons hi
   rw [hc] at hd
   have hT := blank_T l hl i hi c hc
   have hF := blank_F l hl i hi c hc
   have hn : l.length - (c :: l.drop (i + 1)).length = i := by rw [<- hd, List.length_drop]; omega
   have goF : lex_reader_blank.L0 (B l) (i : Int) = some ⟨.ret (.tup []), [rd l ((l.length - (sk false (l.drop i)).length : Nat) : Int)], none⟩ := by
    rw [hF, hd]
    unfold sk
    by_cases c10 : c = 10
    ·subst c10
     simp only [beq_self_eq_true, cond_true, show ((10 : UInt8) == 32) = false from rfl, cond_false, if_true]
     exact ih1
    ·rw [if_neg c10, if_neg nofun]
     by_cases c32 : c = 32
     ·subst c32
      simp only [beq_self_eq_true, cond_true, if_true]
      exact ih1
     ·rw [if_neg c32]
      by_cases c35 : c = 35
      ·subst c35
       simp only [beq_self_eq_true, cond_true, if_true, show ((35 : UInt8) == 32) = false from rfl, show ((35 : UInt8) == 10) = false from rfl, cond_false]
       rw [hT]
       simp only [show ((35 : UInt8) == 10) = false from rfl, cond_false]
       exact ih2
      ·rw [if_neg c35, beq_eq_false_iff_ne.2 c10, beq_eq_false_iff_ne.2 c32, beq_eq_false_iff_ne.2 c35, cond_false, cond_false, cond_false, hn]
   refine ⟨goF, ?_⟩
   rw [hT]
   by_cases c10 : c = 10
   ·subst c10
    simp only [beq_self_eq_true, cond_true]
    rw [goF, hd]
    have : sk false (10 :: l.drop (i + 1)) = sk true (10 :: l.drop (i + 1)) := by simp [sk]
    rw [this]
   ·rw [beq_eq_false_iff_ne.2 c10, cond_false, ih2, hd]
    have : sk true (c :: l.drop (i + 1)) = sk true (l.drop (i + 1)) := by
     rw [sk, if_neg c10, if_pos rfl]
    rw [this]
 exact (key i hi).1
theorem lex_word_is (l : List UInt8) (hl : l.length < 4611686018427387904) (i : Nat) (hi : i <= l.length) :
  den Sp lex_reader_word.id [.ref 0 0] [rd l i] none = some ⟨.ret (.str (B (word (l.drop i)))), [rd l i], none⟩ := by
 show den Sp lex_reader_word.id [.ref 0 0] [.cells T_lex_reader [.str (B l), .int .i64 i] false] none = _
 rw [lex_reader_word.eq]
 have fin : ∀ k : Nat, i <= k -> k <= l.length -> (if ((0 : Int) <= (i : Int)) then (if ((0 : Int) <= (k : Int)) then (if (((Int.toNat (i : Int)) <= (Int.toNat (k : Int))) ∧ ((Int.toNat (k : Int)) <= (ByteArray.size (B l)))) then (some (Res.mk (Out.ret (V.str (ByteArray.extract (B l) (Int.toNat (i : Int)) (Int.toNat (k : Int))))) [(Blk.cells T_lex_reader [(V.str (B l)), (V.int IntKind.i64 i)] Bool.false)] none)) else none) else none) else none) =
   some ⟨.ret (.str (B ((l.drop i).take (k - i)))), [rd l i], none⟩ := fun k h1 h2 => by
  rw [if_pos (by omega), if_pos (by omega), if_pos (by simp; omega)]
  simp [rd]
 have key : ∀ k : Nat, k <= l.length -> i <= k -> lex_reader_word.L1_1_0_0 (k : Int) (B l) (i : Int) = some ⟨.ret (.str (B ((l.drop i).take (k - i + (word (l.drop k)).length)))), [rd l i], none⟩ := by
  refine down (fun hik => ?_) fun k hk ih hik => ?_
  ·rw [lex_reader_word.L1_1_0_0_eq]
   have := fin l.length hik (Nat.le_refl _)
   simp only [B_size, Int.lt_irrefl, decide_false, cond_false]
   simp only [B_size] at this
   rw [this]; simp [word]
  ·have hlt : ((k : Int) < (l.length : Int)) := by omega
   have hcond : (0 : Int) <= (k : Int) ∧ (k : Int) < (l.length : Int) := ⟨by omega, hlt⟩
   have h2 := fin k hik (by omega)
   rw [B_size] at h2
   obtain ⟨c, hc⟩ : ∃ c, l.getD k 0 = c := ⟨_, rfl⟩
   have hd := drop_cons hk
   rw [hc] at hd
   rw [lex_reader_word.L1_1_0_0_eq, wrap_nat (by omega), ih (by omega), lex_inner_is, B_size, decide_eq_true hlt, cond_true, if_pos hcond, Int.toNat_natCast, B_byte, hc]
   simp only [Option.bind_some, onRet_ret, asBool_bool]
   have hw : word (c :: l.drop (k + 1)) = if inn c then c :: word (l.drop (k + 1)) else [] := by unfold word; rw [List.takeWhile_cons]
   rw [hd, hw]
   show (bif inn c then _ else _) = _
   cases hin : inn c with
   | true =>
    simp only [cond_true, if_true, List.length_cons]
    rw [show k + 1 - i + (word (l.drop (k + 1))).length = k - i + ((word (l.drop (k + 1))).length + 1) by omega]
   | false =>
    simp only [cond_false, List.length_nil, Nat.add_zero]
    simp only [Int.toNat_natCast] at h2
    exact h2
 have := key i hi (Nat.le_refl _)
 rw [this, Nat.sub_self, Nat.zero_add]
 have hw : (l.drop i).take (word (l.drop i)).length = word (l.drop i) := by
  unfold word
  exact (List.prefix_iff_eq_take.1 (List.takeWhile_prefix inn)).symm
 rw [hw]
def pairV (x : Int × Int) : Option Res := some ⟨.ret (.tup [.int .i64 x.1, .int .i64 x.2]), [], none⟩
theorem tdiv10 {n : Int} (h : 0 <= n) : Int.tdiv n 10 = n / 10 := Int.tdiv_eq_ediv_of_nonneg h
theorem parse_round (X Y : Option Res) (u : Nat) (hu : u <= 9223372036854775808) (c : UInt8) (r : List UInt8) (hX : X = pairV (0, 10)) (hY : dg c = true -> u * 10 + (c.toNat - 48) <= 9223372036854775808 -> Y = pairV (parseGo (u * 10 + (c.toNat - 48)) r)) :
  (bif (decide ((c.toNat : Int) < (48 : Int))) then X else (bif (decide ((IntKind.wrap IntKind.u64 ((IntKind.wrap IntKind.u64 (c.toNat : Int)) - (48 : Int))) > (9 : Int))) then X else
   (bif (decide ((u : Int) > (IntKind.wrap IntKind.u64 (Int.tdiv (IntKind.wrap IntKind.u64 ((9223372036854775808 : Int) - (IntKind.wrap IntKind.u64 ((IntKind.wrap IntKind.u64 (c.toNat : Int)) - (48 : Int))))) (10 : Int))))) then X else Y))) = pairV (parseGo u (c :: r)) := by
 have hc : c.toNat < 256 := c.toNat_lt
 unfold parseGo
 by_cases h1 : (c.toNat : Int) < 48
 ·have : ¬ (dg c = true ∧ u * 10 + (c.toNat - 48) <= 9223372036854775808) := by
   rintro ⟨h2, _⟩
   unfold dg digit at h2
   simp only [Bool.and_eq_true, decide_eq_true_eq] at h2
   omega
  rw [decide_eq_true h1, cond_true, if_neg this, hX]
 ·have e1 : IntKind.wrap IntKind.u64 (c.toNat : Int) = (c.toNat : Int) := by rw [IntKind.wrap_u64]; omega
  have e2 : IntKind.wrap IntKind.u64 ((c.toNat : Int) - 48) = (c.toNat : Int) - 48 := by rw [IntKind.wrap_u64]; omega
  rw [e1, e2, decide_eq_false h1, cond_false]
  by_cases h2 : ((c.toNat : Int) - 48) > 9
  ·have : ¬ (dg c = true ∧ u * 10 + (c.toNat - 48) <= 9223372036854775808) := by
    rintro ⟨h3, _⟩
    unfold dg digit at h3
    simp only [Bool.and_eq_true, decide_eq_true_eq] at h3
    omega
   rw [decide_eq_true h2, cond_true, if_neg this, hX]
  ·have e3 : IntKind.wrap IntKind.u64 ((9223372036854775808 : Int) - ((c.toNat : Int) - 48)) = (9223372036854775808 : Int) - ((c.toNat : Int) - 48) := by rw [IntKind.wrap_u64]; omega
   have e4 : IntKind.wrap IntKind.u64 (((9223372036854775808 : Int) - ((c.toNat : Int) - 48)) / 10) = ((9223372036854775808 : Int) - ((c.toNat : Int) - 48)) / 10 := by rw [IntKind.wrap_u64]; omega
   rw [e3, tdiv10 (by omega), e4, decide_eq_false h2, cond_false]
   have hd : dg c = true := by
    unfold dg digit
    simp only [Bool.and_eq_true, decide_eq_true_eq]
    omega
   by_cases h3 : (u : Int) > ((9223372036854775808 : Int) - ((c.toNat : Int) - 48)) / 10
   ·have : ¬ (dg c = true ∧ u * 10 + (c.toNat - 48) <= 9223372036854775808) := by
     rintro ⟨_, h4⟩
     omega
    rw [decide_eq_true h3, cond_true, if_neg this, hX]
   ·have : (dg c = true ∧ u * 10 + (c.toNat - 48) <= 9223372036854775808) := ⟨hd, by omega⟩
    rw [decide_eq_false h3, cond_false, if_pos this, hY this.1 this.2]
theorem parse_next (u : Nat) (hu : u <= 9223372036854775808) (c : UInt8) (h : u * 10 + (c.toNat - 48) <= 9223372036854775808) (hd : dg c = true) :
  (IntKind.wrap IntKind.u64 ((IntKind.wrap IntKind.u64 ((u : Int) * (10 : Int))) + (IntKind.wrap IntKind.u64 ((IntKind.wrap IntKind.u64 (c.toNat : Int)) - (48 : Int))))) = ((u * 10 + (c.toNat - 48) : Nat) : Int) := by
 have hc : c.toNat < 256 := c.toNat_lt
 unfold dg digit at hd
 simp only [Bool.and_eq_true, decide_eq_true_eq] at hd
 have e1 : IntKind.wrap IntKind.u64 (c.toNat : Int) = (c.toNat : Int) := by rw [IntKind.wrap_u64]; omega
 have e2 : IntKind.wrap IntKind.u64 ((c.toNat : Int) - 48) = (c.toNat : Int) - 48 := by rw [IntKind.wrap_u64]; omega
 have e3 : IntKind.wrap IntKind.u64 ((u : Int) * 10) = (u : Int) * 10 := by rw [IntKind.wrap_u64]; omega
 have e4 : IntKind.wrap IntKind.u64 ((u : Int) * 10 + ((c.toNat : Int) - 48)) = (u : Int) * 10 + ((c.toNat : Int) - 48) := by rw [IntKind.wrap_u64]; omega
 rw [e1, e2, e3, e4]; omega
theorem parse_v2 (w : List UInt8) (hw : w.length < 4611686018427387904) : ∀ i, i <= w.length -> ∀ u : Nat, u <= 9223372036854775808 -> num_Parse.L1_0_1_1_1_1_1_0_1_0v2 (B w) (u : Int) (i : Int) = pairV (parseGo u (w.drop i)) := by
 refine down (fun u hu => ?_) fun i hi ih u hu => ?_
 ·have hlt : ¬ ((w.length : Int) < (w.length : Int)) := by omega
  rw [num_Parse.L1_0_1_1_1_1_1_0_1_0v2_eq, B_size, decide_eq_false hlt, cond_false, List.drop_length]
  unfold parseGo
  by_cases h : u = 9223372036854775808
  ·subst h; rfl
  ·have h' : ¬ ((u : Int) = 9223372036854775808) := by omega
   rw [if_neg h, beq_eq_false_iff_ne.2 h', cond_false, wrap_in (by omega) (by omega)]
   rfl
 ·have hlt : ((i : Int) < (w.length : Int)) := by omega
  have hcond : (0 : Int) <= (i : Int) ∧ (i : Int) < (w.length : Int) := ⟨by omega, hlt⟩
  obtain ⟨c, hc⟩ : ∃ c, w.getD i 0 = c := ⟨_, rfl⟩
  have hd := drop_cons hi
  rw [hc] at hd
  rw [num_Parse.L1_0_1_1_1_1_1_0_1_0v2_eq, B_size, decide_eq_true hlt, cond_true, if_pos hcond, if_pos hcond, Int.toNat_natCast, B_byte, hc, wrap_nat (by omega), hd]
  refine parse_round _ _ u hu c _ rfl fun hd2 hok => ?_
  rw [parse_next u hu c hok hd2]
  exact ih _ hok
theorem parse_v3 (w : List UInt8) (hw : w.length < 4611686018427387904) : ∀ i, i <= w.length -> ∀ u : Nat, u <= 9223372036854775808 -> num_Parse.L1_0_1_1_1_1_1_0_1_0v3 (B w) (u : Int) true (i : Int) = pairV (parseGo u (w.drop i)) := by
 refine down (fun u hu => ?_) fun i hi ih u hu => ?_
 ·have hlt : ¬ ((w.length : Int) < (w.length : Int)) := by omega
  rw [num_Parse.L1_0_1_1_1_1_1_0_1_0v3_eq, B_size, decide_eq_false hlt, cond_true, cond_false, List.drop_length]
  unfold parseGo
  by_cases h : u = 9223372036854775808
  ·subst h; rfl
  ·have h' : ¬ ((u : Int) = 9223372036854775808) := by omega
   rw [if_neg h, beq_eq_false_iff_ne.2 h', wrap_in (by omega) (by omega)]
   rfl
 ·have hlt : ((i : Int) < (w.length : Int)) := by omega
  have hcond : (0 : Int) <= (i : Int) ∧ (i : Int) < (w.length : Int) := ⟨by omega, hlt⟩
  obtain ⟨c, hc⟩ : ∃ c, w.getD i 0 = c := ⟨_, rfl⟩
  have hd := drop_cons hi
  rw [hc] at hd
  rw [num_Parse.L1_0_1_1_1_1_1_0_1_0v3_eq, B_size, decide_eq_true hlt, cond_true, cond_true, if_pos hcond, if_pos hcond, Int.toNat_natCast, B_byte, hc, wrap_nat (by omega), hd]
  refine parse_round _ _ u hu c _ rfl fun hd2 hok => ?_
  rw [parse_next u hu c hok hd2]
  exact ih _ hok
theorem num_Parse_dg (c : UInt8) (r : List UInt8) (hc : dg c = true) (hw : (c :: r).length < 4611686018427387904) : den Sp num_Parse.id [.str (B (c :: r))] [] none = pairV (parse (c :: r)) := by
 have hc8 : c.toNat < 256 := c.toNat_lt
 have hb := hc
 unfold dg digit at hb
 simp only [Bool.and_eq_true, decide_eq_true_eq] at hb
 have hne : decide (B (c :: r) = B []) = false := by rw [B_dec]; rfl
 have hcond : (0 : Int) <= 0 ∧ (0 : Int) < (((c :: r).length : Nat) : Int) := ⟨Int.le_refl _, by simp⟩
 have h45 : ((c.toNat : Int) == (45 : Int)) = false := beq_eq_false_iff_ne.2 (by omega)
 have hg : (c :: r).getD 0 0 = c := rfl
 rw [num_Parse.eq, B_nil, hne, B_size, Bool.not_false, cond_true, if_pos hcond, B_byte, hg, h45, cond_false, cond_true, if_pos hcond]
 have p2 := parse_v2 (c :: r) hw 0 (by omega) 0 (by omega)
 have p3 := parse_v3 (c :: r) hw 0 (by omega) 0 (by omega)
 rw [List.drop_zero] at p2 p3
 unfold parse
 rw [hg]
 by_cases h48 : c = 48
 ·subst h48
  have h1 : (((48 : UInt8).toNat : Int) != (48 : Int)) = false := rfl
  rw [h1, cond_false]
  by_cases hr : (48 :: r).length = 1
  ·have h2 : ((((48 :: r).length : Nat) : Int) == (1 : Int)) = true := by rw [hr]; rfl
   rw [h2, if_pos (.inr hr)]
   exact p3
  ·have h2 : ((((48 :: r).length : Nat) : Int) == (1 : Int)) = false := beq_eq_false_iff_ne.2 (by omega)
   have h3 : ¬ ((48 : UInt8) ≠ 48 ∨ (48 :: r).length = 1) := fun h => h.elim (fun h => h rfl) hr
   rw [h2, if_neg h3]
   rw [num_Parse.L1_0_1_1_1_1_1_0_1_0v3_eq]
   rfl
 ·have h1 : ((c.toNat : Int) != (48 : Int)) = true := by
   have := byte_eq c 48 (by omega)
   show (!((c.toNat : Int) == ((48 : Nat) : Int))) = true
   rw [this]
   have h5 : (c == UInt8.ofNat 48) = false := beq_eq_false_iff_ne.2 h48
   rw [h5]; rfl
  rw [h1, cond_true, if_pos (.inl h48)]
  exact p2
theorem word_le (r : List UInt8) : (word r).length <= r.length := by
 unfold word
 exact (List.takeWhile_prefix inn).length_le
theorem signIn_le (r : List UInt8) : ∀ l, (signIn r l).length <= r.length
 | [] => Nat.zero_le _
 | x :: l => by
  unfold signIn
  split
  ·rename_i h
   have := congrArg List.length h
   simp at this; omega
  ·exact signIn_le r l
theorem sign_le (r : List UInt8) : (sign r).length <= r.length := signIn_le r signs
theorem next_le (r : List UInt8) (a : Int) : (next r a).2.1 <= r.length := by
 unfold next
 split
 ·exact Nat.zero_le _
 ·split
  ·exact word_le _
  ·split
   ·exact word_le _
   ·exact sign_le _
theorem dg_inn {c : UInt8} (h : dg c = true) : inn c = true := by
 unfold inn inner
 have : digit (c.toNat : Int) = true := h
 rw [this]; simp
theorem isKey_B' (l : List UInt8) : isKey (B l) = isKeyL l := isKey_B l
theorem dec_len (n m : Nat) : decide ((n : Int) <= (m : Int)) = decide (n <= m) := by
 by_cases h : n <= m
 ·rw [decide_eq_true h, decide_eq_true (by omega)]
 ·rw [decide_eq_false h, decide_eq_false (by omega)]
theorem lex_next_is (l : List UInt8) (hl : l.length < 1099511627776) (i : Nat) (hi : i <= l.length) :
  den Sp lex_reader_next.id [.ref 0 0] [rd l i] none = some ⟨.ret (.tup [.agg (next (l.drop i) i).1.v, .bool (next (l.drop i) i).2.2]), [rd l ((i + (next (l.drop i) i).2.1 : Nat) : Int)], none⟩ := by
 show den Sp lex_reader_next.id [.ref 0 0] [.cells T_lex_reader [.str (B l), .int .i64 i] false] none = _
 rw [lex_reader_next.eq]
 by_cases hend : i = l.length
 ·subst hend
  rw [B_size, beq_self_eq_true, cond_true, List.drop_length]
  rfl
 ·have hlt : i < l.length := by omega
  have hne : (((i : Nat) : Int) == ((l.length : Nat) : Int)) = false := beq_eq_false_iff_ne.2 (by omega)
  have hcond : (0 : Int) <= (i : Int) ∧ (i : Int) < (l.length : Int) := ⟨by omega, by omega⟩
  obtain ⟨c, hc⟩ : ∃ c, l.getD i 0 = c := ⟨_, rfl⟩
  have hd := drop_cons hlt
  rw [hc] at hd
  have hwd := lex_word_is l (by omega) i hi
  have hwl := word_le (l.drop i)
  rw [List.length_drop] at hwl
  have hwr : ∀ n : Nat, n <= l.length - i -> IntKind.wrap IntKind.i64 ((i : Int) + (n : Int)) = ((i + n : Nat) : Int) := fun n hn => by
   rw [wrap_in (by omega) (by omega)]; omega
  have hrd : (Blk.cells T_lex_reader [(V.str (B l)), (V.int IntKind.i64 i)] Bool.false) = rd l i := rfl
  rw [B_size, hne, cond_false, if_pos hcond, Int.toNat_natCast, B_byte, hc, lex_letter_is, lex_digit_is, hrd, hwd]
  simp only [Option.bind_some, onRet_ret, asBool_bool, bl_mk]
  have hcells : ∀ (k : (Nat -> V) -> Option Res), Blk.asCells (List.getD [rd l i] 0 (Blk.cells T_n0 [] Bool.true)) T_lex_reader 2 k = k (fun j => [(V.str (B l)), (V.int IntKind.i64 i)].getD j .undef) := fun k => by
   show Blk.asCells (Blk.cells T_lex_reader [(V.str (B l)), (V.int IntKind.i64 i)] false) T_lex_reader 2 k = _
   exact asCells_cells _ _ _ rfl k
  rw [hcells, hcells]
  have hstr : ∀ (k : ByteArray -> Option Res), V.asStr ([(V.str (B l)), (V.int IntKind.i64 i)].getD 0 .undef) k = k (B l) := fun k => rfl
  have hint : ∀ (k : Int -> Option Res), V.asInt ([(V.str (B l)), (V.int IntKind.i64 i)].getD (0 + 1) .undef) IntKind.i64 k = k (i : Int) := fun k => asInt_int _ _ k
  simp only [hstr, hint, asStr_str, lex_isKey_is, Option.bind_some, onRet_ret, asBool_bool, B_size]
  have hnx : next (l.drop i) i = if lt c then (⟨if isKeyL (word (l.drop i)) then 3 else 1, word (l.drop i), 0, i⟩, (word (l.drop i)).length, decide ((word (l.drop i)).length <= 40))
    else if dg c then (⟨2, [], (parse (word (l.drop i))).1, i⟩, (word (l.drop i)).length, decide ((parse (word (l.drop i))).2 = 0))
    else (⟨4, sign (l.drop i), 0, i⟩, (sign (l.drop i)).length, !decide (sign (l.drop i) = [])) := by
   generalize hr : l.drop i = r at hd
   subst hd
   rfl
  show (bif lt c then _ else _) = _
  cases hlc : lt c with
  | true =>
   rw [hnx, hlc, cond_true, if_pos rfl, isKey_B', hwr _ hwl]
   have h40 := dec_len (word (l.drop i)).length 40
   rw [show ((40 : Nat) : Int) = (40 : Int) from rfl] at h40
   rw [h40]
   cases isKeyL (word (l.drop i)) <;> simp only [cond_true, cond_false, if_true, Bool.false_eq_true, if_false] <;> rfl
  | false =>
   rw [hnx, hlc, cond_false]
   simp only [Bool.false_eq_true, if_false]
   show (bif dg c then _ else _) = _
   cases hdc : dg c with
   | true =>
    rw [cond_true]
    simp only [if_true]
    have hwc : word (l.drop i) = c :: word (l.drop (i + 1)) := by
     rw [hd]; unfold word
     rw [List.takeWhile_cons, dg_inn hdc]; rfl
    have hp := num_Parse_dg c (word (l.drop (i + 1))) hdc (by rw [<- hwc]; omega)
    rw [<- hwc] at hp
    rw [hp, hwr _ hwl]
    unfold pairV
    simp only [Option.bind_some, onRet_ret]
    have htp : ∀ (a b : V) (k : (Nat -> V) -> Option Res), V.asTup (.tup [a, b]) 2 k = k (fun j => [a, b].getD j .undef) := fun a b k => asTup_tup _ _ rfl k
    rw [htp]
    have hi1 : ∀ (a b : Int) (k : Int -> Option Res), V.asInt ([V.int .i64 a, V.int .i64 b].getD 0 .undef) IntKind.i64 k = k a := fun a b k => asInt_int _ _ k
    have hi2 : ∀ (a b : Int) (k : Int -> Option Res), V.asInt ([V.int .i64 a, V.int .i64 b].getD (0 + 1) .undef) IntKind.i64 k = k b := fun a b k => asInt_int _ _ k
    rw [hi1, hi2]
    rfl
   | false =>
    rw [cond_false]
    simp only [Bool.false_eq_true, if_false]
    have h1 : (0 : Int) <= (i : Int) := by omega
    have h2 : i <= l.length ∧ l.length <= l.length := ⟨hi, Nat.le_refl _⟩
    rw [if_pos h1, if_pos h2, B_extract]
    have htake : (l.drop i).take (l.length - i) = l.drop i := List.take_of_length_le (by simp)
    have hsl := sign_le (l.drop i)
    rw [List.length_drop] at hsl
    rw [htake, lex_sign_is _ (by rw [List.length_drop]; omega)]
    simp only [Option.bind_some, onRet_ret, asStr_str, B_size]
    rw [hwr _ hsl, B_nil, B_dec]
    rfl
theorem rd_cells (l : List UInt8) (i : Int) (k : (Nat -> V) -> Option Res) (d : Blk) : Blk.asCells (List.getD [rd l i] 0 d) T_lex_reader 2 k = k (fun j => [(V.str (B l)), (V.int IntKind.i64 i)].getD j .undef) :=
 asCells_cells (R := Res) _ _ _ rfl k
theorem rd_str (l : List UInt8) (i : Int) (k : ByteArray -> Option Res) : V.asStr ([(V.str (B l)), (V.int IntKind.i64 i)].getD 0 .undef) k = k (B l) := rfl
theorem rd_int (l : List UInt8) (i : Int) (k : Int -> Option Res) : V.asInt ([(V.str (B l)), (V.int IntKind.i64 i)].getD (0 + 1) .undef) IntKind.i64 k = k i := asInt_int _ _ k
theorem tup0 (k : (Nat -> V) -> Option Res) : V.asTup (.tup []) 0 k = k (fun j => ([] : List V).getD j .undef) := asTup_tup _ _ rfl k
theorem tup2 (a b : V) (k : (Nat -> V) -> Option Res) : V.asTup (.tup [a, b]) 2 k = k (fun j => [a, b].getD j .undef) := asTup_tup _ _ rfl k
theorem tk_agg (t : Tk) (b : V) (k : (Nat -> V) -> Option Res) : V.asAgg ([V.agg t.v, b].getD 0 .undef) 4 k = k (fun j => t.v.getD j .undef) := asAgg_agg (R := Res) t.v 4 rfl k
theorem tk_0 (t : Tk) (k : Int -> Option Res) : V.asInt (t.v.getD 0 .undef) IntKind.i64 k = k t.kind := asInt_int _ _ k
theorem tk_1 (t : Tk) (k : ByteArray -> Option Res) : V.asStr (t.v.getD 1 .undef) k = k (B t.text) := rfl
theorem tk_2 (t : Tk) (k : Int -> Option Res) : V.asInt (t.v.getD 2 .undef) IntKind.i64 k = k t.num := asInt_int _ _ k
theorem tk_3 (t : Tk) (k : Int -> Option Res) : V.asInt (t.v.getD 3 .undef) IntKind.i64 k = k t.at_ := asInt_int _ _ k
theorem bool_1 (a : V) (b : Bool) (k : Bool -> Option Res) : V.asBool ([a, V.bool b].getD (0 + 1) .undef) k = k b := rfl
theorem next_pos (r : List UInt8) (a : Int) (h1 : (next r a).2.2 = true) (h2 : (next r a).1.kind ≠ 0) : 0 < (next r a).2.1 := by
 cases r with
 | nil => exact absurd rfl h2
 | cons c r =>
  have hw : inn c = true -> 0 < (word (c :: r)).length := fun h => by
   unfold word; rw [List.takeWhile_cons, h]; simp
  have hx : next (c :: r) a = if lt c then (⟨if isKeyL (word (c :: r)) then 3 else 1, word (c :: r), 0, a⟩, (word (c :: r)).length, decide ((word (c :: r)).length <= 40))
    else if dg c then (⟨2, [], (parse (word (c :: r))).1, a⟩, (word (c :: r)).length, decide ((parse (word (c :: r))).2 = 0))
    else (⟨4, sign (c :: r), 0, a⟩, (sign (c :: r)).length, !decide (sign (c :: r) = [])) := rfl
  rw [hx] at h1 ⊢
  cases hl : lt c with
  | true =>
   have : inn c = true := by
    unfold inn inner
    have : letter (c.toNat : Int) = true := hl
    rw [this]; rfl
   simpa using hw this
  | false =>
   rw [hl] at h1
   simp only [Bool.false_eq_true, if_false] at h1 ⊢
   cases hd : dg c with
   | true => simpa using hw (dg_inn hd)
   | false =>
    rw [hd] at h1
    simp only [Bool.false_eq_true, if_false] at h1 ⊢
    rcases Nat.eq_zero_or_pos (sign (c :: r)).length with h | h
    ·rw [List.length_eq_zero_iff.1 h] at h1; simp at h1
    ·exact h
def scanV (x : List Tk × Int × Int) : Option Res := some ⟨.ret (.tup [.sl .no T_api_Token (x.1.map Tk.v), .int .i64 x.2.1, .int .i64 x.2.2]), [], none⟩
theorem scan_loop (l : List UInt8) (hl : l.length < 1099511627776) : ∀ (f i : Nat), i <= l.length -> l.length - i < f -> ∀ out : List Tk, out.length <= 4000 ->
  lex_Scan.L1_1_1_1_0 (out.map Tk.v) (B l) (i : Int) = scanV (scanGo f l.length out (l.drop i))
 | 0, i, hi, hf, out, ho => by omega
 | f + 1, i, hi, hf, out, ho => by
  have hskl := sk_le false (l.drop i)
  have hskd := sk_drop false (l.drop i)
  rw [List.length_drop] at hskl
  generalize hj : l.length - (sk false (l.drop i)).length = j
  have hij : i <= j := by omega
  have hjl : j <= l.length := by omega
  have hdj : sk false (l.drop i) = l.drop j := by
   rw [hskd, List.drop_drop]
   congr 1
   rw [List.length_drop]; omega
  have hbl := lex_blank_is l (by omega) i hi
  rw [hj] at hbl
  have hnx := lex_next_is l hl j hjl
  have hnl := next_le (l.drop j) j
  rw [List.length_drop] at hnl
  have hpos := next_pos (l.drop j) j
  have hrd : (Blk.cells T_lex_reader [(V.str (B l)), (V.int IntKind.i64 i)] Bool.false) = rd l i := rfl
  have hrdj : (Blk.cells T_lex_reader [(V.str (B l)), (V.int IntKind.i64 j)] Bool.false) = rd l j := rfl
  have hgo : scanGo (f + 1) l.length out (l.drop i) = if (next (l.drop j) j).2.2 = false then ([], (j : Int), 20) else if out.length = 4000 then ([], (j : Int), 2) else
    if (next (l.drop j) j).1.kind = 0 then (out ++ [(next (l.drop j) j).1], 0, 0) else scanGo f l.length (out ++ [(next (l.drop j) j).1]) ((l.drop j).drop (next (l.drop j) j).2.1) := by
   rw [scanGo_succ, hdj, List.length_drop]
   have : ((l.length - (l.length - j) : Nat) : Int) = (j : Int) := by omega
   rw [this]
  rw [lex_Scan.L1_1_1_1_0_eq, hrd, hbl]
  simp only [Option.bind_some, bl_mk]
  rw [rd_cells, rd_str, rd_int, onRet_ret, tup0, hrdj, hnx]
  simp only [Option.bind_some, bl_mk]
  rw [rd_cells, rd_str, rd_int, onRet_ret, tup2, tk_agg, tk_0, tk_1, tk_2, tk_3, bool_1, hgo]
  generalize next (l.drop j) j = x at *
  obtain ⟨t, n, ok⟩ := x
  dsimp only at *
  cases ok with
  | false => rfl
  | true =>
   rw [Bool.not_true, cond_false, if_neg (fun h : true = false => Bool.noConfusion h)]
   have hlen : (out.map Tk.v).length = out.length := List.length_map ..
   rw [hlen]
   by_cases h4 : out.length = 4000
   ·rw [if_pos h4, h4]; rfl
   ·have h5 : (((out.length : Nat) : Int) == (4000 : Int)) = false := beq_eq_false_iff_ne.2 (by omega)
    have h6 : out.length + (List.length [[(V.int IntKind.i64 t.kind), (V.str (B t.text)), (V.int IntKind.i64 t.num), (V.int IntKind.i64 t.at_)]]) <= most := by
     show out.length + 1 <= 1099511627776
     omega
    have h7 : out.map Tk.v ++ [[(V.int IntKind.i64 t.kind), (V.str (B t.text)), (V.int IntKind.i64 t.num), (V.int IntKind.i64 t.at_)]] = (out ++ [t]).map Tk.v := by
     rw [List.map_append]; rfl
    rw [h5, cond_false, if_neg h4, if_pos h6, h7]
    by_cases hk : t.kind = 0
    ·rw [if_pos hk, hk]; rfl
    ·rw [if_neg hk, beq_eq_false_iff_ne.2 hk, cond_false]
     have hp := hpos rfl hk
     have hdd : (l.drop j).drop n = l.drop (j + n) := List.drop_drop ..
     rw [hdd]
     exact scan_loop l hl f (j + n) (by omega) (by omega) (out ++ [t]) (by rw [List.length_append, List.length_singleton]; omega)
theorem lex_Scan_is (l : List UInt8) (hl : l.length < 1099511627776) : den Sp lex_Scan.id [.str (B l)] [] none = scanV (scan l) := by
 rw [lex_Scan.eq, B_size]
 unfold scan
 by_cases h : l.length > 16384
 ·have h1 : ((l.length : Nat) : Int) > 16384 := by omega
  rw [if_pos h, decide_eq_true h1]; rfl
 ·have h1 : ¬ ((l.length : Nat) : Int) > 16384 := by omega
  rw [if_neg h, decide_eq_false h1, cond_false]
  have := scan_loop l hl (l.length + 1) 0 (by omega) (by omega) [] (by simp)
  rw [List.drop_zero] at this
  exact this
end Go.Proofs.YtmhnmelaodhemaaDoor
namespace Go.Proofs.Px
open Go Go.Proofs.Ab
end Go.Proofs.Px
namespace Go.Proofs.YtmhnmelaodhemaaDoor
open Go Go.Proofs.Ab Go.Proofs.Px
theorem dgt_w (u : Nat) : IntKind.wrap IntKind.u8 (IntKind.wrap IntKind.u64 ((48 : Int) + (Int.tmod (u : Int) (10 : Int)))) = ((dgt u).toNat : Int) := by
 rw [dgt_nat, Int.tmod_eq_emod_of_nonneg (by omega), IntKind.wrap_u64, IntKind.wrap_u8]
 omega
theorem div_w (u : Nat) (h : u < 18446744073709551616) : IntKind.wrap IntKind.u64 (Int.tdiv (u : Int) (10 : Int)) = ((u / 10 : Nat) : Int) := by
 rw [Int.tdiv_eq_ediv_of_nonneg (by omega), IntKind.wrap_u64]
 omega
def sgn (n : Int) (l : List UInt8) : List UInt8 := if n < 0 then 45 :: l else l
theorem set_drop (l : List (List V)) (k : Nat) (x : List V) (h : k < l.length) : (l.set k x).drop k = x :: l.drop (k + 1) := by
 rw [List.drop_set, if_neg (by omega), Nat.sub_self, List.drop_eq_getElem_cons h]
 rfl
theorem text_loop (n : Int) (f : Nat) : ∀ (k u : Nat) (acc : List UInt8) (l : List (List V)), u < 10 ^ f -> u < 18446744073709551616 -> 0 < f -> f + 1 <= k -> k <= 20 -> l.length = 20 -> l.drop k = bv acc ->
  num_Text.L1_1_1_1_1_0_0 n (k : Int) (u : Int) l = some ⟨.ret (.str (B (sgn n (decGo f u acc)))), [], none⟩ := by
 induction f with
 | zero => intro _ _ _ _ _ _ h; omega
 | succ f ih =>
  intro k u acc l hu hu6 hf0 hk hk2 hl hd
  obtain ⟨k, rfl⟩ : ∃ j, k = j + 1 := ⟨k - 1, by omega⟩
  have w1 : IntKind.wrap IntKind.i64 (((k + 1 : Nat) : Int) - 1) = (k : Int) := by rw [wrap_in (by omega) (by omega)]; omega
  have c1 : ((0 : Int) <= (k : Int)) ∧ (((k : Int) < ((20 : Nat) : Int)) ∧ ((k : Int) < ((l.length : Nat) : Int))) := by rw [hl]; omega
  have hset : (l.set k [V.int .u8 ((dgt u).toNat : Int)]).drop k = bv (dgt u :: acc) := by
   rw [set_drop l k _ (by omega), hd]; rfl
  have hlen : (l.set k [V.int .u8 ((dgt u).toNat : Int)]).length = 20 := by rw [List.length_set]; exact hl
  have tk : ∀ (m : List (List V)) (j : Nat) (t : List UInt8), m.length = 20 -> j <= 20 -> m.drop j = bv t -> m.drop j = bv t ∧ (m.drop j).take (20 - j) = bv t := fun m j t h1 h2 h3 =>
   ⟨h3, by rw [List.take_of_length_le (by rw [List.length_drop]; omega), h3]⟩
  rw [num_Text.L1_1_1_1_1_0_0_eq, w1, if_pos c1, dgt_w, div_w u hu6, Int.toNat_natCast]
  unfold decGo
  by_cases h0 : u / 10 = 0
  ·rw [if_pos h0, h0, show (((0 : Nat) : Int) == (0 : Int)) = true from rfl, cond_true]
   by_cases hn : n < 0
   ·obtain ⟨k, rfl⟩ : ∃ j, k = j + 1 := ⟨k - 1, by omega⟩
    have w2 : IntKind.wrap IntKind.i64 (((k + 1 : Nat) : Int) - 1) = (k : Int) := by rw [wrap_in (by omega) (by omega)]; omega
    have hset2 : ((l.set (k + 1) [V.int .u8 ((dgt u).toNat : Int)]).set k [V.int .u8 45]).drop k = bv (45 :: dgt u :: acc) := by
     rw [set_drop _ k _ (by omega), hset]; rfl
    have hlen2 : ((l.set (k + 1) [V.int .u8 ((dgt u).toNat : Int)]).set k [V.int .u8 45]).length = 20 := by rw [List.length_set]; exact hlen
    have ht := tk _ k _ hlen2 (by omega) hset2
    rw [decide_eq_true hn, cond_true, w2, if_pos (by rw [hlen]; omega), if_pos (by omega), Int.toNat_natCast, hlen2, if_pos (by omega), ht.2, bytesOk_bv, if_pos ⟨rfl, by omega⟩, toBytes_bv]
    unfold sgn
    rw [if_pos hn]
    rfl
   ·have ht := tk _ k _ hlen (by omega) hset
    rw [decide_eq_false hn, cond_false, if_pos (by omega), hlen, if_pos (by omega), ht.2, bytesOk_bv, if_pos ⟨rfl, by omega⟩, toBytes_bv]
    unfold sgn
    rw [if_neg hn]
    rfl
  ·have h1 : u / 10 < 10 ^ f := by
    rw [Nat.pow_succ] at hu
    omega
   have hf : 0 < f := by
    rcases Nat.eq_zero_or_pos f with rfl | h2
    ·simp at h1; omega
    ·exact h2
   rw [if_neg h0, beq_eq_false_iff_ne.2 (by omega), cond_false]
   exact ih k (u / 10) (dgt u :: acc) _ h1 (by omega) hf (by omega) (by omega) hlen hset
theorem num_Text_is (n : Int) (h0 : -9223372036854775808 <= n) (h1 : n <= 9223372036854775807) : den Sp num_Text.id [.int .i64 n] [] none = some ⟨.ret (.str (B (decs n))), [], none⟩ := by
 have h19 : (10 : Nat) ^ 19 = 10000000000000000000 := by decide
 have hb : n.natAbs < 10 ^ 19 := by rw [h19]; omega
 have hz : ∀ u : Nat, u = n.natAbs -> num_Text.L1_1_1_1_1_0_0 n (20 : Int) (u : Int) [[(V.int IntKind.u8 (0 : Int))], [(V.int IntKind.u8 (0 : Int))], [(V.int IntKind.u8 (0 : Int))], [(V.int IntKind.u8 (0 : Int))], [(V.int IntKind.u8 (0 : Int))], [(V.int IntKind.u8 (0 : Int))], [(V.int IntKind.u8 (0 : Int))], [(V.int IntKind.u8 (0 : Int))], [(V.int IntKind.u8 (0 : Int))], [(V.int IntKind.u8 (0 : Int))], [(V.int IntKind.u8 (0 : Int))], [(V.int IntKind.u8 (0 : Int))], [(V.int IntKind.u8 (0 : Int))], [(V.int IntKind.u8 (0 : Int))], [(V.int IntKind.u8 (0 : Int))], [(V.int IntKind.u8 (0 : Int))], [(V.int IntKind.u8 (0 : Int))], [(V.int IntKind.u8 (0 : Int))], [(V.int IntKind.u8 (0 : Int))], [(V.int IntKind.u8 (0 : Int))]] =
   some ⟨.ret (.str (B (decs n))), [], none⟩ := by
  rintro u rfl
  have := text_loop n 19 20 n.natAbs [] _ hb (by omega) (by omega) (by omega) (by omega) (show List.length [[(V.int IntKind.u8 (0 : Int))], [(V.int IntKind.u8 (0 : Int))], [(V.int IntKind.u8 (0 : Int))], [(V.int IntKind.u8 (0 : Int))], [(V.int IntKind.u8 (0 : Int))], [(V.int IntKind.u8 (0 : Int))], [(V.int IntKind.u8 (0 : Int))], [(V.int IntKind.u8 (0 : Int))], [(V.int IntKind.u8 (0 : Int))], [(V.int IntKind.u8 (0 : Int))], [(V.int IntKind.u8 (0 : Int))], [(V.int IntKind.u8 (0 : Int))], [(V.int IntKind.u8 (0 : Int))], [(V.int IntKind.u8 (0 : Int))], [(V.int IntKind.u8 (0 : Int))], [(V.int IntKind.u8 (0 : Int))], [(V.int IntKind.u8 (0 : Int))], [(V.int IntKind.u8 (0 : Int))], [(V.int IntKind.u8 (0 : Int))], [(V.int IntKind.u8 (0 : Int))]] = 20 from rfl) rfl
  refine Eq.trans this ?_
  rw [<- dec_of 19 n.natAbs hb (by omega) (by omega)]
  rfl
 rw [num_Text.eq]
 by_cases hn : n < 0
 ·have e1 : IntKind.wrap IntKind.u64 ((0 : Int) - (IntKind.wrap IntKind.u64 n)) = ((n.natAbs : Nat) : Int) := by rw [IntKind.wrap_u64, IntKind.wrap_u64]; omega
  rw [decide_eq_true hn, cond_true, e1, hz _ rfl]
 ·have e1 : IntKind.wrap IntKind.u64 n = ((n.natAbs : Nat) : Int) := by rw [IntKind.wrap_u64]; omega
  rw [decide_eq_false hn, cond_false, e1, hz _ rfl]
end Go.Proofs.YtmhnmelaodhemaaDoor
namespace Go.Proofs.YtmhnmelaodhemaaDoor
open Go Go.Proofs.Ab
end Go.Proofs.YtmhnmelaodhemaaDoor
namespace Go.Proofs.YtmhnmelaodhemaaDoor
open Go Go.Proofs.Ab Go.Proofs.Px
def Wr (f : FuncId) : Prop := ∀ t : Tk, TkOk t -> ∃ x : List UInt8, den Sp f [.agg t.v] [] none = some ⟨.ret (.tup [.str (B x), .bool (wrOk t)]), [], none⟩ ∧ (wrOk t = true -> x = wrT t)
theorem beq_dec (a b : Int) : (a == b) = decide (a = b) := by
 by_cases h : a = b
 ·subst h; simp
 ·rw [beq_eq_false_iff_ne.2 h, decide_eq_false h]
theorem wr_ret {f : FuncId} {t : Tk} {x : List UInt8} {b : Bool} (h : den Sp f [.agg t.v] [] none = some ⟨.ret (.tup [.str (B x), .bool b]), [], none⟩) (hb : b = wrOk t) (hx : wrOk t = true -> x = wrT t) :
  ∃ x : List UInt8, den Sp f [.agg t.v] [] none = some ⟨.ret (.tup [.str (B x), .bool (wrOk t)]), [], none⟩ ∧ (wrOk t = true -> x = wrT t) := ⟨x, hb ▸ h, hx⟩
theorem lex_written_is : Wr lex_written.id := by
 intro t ht
 have hb := i64_bounds ht.num
 have htl := ht.text
 obtain ⟨kind, text, num, at_⟩ := t
 dsimp only at *
 have e : den Sp lex_written.id [.agg (Tk.v ⟨kind, text, num, at_⟩)] [] none = _ := lex_written.eq kind (B text) num at_
 by_cases h1 : kind = 1
 ·subst h1
  by_cases hn : num = 0
  ·subst hn
   rw [show ((1 : Int) == 1) = true from rfl, cond_true, show ((0 : Int) == 0) = true from rfl, cond_true, lex_IsName_is _ (by rw [B_size]; omega)] at e
   exact wr_ret (x := text) e (by simp [wrOk]) fun _ => by simp [wrT]
  ·rw [show ((1 : Int) == 1) = true from rfl, cond_true, beq_eq_false_iff_ne.2 hn, cond_false] at e
   exact wr_ret (x := text) e (by simp [wrOk, hn]) fun _ => by simp [wrT]
 ·rw [beq_eq_false_iff_ne.2 h1, cond_false] at e
  by_cases h3 : kind = 3
  ·subst h3
   by_cases hn : num = 0
   ·subst hn
    rw [show ((3 : Int) == 3) = true from rfl, cond_true, show ((0 : Int) == 0) = true from rfl, cond_true, lex_isKey_is, isKey_B'] at e
    exact wr_ret (x := text) e (by simp [wrOk]) fun _ => by simp [wrT]
   ·rw [show ((3 : Int) == 3) = true from rfl, cond_true, beq_eq_false_iff_ne.2 hn, cond_false] at e
    exact wr_ret (x := text) e (by simp [wrOk, hn]) fun _ => by simp [wrT]
  ·rw [beq_eq_false_iff_ne.2 h3, cond_false] at e
   by_cases h4 : kind = 4
   ·subst h4
    have hs := sign_self text
    by_cases hn : num = 0
    ·subst hn
     rw [show ((4 : Int) == 4) = true from rfl, cond_true, show ((0 : Int) == 0) = true from rfl, cond_true, lex_sign_is _ (by omega), B_nil, B_dec] at e
     cases he : decide (text = []) with
     | true =>
      rw [he, Bool.not_true, cond_false] at e
      rw [he] at hs
      exact wr_ret (x := text) e (by rw [wrOk, if_neg (by simp), if_neg (by simp), if_pos rfl]; simpa using hs) fun _ => by simp [wrT]
     | false =>
      rw [he, Bool.not_false, cond_true] at e
      rw [he, Bool.not_false, Bool.true_and] at hs
      simp only [Option.bind_some, onRet_ret, asStr_str, B_dec] at e
      exact wr_ret (x := text) e (by rw [wrOk, if_neg (by simp), if_neg (by simp), if_pos rfl]; simpa using hs) fun _ => by simp [wrT]
    ·rw [show ((4 : Int) == 4) = true from rfl, cond_true, beq_eq_false_iff_ne.2 hn, cond_false] at e
     exact wr_ret (x := text) e (by simp [wrOk, hn]) fun _ => by simp [wrT]
   ·rw [beq_eq_false_iff_ne.2 h4, cond_false] at e
    by_cases h2 : kind = 2
    ·subst h2
     rw [show ((2 : Int) == 2) = true from rfl, cond_true, num_Text_is num hb.1 hb.2, B_nil, B_dec] at e
     simp only [Option.bind_some, onRet_ret, asStr_str] at e
     cases he : decide (text = []) with
     | true =>
      rw [he, cond_true] at e
      exact wr_ret (x := decs num) e (by simp [wrOk, he]) fun _ => by simp [wrT]
     | false =>
      rw [he, cond_false] at e
      exact wr_ret (x := decs num) e (by simp [wrOk, he]) fun _ => by simp [wrT]
    ·rw [beq_eq_false_iff_ne.2 h2, cond_false] at e
     exact wr_ret (x := []) e (by simp [wrOk, h1, h2, h3, h4]) fun h => by simp [wrOk, h1, h2, h3, h4] at h
theorem tkAt (l : List Tk) (i : Nat) (h : i < l.length) : (l.map Tk.v).getD i [] = (l[i]'h).v := by
 rw [List.getD_eq_getElem?_getD, List.getElem?_map, List.getElem?_eq_getElem h]; rfl
theorem rightL_drop {l : List Tk} {i : Nat} (h : i + 1 < l.length) : rightL (l.drop i) = (wrOk (l[i]'(by omega)) && rightL (l.drop (i + 1))) := by
 rw [List.drop_eq_getElem_cons (show i < l.length by omega)]
 cases hd : l.drop (i + 1) with
 | nil =>
  have := congrArg List.length hd
  rw [List.length_drop, List.length_nil] at this; omega
 | cons u r => rfl
theorem rightL_last {l : List Tk} {i : Nat} (h : i + 1 = l.length) : rightL (l.drop i) = endT (l[i]'(by omega)) := by
 rw [List.drop_eq_getElem_cons (show i < l.length by omega), List.drop_eq_nil_of_le (by omega)]
 rfl
theorem end_ret (t : Tk) : (bif (t.kind == (0 : Int)) then (bif (decide (B t.text = B [])) then (some (Res.mk (Out.ret (V.bool (t.num == (0 : Int)))) [] none)) else (some (Res.mk (Out.ret (V.bool Bool.false)) [] none))) else (some (Res.mk (Out.ret (V.bool Bool.false)) [] none))) = some ⟨.ret (.bool (endT t)), [], none⟩ := by
 unfold endT
 rw [beq_dec, beq_dec, B_dec]
 cases decide (t.kind = 0) <;> cases decide (t.text = []) <;> rfl
theorem lex_Right_is (l : List Tk) (hl : l.length < 4611686018427387904) (hk : ∀ t ∈ l, TkOk t) : den Sp lex_Right.id [.sl .no T_api_Token (l.map Tk.v)] [] none = some ⟨.ret (.bool (rightL l)), [], none⟩ := by
 rw [lex_Right.eq, List.length_map]
 have key : ∀ i : Nat, i <= l.length -> lex_Right.L1_0_1_0 (l.map Tk.v) (l.map Tk.v) (l.length : Int) (i : Int) = some ⟨.ret (.bool (rightL (l.drop i))), [], none⟩ := by
  refine down ?_ fun i hi ih => ?_
  ·rw [lex_Right.L1_0_1_0_eq, decide_eq_false (Int.lt_irrefl _), cond_false, List.drop_length]; rfl
  ·have e1 : ((i : Int) < ((l.length : Nat) : Int)) := by omega
   have e2 : (0 : Int) <= (i : Int) ∧ ((i : Int) < ((l.length : Nat) : Int)) := ⟨by omega, e1⟩
   have e3 : IntKind.wrap IntKind.i64 (((l.length : Nat) : Int) - 1) = ((l.length - 1 : Nat) : Int) := by rw [wrap_in (by omega) (by omega)]; omega
   rw [lex_Right.L1_0_1_0_eq, List.length_map, decide_eq_true e1, cond_true, if_pos e2, Int.toNat_natCast, tkAt l i hi, tk_0, tk_1, tk_2, tk_3, wrap_nat (by omega), ih, e3]
   by_cases h : i + 1 = l.length
   ·rw [beq_iff_eq.2 (show ((i : Nat) : Int) = ((l.length - 1 : Nat) : Int) by omega), cond_true, rightL_last h, B_nil]
    exact end_ret _
   ·rw [beq_eq_false_iff_ne.2 (show ((i : Nat) : Int) ≠ ((l.length - 1 : Nat) : Int) by omega), cond_false, rightL_drop (l := l) (i := i) (by omega)]
    obtain ⟨x, hx, _⟩ := lex_written_is (l[i]'hi) (hk _ (List.getElem_mem hi))
    have hx' : den Sp lex_written.id [(V.agg [(V.int IntKind.i64 (l[i]'hi).kind), (V.str (B (l[i]'hi).text)), (V.int IntKind.i64 (l[i]'hi).num), (V.int IntKind.i64 (l[i]'hi).at_)])] [] none = _ := hx
    rw [hx']
    simp only [Option.bind_some, onRet_ret, tup2]
    show (bif !(wrOk (l[i]'hi)) then _ else _) = _
    cases wrOk (l[i]'hi) <;> rfl
 have := key 0 (Nat.zero_le _)
 rw [List.drop_zero] at this
 exact this
def SimT (a b : Tk) : Prop := a.kind = b.kind ∧ a.text = b.text ∧ a.num = b.num
def Sim (xs ys : List Tk) : Prop := xs.length = ys.length ∧ ∀ (i : Nat) a b, xs[i]? = some a -> ys[i]? = some b -> SimT a b
theorem Sim.nil : Sim [] [] := ⟨rfl, fun i a b h => by simp at h⟩
theorem Sim.snoc {xs ys : List Tk} {a b : Tk} (h : Sim xs ys) (hab : SimT a b) : Sim (xs ++ [a]) (ys ++ [b]) := by
 refine ⟨by simp [h.1], fun i p q hx hy => ?_⟩
 rcases Nat.lt_or_ge i xs.length with hi | hi
 ·rw [List.getElem?_append_left hi] at hx
  rw [List.getElem?_append_left (by rw [<- h.1]; exact hi)] at hy
  exact h.2 i p q hx hy
 ·rw [List.getElem?_append_right hi] at hx
  rw [List.getElem?_append_right (by rw [<- h.1]; exact hi), <- h.1] at hy
  have h0 : i - xs.length = 0 := by
   rcases Nat.eq_zero_or_pos (i - xs.length) with h0 | h0
   ·exact h0
   ·rw [List.getElem?_eq_none (by simp; omega)] at hx; cases hx
  rw [h0] at hx hy
  simp at hx hy
  subst hx; subst hy; exact hab
structure Blankish (x : List UInt8) : Prop where
 f : ∀ y, sk false (x ++ y) = sk false y
 t : sk true x = []
 hd : ∃ e x', x = e :: x' ∧ inn e = false ∧ lt e = false ∧ ∀ y ∈ signs, e ∉ y
def Tail (r : List UInt8) : Prop := r = [] ∨ ∃ q, r = 32 :: q
theorem word_tail {r : List UInt8} (h : Tail r) : word r = [] := by
 rcases h with rfl | ⟨q, rfl⟩
 ·rfl
 ·unfold word
  rw [List.takeWhile_cons]; rfl
theorem word_app : ∀ {w : List UInt8} (r : List UInt8), (∀ c ∈ w, inn c = true) -> word (w ++ r) = w ++ word r
 | [], r, _ => rfl
 | c :: w, r, h => by
  have := word_app (w := w) r fun d hd => h d (List.mem_cons_of_mem _ hd)
  unfold word at *
  rw [List.cons_append, List.takeWhile_cons, h c List.mem_cons_self, if_pos rfl, this]; rfl
theorem word_inn : ∀ {w : List UInt8} (h : word w = w), ∀ c ∈ w, inn c = true
 | [], _, c, hc => by cases hc
 | d :: w, h, c, hc => by
  unfold word at h
  rw [List.takeWhile_cons] at h
  cases hd : inn d with
  | false => rw [hd] at h; simp at h
  | true =>
   rw [hd] at h
   simp only [if_true, List.cons.injEq, true_and] at h
   rcases List.mem_cons.1 hc with rfl | hc
   ·exact hd
   ·exact word_inn (w := w) h c hc
theorem word_rest {w r : List UInt8} (h : word w = w) (hr : Tail r) : word (w ++ r) = w := by
 rw [word_app r (word_inn h), word_tail hr, List.append_nil]
theorem getD_app {w : List UInt8} (r : List UInt8) (h : w ≠ []) : ∃ c q, w ++ r = c :: q ∧ c = w.getD 0 0 := by
 cases w with
 | nil => exact absurd rfl h
 | cons c w => exact ⟨c, w ++ r, rfl, rfl⟩
theorem signIn_two (l : List UInt8) : ∀ s : List (List UInt8), (∀ x ∈ s, x.length <= 2) -> signIn l s = signIn (l.take 2) s
 | [], _ => rfl
 | x :: s, h => by
  have h1 := signIn_two l s fun y hy => h y (List.mem_cons_of_mem _ hy)
  have h2 := h x List.mem_cons_self
  unfold signIn
  rw [List.take_take, Nat.min_eq_left h2, h1]
theorem sign_two (l : List UInt8) : sign l = sign (l.take 2) := signIn_two l signs (by decide)
theorem sign_rest {w r : List UInt8} (h : isSign w = true) (hr : Tail r) : sign (w ++ r) = w ∧ w ≠ [] ∧ lt (w.getD 0 0) = false ∧ dg (w.getD 0 0) = false := by
 have h1 : signs.all (fun x => decide (sign (x.take 2) = x) && decide (sign ((x ++ [32]).take 2) = x) && decide (x ≠ []) && !lt (x.getD 0 0) && !dg (x.getD 0 0)) = true := by decide
 unfold isSign at h
 have := List.all_eq_true.1 h1 w (List.contains_iff_mem.1 h)
 simp only [Bool.and_eq_true, decide_eq_true_eq, Bool.not_eq_true'] at this
 obtain ⟨⟨⟨⟨h2, h3⟩, h4⟩, h5⟩, h6⟩ := this
 refine ⟨?_, h4, h5, h6⟩
 rcases hr with rfl | ⟨q, rfl⟩
 ·rw [List.append_nil, sign_two, h2]
 ·rw [sign_two]
  have : (w ++ 32 :: q).take 2 = (w ++ [32]).take 2 := by
   rw [show w ++ 32 :: q = (w ++ [32]) ++ q by simp, List.take_append_of_le_length]
   rw [List.length_append, List.length_singleton]
   have := List.length_pos_iff.2 h4
   omega
  rw [this, h3]
theorem worth_mono : ∀ (l : List UInt8) (u : Nat), u <= worth u l
 | [], u => by rw [worth_nil]; exact Nat.le_refl _
 | c :: l, u => by
  have := worth_mono l (u * 10 + (c.toNat - 48))
  rw [worth_cons]; omega
theorem parseGo_worth : ∀ (l : List UInt8) (u : Nat), (∀ c ∈ l, 48 <= c.toNat ∧ c.toNat <= 57) -> worth u l < 9223372036854775808 -> parseGo u l = (((worth u l : Nat) : Int), 0)
 | [], u, _, h => by
  rw [worth_nil] at *
  unfold parseGo
  rw [if_neg (by omega)]
 | c :: l, u, hd, h => by
  have h1 := hd c List.mem_cons_self
  rw [worth_cons] at *
  have h2 := worth_mono l (u * 10 + (c.toNat - 48))
  have h3 : dg c = true := by
   unfold dg digit
   rw [decide_eq_true (by omega), decide_eq_true (by omega)]; rfl
  unfold parseGo
  rw [if_pos ⟨h3, by omega⟩]
  exact parseGo_worth l _ (fun d hd' => hd d (List.mem_cons_of_mem _ hd')) h
theorem parse_dec (n : Nat) (h : n < 9223372036854775808) : parse (dec n) = ((n : Int), 0) := by
 have hp : n < 10 ^ 20 := Nat.lt_trans h (by decide)
 have hw := dec_worth n hp
 have hg := parseGo_worth (dec n) 0 (dec_digits n) (by rw [hw]; exact h)
 unfold parse
 rw [if_pos, hg, hw]
 rcases Nat.eq_zero_or_pos n with rfl | hn
 ·exact .inr rfl
 ·exact .inl (decGo_head 20 n [] hp (by omega) hn)
theorem dec_inn (n : Nat) : word (dec n) = dec n := word_all fun c hc => by
 have := dec_digits n c hc
 unfold inn inner digit
 rw [decide_eq_true (by omega), decide_eq_true (by omega)]; simp
theorem dec_head (n : Nat) : dec n ≠ [] ∧ dg ((dec n).getD 0 0) = true ∧ lt ((dec n).getD 0 0) = false := by
 have h0 : dec n ≠ [] := decGo_ne 20 n [] (by omega)
 obtain ⟨c, q, hc⟩ : ∃ c q, dec n = c :: q := by
  cases h : dec n with
  | nil => exact absurd h h0
  | cons c q => exact ⟨c, q, rfl⟩
 have hd := dec_digits n c (by rw [hc]; exact List.mem_cons_self)
 rw [hc]
 refine ⟨by simp, ?_, ?_⟩
 ·show dg c = true
  unfold dg digit
  rw [decide_eq_true (by omega), decide_eq_true (by omega)]; rfl
 ·show lt c = false
  unfold lt letter
  rw [decide_eq_false (p := 65 <= (c.toNat : Int)) (by omega), decide_eq_false (p := 97 <= (c.toNat : Int)) (by omega)]; rfl
theorem next_back {t : Tk} (hw : wrOk t = true) (hok : TkOk t) {r : List UInt8} (hr : Tail r) (a : Int) :
  next (wrT t ++ r) a = (⟨t.kind, t.text, t.num, a⟩, (wrT t).length, true) ∧ wrT t ≠ [] := by
 have hb := i64_bounds hok.num
 obtain ⟨kind, text, num, at_⟩ := t
 have go : ∀ (w : List UInt8) (c : UInt8) (q : List UInt8), w ++ r = c :: q -> next (w ++ r) a = if lt c then (⟨if isKeyL (word (w ++ r)) then 3 else 1, word (w ++ r), 0, a⟩, (word (w ++ r)).length, decide ((word (w ++ r)).length <= 40))
   else if dg c then (⟨2, [], (parse (word (w ++ r))).1, a⟩, (word (w ++ r)).length, decide ((parse (word (w ++ r))).2 = 0)) else (⟨4, sign (w ++ r), 0, a⟩, (sign (w ++ r)).length, !decide (sign (w ++ r) = [])) := fun w c q h => by
  rw [h]; rfl
 dsimp only at *
 unfold wrOk at hw
 unfold wrT
 dsimp only at *
 by_cases h1 : kind = 1
 ·subst h1
  simp only [if_true, Bool.and_eq_true, decide_eq_true_eq] at hw
  obtain ⟨rfl, hn⟩ := hw
  obtain ⟨f1, f2, f3, f4, f5⟩ := name_facts hn
  obtain ⟨c, q, hc, hcc⟩ := getD_app r f1
  rw [if_neg (by decide), go text c q hc, hcc, f3, word_rest f5 hr, f4]
  simp [f2, f1]
 ·by_cases h3 : kind = 3
  ·subst h3
   simp only [if_true, Bool.and_eq_true, decide_eq_true_eq] at hw
   rw [if_neg h1] at hw
   simp only [Bool.and_eq_true, decide_eq_true_eq] at hw
   obtain ⟨rfl, hn⟩ := hw
   obtain ⟨f1, f2, f3, f5⟩ := key_facts hn
   obtain ⟨c, q, hc, hcc⟩ := getD_app r f1
   rw [if_neg (by decide), go text c q hc, hcc, f3, word_rest f5 hr, hn]
   simp [f2, f1]
  ·rw [if_neg h1, if_neg h3] at hw
   by_cases h4 : kind = 4
   ·subst h4
    simp only [if_true, Bool.and_eq_true, decide_eq_true_eq] at hw
    obtain ⟨rfl, hn⟩ := hw
    obtain ⟨f1, f2, f3, f4⟩ := sign_rest hn hr
    obtain ⟨c, q, hc, hcc⟩ := getD_app r f2
    rw [if_neg (by decide), go text c q hc, hcc, f3, f4, f1]
    simp [f2]
   ·rw [if_neg h4] at hw
    by_cases h2 : kind = 2
    ·subst h2
     simp only [if_true, Bool.and_eq_true, decide_eq_true_eq] at hw
     obtain ⟨rfl, hn⟩ := hw
     have hdec : decs num = dec num.natAbs := by unfold decs; rw [if_neg (by omega)]
     obtain ⟨f1, f2, f3⟩ := dec_head num.natAbs
     obtain ⟨c, q, hc, hcc⟩ := getD_app r f1
     have hp := parse_dec num.natAbs (by omega)
     rw [if_pos rfl, hdec, go (dec num.natAbs) c q hc, hcc, f3, f2, word_rest (dec_inn _) hr, hp]
     have h5 : ((num.natAbs : Nat) : Int) = num := by omega
     simp [f1, h5]
    ·rw [if_neg h2] at hw
     cases hw
theorem signIn_head (b : UInt8) (q : List UInt8) : ∀ s : List (List UInt8), (∀ x ∈ s, x ≠ [] ∧ x.getD 0 0 ≠ b) -> signIn (b :: q) s = []
 | [], _ => rfl
 | x :: s, h => by
  unfold signIn
  rw [if_neg, signIn_head b q s fun y hy => h y (List.mem_cons_of_mem _ hy)]
  intro h1
  obtain ⟨h2, h3⟩ := h x List.mem_cons_self
  cases x with
  | nil => exact h2 rfl
  | cons c x =>
   rw [List.length_cons, List.take_succ_cons] at h1
   exact h3 (List.cons.inj h1).1.symm
theorem sk_back {t : Tk} (hw : wrOk t = true) (hok : TkOk t) (r : List UInt8) : sk false (wrT t ++ r) = wrT t ++ r := by
 have hne := (next_back hw hok (.inl rfl) 0).2
 have hn := (next_back hw hok (.inl rfl) 0).1
 rw [List.append_nil] at hn
 cases hc : wrT t with
 | nil => exact absurd hc hne
 | cons c q =>
  rw [hc] at hn
  have h2 : ∀ b : UInt8, b = 10 ∨ b = 32 ∨ b = 35 -> (next (b :: q) 0).2.2 = !decide (sign (b :: q) = []) ∧ sign (b :: q) = [] := by
   rintro b (rfl | rfl | rfl)
   all_goals
    refine ⟨rfl, ?_⟩
    exact signIn_head _ q signs (by decide)
  have key : ∀ b : UInt8, b = 10 ∨ b = 32 ∨ b = 35 -> c ≠ b := fun b hb e => by
   subst e
   have h1 := congrArg (fun x => x.2.2) hn
   dsimp only at h1
   have h3 := h2 c hb
   rw [h3.1, h3.2] at h1
   simp at h1
  have hcc : c ≠ 10 ∧ c ≠ 32 ∧ c ≠ 35 := ⟨key 10 (.inl rfl), key 32 (.inr (.inl rfl)), key 35 (.inr (.inr rfl))⟩
  rw [List.cons_append]
  unfold sk
  rw [if_neg hcc.1, if_neg (fun h => Bool.noConfusion h), if_neg hcc.2.1, if_neg hcc.2.2]
theorem worth_low : ∀ (l : List UInt8) (u : Nat), u * 10 ^ l.length <= worth u l
 | [], u => by rw [worth_nil]; simp
 | c :: l, u => by
  have h := worth_low l (u * 10 + (c.toNat - 48))
  rw [worth_cons]
  refine Nat.le_trans ?_ h
  rw [List.length_cons, Nat.pow_succ, <- Nat.mul_assoc, Nat.mul_right_comm]
  exact Nat.mul_le_mul_right _ (Nat.le_add_right _ _)
theorem worth_snoc (u : Nat) (l : List UInt8) (c : UInt8) : worth u (l ++ [c]) = worth u l * 10 + (c.toNat - 48) := by
 unfold worth
 rw [List.foldl_append, List.foldl_cons, List.foldl_nil]
theorem dgt_of (c : UInt8) (h : 48 <= c.toNat ∧ c.toNat <= 57) (k : Nat) : dgt (k * 10 + (c.toNat - 48)) = c := by
 apply UInt8.toNat_inj.1
 rw [dgt_nat]; omega
theorem decGo_back (f : Nat) : ∀ (w acc : List UInt8), w ≠ [] -> w.length <= f -> (∀ c ∈ w, 48 <= c.toNat ∧ c.toNat <= 57) -> (w.getD 0 0 ≠ 48 ∨ w.length = 1) -> decGo f (worth 0 w) acc = w ++ acc := by
 induction f with
 | zero =>
  intro w acc hw hl
  exact absurd (List.length_eq_zero_iff.1 (Nat.le_zero.1 hl)) hw
 | succ f ih =>
  intro w acc hw hl hd h0
  obtain ⟨v, c, rfl⟩ : ∃ v c, w = v ++ [c] := ⟨w.dropLast, w.getLast hw, (List.dropLast_concat_getLast hw).symm⟩
  have hc := hd c (by simp)
  have hv : ∀ d ∈ v, 48 <= d.toNat ∧ d.toNat <= 57 := fun d hd' => hd d (by simp [hd'])
  rw [worth_snoc]
  unfold decGo
  rw [dgt_of c hc]
  have hdiv : (worth 0 v * 10 + (c.toNat - 48)) / 10 = worth 0 v := by omega
  rw [hdiv]
  by_cases hv0 : v = []
  ·subst hv0
   rw [worth_nil, if_pos rfl]; rfl
  ·obtain ⟨b, q, hq⟩ : ∃ b q, v = b :: q := by
    cases v with
    | nil => exact absurd rfl hv0
    | cons b q => exact ⟨b, q, rfl⟩
   have hb : b.toNat ≠ 48 := by
    rcases h0 with h0 | h0
    ·rw [hq] at h0
     intro h
     exact h0 (UInt8.toNat_inj.1 h)
    ·rw [hq] at h0; simp at h0
   have hbd := hv b (by rw [hq]; simp)
   have hpos : worth 0 v ≠ 0 := by
    rw [hq, worth_cons]
    have h1 := worth_mono q (0 * 10 + (b.toNat - 48))
    omega
   rw [if_neg hpos, ih v (c :: acc) hv0 (by simp at hl; omega) hv (.inl ?_)]
   ·simp
   ·rw [hq]
    intro h
    exact hb (congrArg UInt8.toNat h)
theorem parseGo_ok : ∀ (l : List UInt8) (u : Nat), (parseGo u l).2 = 0 -> (∀ c ∈ l, 48 <= c.toNat ∧ c.toNat <= 57) ∧ worth u l < 9223372036854775808 + (if l = [] then u else 0) ∧ ((parseGo u l).1 = ((worth u l : Nat) : Int))
 | [], u, h => by
  unfold parseGo at h ⊢
  by_cases h1 : u = 9223372036854775808
  ·rw [if_pos h1] at h; cases h
  ·rw [if_neg h1, worth_nil]
   refine ⟨(fun c hc => by cases hc), ?_, rfl⟩
   rw [if_pos rfl]; omega
 | c :: l, u, h => by
  unfold parseGo at h ⊢
  by_cases h1 : dg c = true ∧ u * 10 + (c.toNat - 48) <= 9223372036854775808
  ·rw [if_pos h1] at h ⊢
   have h2 := parseGo_ok l _ h
   have h3 := h1.1
   unfold dg digit at h3
   simp only [Bool.and_eq_true, decide_eq_true_eq] at h3
   rw [worth_cons, if_neg (by simp)]
   refine ⟨fun d hd => ?_, ?_, h2.2.2⟩
   ·rcases List.mem_cons.1 hd with rfl | hd
    ·omega
    ·exact h2.1 d hd
   ·by_cases hl : l = []
    ·subst hl
     rw [worth_nil]
     unfold parseGo at h
     by_cases h4 : u * 10 + (c.toNat - 48) = 9223372036854775808
     ·rw [if_pos h4] at h; cases h
     ·omega
    ·have := h2.2.1
     rw [if_neg hl] at this
     exact this
  ·rw [if_neg h1] at h; cases h
theorem parse_ok {w : List UInt8} (hw : w ≠ []) (h : (parse w).2 = 0) : ∃ n : Nat, (parse w).1 = (n : Int) ∧ n < 9223372036854775808 ∧ dec n = w := by
 unfold parse at h ⊢
 by_cases h0 : w.getD 0 0 ≠ 48 ∨ w.length = 1
 ·rw [if_pos h0] at h ⊢
  obtain ⟨h1, h2, h3⟩ := parseGo_ok w 0 h
  rw [if_neg hw, Nat.add_zero] at h2
  refine ⟨_, h3, h2, ?_⟩
  have hlen : w.length <= 20 := by
   rcases h0 with h0 | h0
   ·cases w with
    | nil => exact absurd rfl hw
    | cons c w =>
     have hc := h1 c List.mem_cons_self
     have hc2 : c.toNat ≠ 48 := fun h => h0 (UInt8.toNat_inj.1 h)
     have h4 := worth_low w (0 * 10 + (c.toNat - 48))
     rw [worth_cons] at h2
     have h5 : 10 ^ w.length <= (0 * 10 + (c.toNat - 48)) * 10 ^ w.length := Nat.le_mul_of_pos_left _ (by omega)
     have h6 : 10 ^ w.length < 10 ^ 19 := Nat.lt_of_le_of_lt (Nat.le_trans h5 h4) (Nat.lt_trans h2 (by decide))
     have h7 : w.length < 19 := (Nat.pow_lt_pow_iff_right (by decide)).1 h6
     rw [List.length_cons]; omega
   ·omega
  have := decGo_back 20 w [] hw hlen h1 h0
  rw [List.append_nil] at this
  exact this
 ·rw [if_neg h0] at h; cases h
theorem name_of {w : List UInt8} (h1 : w ≠ []) (h2 : w.length <= 40) (h3 : lt (w.getD 0 0) = true) (h4 : isKeyL w = false) (h5 : word w = w) : isName (B w) = true := by
 unfold isName
 simp only [Bool.and_eq_true, decide_eq_true_eq, Bool.not_eq_true', B_size, B_byte]
 refine ⟨⟨⟨⟨List.length_pos_iff.2 h1, h2⟩, h3⟩, (isKey_B w).trans h4⟩, allF_iff.2 fun i _ hi => ?_⟩
 have := word_inn h5 (w[i]'hi) (List.getElem_mem hi)
 rw [List.getD_eq_getElem?_getD, List.getElem?_eq_getElem hi]
 exact this
theorem signIn_prefix (r : List UInt8) : ∀ s, r.take (signIn r s).length = signIn r s
 | [] => rfl
 | x :: s => by
  unfold signIn
  split
  ·assumption
  ·exact signIn_prefix r s
theorem word_word : ∀ r : List UInt8, word (word r) = word r
 | [] => rfl
 | c :: r => by
  have ih := word_word r
  unfold word at *
  rw [List.takeWhile_cons]
  cases hc : inn c with
  | false => simp
  | true => simp only [if_true]; rw [List.takeWhile_cons, hc, if_pos rfl, ih]
theorem word_take_self (r : List UInt8) : r.take (word r).length = word r := by
 unfold word
 exact (List.prefix_iff_eq_take.1 (List.takeWhile_prefix inn)).symm
theorem i64_wf {n : Int} (h0 : -9223372036854775808 <= n) (h1 : n <= 9223372036854775807) : (Lit.int .i64 n).wf = true := by
 simp [Lit.wf, IntKind.min, IntKind.max, IntKind.signed, IntKind.bits, h0, h1]
theorem next_placed (c : UInt8) (q : List UInt8) (a : Nat) (ha : a < 4611686018427387904) (hq : (c :: q).length <= 140737488351232) (hok : (next (c :: q) (a : Int)).2.2 = true) :
  wrOk (next (c :: q) (a : Int)).1 = true ∧ TkOk (next (c :: q) (a : Int)).1 ∧ (next (c :: q) (a : Int)).1.at_ = (a : Int) ∧ wrT (next (c :: q) (a : Int)).1 = (c :: q).take (next (c :: q) (a : Int)).2.1 ∧
   (wrT (next (c :: q) (a : Int)).1).length = (next (c :: q) (a : Int)).2.1 := by
 have hx : next (c :: q) (a : Int) = if lt c then (⟨if isKeyL (word (c :: q)) then 3 else 1, word (c :: q), 0, a⟩, (word (c :: q)).length, decide ((word (c :: q)).length <= 40))
   else if dg c then (⟨2, [], (parse (word (c :: q))).1, a⟩, (word (c :: q)).length, decide ((parse (word (c :: q))).2 = 0))
   else (⟨4, sign (c :: q), 0, a⟩, (sign (c :: q)).length, !decide (sign (c :: q) = [])) := rfl
 have hat : (Lit.int .i64 (a : Int)).wf = true := i64_wf (by omega) (by omega)
 have hwl := word_le (c :: q)
 have hww : inn c = true -> word (c :: q) = c :: word q := fun h => by unfold word; rw [List.takeWhile_cons, h]; rfl
 rw [hx] at hok ⊢
 cases hl : lt c with
 | true =>
  rw [hl] at hok
  simp only [if_true, decide_eq_true_eq] at hok ⊢
  have hin : inn c = true := by
   unfold inn inner
   have : letter (c.toNat : Int) = true := hl
   rw [this]; rfl
  have hne : word (c :: q) ≠ [] := by rw [hww hin]; simp
  have hhd : lt ((word (c :: q)).getD 0 0) = true := by rw [hww hin]; exact hl
  cases hk : isKeyL (word (c :: q)) with
  | true =>
   refine ⟨by simp [wrOk, hk], ⟨?_, i64_wf (by simp) (by simp), i64_wf (by simp) (by simp), hat⟩, by simp, ?_, ?_⟩
   ·show (word (c :: q)).length <= _
    omega
   ·unfold wrT
    dsimp only
    rw [if_neg (by decide), word_take_self]
   ·unfold wrT
    dsimp only
    rw [if_neg (by decide)]
  | false =>
   have hn := name_of hne hok hhd hk (word_word _)
   refine ⟨by simp [wrOk, hn], ⟨?_, i64_wf (by simp) (by simp), i64_wf (by simp) (by simp), hat⟩, by simp, ?_, ?_⟩
   ·show (word (c :: q)).length <= _
    omega
   ·unfold wrT
    dsimp only
    rw [if_neg (by decide), word_take_self]
   ·unfold wrT
    dsimp only
    rw [if_neg (by decide)]
 | false =>
  rw [hl] at hok
  simp only [Bool.false_eq_true, if_false] at hok ⊢
  cases hd : dg c with
  | true =>
   rw [hd] at hok
   simp only [if_true, decide_eq_true_eq] at hok ⊢
   have hne : word (c :: q) ≠ [] := by rw [hww (dg_inn hd)]; simp
   obtain ⟨n, h1, h2, h3⟩ := parse_ok hne hok
   have hdec : decs (parse (word (c :: q))).1 = word (c :: q) := by
    rw [h1]
    unfold decs
    rw [if_neg (by omega), Int.natAbs_natCast, h3]
   refine ⟨?_, ⟨Nat.zero_le _, i64_wf (by simp) (by simp), ?_, hat⟩, by simp, ?_, ?_⟩
   ·have : (0 : Int) <= (parse (word (c :: q))).1 := by omega
    simp [wrOk, this]
   ·show (Lit.int .i64 (parse (word (c :: q))).1).wf = true
    rw [h1]
    exact i64_wf (by omega) (by omega)
   ·unfold wrT
    dsimp only
    rw [if_pos rfl, hdec, word_take_self]
   ·unfold wrT
    dsimp only
    rw [if_pos rfl, hdec]
  | false =>
   rw [hd] at hok
   simp only [Bool.false_eq_true, if_false, Bool.not_eq_true', decide_eq_false_iff_not] at hok ⊢
   have hs : isSign (sign (c :: q)) = true := by
    rcases signIn_or (c :: q) signs with h | h
    ·exact absurd h hok
    ·exact List.contains_iff_mem.2 h
   have hsl := sign_le (c :: q)
   refine ⟨by simp [wrOk, hs], ⟨?_, i64_wf (by simp) (by simp), i64_wf (by simp) (by simp), hat⟩, by simp, ?_, ?_⟩
   ·show (sign (c :: q)).length <= _
    omega
   ·unfold wrT
    dsimp only
    rw [if_neg (by decide)]
    exact (signIn_prefix (c :: q) signs).symm
   ·unfold wrT
    dsimp only
    rw [if_neg (by decide)]
def Pl (l : List UInt8) : Nat -> List Tk -> Prop
 | _, [] => True
 | p, t :: ts => ∃ a : Nat, t.at_ = (a : Int) ∧ p <= a ∧ wrOk t = true ∧ TkOk t ∧ a + (wrT t).length <= l.length ∧ (l.drop a).take (wrT t).length = wrT t ∧ Pl l (a + (wrT t).length) ts
def endTk (n : Nat) : Tk := ⟨0, [], 0, n⟩
theorem scan_placed (l : List UInt8) (hl : l.length <= 140737488351232) : ∀ (f i : Nat) (out : List Tk), i <= l.length -> l.length - i < f ->
  (∃ a e : Int, scanGo f l.length out (l.drop i) = ([], a, e) ∧ e ≠ 0 ∧ 0 <= a ∧ a <= l.length) ∨ (∃ ts, scanGo f l.length out (l.drop i) = (out ++ ts ++ [endTk l.length], 0, 0) ∧ Pl l i ts)
 | 0, i, out, hi, hf => by omega
 | f + 1, i, out, hi, hf => by
  have hskl := sk_le false (l.drop i)
  have hskd := sk_drop false (l.drop i)
  rw [List.length_drop] at hskl
  generalize hj : l.length - (sk false (l.drop i)).length = j
  have hij : i <= j := by omega
  have hjl : j <= l.length := by omega
  have hdj : sk false (l.drop i) = l.drop j := by
   rw [hskd, List.drop_drop]
   congr 1
   rw [List.length_drop]; omega
  rw [scanGo_succ, hdj, List.length_drop]
  have hjj : ((l.length - (l.length - j) : Nat) : Int) = (j : Int) := by omega
  rw [hjj]
  by_cases h1 : (next (l.drop j) (j : Int)).2.2 = false
  ·rw [if_pos h1]
   exact .inl ⟨_, _, rfl, by decide, by omega, by omega⟩
  ·rw [if_neg h1]
   by_cases h2 : out.length = 4000
   ·rw [if_pos h2]
    exact .inl ⟨_, _, rfl, by decide, by omega, by omega⟩
   ·rw [if_neg h2]
    have hok : (next (l.drop j) (j : Int)).2.2 = true := by simpa using h1
    rcases Nat.lt_or_ge j l.length with hjlt | hjge
    ·have hc := drop_cons hjlt
     have hpl := next_placed (l.getD j 0) (l.drop (j + 1)) j (by omega) (by rw [<- hc, List.length_drop]; omega) (by rw [<- hc]; exact hok)
     rw [<- hc] at hpl
     obtain ⟨p1, p2, p3, p4, p5⟩ := hpl
     have hk : (next (l.drop j) (j : Int)).1.kind ≠ 0 := fun h => by
      unfold wrOk at p1
      rw [h] at p1
      simp at p1
     have hpos := next_pos (l.drop j) j hok hk
     have hnl := next_le (l.drop j) (j : Int)
     rw [List.length_drop] at hnl
     rw [if_neg hk, List.drop_drop]
     rcases scan_placed l hl f (j + (next (l.drop j) (j : Int)).2.1) (out ++ [(next (l.drop j) (j : Int)).1]) (by omega) (by omega) with h | ⟨ts, h3, h4⟩
     ·exact .inl h
     ·refine .inr ⟨(next (l.drop j) (j : Int)).1 :: ts, ?_, j, p3, hij, p1, p2, by omega, ?_, ?_⟩
      ·rw [h3]; simp
      ·rw [p5]; exact p4.symm
      ·rw [p5]; exact h4
    ·have hj0 : l.drop j = [] := List.drop_eq_nil_of_le hjge
     have hjn : j = l.length := by omega
     rw [hj0]
     refine .inr ⟨[], ?_, trivial⟩
     rw [List.append_nil]
     have : (next [] (j : Int)).1 = endTk l.length := by
      subst hjn; rfl
     rw [this, if_pos (show (endTk l.length).kind = 0 from rfl)]
theorem pl_right {l : List UInt8} : ∀ (ts : List Tk) (p : Nat), Pl l p ts -> rightL (ts ++ [endTk l.length]) = true
 | [], _, _ => rfl
 | t :: ts, p, ⟨a, h1, h2, h3, h4, h5, h6, h7⟩ => by
  have ih := pl_right ts _ h7
  cases hts : ts ++ [endTk l.length] with
  | nil => simp at hts
  | cons u q =>
   rw [hts] at ih
   rw [List.cons_append, hts]
   show (wrOk t && rightL (u :: q)) = true
   rw [h3, ih]; rfl
attribute [local congr] bind_h asInt_h asBool_h asStr_h asSl_h asSlR_h asAgg_h asTup_h asIface_h asCells_h onRet_h onOut_h cond_h
def Fl.dv (f : Fl) : List V := [.sl .no T_api_Pair (f.pairs.map Pai.v), .sl .no T_api_Pair (f.sames.map Pai.v), .sl .no T_decl_Keep (f.keeps.map Kp.v), .sl .no T_decl_Break (f.breaks.map Bk.v), .sl .no T_decl_Watch (f.watches.map Wt.v)]
def parseV (r : Fl × Int × Int) : Option Res := some ⟨.ret (.tup [.agg r.1.dv, .int .i64 r.2.1, .int .i64 r.2.2]), [], none⟩
section
variable {l : List Tk} (hl : Ended l) (hn : l.length <= 100000)
include hl hn
theorem lineR_step {k : Nat} (hk : k < l.length) {f g : Fl} {j : Nat} (h : lineR l f k = .ok (g, j)) : Step l k j := by
 unfold lineR at h
 obtain ⟨f1, k1, h1, h⟩ := andR_ok h
 obtain ⟨_, k2, h2, h⟩ := andR_ok h
 have full : ∀ {α : Type} {n most : Nat} {r : Rf α} {x : α × Nat}, fullR l n most k r = .ok x -> r = .ok x := fun h => by
  unfold fullR at h
  split at h
  ·cases h
  ·exact h
 have keep : ∀ {x : Int × List UInt8 × List UInt8} {j : Nat}, k + 1 < l.length -> keepR l (k + 1) = .ok (x, j) -> k < j ∧ j < l.length := fun s0 h => by
  unfold keepR at h
  obtain ⟨_, _, g1, h⟩ := andR_ok h
  have s1 := (sideR_step hl s0 g1).1
  obtain ⟨_, _, g1, h⟩ := andR_ok h
  have s2 := (nameR_step hl s1.end_ g1).1
  obtain ⟨_, _, g1, h⟩ := andR_ok h
  have s3 := (nameR_step hl s2.end_ g1).1
  have := s1.lt
  have := s2.lt
  have := s3.lt
  have := s3.end_
  cases h; omega
 have s1 : k < k1 ∧ k1 < l.length := by
  unfold itemR at h1
  split at h1
  ·rename_i c
   have s0 : k + 1 < l.length := hl.next hk (by rw [(isW_kind c).1]; decide)
   obtain ⟨_, _, g1, h1⟩ := andR_ok (full h1)
   have s1 := (nameR_step hl s0 g1).1
   obtain ⟨_, _, g1, h1⟩ := andR_ok h1
   have s2 := (nameR_step hl s1.end_ g1).1
   have := s1.lt
   have := s2.lt
   have := s2.end_
   cases h1; omega
  split at h1
  ·rename_i c
   have s0 : k + 1 < l.length := hl.next hk (by rw [(isW_kind c).1]; decide)
   obtain ⟨_, _, g1, h1⟩ := andR_ok (full h1)
   have s1 := sameR_step hl hn s0 g1
   have := s1.lt
   have := s1.end_
   cases h1; omega
  split at h1
  ·rename_i c
   have s0 : k + 1 < l.length := hl.next hk (by rw [(isW_kind c).1]; decide)
   obtain ⟨_, _, g1, h1⟩ := andR_ok (full h1)
   have := keep s0 g1
   cases h1; omega
  split at h1
  ·rename_i c
   have s0 : k + 1 < l.length := hl.next hk (by rw [(isW_kind c).1]; decide)
   obtain ⟨_, _, g1, h1⟩ := andR_ok (full h1)
   have s1 := stopR_step hl hn s0 g1
   have := s1.lt
   have := s1.end_
   cases h1; omega
  split at h1
  ·rename_i c
   have s0 : k + 1 < l.length := hl.next hk (by rw [(isW_kind c).1]; decide)
   obtain ⟨_, _, g1, h1⟩ := andR_ok (full h1)
   have := keep s0 g1
   cases h1; omega
  ·cases h1
 have s2 := (signR_step hl s1.2 h2).1
 have := s2.lt
 have := s2.end_
 cases h
 exact ⟨by omega, by omega⟩
theorem file_d (hE : ReadsE syntax_ReadExpr.id l) (i0 i1 : Int) : ∀ (n k : Nat) (f : Fl), k < l.length -> l.length - k < n ->
  decl_Parse.L1_1_1_1_1_0_0 i0 i1 (l.map Tk.v) (k : Int) (f.pairs.map Pai.v) (f.sames.map Pai.v) (f.keeps.map Kp.v) (f.breaks.map Bk.v) (f.watches.map Wt.v) =
   parseV (toldF (fileR l n f k))
 | 0, k, f, _, h => by omega
 | n + 1, k, f, hk, h => by
  have r := row_in hk
  rw [fileR]
  unfold parseV toldF
  by_cases c : (tk l k).kind = 0
  ·have c' : ((tk l k).kind != 0) = false := by simpa using c
   rw [if_pos c]
   unfold Fl.dv
   rw [decl_Parse.L1_1_1_1_1_0_0_eq]
   simp only [if_pos r, Int.toNat_natCast, tok_g hk, tkv_0, tkv_1, tkv_2, tkv_3, c', decl_Parse_1.eq0, onPn_none, onPn_some, lz, lx, if_true, if_false, lb]
  ·have c' : ((tk l k).kind != 0) = true := by simpa using c
   rw [if_neg c]
   have hd := line_d hl hn hE hk f
   unfold RdL at hd
   cases hq : lineR l f k with
   | error e =>
    rw [hq] at hd
    obtain ⟨j, g, hd⟩ := hd
    unfold Fl.dv
    unfold rd7 givenD at hd
    rw [decl_Parse.L1_1_1_1_1_0_0_eq]
    simp only [if_pos r, Int.toNat_natCast, tok_g hk, tkv_0, tkv_1, tkv_2, tkv_3, c', hd, decl_Parse_1.eq1, onPn_none, onPn_some, emptyF, List.map_nil, lz, lx, if_true, if_false, lb]
   | ok q =>
    obtain ⟨g, j⟩ := q
    rw [hq] at hd
    have s := lineR_step hl hn hk hq
    have ih := file_d hE i0 i1 n j g s.end_ (by have := s.lt; omega)
    simp only at hd ⊢
    refine Eq.trans ?_ ih
    unfold rd7 at hd
    rw [decl_Parse.L1_1_1_1_1_0_0_eq]
    simp only [if_pos r, Int.toNat_natCast, tok_g hk, tkv_0, tkv_1, tkv_2, tkv_3, c', hd, lz, lx, if_true, if_false, lb]
end
theorem scan_len : ∀ (f n : Nat) (out : List Tk) (r : List UInt8), out.length <= 4000 -> (scanGo f n out r).1.length <= 4001
 | 0, _, _, _, _ => by simp [scanGo]
 | f + 1, n, out, r, h => by
  rw [scanGo_succ]
  split
  ·simp
  split
  ·simp
  split
  ·simp only [List.length_append, List.length_singleton]; omega
  ·exact scan_len f n _ _ (by rw [List.length_append, List.length_singleton]; omega)
theorem pl_mem {l : List UInt8} : ∀ (ts : List Tk) (p : Nat), Pl l p ts -> ∀ t ∈ ts, wrOk t = true ∧ TkOk t
 | t :: ts, p, ⟨a, h1, h2, h3, h4, h5, h6, h7⟩, u, hu => by
  rcases List.mem_cons.1 hu with rfl | hu
  ·exact ⟨h3, h4⟩
  ·exact pl_mem ts _ h7 u hu
theorem wrOk_kind {t : Tk} (h : wrOk t = true) : t.kind ≠ 0 := fun h0 => by
 unfold wrOk at h
 rw [h0] at h
 simp at h
theorem scan_ended {s : List UInt8} (hs : s.length <= 140737488351232) (h : (scan s).2.2 = 0) : Ended (scan s).1 ∧ (scan s).1.length <= 4001 ∧ 0 < (scan s).1.length ∧ (∀ t ∈ (scan s).1, TkOk t) ∧ rightL (scan s).1 = true := by
 unfold scan at *
 by_cases c : s.length > 16384
 ·rw [if_pos c] at h; cases h
 rw [if_neg c] at h ⊢
 have hlen := scan_len (s.length + 1) s.length [] s (by simp)
 have hp := scan_placed s (by omega) (s.length + 1) 0 [] (by omega) (by omega)
 rw [List.drop_zero] at hp
 rcases hp with ⟨a, e, h1, h2, _⟩ | ⟨ts, h1, h2⟩
 ·rw [h1] at h; exact absurd h h2
 ·rw [h1] at hlen ⊢
  rw [List.nil_append] at hlen ⊢
  have hm := pl_mem ts 0 h2
  have hL : (ts ++ [endTk s.length]).length = ts.length + 1 := by simp
  have ha : ∀ (k : Nat) (hk : k < (ts ++ [endTk s.length]).length), tk (ts ++ [endTk s.length]) k = (ts ++ [endTk s.length])[k]'hk := fun k hk => by
   unfold tk
   rw [List.getD_eq_getElem?_getD, List.getElem?_eq_getElem hk]; rfl
  refine ⟨⟨fun k hk => ?_⟩, hlen, by simp, fun t ht => ?_, pl_right ts 0 h2⟩
  ·have hk' : k < ts.length + 1 := by rw [<- hL]; exact hk
   rw [ha k hk, hL]
   by_cases k1 : k < ts.length
   ·rw [List.getElem_append_left k1]
    have := wrOk_kind (hm _ (List.getElem_mem k1)).1
    constructor
    ·intro h0; exact absurd h0 this
    ·intro h0; omega
   ·rw [List.getElem_append_right (by omega)]
    simp only [List.getElem_singleton]
    constructor
    ·intro _; omega
    ·intro _; rfl
  ·rcases List.mem_append.1 ht with ht | ht
   ·exact (hm t ht).2
   ·rw [List.mem_singleton.1 ht]
    exact ⟨by simp [endTk], (by decide : (Lit.int .i64 0).wf = true), (by decide : (Lit.int .i64 0).wf = true), i64_wf (by simp [endTk]) (by simp [endTk]; omega)⟩
theorem lex_Scan_all (l : List UInt8) (hl : l.length <= 140737488351232) : den Sp lex_Scan.id [.str (B l)] [] none = scanV (scan l) := by
 by_cases h : l.length > 16384
 ·rw [lex_Scan.eq, B_size]
  unfold scan
  rw [if_pos h, decide_eq_true (show ((l.length : Nat) : Int) > 16384 by omega)]; rfl
 ·exact lex_Scan_is l (by omega)
theorem decl_Parse_is (s : List UInt8) (hs : s.length <= 140737488351232) : den Sp decl_Parse.id [.str (B s)] [] none = parseV (parseF s) := by
 have h1 := lex_Scan_all s hs
 unfold scanV at h1
 unfold parseF
 by_cases c : (scan s).2.2 = 0
 ·obtain ⟨g1, g2, g3, g4, g5⟩ := scan_ended hs c
  have hr := lex_Right_is (scan s).1 (by omega) g4
  rw [g5] at hr
  have hE := syntax_ReadExpr_is g1 (by omega) hr
  have hf := file_d g1 (by omega) hE (scan s).2.1 (scan s).2.2 ((scan s).1.length + 1) 0 emptyF g3 (by omega)
  have c' : ((scan s).2.2 != 0) = false := by simpa using c
  rw [if_neg (fun h => h c), <- hf]
  unfold emptyF
  rw [decl_Parse.eq]
  simp only [h1, c', asTup_3, List.map_nil, Int.natCast_zero, lz, lx, if_true, if_false, lb]
 ·have c' : ((scan s).2.2 != 0) = true := by simpa using c
  rw [if_pos c]
  unfold parseV Fl.dv emptyF
  rw [decl_Parse.eq]
  simp only [h1, c', asTup_3, List.map_nil, lz, lx, if_true, if_false, lb]
end Go.Proofs.YtmhnmelaodhemaaDoor
namespace Go.Proofs.YtmhnmelaodhemaaDoor
open Go Go.Proofs.Ab Go.Proofs.Px
theorem sv_app (l : List (List UInt8)) (w : List UInt8) : sv l ++ [[.str (B w)]] = sv (l ++ [w]) := by simp [sv]
def weighW (l : List (List UInt8)) : Nat := (l.map fun w => 1 + w.length).sum
def levelP (s : List UInt8) : Int :=
 if s = [124, 124] then 1 else if s = [38, 38] then 2 else if s = [61, 61] then 3 else if s = [33, 61] then 3 else if s = [60] then 3 else if s = [60, 61] then 3
 else if s = [43] then 4 else if s = [45] then 4 else if s = [42] then 5 else if s = [47] then 5 else if s = [37] then 5 else 0
def plainK (k : Int) (n : List UInt8) (m : Int) (c : Nat) : Bool :=
 if k = 1 then decide (n = []) && decide (0 <= m) && decide (c = 0)
 else if k = 2 then decide (n = []) && (decide (m = 0) || decide (m = 1)) && decide (c = 0)
 else if k = 3 then decide (n ≠ []) && decide (m = 0) && decide (c = 0)
 else if k = 4 then decide (n ≠ []) && decide (m = 0) && decide (c = 1)
 else if k = 5 then (decide (n = [45]) || decide (n = [33])) && decide (m = 0) && decide (c = 1)
 else if k = 6 then decide (0 < levelP n) && decide (m = 0) && decide (c = 2)
 else false
def namedK (k : Int) (n : List UInt8) : Bool := if k = 3 then isName (B n) else if k = 4 then isName (B n) else true
mutual
def okX : Ex -> Bool
 | .mk k n m l => plainK k n m l.length && namedK k n && okXs l
def okXs : List Ex -> Bool
 | [] => true
 | x :: l => okX x && okXs l
end
def sideW (k : Int) (w : List (List UInt8)) : List (List UInt8) := if k = 6 then [40] :: (w ++ [[41]]) else w
def wK (k : Int) (n : List UInt8) (m : Int) (ws : List (Int × List (List UInt8))) : List (List UInt8) :=
 if k = 1 then [decs m]
 else if k = 2 then [if m = 1 then [116, 114, 117, 101] else [102, 97, 108, 115, 101]]
 else if k = 4 then n :: [91] :: ((ws.headD (0, [])).2 ++ [[93]])
 else if k = 5 then n :: sideW (ws.headD (0, [])).1 (ws.headD (0, [])).2
 else if k = 6 then sideW (ws.headD (0, [])).1 (ws.headD (0, [])).2 ++ n :: sideW (ws.getLastD (0, [])).1 (ws.getLastD (0, [])).2
 else [n]
mutual
def exW : Ex -> List (List UInt8)
 | .mk k n m l => wK k n m (exWs l)
def exWs : List Ex -> List (Int × List (List UInt8))
 | [] => []
 | x :: l => (x.kind, exW x) :: exWs l
end
def sideH (k h : Int) : Int := if k = 6 then h + 1 else h
def hK (k : Int) (hs : List (Int × Int)) : Int :=
 if k = 4 then (hs.headD (0, 0)).2 + 1
 else if k = 5 then sideH (hs.headD (0, 0)).1 (hs.headD (0, 0)).2 + 1
 else if k = 6 then max (sideH (hs.headD (0, 0)).1 (hs.headD (0, 0)).2) (sideH (hs.getLastD (0, 0)).1 (hs.getLastD (0, 0)).2)
 else 0
mutual
def hX : Ex -> Int
 | .mk k n m l => hK k (hXs l)
def hXs : List Ex -> List (Int × Int)
 | [] => []
 | x :: l => (x.kind, hX x) :: hXs l
end
theorem plain_forms {k : Int} {n : List UInt8} {m : Int} {l : List Ex} (h : plainK k n m l.length = true) :
  (k = 1 ∧ n = [] ∧ 0 <= m ∧ l = []) ∨ (k = 2 ∧ n = [] ∧ (m = 0 ∨ m = 1) ∧ l = []) ∨ (k = 3 ∧ n ≠ [] ∧ m = 0 ∧ l = []) ∨ (k = 4 ∧ n ≠ [] ∧ m = 0 ∧ ∃ x, l = [x]) ∨
  (k = 5 ∧ (n = [45] ∨ n = [33]) ∧ m = 0 ∧ ∃ x, l = [x]) ∨ (k = 6 ∧ 0 < levelP n ∧ m = 0 ∧ ∃ x y, l = [x, y]) := by
 have two : l.length = 2 -> ∃ x y, l = [x, y] := fun h => by
  match l, h with
  | [x, y], _ => exact ⟨x, y, rfl⟩
 unfold plainK at h
 split at h
 ·simp only [Bool.and_eq_true, decide_eq_true_eq] at h
  exact .inl ⟨‹_›, h.1.1, h.1.2, List.length_eq_zero_iff.1 h.2⟩
 split at h
 ·simp only [Bool.and_eq_true, Bool.or_eq_true, decide_eq_true_eq] at h
  exact .inr (.inl ⟨‹_›, h.1.1, h.1.2, List.length_eq_zero_iff.1 h.2⟩)
 split at h
 ·simp only [Bool.and_eq_true, decide_eq_true_eq] at h
  exact .inr (.inr (.inl ⟨‹_›, h.1.1, h.1.2, List.length_eq_zero_iff.1 h.2⟩))
 split at h
 ·simp only [Bool.and_eq_true, decide_eq_true_eq] at h
  exact .inr (.inr (.inr (.inl ⟨‹_›, h.1.1, h.1.2, List.length_eq_one_iff.1 h.2⟩)))
 split at h
 ·simp only [Bool.and_eq_true, Bool.or_eq_true, decide_eq_true_eq] at h
  exact .inr (.inr (.inr (.inr (.inl ⟨‹_›, h.1.1, h.1.2, List.length_eq_one_iff.1 h.2⟩))))
 split at h
 ·simp only [Bool.and_eq_true, decide_eq_true_eq] at h
  exact .inr (.inr (.inr (.inr (.inr ⟨‹_›, h.1.1, h.1.2, two h.2⟩))))
 cases h
theorem level_len {n : List UInt8} (h : 0 < levelP n) : 1 <= n.length ∧ n.length <= 2 := by
 unfold levelP at h
 repeat' (split at h; · rename_i e; subst e; decide)
 omega
theorem name_len {n : List UInt8} (h : isName (B n) = true) : n.length <= 40 := by
 unfold isName at h
 simp only [Bool.and_eq_true, decide_eq_true_eq, B_size] at h
 omega
theorem weighW_app (a b : List (List UInt8)) : weighW (a ++ b) = weighW a + weighW b := by
 unfold weighW; rw [List.map_append, List.sum_append]
theorem weighW_cons (a : List UInt8) (b : List (List UInt8)) : weighW (a :: b) = 1 + a.length + weighW b := by
 unfold weighW; rw [List.map_cons, List.sum_cons]
theorem weighW_nil : weighW [] = 0 := rfl
theorem sideW_weigh (k : Int) (w : List (List UInt8)) : weighW (sideW k w) <= weighW w + 4 := by
 unfold sideW
 split
 ·simp only [weighW_cons, weighW_app, weighW_nil, List.length_singleton]; omega
 ·omega
theorem okX_weigh : ∀ x : Ex, okX x = true -> weighW (exW x) <= 60 * x.size ∧ 0 <= hX x ∧ hX x <= 2 * (x.size : Int) := by
 refine Ex.ind fun k n m l ih h => ?_
 rw [okX, Bool.and_eq_true, Bool.and_eq_true] at h
 obtain ⟨⟨h1, h2⟩, h3⟩ := h
 rw [exW, hX, Ex.size]
 unfold wK hK
 rcases plain_forms h1 with ⟨rfl, rfl, hm, rfl⟩ | ⟨rfl, rfl, hm, rfl⟩ | ⟨rfl, hn, rfl, rfl⟩ | ⟨rfl, hn, rfl, x, rfl⟩ | ⟨rfl, hn, rfl, x, rfl⟩ | ⟨rfl, hn, rfl, x, y, rfl⟩
 ·have := decs_len m
  simp [weighW_cons, weighW_nil, Ex.sizes]; omega
 ·by_cases c : m = 1 <;> simp [weighW_cons, weighW_nil, Ex.sizes, c]
 ·have := name_len (n := n) (by simpa [namedK] using h2)
  simp [weighW_cons, weighW_nil, Ex.sizes]; omega
 ·have := name_len (n := n) (by simpa [namedK] using h2)
  obtain ⟨i1, i2, i3⟩ := ih x (by simp) (by simpa [okXs] using h3)
  simp [weighW_cons, weighW_nil, weighW_app, Ex.sizes, exWs, hXs]; omega
 ·obtain ⟨i1, i2, i3⟩ := ih x (by simp) (by simpa [okXs] using h3)
  have hl : n.length = 1 := by rcases hn with rfl | rfl <;> rfl
  have := sideW_weigh x.kind (exW x)
  simp [weighW_cons, weighW_nil, weighW_app, Ex.sizes, exWs, hXs]
  unfold sideH
  split <;> omega
 ·rw [okXs, okXs, okXs, Bool.and_true, Bool.and_eq_true] at h3
  obtain ⟨i1, i2, i3⟩ := ih x (by simp) h3.1
  obtain ⟨j1, j2, j3⟩ := ih y (by simp) h3.2
  have := level_len hn
  have := sideW_weigh x.kind (exW x)
  have := sideW_weigh y.kind (exW y)
  simp [weighW_cons, weighW_nil, weighW_app, Ex.sizes, exWs, hXs]
  unfold sideH
  split <;> split <;> omega
def prX (x : Ex) : List UInt8 × Int := if okX x then (if 60 < 1 + hX x then ([], 31) else (joinL (exW x), 0)) else ([], 32)
theorem joinL_cons (a : List UInt8) : ∀ {l : List (List UInt8)}, l ≠ [] -> joinL (a :: l) = a ++ 32 :: joinL l
 | [], h => absurd rfl h
 | b :: l, _ => rfl
theorem joinL_app : ∀ (a : List (List UInt8)) {b : List (List UInt8)}, a ≠ [] -> b ≠ [] -> joinL (a ++ b) = joinL a ++ 32 :: joinL b
 | [], _, h, _ => absurd rfl h
 | [x], b, _, hb => joinL_cons x hb
 | x :: y :: l, b, _, hb => by
  have := joinL_app (y :: l) (by simp) hb
  rw [List.cons_append, joinL_cons x (by simp), this, joinL_cons x (by simp), List.append_assoc, List.cons_append]
theorem exW_ne (x : Ex) : exW x ≠ [] := by
 cases x with
 | mk k n m l =>
  rw [exW]; unfold wK
  split
  ·simp
  split
  ·simp
  split
  ·simp
  split
  ·simp
  split
  ·simp
  ·simp
def tS (s : List UInt8) : Tk := ⟨4, s, 0, 0⟩
def tN (s : List UInt8) : Tk := ⟨1, s, 0, 0⟩
def sideTk (k : Int) (w : List Tk) : List Tk := if k = 6 then tS [40] :: (w ++ [tS [41]]) else w
def tkK (k : Int) (n : List UInt8) (m : Int) (ws : List (Int × List Tk)) : List Tk :=
 if k = 1 then [⟨2, [], m, 0⟩]
 else if k = 2 then [⟨3, if m = 1 then [116, 114, 117, 101] else [102, 97, 108, 115, 101], 0, 0⟩]
 else if k = 4 then tN n :: tS [91] :: ((ws.headD (0, [])).2 ++ [tS [93]])
 else if k = 5 then tS n :: sideTk (ws.headD (0, [])).1 (ws.headD (0, [])).2
 else if k = 6 then sideTk (ws.headD (0, [])).1 (ws.headD (0, [])).2 ++ tS n :: sideTk (ws.getLastD (0, [])).1 (ws.getLastD (0, [])).2
 else [tN n]
mutual
def exT : Ex -> List Tk
 | .mk k n m l => tkK k n m (exTs l)
def exTs : List Ex -> List (Int × List Tk)
 | [] => []
 | x :: l => (x.kind, exT x) :: exTs l
end
def Seg (l : List Tk) (k : Nat) (ts : List Tk) : Prop := ∀ (i : Nat) (h : i < ts.length), k + i < l.length ∧ SimT ts[i] (tk l (k + i))
theorem Seg.app {l : List Tk} {k : Nat} {a b : List Tk} (h : Seg l k (a ++ b)) : Seg l k a ∧ Seg l (k + a.length) b := by
 refine ⟨fun i hi => ?_, fun i hi => ?_⟩
 ·have := h i (by rw [List.length_append]; omega)
  rwa [List.getElem_append_left hi] at this
 ·have := h (a.length + i) (by rw [List.length_append]; omega)
  rw [List.getElem_append_right (by omega)] at this
  simpa [Nat.add_assoc, Nat.add_comm, Nat.add_left_comm] using this
theorem Seg.cons {l : List Tk} {k : Nat} {a : Tk} {b : List Tk} (h : Seg l k (a :: b)) : (k < l.length ∧ SimT a (tk l k)) ∧ Seg l (k + 1) b := by
 have h' : Seg l k ([a] ++ b) := h
 exact ⟨h 0 (by simp), h'.app.2⟩
theorem isT_sim {a b : Tk} (h : SimT a b) (s : List UInt8) : isT b s = isT a s := by
 unfold isT; rw [h.1, h.2.1]
theorem signT_sim {a b : Tk} (h : SimT a b) : signT b = signT a := by
 unfold signT; rw [h.1, h.2.1]
theorem opensT_sim {a b : Tk} (h : SimT a b) : opensT b = opensT a := by
 unfold opensT isT; rw [h.1, h.2.1]
theorem levelT_P (s : List UInt8) : levelT s = levelP s := rfl
theorem isT_S (n s : List UInt8) : isT (tS n) s = decide (n = s) := rfl
theorem isT_N (n s : List UInt8) : isT (tN n) s = false := by simp [isT, tN]
theorem level_signs {n : List UInt8} (h : 0 < levelP n) : n = [124, 124] ∨ n = [38, 38] ∨ n = [61, 61] ∨ n = [33, 61] ∨ n = [60] ∨ n = [60, 61] ∨ n = [43] ∨ n = [45] ∨ n = [42] ∨ n = [47] ∨ n = [37] := by
 unfold levelP at h
 repeat' (split at h; · rename_i e; subst e; decide)
 omega
theorem part_ok {l : List Tk} {d : Int} {k : Nat} {r : Rd} (ho : opensT (tk l k) = true) (hd : d <= 60) : partR l d k r = r := by
 unfold partR
 rw [ho, if_neg (by simp), if_neg (by omega)]
theorem exT_ne (x : Ex) : exT x ≠ [] := by
 cases x with
 | mk k n m l =>
  rw [exT]; unfold tkK
  split
  ·simp
  split
  ·simp
  split
  ·simp
  split
  ·simp
  split
  ·simp
  ·simp
theorem sideTk_opens {k : Int} {w : List Tk} (h : ∃ t u, w = t :: u ∧ opensT t = true) : ∃ t u, sideTk k w = t :: u ∧ opensT t = true := by
 unfold sideTk
 split
 ·exact ⟨_, _, rfl, by decide⟩
 ·exact h
theorem exT_opens : ∀ x : Ex, okX x = true -> ∃ t u, exT x = t :: u ∧ opensT t = true := by
 refine Ex.ind fun k n m l ih h => ?_
 rw [okX, Bool.and_eq_true, Bool.and_eq_true] at h
 obtain ⟨⟨h1, h2⟩, h3⟩ := h
 rw [exT]
 unfold tkK
 rcases plain_forms h1 with ⟨rfl, rfl, hm, rfl⟩ | ⟨rfl, rfl, hm, rfl⟩ | ⟨rfl, hn, rfl, rfl⟩ | ⟨rfl, hn, rfl, x, rfl⟩ | ⟨rfl, hn, rfl, x, rfl⟩ | ⟨rfl, hn, rfl, x, y, rfl⟩
 ·exact ⟨_, _, rfl, rfl⟩
 ·by_cases c : m = 1 <;> exact ⟨_, _, rfl, by simp [c, opensT, isT]⟩
 ·exact ⟨_, _, rfl, rfl⟩
 ·exact ⟨_, _, rfl, rfl⟩
 ·exact ⟨_, _, rfl, by rcases hn with rfl | rfl <;> rfl⟩
 ·rw [okXs, okXs, okXs, Bool.and_true, Bool.and_eq_true] at h3
  obtain ⟨t, u, h4, h5⟩ := sideTk_opens (k := x.kind) (ih x (by simp) h3.1)
  refine ⟨t, u ++ tS n :: sideTk y.kind (exT y), ?_, h5⟩
  simp [exTs, h4]
def BackX (x : Ex) : Prop := ∀ (l : List Tk) (d : Int) (k : Nat), d + hX x <= 60 -> Seg l k (exT x) -> k + (exT x).length < l.length -> isT (tk l (k + (exT x).length)) [91] = false ->
 (x.kind ≠ 6 -> oneW l d k = .ok (x, k + (exT x).length)) ∧ (signT (tk l (k + (exT x).length)) = 0 -> tightW l 1 d k = .ok (x, k + (exT x).length))
theorem seg_opens {l : List Tk} {k : Nat} {w : List Tk} (hs : Seg l k w) (h : ∃ t u, w = t :: u ∧ opensT t = true) : opensT (tk l k) = true := by
 obtain ⟨t, u, rfl, h2⟩ := h
 rw [opensT_sim hs.cons.1.2, h2]
theorem side_back {x : Ex} (ho : okX x = true) (hb : BackX x) (l : List Tk) (d : Int) (k : Nat) (hd : d + sideH x.kind (hX x) <= 60) (hs : Seg l k (sideTk x.kind (exT x))) (hk : k + (sideTk x.kind (exT x)).length < l.length) (hn : isT (tk l (k + (sideTk x.kind (exT x)).length)) [91] = false) :
  oneW l d k = .ok (x, k + (sideTk x.kind (exT x)).length) := by
 have hh := (okX_weigh x ho).2.1
 by_cases c : x.kind = 6
 ·unfold sideTk sideH at *
  rw [if_pos c] at *
  obtain ⟨⟨k1, s1⟩, h2⟩ := hs.cons
  obtain ⟨h3, h4⟩ := h2.app
  obtain ⟨⟨k2, s2⟩, _⟩ := h4.cons
  have e1 : ∀ s, isT (tk l k) s = decide (([40] : List UInt8) = s) := fun s => by rw [isT_sim s1, isT_S]
  have e2 : ∀ s, isT (tk l (k + 1 + (exT x).length)) s = decide (([41] : List UInt8) = s) := fun s => by rw [isT_sim s2, isT_S]
  have h5 := (hb l (d + 1) (k + 1) (by omega) h3 k2 (by rw [e2]; decide)).2 (by rw [signT_sim s2]; rfl)
  rw [oneW, dif_pos k1, if_neg (by rw [e1, e1]; simp), if_pos (by rw [e1]; rfl), part_ok (seg_opens h3 (exT_opens x ho)) (by omega), h5]
  unfold wantR
  simp only
  rw [if_pos (by rw [e2]; rfl)]
  simp [Nat.add_assoc, Nat.add_comm, Nat.add_left_comm]
 ·unfold sideTk sideH at *
  rw [if_neg c] at *
  exact (hb l d k hd hs hk hn).1 c
theorem tight_of_one {l : List Tk} {n d : Int} {k j : Nat} {x : Ex} (h : oneW l d k = .ok (x, j)) (h1 : k < j) (h2 : j < l.length) (h3 : signT (tk l j) = 0) : tightW l n d k = .ok (x, j) := by
 rw [tightW, h]
 simp only
 rw [dif_pos ⟨h1, by omega⟩, loopW, dif_pos h2, if_pos (.inl h3)]
theorem back_x : ∀ x : Ex, okX x = true -> BackX x := by
 refine Ex.ind fun k n m l ih h => ?_
 have hopen := exT_opens _ h
 have hne := exT_ne (.mk k n m l)
 rw [okX, Bool.and_eq_true, Bool.and_eq_true] at h
 obtain ⟨⟨h1, h2⟩, h3⟩ := h
 intro L d i hd hs hk hn
 have hpos : 0 < (exT (.mk k n m l)).length := List.length_pos_iff.2 hne
 suffices key : (k ≠ 6 -> oneW L d i = .ok (.mk k n m l, i + (exT (.mk k n m l)).length)) ∧ (k = 6 -> signT (tk L (i + (exT (.mk k n m l)).length)) = 0 -> tightW L 1 d i = .ok (.mk k n m l, i + (exT (.mk k n m l)).length)) by
  refine ⟨key.1, fun hsg => ?_⟩
  by_cases c : k = 6
  ·exact key.2 c hsg
  ·exact tight_of_one (key.1 c) (by omega) hk hsg
 clear hopen hne hpos
 rw [exT, hX] at *
 unfold tkK hK at *
 rcases plain_forms h1 with ⟨rfl, rfl, hm, rfl⟩ | ⟨rfl, rfl, hm, rfl⟩ | ⟨rfl, hn', rfl, rfl⟩ | ⟨rfl, hn', rfl, x, rfl⟩ | ⟨rfl, hn', rfl, x, rfl⟩ | ⟨rfl, hn', rfl, x, y, rfl⟩
 ·refine ⟨fun _ => ?_, fun h => absurd h (by decide)⟩
  obtain ⟨⟨k1, s1⟩, _⟩ := Seg.cons (b := []) hs
  have e1 : ∀ s, isT (tk L i) s = false := fun s => by rw [isT_sim s1]; simp [isT]
  have e2 : (tk L i).kind = 2 := s1.1.symm
  have e3 : (tk L i).num = m := s1.2.2.symm
  rw [oneW, dif_pos k1, if_neg (by simp [e1]), if_neg (by simp [e1]), if_neg (by simp [e1]), if_neg (by simp [e1]), if_pos e2, e3]
  simp
 ·refine ⟨fun _ => ?_, fun h => absurd h (by decide)⟩
  obtain ⟨⟨k1, s1⟩, _⟩ := Seg.cons (b := []) hs
  rcases hm with rfl | rfl
  ·have e1 : ∀ s, isT (tk L i) s = decide (([102, 97, 108, 115, 101] : List UInt8) = s) := fun s => by rw [isT_sim s1]; simp [isT]
   rw [oneW, dif_pos k1, if_neg (by simp [e1]), if_neg (by simp [e1]), if_neg (by simp [e1]), if_pos (by simp [e1])]
   simp
  ·have e1 : ∀ s, isT (tk L i) s = decide (([116, 114, 117, 101] : List UInt8) = s) := fun s => by rw [isT_sim s1]; simp [isT]
   rw [oneW, dif_pos k1, if_neg (by simp [e1]), if_neg (by simp [e1]), if_pos (by simp [e1])]
   simp
 ·refine ⟨fun _ => ?_, fun h => absurd h (by decide)⟩
  obtain ⟨⟨k1, s1⟩, _⟩ := Seg.cons (b := []) hs
  have e1 : ∀ s, isT (tk L i) s = false := fun s => by rw [isT_sim s1]; exact isT_N n s
  have e2 : (tk L i).kind = 1 := s1.1.symm
  have e3 : (tk L i).text = n := s1.2.1.symm
  have hn1 : isT (tk L (i + 1)) [91] = false := hn
  rw [oneW, dif_pos k1, if_neg (by simp [e1]), if_neg (by simp [e1]), if_neg (by simp [e1]), if_neg (by simp [e1]), if_neg (by rw [e2]; decide), if_neg (by rw [e2]; decide), if_neg (by rw [hn1]; simp), e3]
  simp
 ·refine ⟨fun _ => ?_, fun h => absurd h (by decide)⟩
  have hox : okX x = true := by simpa [okXs] using h3
  have hb := ih x (by simp) hox
  have hh := (okX_weigh x hox).2.1
  simp only [exTs, hXs, List.headD_cons] at *
  obtain ⟨⟨k1, s1⟩, g1⟩ := Seg.cons (a := tN n) (b := tS [91] :: (exT x ++ [tS [93]])) hs
  obtain ⟨⟨k2, s2⟩, g2⟩ := g1.cons
  obtain ⟨g3, g4⟩ := g2.app
  obtain ⟨⟨k3, s3⟩, _⟩ := g4.cons
  have e1 : ∀ s, isT (tk L i) s = false := fun s => by rw [isT_sim s1]; exact isT_N n s
  have e2 : (tk L i).kind = 1 := s1.1.symm
  have e3 : (tk L i).text = n := s1.2.1.symm
  have e4 : isT (tk L (i + 1)) [91] = true := by rw [isT_sim s2, isT_S]; rfl
  have e5 : ∀ s, isT (tk L (i + 1 + 1 + (exT x).length)) s = decide (([93] : List UInt8) = s) := fun s => by rw [isT_sim s3, isT_S]
  have hd' : d + 1 + hX x <= 60 := by
   have : d + (hX x + 1) <= 60 := hd
   omega
  have r1 := (hb L (d + 1) (i + 1 + 1) hd' g3 k3 (by rw [e5]; decide)).2 (by rw [signT_sim s3]; rfl)
  rw [oneW, dif_pos k1, if_neg (by simp [e1]), if_neg (by simp [e1]), if_neg (by simp [e1]), if_neg (by simp [e1]), if_neg (by rw [e2]; decide), if_neg (by rw [e2]; decide), if_pos e4, part_ok (seg_opens g3 (exT_opens x hox)) (by omega), r1]
  unfold wantR
  simp only
  rw [if_pos (by rw [e5]; rfl), e3]
  show Except.ok (Ex.mk 4 n 0 [x], i + 1 + 1 + (exT x).length + 1) = Except.ok (Ex.mk 4 n 0 [x], i + (tN n :: tS [91] :: (exT x ++ [tS [93]])).length)
  simp only [List.length_cons, List.length_append, List.length_nil]
  rw [show i + 1 + 1 + (exT x).length + 1 = i + ((exT x).length + (0 + 1) + 1 + 1) by omega]
 ·refine ⟨fun _ => ?_, fun h => absurd h (by decide)⟩
  have hox : okX x = true := by simpa [okXs] using h3
  have hb := ih x (by simp) hox
  have hh := (okX_weigh x hox).2.1
  simp only [exTs, hXs, List.headD_cons] at *
  obtain ⟨⟨k1, s1⟩, g1⟩ := Seg.cons (a := tS n) (b := sideTk x.kind (exT x)) hs
  have e1 : ∀ s, isT (tk L i) s = decide (n = s) := fun s => by rw [isT_sim s1, isT_S]
  have e3 : (tk L i).text = n := s1.2.1.symm
  have hd' : d + (sideH x.kind (hX x) + 1) <= 60 := hd
  have hsd : 0 <= sideH x.kind (hX x) := by unfold sideH; split <;> omega
  have hk' : i + ((sideTk x.kind (exT x)).length + 1) < L.length := hk
  have hn'' : isT (tk L (i + ((sideTk x.kind (exT x)).length + 1))) [91] = false := hn
  have r1 := side_back hox hb L (d + 1) (i + 1) (by omega) g1 (by omega) (by rw [show i + 1 + (sideTk x.kind (exT x)).length = i + ((sideTk x.kind (exT x)).length + 1) by omega]; exact hn'')
  rw [oneW, dif_pos k1, if_pos (by rw [e1, e1]; rcases hn' with rfl | rfl <;> simp), part_ok (seg_opens g1 (sideTk_opens (exT_opens x hox))) (by omega), r1, e3]
  simp [Nat.add_assoc, Nat.add_comm, Nat.add_left_comm]
 ·refine ⟨fun h => absurd rfl h, fun _ hsg => ?_⟩
  rw [okXs, okXs, okXs, Bool.and_true, Bool.and_eq_true] at h3
  have hbx := ih x (by simp) h3.1
  have hby := ih y (by simp) h3.2
  simp only [exTs, hXs, List.headD_cons, List.getLastD_cons, List.getLastD_nil] at *
  have hs' : Seg L i (sideTk x.kind (exT x) ++ tS n :: sideTk y.kind (exT y)) := hs
  have hk' : i + (sideTk x.kind (exT x) ++ tS n :: sideTk y.kind (exT y)).length < L.length := hk
  have hn'' : isT (tk L (i + (sideTk x.kind (exT x) ++ tS n :: sideTk y.kind (exT y)).length)) [91] = false := hn
  have hsg' : signT (tk L (i + (sideTk x.kind (exT x) ++ tS n :: sideTk y.kind (exT y)).length)) = 0 := hsg
  have hd' : d + max (sideH x.kind (hX x)) (sideH y.kind (hX y)) <= 60 := hd
  show tightW L 1 d i = .ok (.mk 6 n 0 [x, y], i + (sideTk x.kind (exT x) ++ tS n :: sideTk y.kind (exT y)).length)
  obtain ⟨g1, g2⟩ := hs'.app
  obtain ⟨⟨k2, s2⟩, g3⟩ := g2.cons
  rw [List.length_append, List.length_cons] at *
  have hnx : (sideTk x.kind (exT x)) ≠ [] := by
   obtain ⟨t, u, h4, _⟩ := sideTk_opens (k := x.kind) (exT_opens x h3.1)
   rw [h4]; simp
  have hny : (sideTk y.kind (exT y)) ≠ [] := by
   obtain ⟨t, u, h4, _⟩ := sideTk_opens (k := y.kind) (exT_opens y h3.2)
   rw [h4]; simp
  have px := List.length_pos_iff.2 hnx
  have py := List.length_pos_iff.2 hny
  generalize ea : (sideTk x.kind (exT x)).length = a at *
  generalize eb : (sideTk y.kind (exT y)).length = b at *
  have hl := level_signs hn'
  have e3 : (tk L (i + a)).text = n := s2.2.1.symm
  have e4 : signT (tk L (i + a)) = levelP n := by rw [signT_sim s2]; rfl
  have e5 : isT (tk L (i + a)) [91] = false := by
   rw [isT_sim s2, isT_S]
   rcases hl with rfl | rfl | rfl | rfl | rfl | rfl | rfl | rfl | rfl | rfl | rfl <;> rfl
  have hlp := (level_le n).2
  rw [levelT_P] at hlp
  have r1 := side_back h3.1 hbx L d i (by omega) g1 (by rw [ea]; exact k2) (by rw [ea]; exact e5)
  have r2 := side_back h3.2 hby L d (i + a + 1) (by omega) g3 (by rw [eb]; omega) (by rw [eb, show i + a + 1 + b = i + (a + (b + 1)) by omega]; exact hn'')
  rw [ea] at r1
  rw [eb, show i + a + 1 + b = i + (a + (b + 1)) by omega] at r2
  have r3 := tight_of_one (n := levelP n + 1) r2 (by omega) hk' hsg'
  rw [tightW, r1]
  simp only
  rw [dif_pos ⟨by omega, by omega⟩, loopW, dif_pos k2, if_neg (by rw [e4]; omega), e4, r3]
  simp only
  rw [dif_pos (by omega), loopW, dif_pos hk', if_pos (.inl hsg'), e3]
theorem wrT_N (n : List UInt8) : wrT (tN n) = n := rfl
theorem wrT_S (n : List UInt8) : wrT (tS n) = n := rfl
theorem sideTk_wr (k : Int) (w : List Tk) : (sideTk k w).map wrT = sideW k (w.map wrT) := by
 unfold sideTk sideW
 split <;> simp [wrT_S]
def GoodT (t : Tk) : Prop := wrOk t = true ∧ TkOk t
theorem good_S {s : List UInt8} (h : isSign s = true) (hl : s.length <= 2) : GoodT (tS s) := ⟨by simp [wrOk, tS, h], ⟨by show s.length <= _; omega, (by decide : (Lit.int .i64 4).wf = true), (by decide : (Lit.int .i64 0).wf = true), (by decide : (Lit.int .i64 0).wf = true)⟩⟩
theorem good_N {s : List UInt8} (h : isName (B s) = true) : GoodT (tN s) := ⟨by simp [wrOk, tN, h], ⟨by have := name_len h; show s.length <= _; omega, (by decide : (Lit.int .i64 1).wf = true), (by decide : (Lit.int .i64 0).wf = true), (by decide : (Lit.int .i64 0).wf = true)⟩⟩
theorem sideTk_good {k : Int} {w : List Tk} (h : ∀ t ∈ w, GoodT t) : ∀ t ∈ sideTk k w, GoodT t := by
 unfold sideTk
 split
 ·intro t ht
  rcases List.mem_cons.1 ht with rfl | ht
  ·exact good_S (by decide) (by decide)
  ·rcases List.mem_append.1 ht with ht | ht
   ·exact h t ht
   ·rw [List.mem_singleton.1 ht]; exact good_S (by decide) (by decide)
 ·exact h
theorem exT_words : ∀ x : Ex, okX x = true -> ExOk x -> (exT x).map wrT = exW x ∧ ∀ t ∈ exT x, GoodT t := by
 refine Ex.ind fun k n m l ih h ho => ?_
 obtain ⟨ok, on, om, ol, oh⟩ := ho.inv
 rw [okX, Bool.and_eq_true, Bool.and_eq_true] at h
 obtain ⟨⟨h1, h2⟩, h3⟩ := h
 rw [exT, exW]
 unfold tkK wK
 rcases plain_forms h1 with ⟨rfl, rfl, hm, rfl⟩ | ⟨rfl, rfl, hm, rfl⟩ | ⟨rfl, hn, rfl, rfl⟩ | ⟨rfl, hn, rfl, x, rfl⟩ | ⟨rfl, hn, rfl, x, rfl⟩ | ⟨rfl, hn, rfl, x, y, rfl⟩
 ·exact ⟨rfl, fun t ht => by rw [List.mem_singleton.1 ht]; exact ⟨by simp [wrOk, hm], ⟨by simp, (by decide : (Lit.int .i64 2).wf = true), om, (by decide : (Lit.int .i64 0).wf = true)⟩⟩⟩
 ·refine ⟨rfl, fun t ht => ?_⟩
  rw [List.mem_singleton.1 ht]
  rcases hm with rfl | rfl <;> exact ⟨by decide, ⟨by decide, by decide, by decide, by decide⟩⟩
 ·exact ⟨rfl, fun t ht => by rw [List.mem_singleton.1 ht]; exact good_N (by simpa [namedK] using h2)⟩
 ·obtain ⟨i1, i2⟩ := ih x (by simp) (by simpa [okXs] using h3) (oh x (by simp))
  refine ⟨by simp [exTs, exWs, wrT_N, wrT_S, i1], fun t ht => ?_⟩
  simp only [exTs, List.headD_cons] at ht
  rcases List.mem_cons.1 ht with rfl | ht
  ·exact good_N (by simpa [namedK] using h2)
  rcases List.mem_cons.1 ht with rfl | ht
  ·exact good_S (by decide) (by decide)
  rcases List.mem_append.1 ht with ht | ht
  ·exact i2 t ht
  ·rw [List.mem_singleton.1 ht]; exact good_S (by decide) (by decide)
 ·obtain ⟨i1, i2⟩ := ih x (by simp) (by simpa [okXs] using h3) (oh x (by simp))
  refine ⟨by simp [exTs, exWs, wrT_S, sideTk_wr, i1], fun t ht => ?_⟩
  simp only [exTs, List.headD_cons] at ht
  rcases List.mem_cons.1 ht with rfl | ht
  ·rcases hn with rfl | rfl <;> exact good_S (by decide) (by decide)
  ·exact sideTk_good i2 t ht
 ·rw [okXs, okXs, okXs, Bool.and_true, Bool.and_eq_true] at h3
  obtain ⟨i1, i2⟩ := ih x (by simp) h3.1 (oh x (by simp))
  obtain ⟨j1, j2⟩ := ih y (by simp) h3.2 (oh y (by simp))
  have hl := level_signs hn
  refine ⟨by simp [exTs, exWs, wrT_S, sideTk_wr, i1, j1], fun t ht => ?_⟩
  simp only [exTs, List.headD_cons, List.getLastD_cons, List.getLastD_nil] at ht
  rcases List.mem_append.1 ht with ht | ht
  ·exact sideTk_good i2 t ht
  rcases List.mem_cons.1 ht with rfl | ht
  ·rcases hl with rfl | rfl | rfl | rfl | rfl | rfl | rfl | rfl | rfl | rfl | rfl <;> exact good_S (by decide) (by decide)
  ·exact sideTk_good j2 t ht
def Bk.sizes : List Bk -> Nat
 | [] => 0
 | b :: l => 1 + b.whn.length + Ex.sizes b.whn + Bk.sizes l
def Pai.len (p : Pai) : Nat := p.procA.length / 8 + p.procB.length / 8 + p.varA.length / 8 + p.varB.length / 8
def Pai.lens : List Pai -> Nat
 | [] => 0
 | p :: l => p.len + Pai.lens l
structure NotGreat (f : Fl) : Prop where
 num : f.pairs.length + f.sames.length + f.keeps.length + f.watches.length + Bk.sizes f.breaks <= 600
 pairs : Pai.lens f.pairs <= 600
 sames : Pai.lens f.sames <= 600
def isN (s : List UInt8) : Bool := isName (B s)
def sideT (n : Int) : List UInt8 := if n = 1 then [114, 105, 103, 104, 116] else [108, 101, 102, 116]
def sideK (n : Int) : Bool := decide (n = 0) || decide (n = 1)
def pairW (p : Pai) : List (List UInt8) := [[112, 97, 105, 114], p.procA, p.procB, [59]]
def sameW (p : Pai) : List (List UInt8) := [[115, 97, 109, 101], p.procA, [40], p.varA, [41], p.procB, [40], p.varB, [41], [59]]
def keepW (k : Kp) : List (List UInt8) := [[107, 101, 101, 112], sideT k.side, k.prc, k.vr, [59]]
def whenW : List Ex -> List (List UInt8)
 | [] => []
 | x :: l => [119, 104, 101, 110] :: (prX x).1 :: whenW l
def breakW (b : Bk) : List (List UInt8) := [98, 114, 101, 97, 107] :: sideT b.side :: b.prc :: decs b.mark :: (whenW b.whn ++ [[59]])
def watchW (k : Wt) : List (List UInt8) := [[119, 97, 116, 99, 104], sideT k.side, k.prc, k.vr, [59]]
def okPair (p : Pai) : Bool := isN p.procA && isN p.procB && decide (p.varA = []) && decide (p.varB = [])
def okSame (p : Pai) : Bool := isN p.procA && isN p.procB && isN p.varA && isN p.varB
def okKeep (k : Kp) : Bool := isN k.prc && isN k.vr && sideK k.side
def okWhen : List Ex -> Bool
 | [] => true
 | x :: l => decide ((prX x).2 = 0) && okWhen l
def okBreak (b : Bk) : Bool := isN b.prc && sideK b.side && decide (0 <= b.mark) && decide (b.whn.length < 2) && okWhen b.whn
def okWatch (k : Wt) : Bool := isN k.prc && isN k.vr && sideK k.side
theorem sideT_isN (n : Int) : isN (sideT n) = true := by unfold sideT; split <;> decide
def tI (n : Int) : Tk := ⟨2, [], n, 0⟩
def pairT (p : Pai) : List Tk := [tN [112, 97, 105, 114], tN p.procA, tN p.procB, tS [59]]
def sameT (p : Pai) : List Tk := [tN [115, 97, 109, 101], tN p.procA, tS [40], tN p.varA, tS [41], tN p.procB, tS [40], tN p.varB, tS [41], tS [59]]
def keepT (k : Kp) : List Tk := [tN [107, 101, 101, 112], tN (sideT k.side), tN k.prc, tN k.vr, tS [59]]
def whenT : List Ex -> List Tk
 | [] => []
 | x :: l => tN [119, 104, 101, 110] :: (exT x ++ whenT l)
def breakT (b : Bk) : List Tk := tN [98, 114, 101, 97, 107] :: tN (sideT b.side) :: tN b.prc :: tI b.mark :: (whenT b.whn ++ [tS [59]])
def watchT (k : Wt) : List Tk := [tN [119, 97, 116, 99, 104], tN (sideT k.side), tN k.prc, tN k.vr, tS [59]]
def linesT {α : Type} (w : α -> List Tk) : List α -> List Tk
 | [] => []
 | x :: l => w x ++ linesT w l
section
variable {l : List Tk}
theorem isW_sim {a b : Tk} (h : SimT a b) (s : List UInt8) : isW b s = isW a s := by unfold isW; rw [h.1, h.2.1]
theorem isS_sim {a b : Tk} (h : SimT a b) (s : List UInt8) : isS b s = isS a s := by unfold isS; rw [h.1, h.2.1]
theorem isW_N (n s : List UInt8) : isW (tN n) s = decide (n = s) := rfl
theorem isW_S (n s : List UInt8) : isW (tS n) s = false := by simp [isW, tS]
theorem nameR_sim {s : List UInt8} {k : Nat} (h : SimT (tN s) (tk l k)) : nameR l k = .ok (s, k + 1) := by
 unfold nameR; rw [if_pos (show (tk l k).kind = 1 from h.1.symm), <- h.2.1]; rfl
theorem signR_sim {s : List UInt8} {k : Nat} (h : SimT (tS s) (tk l k)) : signR l s k = .ok ((), k + 1) := by
 unfold signR; rw [isS_sim h, if_pos (by simp [isS, tS])]
theorem intR_sim {n : Int} {k : Nat} (h : SimT (tI n) (tk l k)) : intR l k = .ok (n, k + 1) := by
 unfold intR; rw [if_pos (show (tk l k).kind = 2 from h.1.symm), <- h.2.2]; rfl
theorem sideR_sim {n : Int} (hn : sideK n = true) {k : Nat} (h : SimT (tN (sideT n)) (tk l k)) : sideR l k = .ok (n, k + 1) := by
 have hn : n = 0 ∨ n = 1 := by
  unfold sideK at hn
  simpa only [Bool.or_eq_true, decide_eq_true_eq] using hn
 unfold sideR
 rw [isW_sim h, isW_sim h, isW_N, isW_N]
 rcases hn with rfl | rfl <;> rfl
theorem line_pair {p : Pai} (ho : okPair p = true) {f : Fl} {k : Nat} (hc : f.pairs.length < 40) (h : Seg l k (pairT p)) : lineR l f k = .ok ({ f with pairs := f.pairs ++ [p] }, k + (pairT p).length) := by
 unfold pairT at *
 obtain ⟨⟨_, s0⟩, h⟩ := h.cons
 obtain ⟨⟨_, s1⟩, h⟩ := h.cons
 obtain ⟨⟨_, s2⟩, h⟩ := h.cons
 obtain ⟨⟨_, s3⟩, h⟩ := h.cons
 have e0 : ∀ s, isW (tk l k) s = decide (([112, 97, 105, 114] : List UInt8) = s) := fun s => by rw [isW_sim s0, isW_N]
 unfold okPair at ho
 simp only [Bool.and_eq_true, decide_eq_true_eq] at ho
 have hc' : ¬ (40 <= f.pairs.length) := by omega
 have hp : (⟨p.procA, p.procB, [], []⟩ : Pai) = p := by cases p; simp only at ho; obtain ⟨⟨_, rfl⟩, rfl⟩ := ho; rfl
 simp [lineR, itemR, fullR, andR, e0, hc', nameR_sim s1, nameR_sim s2, signR_sim s3, hp]
theorem line_same {p : Pai} {f : Fl} {k : Nat} (hc : f.sames.length < 40) (h : Seg l k (sameT p)) : lineR l f k = .ok ({ f with sames := f.sames ++ [p] }, k + (sameT p).length) := by
 unfold sameT at *
 obtain ⟨⟨_, s0⟩, h⟩ := h.cons
 obtain ⟨⟨_, s1⟩, h⟩ := h.cons
 obtain ⟨⟨_, s2⟩, h⟩ := h.cons
 obtain ⟨⟨_, s3⟩, h⟩ := h.cons
 obtain ⟨⟨_, s4⟩, h⟩ := h.cons
 obtain ⟨⟨_, s5⟩, h⟩ := h.cons
 obtain ⟨⟨_, s6⟩, h⟩ := h.cons
 obtain ⟨⟨_, s7⟩, h⟩ := h.cons
 obtain ⟨⟨_, s8⟩, h⟩ := h.cons
 obtain ⟨⟨_, s9⟩, h⟩ := h.cons
 have e0 : ∀ s, isW (tk l k) s = decide (([115, 97, 109, 101] : List UInt8) = s) := fun s => by rw [isW_sim s0, isW_N]
 have hc' : ¬ (40 <= f.sames.length) := by omega
 simp [lineR, itemR, sameR, halfR, fullR, andR, e0, hc', nameR_sim s1, signR_sim s2, nameR_sim s3, signR_sim s4, nameR_sim s5, signR_sim s6, nameR_sim s7, signR_sim s8, signR_sim s9]
theorem line_keep {p : Kp} (ho : okKeep p = true) {f : Fl} {k : Nat} (hc : f.keeps.length < 40) (h : Seg l k (keepT p)) : lineR l f k = .ok ({ f with keeps := f.keeps ++ [p] }, k + (keepT p).length) := by
 unfold keepT at *
 obtain ⟨⟨_, s0⟩, h⟩ := h.cons
 obtain ⟨⟨_, s1⟩, h⟩ := h.cons
 obtain ⟨⟨_, s2⟩, h⟩ := h.cons
 obtain ⟨⟨_, s3⟩, h⟩ := h.cons
 obtain ⟨⟨_, s4⟩, h⟩ := h.cons
 have e0 : ∀ s, isW (tk l k) s = decide (([107, 101, 101, 112] : List UInt8) = s) := fun s => by rw [isW_sim s0, isW_N]
 unfold okKeep at ho
 simp only [Bool.and_eq_true, decide_eq_true_eq] at ho
 have hc' : ¬ (40 <= f.keeps.length) := by omega
 simp [lineR, itemR, keepR, fullR, andR, e0, hc', sideR_sim ho.2 s1, nameR_sim s2, nameR_sim s3, signR_sim s4]
theorem line_watch {p : Wt} (ho : okWatch p = true) {f : Fl} {k : Nat} (hc : f.watches.length < 40) (h : Seg l k (watchT p)) : lineR l f k = .ok ({ f with watches := f.watches ++ [p] }, k + (watchT p).length) := by
 unfold watchT at *
 obtain ⟨⟨_, s0⟩, h⟩ := h.cons
 obtain ⟨⟨_, s1⟩, h⟩ := h.cons
 obtain ⟨⟨_, s2⟩, h⟩ := h.cons
 obtain ⟨⟨_, s3⟩, h⟩ := h.cons
 obtain ⟨⟨_, s4⟩, h⟩ := h.cons
 have e0 : ∀ s, isW (tk l k) s = decide (([119, 97, 116, 99, 104] : List UInt8) = s) := fun s => by rw [isW_sim s0, isW_N]
 unfold okWatch at ho
 simp only [Bool.and_eq_true, decide_eq_true_eq] at ho
 have hc' : ¬ (40 <= f.watches.length) := by omega
 simp [lineR, itemR, keepR, fullR, andR, e0, hc', sideR_sim ho.2 s1, nameR_sim s2, nameR_sim s3, signR_sim s4]
theorem prX_ok {x : Ex} (h : (prX x).2 = 0) : okX x = true ∧ 1 + hX x <= 60 ∧ (prX x).1 = joinL (exW x) := by
 unfold prX at *
 split at h
 ·rename_i c
  split at h
  ·cases h
  ·rename_i c2
   rw [if_pos c, if_neg c2]
   exact ⟨c, by omega, rfl⟩
 ·cases h
theorem line_break {b : Bk} (ho : okBreak b = true) {f : Fl} {k : Nat} (hc : f.breaks.length < 40) (h : Seg l k (breakT b)) : lineR l f k = .ok ({ f with breaks := f.breaks ++ [b] }, k + (breakT b).length) := by
 unfold breakT at *
 obtain ⟨⟨_, s0⟩, h⟩ := h.cons
 obtain ⟨⟨_, s1⟩, h⟩ := h.cons
 obtain ⟨⟨_, s2⟩, h⟩ := h.cons
 obtain ⟨⟨_, s3⟩, h⟩ := h.cons
 have e0 : ∀ s, isW (tk l k) s = decide (([98, 114, 101, 97, 107] : List UInt8) = s) := fun s => by rw [isW_sim s0, isW_N]
 unfold okBreak at ho
 simp only [Bool.and_eq_true, decide_eq_true_eq] at ho
 have hc' : ¬ (40 <= f.breaks.length) := by omega
 obtain ⟨side, prc, mark, whn⟩ := b
 simp only at *
 match whn, ho with
 | [], ho =>
  have h' : Seg l (k + 1 + 1 + 1 + 1) [tS [59]] := h
  obtain ⟨⟨_, s4⟩, _⟩ := h'.cons
  have e4 : ∀ s, isW (tk l (k + 1 + 1 + 1 + 1)) s = false := fun s => by rw [isW_sim s4, isW_S]
  simp [lineR, itemR, stopR, whenR, whenT, fullR, andR, e0, hc', sideR_sim ho.1.1.1.2 s1, nameR_sim s2, intR_sim s3, e4, signR_sim s4]
 | [x], ho =>
  have hx : (prX x).2 = 0 := by simpa [okWhen] using ho.2
  obtain ⟨x1, x2, _⟩ := prX_ok hx
  have h' : Seg l (k + 1 + 1 + 1 + 1) (tN [119, 104, 101, 110] :: (exT x ++ [tS [59]])) := by simpa [whenT] using h
  obtain ⟨⟨_, s4⟩, h⟩ := h'.cons
  obtain ⟨g1, h⟩ := h.app
  obtain ⟨⟨k5, s5⟩, _⟩ := h.cons
  have e4 : ∀ s, isW (tk l (k + 1 + 1 + 1 + 1)) s = decide (([119, 104, 101, 110] : List UInt8) = s) := fun s => by rw [isW_sim s4, isW_N]
  have e5 := (back_x x x1 l 1 (k + 1 + 1 + 1 + 1 + 1) x2 g1 k5 (by rw [isT_sim s5]; rfl)).2 (by rw [signT_sim s5]; rfl)
  have e6 := part_ok (l := l) (d := 1) (k := k + 1 + 1 + 1 + 1 + 1) (r := tightW l 1 1 (k + 1 + 1 + 1 + 1 + 1)) (seg_opens g1 (exT_opens x x1)) (by decide)
  have e56 := e6.trans e5
  simp [lineR, itemR, stopR, whenR, whenT, fullR, andR, e0, hc', sideR_sim ho.1.1.1.2 s1, nameR_sim s2, intR_sim s3, e4, e56, signR_sim s5]
  omega
 | x :: y :: r, ho =>
  have := ho.1.2
  simp only [List.length_cons] at this
  omega
theorem reads_lines {α : Type} (w : α -> List Tk) (add : Fl -> α -> Fl) (cnt : Fl -> Nat) (ok : α -> Prop) (hw : ∀ p, ∃ t u, w p = t :: u ∧ t.kind ≠ 0) (hc : ∀ f p, cnt (add f p) = cnt f + 1)
  (step : ∀ f p k, ok p -> cnt f < 40 -> Seg l k (w p) -> lineR l f k = .ok (add f p, k + (w p).length)) :
  ∀ (ps : List α) (f : Fl) (k n : Nat), (∀ p ∈ ps, ok p) -> cnt f + ps.length <= 40 -> Seg l k (linesT w ps) -> fileR l (n + ps.length) f k = fileR l n (ps.foldl add f) (k + (linesT w ps).length)
 | [], f, k, n, _, _, _ => rfl
 | p :: ps, f, k, n, ho, hn, h => by
  rw [List.length_cons] at hn
  obtain ⟨h1, h2⟩ := Seg.app (a := w p) (b := linesT w ps) h
  obtain ⟨t, u, h3, h4⟩ := hw p
  have h5 : (tk l k).kind ≠ 0 := by
   rw [h3] at h1
   rw [<- h1.cons.1.2.1]; exact h4
  have h6 := step f p k (ho p List.mem_cons_self) (by omega) h1
  show fileR l ((n + ps.length) + 1) f k = _
  rw [fileR, if_neg h5, h6]
  simp only
  rw [reads_lines w add cnt ok hw hc step ps (add f p) _ n (fun q hq => ho q (List.mem_cons_of_mem _ hq)) (by rw [hc]; omega) h2]
  simp [linesT, Nat.add_assoc]
theorem fold_pairs : ∀ (ps : List Pai) (f : Fl), ps.foldl (fun f p => { f with pairs := f.pairs ++ [p] }) f = { f with pairs := f.pairs ++ ps }
 | [], f => by simp
 | p :: ps, f => by rw [List.foldl_cons, fold_pairs ps]; simp
theorem fold_sames : ∀ (ps : List Pai) (f : Fl), ps.foldl (fun f p => { f with sames := f.sames ++ [p] }) f = { f with sames := f.sames ++ ps }
 | [], f => by simp
 | p :: ps, f => by rw [List.foldl_cons, fold_sames ps]; simp
theorem fold_keeps : ∀ (ps : List Kp) (f : Fl), ps.foldl (fun f p => { f with keeps := f.keeps ++ [p] }) f = { f with keeps := f.keeps ++ ps }
 | [], f => by simp
 | p :: ps, f => by rw [List.foldl_cons, fold_keeps ps]; simp
theorem fold_breaks : ∀ (ps : List Bk) (f : Fl), ps.foldl (fun f p => { f with breaks := f.breaks ++ [p] }) f = { f with breaks := f.breaks ++ ps }
 | [], f => by simp
 | p :: ps, f => by rw [List.foldl_cons, fold_breaks ps]; simp
theorem fold_watches : ∀ (ps : List Wt) (f : Fl), ps.foldl (fun f p => { f with watches := f.watches ++ [p] }) f = { f with watches := f.watches ++ ps }
 | [], f => by simp
 | p :: ps, f => by rw [List.foldl_cons, fold_watches ps]; simp
end
def Alike (a b : List (List UInt8)) : Prop := joinL a = joinL b ∧ (a = [] ↔ b = [])
theorem Alike.refl (a : List (List UInt8)) : Alike a a := ⟨rfl, Iff.rfl⟩
theorem Alike.app {a b c d : List (List UInt8)} (h : Alike a c) (g : Alike b d) : Alike (a ++ b) (c ++ d) := by
 refine ⟨?_, by rw [List.append_eq_nil_iff, List.append_eq_nil_iff, h.2, g.2]⟩
 by_cases ha : a = []
 ·have hc := h.2.1 ha
  rw [ha, hc]; exact g.1
 ·have hc : c ≠ [] := fun e => ha (h.2.2 e)
  by_cases hb : b = []
  ·have hd := g.2.1 hb
   rw [hb, hd, List.append_nil, List.append_nil]; exact h.1
  ·have hd : d ≠ [] := fun e => hb (g.2.2 e)
   rw [joinL_app a ha hb, joinL_app c hc hd, h.1, g.1]
theorem Alike.one {a : List (List UInt8)} (h : a ≠ []) : Alike a [joinL a] := ⟨rfl, by simp [h]⟩
theorem whenT_alike : ∀ {l : List Ex}, okWhen l = true -> (∀ x ∈ l, ExOk x) -> Alike ((whenT l).map wrT) (whenW l) ∧ ∀ t ∈ whenT l, GoodT t
 | [], _, _ => ⟨Alike.refl _, nofun⟩
 | x :: l, h, ho => by
  rw [okWhen, Bool.and_eq_true, decide_eq_true_eq] at h
  obtain ⟨x1, _, x3⟩ := prX_ok h.1
  obtain ⟨w1, w2⟩ := exT_words x x1 (ho x List.mem_cons_self)
  obtain ⟨i1, i2⟩ := whenT_alike h.2 fun y hy => ho y (List.mem_cons_of_mem _ hy)
  refine ⟨?_, fun t ht => ?_⟩
  ·rw [whenT, whenW, x3, List.map_cons, List.map_append, w1, wrT_N]
   exact Alike.app (Alike.refl [[119, 104, 101, 110]]) (Alike.app (c := [joinL (exW x)]) (Alike.one (exW_ne x)) i1)
  ·rw [whenT] at ht
   rcases List.mem_cons.1 ht with rfl | ht
   ·exact good_N (by decide)
   rcases List.mem_append.1 ht with ht | ht
   ·exact w2 t ht
   ·exact i2 t ht
theorem breakT_alike {b : Bk} (h : okBreak b = true) (ho : BkOk b) : Alike ((breakT b).map wrT) (breakW b) ∧ ∀ t ∈ breakT b, GoodT t := by
 unfold okBreak at h
 simp only [Bool.and_eq_true, decide_eq_true_eq] at h
 obtain ⟨i1, i2⟩ := whenT_alike h.2 ho.whn.2
 refine ⟨?_, fun t ht => ?_⟩
 ·unfold breakT breakW
  rw [List.map_cons, List.map_cons, List.map_cons, List.map_cons, List.map_append]
  exact Alike.app (a := [_, _, _, _]) (c := [_, _, _, _]) (Alike.refl _) (i1.app (Alike.refl _))
 ·unfold breakT at ht
  rcases List.mem_cons.1 ht with rfl | ht
  ·exact good_N (by decide)
  rcases List.mem_cons.1 ht with rfl | ht
  ·exact good_N (sideT_isN _)
  rcases List.mem_cons.1 ht with rfl | ht
  ·exact good_N h.1.1.1.1
  rcases List.mem_cons.1 ht with rfl | ht
  ·exact ⟨by simp [wrOk, tI, h.1.1.2], ⟨by simp [tI], (by decide : (Lit.int .i64 2).wf = true), ho.mark, (by decide : (Lit.int .i64 0).wf = true)⟩⟩
  rcases List.mem_append.1 ht with ht | ht
  ·exact i2 t ht
  ·rw [List.mem_singleton.1 ht]; exact good_S (by decide) (by decide)
theorem pairT_alike {p : Pai} (h : okPair p = true) : Alike ((pairT p).map wrT) (pairW p) ∧ ∀ t ∈ pairT p, GoodT t := by
 unfold okPair at h
 simp only [Bool.and_eq_true, decide_eq_true_eq] at h
 refine ⟨Alike.refl _, fun t ht => ?_⟩
 simp only [pairT, List.mem_cons, List.not_mem_nil, or_false] at ht
 rcases ht with rfl | rfl | rfl | rfl
 ·exact good_N (by decide)
 ·exact good_N h.1.1.1
 ·exact good_N h.1.1.2
 ·exact good_S (by decide) (by decide)
theorem sameT_alike {p : Pai} (h : okSame p = true) : Alike ((sameT p).map wrT) (sameW p) ∧ ∀ t ∈ sameT p, GoodT t := by
 unfold okSame at h
 simp only [Bool.and_eq_true, decide_eq_true_eq] at h
 refine ⟨Alike.refl _, fun t ht => ?_⟩
 simp only [sameT, List.mem_cons, List.not_mem_nil, or_false] at ht
 rcases ht with rfl | rfl | rfl | rfl | rfl | rfl | rfl | rfl | rfl | rfl
 ·exact good_N (by decide)
 ·exact good_N h.1.1.1
 ·exact good_S (by decide) (by decide)
 ·exact good_N h.1.2
 ·exact good_S (by decide) (by decide)
 ·exact good_N h.1.1.2
 ·exact good_S (by decide) (by decide)
 ·exact good_N h.2
 ·exact good_S (by decide) (by decide)
 ·exact good_S (by decide) (by decide)
theorem keepT_alike {p : Kp} (h : okKeep p = true) : Alike ((keepT p).map wrT) (keepW p) ∧ ∀ t ∈ keepT p, GoodT t := by
 unfold okKeep at h
 simp only [Bool.and_eq_true, decide_eq_true_eq] at h
 refine ⟨Alike.refl _, fun t ht => ?_⟩
 simp only [keepT, List.mem_cons, List.not_mem_nil, or_false] at ht
 rcases ht with rfl | rfl | rfl | rfl | rfl
 ·exact good_N (by decide)
 ·exact good_N (sideT_isN _)
 ·exact good_N h.1.1
 ·exact good_N h.1.2
 ·exact good_S (by decide) (by decide)
theorem watchT_alike {p : Wt} (h : okWatch p = true) : Alike ((watchT p).map wrT) (watchW p) ∧ ∀ t ∈ watchT p, GoodT t := by
 unfold okWatch at h
 simp only [Bool.and_eq_true, decide_eq_true_eq] at h
 refine ⟨Alike.refl _, fun t ht => ?_⟩
 simp only [watchT, List.mem_cons, List.not_mem_nil, or_false] at ht
 rcases ht with rfl | rfl | rfl | rfl | rfl
 ·exact good_N (by decide)
 ·exact good_N (sideT_isN _)
 ·exact good_N h.1.1
 ·exact good_N h.1.2
 ·exact good_S (by decide) (by decide)
end Go.Proofs.YtmhnmelaodhemaaDoor
namespace Go.Proofs.YtmhnmelaodhemaaDoor
open Go Go.Proofs.Ab
namespace law12_DeclMany
noncomputable abbrev e (p : List Nat) := ev Sp (den Sp) id Tryd.f4.ntmps (cAt (bodyOf Tryd.f4) p)
noncomputable abbrev cn (n0 : List Nat) := canon Sp id n0
noncomputable abbrev K : K := kFin Sp (den Sp) Tryd.f4 0
noncomputable def L1_1_1_1_1_0_1_0 (i0 : Int) (s1 s2 : ByteArray) (i3 : Int) : Option Res := LP (e [1, 1, 1, 1, 1, 0, 1, 0, 0]) (cn []) (kBlk 0 (kSeq (e [1, 1, 1, 1, 1, 1]) (K))) ([(0, (V.int .i64 i0)), (6, (V.str s1)), (7, (V.str s2)), (8, (V.int .i64 i3))], ⟨[], [], [], [], none⟩)
theorem L1_1_1_1_1_0_1_0_eq (i0 : Int) (s1 s2 : ByteArray) (i3 : Int) : L1_1_1_1_1_0_1_0 i0 s1 s2 i3 =
  (bif (decide (i3 < i0)) then (if (((ByteArray.size s2) + (ByteArray.size s1)) <= most) then (L1_1_1_1_1_0_1_0 i0 s1 (s2 ++ s1) (IntKind.wrap .i64 (i3 + (1 : Int)))) else none) else (den Sp decl_Parse.id [V.str s2] [] none).bind (fun r21 => Res.onRet r21 (fun v22 => V.asTup v22 3 (fun rd23 => V.asAgg (rd23 0) 5 (fun rd24 => V.asSl (rd24 0) T_api_Pair (fun es25 => V.asSl (rd24 1) T_api_Pair (fun es26 => V.asSl (rd24 2) T_decl_Keep (fun es27 => V.asSl (rd24 3) T_decl_Break (fun es28 => V.asSl (rd24 4) T_decl_Watch (fun es29 => V.asInt (rd23 1) .i64 (fun n30 => V.asInt (rd23 2) .i64 (fun n31 => bif (decide (i0 > (40 : Int))) then (bif (n31 == (2 : Int)) then (bif (n30 == (IntKind.wrap .i64 ((40 : Int) * (((ByteArray.size s1) : Nat) : Int)))) then (den Sp law12_known.id [] [] none).bind (fun r34 => Res.onRet r34 (fun v35 => V.asBool v35 (fun b36 => some ⟨Out.ret (V.bool b36), [], none⟩))) else (some ⟨Out.ret (V.bool false), [], none⟩)) else (some ⟨Out.ret (V.bool false), [], none⟩)) else (bif (n31 == (0 : Int)) then (bif ((IntKind.wrap .i64 ((IntKind.wrap .i64 ((IntKind.wrap .i64 ((IntKind.wrap .i64 ((es25.length : Int) + (es26.length : Int))) + (es27.length : Int))) + (es28.length : Int))) + (es29.length : Int))) == i0) then (den Sp law12_known.id [] [] none).bind (fun r34 => Res.onRet r34 (fun v35 => V.asBool v35 (fun b36 => some ⟨Out.ret (V.bool b36), [], none⟩))) else (some ⟨Out.ret (V.bool false), [], none⟩)) else (some ⟨Out.ret (V.bool false), [], none⟩)))))))))))))) := (LP_eq ..).trans (by kernel_rfl)
theorem eq (a0 a1 : Int) : den Sp id [V.int .i64 a0, V.int .i64 a1] [] none =
  (den Sp ref01_Among.id [V.int .i64 a0, V.int .i64 (60 : Int)] [] none).bind (fun r4 => Res.onRet r4 (fun v5 => V.asInt v5 .i64 (fun n6 => (den Sp ref01_Among.id [V.int .i64 a1, V.int .i64 (5 : Int)] [] none).bind (fun r9 => Res.onRet r9 (fun v10 => V.asInt v10 .i64 (fun n11 => if (((0 : Int) <= n11) ∧ (n11 < ((5 : Nat) : Int))) then (V.asStr (List.getD (List.getD [[V.str (ByteArray.mk #[112, 97, 105, 114, 32, 102, 32, 103, 32, 59, 32])], [V.str (ByteArray.mk #[115, 97, 109, 101, 32, 102, 32, 40, 32, 120, 32, 41, 32, 103, 32, 40, 32, 121, 32, 41, 32, 59, 32])], [V.str (ByteArray.mk #[107, 101, 101, 112, 32, 108, 101, 102, 116, 32, 102, 32, 120, 32, 59, 32])], [V.str (ByteArray.mk #[98, 114, 101, 97, 107, 32, 114, 105, 103, 104, 116, 32, 102, 32, 49, 32, 59, 32])], [V.str (ByteArray.mk #[119, 97, 116, 99, 104, 32, 108, 101, 102, 116, 32, 102, 32, 120, 32, 59, 32])]] (Int.toNat n11) []) 0 V.undef) (fun s12 => L1_1_1_1_1_0_1_0 n6 s12 (ByteArray.mk #[]) (0 : Int))) else none)))))) := (den_eq ..).trans (by kernel_rfl)
end law12_DeclMany
namespace ref01_Among
theorem eq (a0 a1 : Int) : den Sp id [V.int .i64 a0, V.int .i64 a1] [] none =
  (bif (decide (a1 < (1 : Int))) then (some ⟨Out.ret (V.int .i64 (0 : Int)), [], none⟩) else (if (a1 = (0 : Int)) then none else (bif (decide ((Int.tmod a0 a1) < (0 : Int))) then (some ⟨Out.ret (V.int .i64 (IntKind.wrap .i64 ((Int.tmod a0 a1) + a1))), [], none⟩) else (some ⟨Out.ret (V.int .i64 (Int.tmod a0 a1)), [], none⟩)))) := (den_eq ..).trans (by kernel_rfl)
end ref01_Among
end Go.Proofs.YtmhnmelaodhemaaDoor
namespace Go.Proofs.YtmhnmelaodhemaaDoor
open Go Go.Proofs.Ab Go.Proofs.Px
def repN {α : Type} (x : List α) : Nat -> List α
 | 0 => []
 | n + 1 => x ++ repN x n
theorem repN_snoc {α : Type} (x : List α) : ∀ n, repN x (n + 1) = repN x n ++ x
 | 0 => by simp [repN]
 | n + 1 => by
  show x ++ repN x (n + 1) = (x ++ repN x n) ++ x
  rw [repN_snoc x n, List.append_assoc]
theorem repN_add {α : Type} (x : List α) : ∀ n m, repN x (n + m) = repN x n ++ repN x m
 | 0, m => by simp [repN]
 | n + 1, m => by
  rw [show n + 1 + m = (n + m) + 1 by omega]
  show x ++ repN x (n + m) = (x ++ repN x n) ++ repN x m
  rw [repN_add x n m, List.append_assoc]
theorem repN_len {α : Type} (x : List α) : ∀ n, (repN x n).length = n * x.length
 | 0 => by simp [repN]
 | n + 1 => by rw [repN, List.length_append, repN_len x n, Nat.add_mul]; omega
def flatJ : List Tk -> List UInt8
 | [] => []
 | t :: ts => wrT t ++ 32 :: flatJ ts
theorem flatJ_app : ∀ a b : List Tk, flatJ (a ++ b) = flatJ a ++ flatJ b
 | [], b => rfl
 | t :: a, b => by rw [List.cons_append, flatJ, flatJ, flatJ_app a b, List.append_assoc, List.cons_append]
theorem flatJ_rep (t : List Tk) : ∀ n, flatJ (repN t n) = repN (flatJ t) n
 | 0 => rfl
 | n + 1 => by rw [repN, flatJ_app, flatJ_rep t n, repN]
def placed : Nat -> List Tk -> List Tk
 | _, [] => []
 | p, t :: ts => ⟨t.kind, t.text, t.num, (p : Int)⟩ :: placed (p + (wrT t).length + 1) ts
theorem placed_len : ∀ (p : Nat) (ts : List Tk), (placed p ts).length = ts.length
 | _, [] => rfl
 | p, t :: ts => by rw [placed, List.length_cons, placed_len _ ts, List.length_cons]
theorem placed_sim : ∀ (ts : List Tk) (p i : Nat) (h : i < ts.length), SimT ts[i] ((placed p ts)[i]'(by rw [placed_len]; exact h))
 | t :: ts, p, 0, h => ⟨rfl, rfl, rfl⟩
 | t :: ts, p, i + 1, h => placed_sim ts _ i (by simpa using h)
theorem placed_at : ∀ (a : List Tk) (t : Tk) (b : List Tk) (p : Nat), ((placed p (a ++ t :: b)).getD a.length ⟨0, [], 0, 0⟩).at_ = ((p + (flatJ a).length : Nat) : Int)
 | [], t, b, p => by simp [placed, flatJ]
 | u :: a, t, b, p => by
  have := placed_at a t b (p + (wrT u).length + 1)
  rw [List.cons_append, placed, List.length_cons, List.getD_cons_succ, this, flatJ, List.length_append, List.length_cons]
  congr 1; omega
theorem sk_flat : ∀ {ts : List Tk}, (∀ t ∈ ts, GoodT t) -> sk false (flatJ ts) = flatJ ts
 | [], _ => rfl
 | t :: ts, h => by
  have ht := h t List.mem_cons_self
  exact sk_back ht.1 ht.2 _
theorem scan_flat (N : Nat) : ∀ (ts : List Tk) (f : Nat) (out : List Tk) (r : List UInt8), (∀ t ∈ ts, GoodT t) -> sk false r = flatJ ts -> ts.length < f -> out.length + ts.length < 4000 -> (flatJ ts).length <= N ->
  scanGo f N out r = (out ++ (placed (N - (flatJ ts).length) ts ++ [⟨0, [], 0, (N : Int)⟩]), 0, 0)
 | [], 0, out, r, _, _, hf, _, _ => by simp at hf
 | [], f + 1, out, r, _, hr, _, ho, _ => by
  have hr : sk false r = [] := hr
  rw [scanGo_succ, hr]
  have hn : next [] (((N - ([] : List UInt8).length : Nat) : Int)) = (⟨0, [], 0, (N : Int)⟩, 0, true) := rfl
  rw [hn]
  dsimp only
  rw [if_neg (fun h => Bool.noConfusion h), if_neg (by simp at ho; omega), if_pos rfl]; rfl
 | t :: ts, 0, out, r, _, _, hf, _, _ => by simp at hf
 | t :: ts, f + 1, out, r, hg, hr, hf, ho, hN => by
  have ht := hg t List.mem_cons_self
  have hts : ∀ u ∈ ts, GoodT u := fun u hu => hg u (List.mem_cons_of_mem _ hu)
  have hr : sk false r = wrT t ++ 32 :: flatJ ts := hr
  have hlen : (flatJ (t :: ts)).length = (wrT t).length + ((flatJ ts).length + 1) := by rw [flatJ, List.length_append, List.length_cons]
  have hlen2 : (wrT t ++ 32 :: flatJ ts).length = (flatJ (t :: ts)).length := rfl
  rw [scanGo_succ, hr, hlen2]
  have hnx := (next_back ht.1 ht.2 (r := 32 :: flatJ ts) (.inr ⟨_, rfl⟩) (((N - (flatJ (t :: ts)).length : Nat) : Int))).1
  rw [hnx]
  dsimp only
  have hk0 := wrOk_kind ht.1
  rw [List.length_cons] at ho hf
  rw [if_neg (fun h => Bool.noConfusion h), if_neg (by omega), if_neg hk0, List.drop_append_of_le_length (Nat.le_refl _), List.drop_length, List.nil_append]
  have hsk : sk false (32 :: flatJ ts) = flatJ ts := by
   have : sk false (32 :: flatJ ts) = sk false (flatJ ts) := by simp [sk]
   rw [this, sk_flat hts]
  have ih := scan_flat N ts f (out ++ [⟨t.kind, t.text, t.num, ((N - (flatJ (t :: ts)).length : Nat) : Int)⟩]) (32 :: flatJ ts) hts hsk (by omega) (by rw [List.length_append, List.length_singleton]; omega) (by omega)
  rw [ih, placed]
  rw [show N - (flatJ (t :: ts)).length + (wrT t).length + 1 = N - (flatJ ts).length by omega]
  simp
section
variable {α : Type} (w : α -> List Tk) (add : Fl -> α -> Fl) (cnt : Fl -> Nat) (p : α)
theorem lines_rep : ∀ n, linesT w (List.replicate n p) = repN (w p) n
 | 0 => rfl
 | n + 1 => by rw [List.replicate_succ, linesT, lines_rep n, repN]
variable (hw : ∀ p, ∃ t u, w p = t :: u ∧ t.kind ≠ 0) (hc : ∀ f p, cnt (add f p) = cnt f + 1) (h0 : cnt emptyF = 0)
  (step : ∀ (l : List Tk) f k, cnt f < 40 -> Seg l k (w p) -> lineR l f k = .ok (add f p, k + (w p).length))
  (full : ∀ (l : List Tk) f k, 40 <= cnt f -> Seg l k (w p) -> lineR l f k = .error ((tk l k).at_, 2)) (hg : ∀ t ∈ w p, GoodT t)
include hw hc h0 step full hg
theorem cnt_fold : ∀ (n : Nat) (f : Fl), cnt ((List.replicate n p).foldl add f) = cnt f + n
 | 0, f => rfl
 | n + 1, f => by rw [List.replicate_succ, List.foldl_cons, cnt_fold n, hc]; omega
theorem many_read (n : Nat) (hn : n < 60) (hs : (w p).length <= 20) (hb : (flatJ (w p)).length <= 100) :
  (n <= 40 -> parseF (repN (flatJ (w p)) n) = ((List.replicate n p).foldl add emptyF, 0, 0)) ∧ (40 < n -> parseF (repN (flatJ (w p)) n) = (emptyF, ((40 * (flatJ (w p)).length : Nat) : Int), 2)) := by
 have hgr : ∀ n, ∀ t ∈ repN (w p) n, GoodT t := fun n => by
  induction n with
  | zero => exact nofun
  | succ n ih => intro t ht; exact (List.mem_append.1 ht).elim (hg t) (ih t)
 have hb2 : n * (flatJ (w p)).length <= 59 * 100 := Nat.mul_le_mul (by omega) hb
 have hs2 : n * (w p).length <= 59 * 20 := Nat.mul_le_mul (by omega) hs
 have hlS := repN_len (flatJ (w p)) n
 have hlT := repN_len (w p) n
 have hfl := flatJ_rep (w p) n
 have hsc : scan (repN (flatJ (w p)) n) = (placed 0 (repN (w p) n) ++ [⟨0, [], 0, ((repN (flatJ (w p)) n).length : Int)⟩], 0, 0) := by
  unfold scan
  rw [if_neg (by omega)]
  have := scan_flat (repN (flatJ (w p)) n).length (repN (w p) n) ((repN (flatJ (w p)) n).length + 1) [] (repN (flatJ (w p)) n) (hgr n) (by rw [<- hfl]; exact sk_flat (hgr n)) (by
   have hle : ∀ ts : List Tk, ts.length <= (flatJ ts).length := fun ts => by
    induction ts with
    | nil => exact Nat.le_refl _
    | cons t ts ih => rw [flatJ, List.length_append, List.length_cons, List.length_cons]; omega
   have := hle (repN (w p) n)
   rw [hfl] at this; omega) (by rw [List.length_nil]; omega) (by rw [hfl]; exact Nat.le_refl _)
  rw [this, hfl, Nat.sub_self, List.nil_append]
 generalize hus : placed 0 (repN (w p) n) ++ [(⟨0, [], 0, ((repN (flatJ (w p)) n).length : Int)⟩ : Tk)] = us at hsc
 have hul : us.length = n * (w p).length + 1 := by rw [<- hus, List.length_append, placed_len, hlT]; rfl
 have hat : ∀ k (h : k < us.length), tk us k = us[k] := fun k h => by
  unfold tk
  rw [List.getD_eq_getElem?_getD, List.getElem?_eq_getElem h]; rfl
 have seg : Seg us 0 (repN (w p) n) := fun i hi => by
  refine ⟨by omega, ?_⟩
  rw [Nat.zero_add, hat i (by omega)]
  subst hus
  rw [List.getElem_append_left (by rw [placed_len]; exact hi)]
  exact placed_sim _ _ i hi
 have hend : (tk us (n * (w p).length)).kind = 0 := by
  rw [hat _ (by omega)]
  subst hus
  rw [List.getElem_append_right (by rw [placed_len, hlT]; exact Nat.le_refl _)]
  simp
 unfold parseF
 rw [hsc, if_neg (by simp)]
 simp only
 have hnw : n <= n * (w p).length := by
  obtain ⟨t, u, e, _⟩ := hw p
  have : 1 <= (w p).length := by rw [e]; simp
  exact Nat.le_mul_of_pos_right n this
 refine ⟨fun h => ?_, fun h => ?_⟩
 ·have hr := reads_lines (l := us) w add cnt (fun q => q = p) hw hc (fun f q k e => by subst e; exact step us f k) (List.replicate n p) emptyF 0 (us.length + 1 - n) (fun q hq => (List.mem_replicate.1 hq).2) (by rw [h0, List.length_replicate]; omega) (by rw [lines_rep]; exact seg)
  rw [List.length_replicate, lines_rep, hlT, Nat.zero_add, show us.length + 1 - n + n = us.length + 1 by omega] at hr
  rw [hr, show us.length + 1 - n = (us.length - n) + 1 by omega, fileR, if_pos hend]; rfl
 ·have e40 : repN (w p) n = repN (w p) 40 ++ (w p ++ repN (w p) (n - 41)) := by
   rw [show n = 40 + ((n - 41) + 1) by omega, repN_add, show 40 + ((n - 41) + 1) - 41 = n - 41 by omega]; rfl
  have seg2 := seg
  rw [e40] at seg2
  obtain ⟨sa, sb⟩ := seg2.app
  obtain ⟨sc, _⟩ := sb.app
  have hr := reads_lines (l := us) w add cnt (fun q => q = p) hw hc (fun f q k e => by subst e; exact step us f k) (List.replicate 40 p) emptyF 0 (us.length + 1 - 40) (fun q hq => (List.mem_replicate.1 hq).2) (by rw [h0, List.length_replicate]; omega) (by rw [lines_rep]; exact sa)
  rw [List.length_replicate, lines_rep, show us.length + 1 - 40 + 40 = us.length + 1 by omega] at hr
  have hf := full us ((List.replicate 40 p).foldl add emptyF) (0 + (repN (w p) 40).length) (by rw [cnt_fold w add cnt p hw hc h0 step full hg, h0]; omega) sc
  have hk : (tk us (0 + (repN (w p) 40).length)).kind ≠ 0 := by
   obtain ⟨t, u, e, h4⟩ := hw p
   rw [e] at sc
   have := sc.cons.1.2.1
   rw [e] at *
   rw [<- this]; exact h4
  have hpos : (tk us (0 + (repN (w p) 40).length)).at_ = ((40 * (flatJ (w p)).length : Nat) : Int) := by
   obtain ⟨t, u, e, h4⟩ := hw p
   have e2 : repN (w p) n = repN (w p) 40 ++ t :: (u ++ repN (w p) (n - 41)) := by rw [e40]; congr 1; rw [e]; rfl
   have := placed_at (repN (w p) 40) t (u ++ repN (w p) (n - 41)) 0
   have hq : (flatJ (repN (w p) 40)).length = 40 * (flatJ (w p)).length := by rw [flatJ_rep, repN_len]
   rw [<- e2, hq, Nat.zero_add] at this
   rw [Nat.zero_add]
   unfold tk
   have hlt : (repN (w p) 40).length < (placed 0 (repN (w p) n)).length := by rw [placed_len, e2, List.length_append, List.length_cons]; omega
   rw [<- hus, List.getD_eq_getElem?_getD, List.getElem?_append_left hlt, <- List.getD_eq_getElem?_getD]
   exact this
  rw [hr, show us.length + 1 - 40 = (us.length - 40) + 1 by omega, fileR, if_neg hk, hf, hpos]; rfl
end
section
variable {l : List Tk} {f : Fl} {k : Nat}
theorem full_pair {p : Pai} (hc : 40 <= f.pairs.length) (h : Seg l k (pairT p)) : lineR l f k = .error ((tk l k).at_, 2) := by
 have e0 : ∀ s, isW (tk l k) s = decide (([112, 97, 105, 114] : List UInt8) = s) := fun s => by rw [isW_sim h.cons.1.2, isW_N]
 simp [lineR, itemR, fullR, andR, e0, hc]
theorem full_same {p : Pai} (hc : 40 <= f.sames.length) (h : Seg l k (sameT p)) : lineR l f k = .error ((tk l k).at_, 2) := by
 have e0 : ∀ s, isW (tk l k) s = decide (([115, 97, 109, 101] : List UInt8) = s) := fun s => by rw [isW_sim h.cons.1.2, isW_N]
 simp [lineR, itemR, fullR, andR, e0, hc]
theorem full_keep {p : Kp} (hc : 40 <= f.keeps.length) (h : Seg l k (keepT p)) : lineR l f k = .error ((tk l k).at_, 2) := by
 have e0 : ∀ s, isW (tk l k) s = decide (([107, 101, 101, 112] : List UInt8) = s) := fun s => by rw [isW_sim h.cons.1.2, isW_N]
 simp [lineR, itemR, fullR, andR, e0, hc]
theorem full_break {p : Bk} (hc : 40 <= f.breaks.length) (h : Seg l k (breakT p)) : lineR l f k = .error ((tk l k).at_, 2) := by
 have e0 : ∀ s, isW (tk l k) s = decide (([98, 114, 101, 97, 107] : List UInt8) = s) := fun s => by rw [isW_sim h.cons.1.2, isW_N]
 simp [lineR, itemR, fullR, andR, e0, hc]
theorem full_watch {p : Wt} (hc : 40 <= f.watches.length) (h : Seg l k (watchT p)) : lineR l f k = .error ((tk l k).at_, 2) := by
 have e0 : ∀ s, isW (tk l k) s = decide (([119, 97, 116, 99, 104] : List UInt8) = s) := fun s => by rw [isW_sim h.cons.1.2, isW_N]
 simp [lineR, itemR, fullR, andR, e0, hc]
end
theorem ref01_Among_is' (k n : Int) (hn : 0 < n) (hn2 : n <= 4611686018427387904) : den Sp ref01_Among.id [.int .i64 k, .int .i64 n] [] none = some ⟨.ret (.int .i64 (k % n)), [], none⟩ := by
 rw [ref01_Among.eq]
 have e1 : ¬ (n < 1) := by omega
 have e2 : ¬ (n = 0) := by omega
 rw [decide_eq_false e1, cond_false, if_neg e2]
 have h3 := Int.emod_nonneg k e2
 have h4 := Int.emod_lt_of_pos k hn
 have h5 := Int.tmod_eq_emod (a := k) (b := n)
 by_cases hc : 0 <= k ∨ n ∣ k
 ·rw [if_pos hc] at h5
  have h5 : Int.tmod k n = k % n := by rw [h5]; simp
  have e3 : ¬ (Int.tmod k n < 0) := by omega
  rw [decide_eq_false e3, cond_false, h5]
 ·rw [if_neg hc] at h5
  have e4 : ((n.natAbs : Nat) : Int) = n := by omega
  rw [e4] at h5
  have e3 : Int.tmod k n < 0 := by omega
  rw [decide_eq_true e3, cond_true, wrap_in (by omega) (by omega)]
  have : Int.tmod k n + n = k % n := by omega
  rw [this]
theorem many_den (one : List UInt8) (n : Nat) (hn : n < 60) (h1 : one.length <= 100) (g : Fl) (hg : n <= 40 -> parseF (repN one n) = (g, 0, 0) ∧ g.pairs.length + g.sames.length + g.keeps.length + g.breaks.length + g.watches.length = n)
  (hb : 40 < n -> parseF (repN one n) = (emptyF, ((40 * one.length : Nat) : Int), 2)) :
  law12_DeclMany.L1_1_1_1_1_0_1_0 (n : Int) (B one) (B []) 0 = some ⟨.ret (.bool true), [], none⟩ := by
 have hbd : ∀ i, i <= n -> i * one.length <= 59 * 100 := fun i hi => Nat.mul_le_mul (by omega) h1
 have key : ∀ i : Nat, i <= n -> law12_DeclMany.L1_1_1_1_1_0_1_0 (n : Int) (B one) (B (repN one i)) (i : Int) = some ⟨.ret (.bool true), [], none⟩ := by
  refine down ?_ fun i hi ih => ?_
  ·have hl := repN_len one n
   have hp := decl_Parse_is (repN one n) (by have := hbd n (Nat.le_refl _); omega)
   rw [law12_DeclMany.L1_1_1_1_1_0_1_0_eq, decide_eq_false (Int.lt_irrefl _), cond_false, law12_known_is]
   by_cases c : 40 < n
   ·rw [hb c] at hp
    unfold parseV emptyF Fl.dv at hp
    have w : IntKind.i64.wrap (40 * (one.length : Int)) = 40 * (one.length : Int) := wrap_in (by omega) (by omega)
    have c' : ((n : Int) > 40) := by omega
    simp [hp, c, c', w]
   ·obtain ⟨h2, h3⟩ := hg (by omega)
    rw [h2] at hp
    unfold parseV Fl.dv at hp
    have c' : ¬ ((n : Int) > 40) := by omega
    have w1 : IntKind.i64.wrap ((g.pairs.length : Int) + (g.sames.length : Int)) = (g.pairs.length : Int) + (g.sames.length : Int) := wrap_in (by omega) (by omega)
    have w2 : IntKind.i64.wrap ((g.pairs.length : Int) + (g.sames.length : Int) + (g.keeps.length : Int)) = (g.pairs.length : Int) + (g.sames.length : Int) + (g.keeps.length : Int) := wrap_in (by omega) (by omega)
    have w3 : IntKind.i64.wrap ((g.pairs.length : Int) + (g.sames.length : Int) + (g.keeps.length : Int) + (g.breaks.length : Int)) = (g.pairs.length : Int) + (g.sames.length : Int) + (g.keeps.length : Int) + (g.breaks.length : Int) := wrap_in (by omega) (by omega)
    have w4 : IntKind.i64.wrap ((g.pairs.length : Int) + (g.sames.length : Int) + (g.keeps.length : Int) + (g.breaks.length : Int) + (g.watches.length : Int)) = (n : Int) := by rw [wrap_in (by omega) (by omega)]; omega
    simp [hp, c, c', w1, w2, w3, w4]
  ·have hl := repN_len one i
   have := hbd i (by omega)
   have w := wrap_nat (i := i) (by omega)
   rw [law12_DeclMany.L1_1_1_1_1_0_1_0_eq, decide_eq_true (show (i : Int) < (n : Int) by omega), cond_true, B_size, B_size, if_pos (by show _ <= 1099511627776; omega), B_append, <- repN_snoc, w, ih]
 exact key 0 (Nat.zero_le _)
theorem declMany_den (a : Int) (ha : (Lit.int .i64 a).wf = true) (b : Int) (hb : (Lit.int .i64 b).wf = true) : den Sp law12_DeclMany.id [.int .i64 a, .int .i64 b] [] none = some ⟨.ret (.bool true), [], none⟩ := by
 rw [law12_DeclMany.eq, ref01_Among_is' a 60 (by decide) (by decide), ref01_Among_is' b 5 (by decide) (by decide)]
 have a0 := Int.emod_nonneg a (show (60 : Int) ≠ 0 by decide)
 have a1 := Int.emod_lt_of_pos a (show (0 : Int) < 60 by decide)
 have b0 := Int.emod_nonneg b (show (5 : Int) ≠ 0 by decide)
 have b1 := Int.emod_lt_of_pos b (show (0 : Int) < 5 by decide)
 obtain ⟨n, hn⟩ : ∃ n : Nat, a % 60 = (n : Int) := ⟨(a % 60).toNat, by omega⟩
 rw [hn] at a1 ⊢
 have hn60 : n < 60 := by omega
 simp only [Option.bind_some, onRet_ret, asInt_int]
 rw [if_pos ⟨b0, by omega⟩]
 have five : b % 5 = 0 ∨ b % 5 = 1 ∨ b % 5 = 2 ∨ b % 5 = 3 ∨ b % 5 = 4 := by omega
 rcases five with e | e | e | e | e <;> rw [e]
 ·have h := many_read pairT (fun f p => { f with pairs := f.pairs ++ [p] }) (fun f => f.pairs.length) ⟨[102], [103], [], []⟩ (fun p => ⟨_, _, rfl, by decide⟩) (fun f p => by simp) rfl (fun l f k a b => line_pair (by decide) a b) (fun l f k a b => full_pair a b) (fun t ht => (pairT_alike (p := ⟨[102], [103], [], []⟩) (by decide)).2 t ht) n hn60 (by decide) (by decide)
  rw [fold_pairs] at h
  exact many_den _ n hn60 (by decide) { emptyF with pairs := [] ++ List.replicate n ⟨[102], [103], [], []⟩ } (fun c => ⟨h.1 c, by simp [emptyF]⟩) h.2
 ·have h := many_read sameT (fun f p => { f with sames := f.sames ++ [p] }) (fun f => f.sames.length) ⟨[102], [103], [120], [121]⟩ (fun p => ⟨_, _, rfl, by decide⟩) (fun f p => by simp) rfl (fun l f k a b => line_same a b) (fun l f k a b => full_same a b) (fun t ht => (sameT_alike (p := ⟨[102], [103], [120], [121]⟩) (by decide)).2 t ht) n hn60 (by decide) (by decide)
  rw [fold_sames] at h
  exact many_den _ n hn60 (by decide) { emptyF with sames := [] ++ List.replicate n ⟨[102], [103], [120], [121]⟩ } (fun c => ⟨h.1 c, by simp [emptyF]⟩) h.2
 ·have h := many_read keepT (fun f p => { f with keeps := f.keeps ++ [p] }) (fun f => f.keeps.length) ⟨0, [102], [120]⟩ (fun p => ⟨_, _, rfl, by decide⟩) (fun f p => by simp) rfl (fun l f k a b => line_keep (by decide) a b) (fun l f k a b => full_keep a b) (fun t ht => (keepT_alike (p := ⟨0, [102], [120]⟩) (by decide)).2 t ht) n hn60 (by decide) (by decide)
  rw [fold_keeps] at h
  exact many_den _ n hn60 (by decide) { emptyF with keeps := [] ++ List.replicate n ⟨0, [102], [120]⟩ } (fun c => ⟨h.1 c, by simp [emptyF]⟩) h.2
 ·have h := many_read breakT (fun f p => { f with breaks := f.breaks ++ [p] }) (fun f => f.breaks.length) ⟨1, [102], 1, []⟩ (fun p => ⟨_, _, rfl, by decide⟩) (fun f p => by simp) rfl (fun l f k a b => line_break (by decide) a b) (fun l f k a b => full_break a b) (fun t ht => (breakT_alike (b := ⟨1, [102], 1, []⟩) (by decide) ⟨by decide, by decide, by decide, by decide, nofun⟩).2 t ht) n hn60 (by decide) (by decide)
  rw [fold_breaks] at h
  exact many_den _ n hn60 (by decide) { emptyF with breaks := [] ++ List.replicate n ⟨1, [102], 1, []⟩ } (fun c => ⟨h.1 c, by simp [emptyF]⟩) h.2
 ·have h := many_read watchT (fun f p => { f with watches := f.watches ++ [p] }) (fun f => f.watches.length) ⟨0, [102], [120]⟩ (fun p => ⟨_, _, rfl, by decide⟩) (fun f p => by simp) rfl (fun l f k a b => line_watch (by decide) a b) (fun l f k a b => full_watch a b) (fun t ht => (watchT_alike (p := ⟨0, [102], [120]⟩) (by decide)).2 t ht) n hn60 (by decide) (by decide)
  rw [fold_watches] at h
  exact many_den _ n hn60 (by decide) { emptyF with watches := [] ++ List.replicate n ⟨0, [102], [120]⟩ } (fun c => ⟨h.1 c, by simp [emptyF]⟩) h.2
end Go.Proofs.YtmhnmelaodhemaaDoor
