/- Own texts under the law DeclPrints, merged, without what it does not lean on: part 5 of 6 (the abstract machine and its proof; residual forms; contracts; the plain law). -/
import Derived.Test.YtmhnmelaodhemaaGreatDoorDeclPrintsPackD
namespace Go.Proofs.YtmhnmelaodhemaaGreatDoor
open Go Go.Proofs.Ab Go.Proofs.Px
set_option linter.unusedVariables false
set_option linter.unusedSimpArgs false
set_option maxRecDepth 100000
def scopeP (name : List UInt8) (mark : Int) (v : Vr) : Bool := decide (v.name = name) && decide (v.frm ≤ mark) && decide (mark ≤ v.to)
def findV (name : List UInt8) (mark : Int) : List Vr → Option Vr
  | [] => none
  | v :: l => if scopeP name mark v then some v else findV name mark l
def arityP (k : Int) : Int := if k = 1 ∨ k = 2 ∨ k = 3 then 0 else if k = 4 ∨ k = 5 then 1 else if k = 6 then 2 else -1
def twoT (s : List UInt8) (a b : Int) : Int × Int :=
  if s = [43] ∨ s = [45] ∨ s = [42] ∨ s = [47] ∨ s = [37] then (if a = 1 ∧ b = 1 then (0, 1) else (41, 0))
  else if s = [60] ∨ s = [60, 61] then (if a = 1 ∧ b = 1 then (0, 2) else (41, 0))
  else if s = [38, 38] ∨ s = [124, 124] then (if a = 2 ∧ b = 2 then (0, 2) else (41, 0))
  else if s = [61, 61] ∨ s = [33, 61] then (if a = b then (0, 2) else (41, 0))
  else (32, 0)
def tyK (vs : List Vr) (mark : Int) (k : Int) (s : List UInt8) (m : Int) (n : Nat) (rs : List (Int × Int)) : Int × Int :=
  if arityP k ≠ (n : Int) then (32, 0)
  else if k = 1 then (if 0 ≤ m then (0, 1) else (32, 0))
  else if k = 2 then (if m = 0 ∨ m = 1 then (0, 2) else (32, 0))
  else if k = 3 then (match findV s mark vs with | none => (40, 0) | some v => if v.size = 0 then (0, v.type) else (41, 0))
  else match rs with
    | [a] => if k = 4 then (match findV s mark vs with | none => (40, 0) | some v => if 0 < v.size then (if a.1 ≠ 0 then (a.1, 0) else if a.2 = 1 then (0, 1) else (41, 0)) else (41, 0))
      else if a.1 ≠ 0 then (a.1, 0) else if s = [45] then (if a.2 = 1 then (0, a.2) else (41, 0)) else if s = [33] then (if a.2 = 2 then (0, a.2) else (41, 0)) else (32, 0)
    | [a, b] => if a.1 ≠ 0 then (a.1, 0) else if b.1 ≠ 0 then (b.1, 0) else twoT s a.2 b.2
    | _ => (32, 0)
mutual
def tyP (vs : List Vr) (mark : Int) : Ex → Int × Int
  | .mk k s m l => tyK vs mark k s m l.length (tyPs vs mark l)
def tyPs (vs : List Vr) (mark : Int) : List Ex → List (Int × Int)
  | [] => []
  | x :: l => tyP vs mark x :: tyPs vs mark l
end
mutual
def Stm.ends : Stm → Bool
  | .mk k _ _ _ _ b l => decide (k = 7) || (decide (k = 4) && Stm.endss b && Stm.endss l)
def Stm.endss : List Stm → Bool
  | [] => false
  | x :: l => Stm.ends x || Stm.endss l
end
def vrows (l : List (List Vr)) : List (List V) := l.map fun r => [.sl .no T_api_Var (r.map Vr.v)]
@[simp] theorem vrows_len (l : List (List Vr)) : (vrows l).length = l.length := by simp [vrows]
end Go.Proofs.YtmhnmelaodhemaaGreatDoor
namespace Go.Proofs.YtmhnmelaodhemaaGreatDoor
open Go Go.Proofs.Ab Go.Proofs.Px
set_option linter.unusedVariables false
set_option linter.unusedSimpArgs false
set_option maxRecDepth 100000
structure Pai where
  procA : List UInt8
  procB : List UInt8
  varA : List UInt8
  varB : List UInt8
  deriving DecidableEq
def Pai.v (x : Pai) : List V := [.str (B x.procA), .str (B x.procB), .str (B x.varA), .str (B x.varB)]
theorem Pai.v_mk (procA : List UInt8) (procB : List UInt8) (varA : List UInt8) (varB : List UInt8) : Pai.v ⟨procA, procB, varA, varB⟩ = [.str (B procA), .str (B procB), .str (B varA), .str (B varB)] := rfl
@[simp] theorem Pai.asAgg_v (x : Pai) (k : (Nat → V) → Option Res) : V.asAgg (.agg x.v) 4 k = k (fun j => x.v.getD j .undef) := asAgg_agg _ _ rfl k
@[simp] theorem Pai.v_0 (x : Pai) : x.v.getD 0 .undef = .str (B x.procA) := rfl
@[simp] theorem Pai.q_0 (x : Pai) : x.v[0]?.getD V.undef = .str (B x.procA) := rfl
@[simp] theorem Pai.v_1 (x : Pai) : x.v.getD 1 .undef = .str (B x.procB) := rfl
@[simp] theorem Pai.q_1 (x : Pai) : x.v[1]?.getD V.undef = .str (B x.procB) := rfl
@[simp] theorem Pai.v_2 (x : Pai) : x.v.getD 2 .undef = .str (B x.varA) := rfl
@[simp] theorem Pai.q_2 (x : Pai) : x.v[2]?.getD V.undef = .str (B x.varA) := rfl
@[simp] theorem Pai.v_3 (x : Pai) : x.v.getD 3 .undef = .str (B x.varB) := rfl
@[simp] theorem Pai.q_3 (x : Pai) : x.v[3]?.getD V.undef = .str (B x.varB) := rfl
structure PaiOk (x : Pai) : Prop where
  procA : x.procA.length ≤ 140737488351232
  procB : x.procB.length ≤ 140737488351232
  varA : x.varA.length ≤ 140737488351232
  varB : x.varB.length ≤ 140737488351232
theorem Pai.parts : partTypes Sp.P T_api_Pair = some [9, 9, 9, 9] := by kernel_rfl
theorem Pai_in {cs : List V} (h : Fits Sp.P Sp.pz T_api_Pair cs) : ∃ x : Pai, cs = x.v ∧ PaiOk x := by
  obtain ⟨ps, rfl, hl, hf⟩ := fits_st Pai.parts h
  match ps, hl with
  | [a0, a1, a2, a3], _ =>
    obtain ⟨b0, e0, w0⟩ := fits_str str_u (hf 0 _ rfl)
    have e0' : a0 = _ := e0
    subst e0'
    obtain ⟨b1, e1, w1⟩ := fits_str str_u (hf 1 _ rfl)
    have e1' : a1 = _ := e1
    subst e1'
    obtain ⟨b2, e2, w2⟩ := fits_str str_u (hf 2 _ rfl)
    have e2' : a2 = _ := e2
    subst e2'
    obtain ⟨b3, e3, w3⟩ := fits_str str_u (hf 3 _ rfl)
    have e3' : a3 = _ := e3
    subst e3'
    exact ⟨⟨b0, b1, b2, b3⟩, rfl, ⟨w0, w1, w2, w3⟩⟩
structure Kp where
  side : Int
  prc : List UInt8
  vr : List UInt8
  deriving DecidableEq
def Kp.v (x : Kp) : List V := [.int .i64 x.side, .str (B x.prc), .str (B x.vr)]
theorem Kp.v_mk (side : Int) (prc : List UInt8) (vr : List UInt8) : Kp.v ⟨side, prc, vr⟩ = [.int .i64 side, .str (B prc), .str (B vr)] := rfl
@[simp] theorem Kp.asAgg_v (x : Kp) (k : (Nat → V) → Option Res) : V.asAgg (.agg x.v) 3 k = k (fun j => x.v.getD j .undef) := asAgg_agg _ _ rfl k
@[simp] theorem Kp.v_0 (x : Kp) : x.v.getD 0 .undef = .int .i64 x.side := rfl
@[simp] theorem Kp.q_0 (x : Kp) : x.v[0]?.getD V.undef = .int .i64 x.side := rfl
@[simp] theorem Kp.v_1 (x : Kp) : x.v.getD 1 .undef = .str (B x.prc) := rfl
@[simp] theorem Kp.q_1 (x : Kp) : x.v[1]?.getD V.undef = .str (B x.prc) := rfl
@[simp] theorem Kp.v_2 (x : Kp) : x.v.getD 2 .undef = .str (B x.vr) := rfl
@[simp] theorem Kp.q_2 (x : Kp) : x.v[2]?.getD V.undef = .str (B x.vr) := rfl
structure KpOk (x : Kp) : Prop where
  side : (Lit.int .i64 x.side).wf = true
  prc : x.prc.length ≤ 140737488351232
  vr : x.vr.length ≤ 140737488351232
theorem Kp.parts : partTypes Sp.P T_parallaxref12_Keep = some [3, 9, 9] := by kernel_rfl
theorem Kp_in {cs : List V} (h : Fits Sp.P Sp.pz T_parallaxref12_Keep cs) : ∃ x : Kp, cs = x.v ∧ KpOk x := by
  obtain ⟨ps, rfl, hl, hf⟩ := fits_st Kp.parts h
  match ps, hl with
  | [a0, a1, a2], _ =>
    obtain ⟨b0, e0, w0⟩ := fits_int (k := .i64) int_u (hf 0 _ rfl)
    have e0' : a0 = _ := e0
    subst e0'
    obtain ⟨b1, e1, w1⟩ := fits_str str_u (hf 1 _ rfl)
    have e1' : a1 = _ := e1
    subst e1'
    obtain ⟨b2, e2, w2⟩ := fits_str str_u (hf 2 _ rfl)
    have e2' : a2 = _ := e2
    subst e2'
    exact ⟨⟨b0, b1, b2⟩, rfl, ⟨w0, w1, w2⟩⟩
structure Bk where
  side : Int
  prc : List UInt8
  mark : Int
  whn : List Ex
def Bk.v (x : Bk) : List V := [.int .i64 x.side, .str (B x.prc), .int .i64 x.mark, .sl .no T_api_Expr (x.whn.map Ex.v)]
theorem Bk.v_mk (side : Int) (prc : List UInt8) (mark : Int) (whn : List Ex) : Bk.v ⟨side, prc, mark, whn⟩ = [.int .i64 side, .str (B prc), .int .i64 mark, .sl .no T_api_Expr (whn.map Ex.v)] := rfl
@[simp] theorem Bk.asAgg_v (x : Bk) (k : (Nat → V) → Option Res) : V.asAgg (.agg x.v) 4 k = k (fun j => x.v.getD j .undef) := asAgg_agg _ _ rfl k
@[simp] theorem Bk.v_0 (x : Bk) : x.v.getD 0 .undef = .int .i64 x.side := rfl
@[simp] theorem Bk.q_0 (x : Bk) : x.v[0]?.getD V.undef = .int .i64 x.side := rfl
@[simp] theorem Bk.v_1 (x : Bk) : x.v.getD 1 .undef = .str (B x.prc) := rfl
@[simp] theorem Bk.q_1 (x : Bk) : x.v[1]?.getD V.undef = .str (B x.prc) := rfl
@[simp] theorem Bk.v_2 (x : Bk) : x.v.getD 2 .undef = .int .i64 x.mark := rfl
@[simp] theorem Bk.q_2 (x : Bk) : x.v[2]?.getD V.undef = .int .i64 x.mark := rfl
@[simp] theorem Bk.v_3 (x : Bk) : x.v.getD 3 .undef = .sl .no T_api_Expr (x.whn.map Ex.v) := rfl
@[simp] theorem Bk.q_3 (x : Bk) : x.v[3]?.getD V.undef = .sl .no T_api_Expr (x.whn.map Ex.v) := rfl
structure BkOk (x : Bk) : Prop where
  side : (Lit.int .i64 x.side).wf = true
  prc : x.prc.length ≤ 140737488351232
  mark : (Lit.int .i64 x.mark).wf = true
  whn : x.whn.length ≤ 140737488351232 ∧ ∀ y ∈ x.whn, ExOk y
theorem Bk.parts : partTypes Sp.P T_parallaxref12_Break = some [3, 9, 2, 87] := by kernel_rfl
theorem Bk_in {cs : List V} (h : Fits Sp.P Sp.pz T_parallaxref12_Break cs) : ∃ x : Bk, cs = x.v ∧ BkOk x := by
  obtain ⟨ps, rfl, hl, hf⟩ := fits_st Bk.parts h
  match ps, hl with
  | [a0, a1, a2, a3], _ =>
    obtain ⟨b0, e0, w0⟩ := fits_int (k := .i64) int_u (hf 0 _ rfl)
    have e0' : a0 = _ := e0
    subst e0'
    obtain ⟨b1, e1, w1⟩ := fits_str str_u (hf 1 _ rfl)
    have e1' : a1 = _ := e1
    subst e1'
    obtain ⟨b2, e2, w2⟩ := fits_int (k := .i64) int64_u (hf 2 _ rfl)
    have e2' : a2 = _ := e2
    subst e2'
    obtain ⟨b3, e3, w3⟩ := (expr_in' (hf 3 _ rfl)).2 rfl
    have e3' : a3 = _ := e3
    subst e3'
    exact ⟨⟨b0, b1, b2, b3⟩, rfl, ⟨w0, w1, w2, w3⟩⟩
structure Wt where
  side : Int
  prc : List UInt8
  vr : List UInt8
  deriving DecidableEq
def Wt.v (x : Wt) : List V := [.int .i64 x.side, .str (B x.prc), .str (B x.vr)]
theorem Wt.v_mk (side : Int) (prc : List UInt8) (vr : List UInt8) : Wt.v ⟨side, prc, vr⟩ = [.int .i64 side, .str (B prc), .str (B vr)] := rfl
@[simp] theorem Wt.asAgg_v (x : Wt) (k : (Nat → V) → Option Res) : V.asAgg (.agg x.v) 3 k = k (fun j => x.v.getD j .undef) := asAgg_agg _ _ rfl k
@[simp] theorem Wt.v_0 (x : Wt) : x.v.getD 0 .undef = .int .i64 x.side := rfl
@[simp] theorem Wt.q_0 (x : Wt) : x.v[0]?.getD V.undef = .int .i64 x.side := rfl
@[simp] theorem Wt.v_1 (x : Wt) : x.v.getD 1 .undef = .str (B x.prc) := rfl
@[simp] theorem Wt.q_1 (x : Wt) : x.v[1]?.getD V.undef = .str (B x.prc) := rfl
@[simp] theorem Wt.v_2 (x : Wt) : x.v.getD 2 .undef = .str (B x.vr) := rfl
@[simp] theorem Wt.q_2 (x : Wt) : x.v[2]?.getD V.undef = .str (B x.vr) := rfl
structure WtOk (x : Wt) : Prop where
  side : (Lit.int .i64 x.side).wf = true
  prc : x.prc.length ≤ 140737488351232
  vr : x.vr.length ≤ 140737488351232
theorem Wt.parts : partTypes Sp.P T_parallaxref12_Watch = some [3, 9, 9] := by kernel_rfl
theorem Wt_in {cs : List V} (h : Fits Sp.P Sp.pz T_parallaxref12_Watch cs) : ∃ x : Wt, cs = x.v ∧ WtOk x := by
  obtain ⟨ps, rfl, hl, hf⟩ := fits_st Wt.parts h
  match ps, hl with
  | [a0, a1, a2], _ =>
    obtain ⟨b0, e0, w0⟩ := fits_int (k := .i64) int_u (hf 0 _ rfl)
    have e0' : a0 = _ := e0
    subst e0'
    obtain ⟨b1, e1, w1⟩ := fits_str str_u (hf 1 _ rfl)
    have e1' : a1 = _ := e1
    subst e1'
    obtain ⟨b2, e2, w2⟩ := fits_str str_u (hf 2 _ rfl)
    have e2' : a2 = _ := e2
    subst e2'
    exact ⟨⟨b0, b1, b2⟩, rfl, ⟨w0, w1, w2⟩⟩
structure Fl where
  pairs : List Pai
  sames : List Pai
  keeps : List Kp
  breaks : List Bk
  watches : List Wt
def Fl.v (x : Fl) : List V := [.sl .no T_api_Pair (x.pairs.map Pai.v), .sl .no T_api_Pair (x.sames.map Pai.v), .sl .no T_parallaxref12_Keep (x.keeps.map Kp.v), .sl .no T_parallaxref12_Break (x.breaks.map Bk.v), .sl .no T_parallaxref12_Watch (x.watches.map Wt.v)]
theorem Fl.v_mk (pairs : List Pai) (sames : List Pai) (keeps : List Kp) (breaks : List Bk) (watches : List Wt) : Fl.v ⟨pairs, sames, keeps, breaks, watches⟩ = [.sl .no T_api_Pair (pairs.map Pai.v), .sl .no T_api_Pair (sames.map Pai.v), .sl .no T_parallaxref12_Keep (keeps.map Kp.v), .sl .no T_parallaxref12_Break (breaks.map Bk.v), .sl .no T_parallaxref12_Watch (watches.map Wt.v)] := rfl
@[simp] theorem Fl.asAgg_v (x : Fl) (k : (Nat → V) → Option Res) : V.asAgg (.agg x.v) 5 k = k (fun j => x.v.getD j .undef) := asAgg_agg _ _ rfl k
@[simp] theorem Fl.v_0 (x : Fl) : x.v.getD 0 .undef = .sl .no T_api_Pair (x.pairs.map Pai.v) := rfl
@[simp] theorem Fl.q_0 (x : Fl) : x.v[0]?.getD V.undef = .sl .no T_api_Pair (x.pairs.map Pai.v) := rfl
@[simp] theorem Fl.v_1 (x : Fl) : x.v.getD 1 .undef = .sl .no T_api_Pair (x.sames.map Pai.v) := rfl
@[simp] theorem Fl.q_1 (x : Fl) : x.v[1]?.getD V.undef = .sl .no T_api_Pair (x.sames.map Pai.v) := rfl
@[simp] theorem Fl.v_2 (x : Fl) : x.v.getD 2 .undef = .sl .no T_parallaxref12_Keep (x.keeps.map Kp.v) := rfl
@[simp] theorem Fl.q_2 (x : Fl) : x.v[2]?.getD V.undef = .sl .no T_parallaxref12_Keep (x.keeps.map Kp.v) := rfl
@[simp] theorem Fl.v_3 (x : Fl) : x.v.getD 3 .undef = .sl .no T_parallaxref12_Break (x.breaks.map Bk.v) := rfl
@[simp] theorem Fl.q_3 (x : Fl) : x.v[3]?.getD V.undef = .sl .no T_parallaxref12_Break (x.breaks.map Bk.v) := rfl
@[simp] theorem Fl.v_4 (x : Fl) : x.v.getD 4 .undef = .sl .no T_parallaxref12_Watch (x.watches.map Wt.v) := rfl
@[simp] theorem Fl.q_4 (x : Fl) : x.v[4]?.getD V.undef = .sl .no T_parallaxref12_Watch (x.watches.map Wt.v) := rfl
structure FlOk (x : Fl) : Prop where
  pairs : x.pairs.length ≤ 140737488351232 ∧ ∀ y ∈ x.pairs, PaiOk y
  sames : x.sames.length ≤ 140737488351232 ∧ ∀ y ∈ x.sames, PaiOk y
  keeps : x.keeps.length ≤ 140737488351232 ∧ ∀ y ∈ x.keeps, KpOk y
  breaks : x.breaks.length ≤ 140737488351232 ∧ ∀ y ∈ x.breaks, BkOk y
  watches : x.watches.length ≤ 140737488351232 ∧ ∀ y ∈ x.watches, WtOk y
theorem Fl.parts : partTypes Sp.P T_parallaxref12_File = some [22, 22, 23, 24, 25] := by kernel_rfl
theorem Pai.row_el : Program.underlying Sp.P 22 = some (.slice T_api_Pair) := by kernel_rfl
theorem Pai.row_pz : Sp.pz T_api_Pair = false := by kernel_rfl
theorem Pai.bytes : decide (Program.bytesOf Sp.P T_api_Pair ≥ 1) = true := by kernel_rfl
theorem Pai.row_in {cs : List V} (h : Fits Sp.P Sp.pz 22 cs) : ∃ l : List Pai, cs = [.sl .no T_api_Pair (l.map Pai.v)] ∧ l.length ≤ 140737488351232 ∧ ∀ y ∈ l, PaiOk y := by
  obtain ⟨es, he, hl, hm, hf⟩ := fits_sl Pai.row_el Pai.row_pz h
  obtain ⟨l, rfl, hok⟩ := fits_rows (v := Pai.v) (ok := PaiOk) (fun cs h => Pai_in h) es hf
  refine ⟨l, he, ?_, hok⟩
  have hb := of_decide_eq_true Pai.bytes
  rw [List.length_map] at hl
  exact Nat.le_trans (Nat.le_mul_of_pos_right _ hb) hl
theorem Kp.row_el : Program.underlying Sp.P 23 = some (.slice T_parallaxref12_Keep) := by kernel_rfl
theorem Kp.row_pz : Sp.pz T_parallaxref12_Keep = false := by kernel_rfl
theorem Kp.bytes : decide (Program.bytesOf Sp.P T_parallaxref12_Keep ≥ 1) = true := by kernel_rfl
theorem Kp.row_in {cs : List V} (h : Fits Sp.P Sp.pz 23 cs) : ∃ l : List Kp, cs = [.sl .no T_parallaxref12_Keep (l.map Kp.v)] ∧ l.length ≤ 140737488351232 ∧ ∀ y ∈ l, KpOk y := by
  obtain ⟨es, he, hl, hm, hf⟩ := fits_sl Kp.row_el Kp.row_pz h
  obtain ⟨l, rfl, hok⟩ := fits_rows (v := Kp.v) (ok := KpOk) (fun cs h => Kp_in h) es hf
  refine ⟨l, he, ?_, hok⟩
  have hb := of_decide_eq_true Kp.bytes
  rw [List.length_map] at hl
  exact Nat.le_trans (Nat.le_mul_of_pos_right _ hb) hl
theorem Bk.row_el : Program.underlying Sp.P 24 = some (.slice T_parallaxref12_Break) := by kernel_rfl
theorem Bk.row_pz : Sp.pz T_parallaxref12_Break = false := by kernel_rfl
theorem Bk.bytes : decide (Program.bytesOf Sp.P T_parallaxref12_Break ≥ 1) = true := by kernel_rfl
theorem Bk.row_in {cs : List V} (h : Fits Sp.P Sp.pz 24 cs) : ∃ l : List Bk, cs = [.sl .no T_parallaxref12_Break (l.map Bk.v)] ∧ l.length ≤ 140737488351232 ∧ ∀ y ∈ l, BkOk y := by
  obtain ⟨es, he, hl, hm, hf⟩ := fits_sl Bk.row_el Bk.row_pz h
  obtain ⟨l, rfl, hok⟩ := fits_rows (v := Bk.v) (ok := BkOk) (fun cs h => Bk_in h) es hf
  refine ⟨l, he, ?_, hok⟩
  have hb := of_decide_eq_true Bk.bytes
  rw [List.length_map] at hl
  exact Nat.le_trans (Nat.le_mul_of_pos_right _ hb) hl
theorem Wt.row_el : Program.underlying Sp.P 25 = some (.slice T_parallaxref12_Watch) := by kernel_rfl
theorem Wt.row_pz : Sp.pz T_parallaxref12_Watch = false := by kernel_rfl
theorem Wt.bytes : decide (Program.bytesOf Sp.P T_parallaxref12_Watch ≥ 1) = true := by kernel_rfl
theorem Wt.row_in {cs : List V} (h : Fits Sp.P Sp.pz 25 cs) : ∃ l : List Wt, cs = [.sl .no T_parallaxref12_Watch (l.map Wt.v)] ∧ l.length ≤ 140737488351232 ∧ ∀ y ∈ l, WtOk y := by
  obtain ⟨es, he, hl, hm, hf⟩ := fits_sl Wt.row_el Wt.row_pz h
  obtain ⟨l, rfl, hok⟩ := fits_rows (v := Wt.v) (ok := WtOk) (fun cs h => Wt_in h) es hf
  refine ⟨l, he, ?_, hok⟩
  have hb := of_decide_eq_true Wt.bytes
  rw [List.length_map] at hl
  exact Nat.le_trans (Nat.le_mul_of_pos_right _ hb) hl
theorem Fl_in {cs : List V} (h : Fits Sp.P Sp.pz T_parallaxref12_File cs) : ∃ x : Fl, cs = x.v ∧ FlOk x := by
  obtain ⟨ps, rfl, hl, hf⟩ := fits_st Fl.parts h
  match ps, hl with
  | [a0, a1, a2, a3, a4], _ =>
    obtain ⟨b0, e0, w0⟩ := Pai.row_in (hf 0 _ rfl)
    have e0' : a0 = _ := e0
    subst e0'
    obtain ⟨b1, e1, w1⟩ := Pai.row_in (hf 1 _ rfl)
    have e1' : a1 = _ := e1
    subst e1'
    obtain ⟨b2, e2, w2⟩ := Kp.row_in (hf 2 _ rfl)
    have e2' : a2 = _ := e2
    subst e2'
    obtain ⟨b3, e3, w3⟩ := Bk.row_in (hf 3 _ rfl)
    have e3' : a3 = _ := e3
    subst e3'
    obtain ⟨b4, e4, w4⟩ := Wt.row_in (hf 4 _ rfl)
    have e4' : a4 = _ := e4
    subst e4'
    exact ⟨⟨b0, b1, b2, b3, b4⟩, rfl, ⟨w0, w1, w2, w3, w4⟩⟩
end Go.Proofs.YtmhnmelaodhemaaGreatDoor
namespace Go.Proofs.YtmhnmelaodhemaaGreatDoor
open Go Go.Proofs.Ab Go.Proofs.Px
set_option linter.unusedVariables false
set_option linter.unusedSimpArgs false
set_option maxRecDepth 100000
end Go.Proofs.YtmhnmelaodhemaaGreatDoor
namespace Go.Proofs.YtmhnmelaodhemaaGreatDoor
open Go Go.Proofs.Ab
set_option maxRecDepth 100000
set_option linter.unusedVariables false
namespace ref04_Find
noncomputable abbrev e (p : List Nat) := ev Sp (den Sp) id Tryz.f143.ntmps (cAt (bodyOf Tryz.f143) p)
noncomputable abbrev cn (n0 : List Nat) := canon Sp id n0
noncomputable abbrev K : K := kFin Sp (den Sp) Tryz.f143 0
noncomputable def L1_0_1_0 (l0 : List (List V)) (s1 : ByteArray) (i2 i3 : Int) : Option Res := LP (e [1, 0, 1, 0, 0]) (cn []) (kBlk 0 (kSeq (e [1, 1]) (K))) ([(0, (V.sl .no T_api_Var l0)), (1, (V.str s1)), (2, (V.int .i64 i2)), (7, (V.int .i64 i3))], ⟨[], [], [], [], none⟩)
theorem L1_0_1_0_eq (l0 : List (List V)) (s1 : ByteArray) (i2 i3 : Int) : L1_0_1_0 l0 s1 i2 i3 =
    (bif (decide (i3 < (l0.length : Int))) then (if (((0 : Int) ≤ i3) ∧ (i3 < (l0.length : Int))) then (V.asStr (List.getD (List.getD l0 (Int.toNat i3) []) 0 V.undef) (fun s11 => (bif (decide (s11 = s1)) then (if (((0 : Int) ≤ i3) ∧ (i3 < (l0.length : Int))) then (V.asInt (List.getD (List.getD l0 (Int.toNat i3) []) 3 V.undef) .i64 (fun n12 => (bif (decide (i2 ≥ n12)) then (if (((0 : Int) ≤ i3) ∧ (i3 < (l0.length : Int))) then (V.asInt (List.getD (List.getD l0 (Int.toNat i3) []) 4 V.undef) .i64 (fun n13 => (bif (decide (i2 ≤ n13)) then (some ⟨(Out.ret (V.int .i64 i3)), [], none⟩) else (L1_0_1_0 l0 s1 i2 (IntKind.wrap .i64 (i3 + (1 : Int))))))) else none) else (L1_0_1_0 l0 s1 i2 (IntKind.wrap .i64 (i3 + (1 : Int))))))) else none) else (L1_0_1_0 l0 s1 i2 (IntKind.wrap .i64 (i3 + (1 : Int))))))) else none) else (some ⟨(Out.ret (V.int .i64 (Neg.neg (1 : Int)))), [], none⟩)) := (LP_eq ..).trans (by kernel_rfl)
theorem eq (a0 : List (List V)) (a1 : ByteArray) (a2 : Int) : den Sp id [(V.sl .no T_api_Var a0), (V.str a1), (V.int .i64 a2)] [] none =
    (L1_0_1_0 a0 a1 a2 (0 : Int)) := (den_eq ..).trans (by kernel_rfl)
end ref04_Find
namespace ref04_one
noncomputable abbrev e (p : List Nat) := ev Sp (den Sp) id Tryz.f145.ntmps (cAt (bodyOf Tryz.f145) p)
noncomputable abbrev cn (n0 : List Nat) := canon Sp id n0
noncomputable abbrev K : K := kFin Sp (den Sp) Tryz.f145 0
theorem eq (a0 : ByteArray) : den Sp id [(V.str a0)] [] none =
    (bif (decide (a0 = (ByteArray.mk #[43]))) then (some ⟨(Out.ret (V.tup [(V.int .i64 (1 : Int)), (V.int .i64 (1 : Int))])), [], none⟩) else (bif (decide (a0 = (ByteArray.mk #[45]))) then (some ⟨(Out.ret (V.tup [(V.int .i64 (1 : Int)), (V.int .i64 (1 : Int))])), [], none⟩) else (bif (decide (a0 = (ByteArray.mk #[42]))) then (some ⟨(Out.ret (V.tup [(V.int .i64 (1 : Int)), (V.int .i64 (1 : Int))])), [], none⟩) else (bif (decide (a0 = (ByteArray.mk #[47]))) then (some ⟨(Out.ret (V.tup [(V.int .i64 (1 : Int)), (V.int .i64 (1 : Int))])), [], none⟩) else (bif (decide (a0 = (ByteArray.mk #[37]))) then (some ⟨(Out.ret (V.tup [(V.int .i64 (1 : Int)), (V.int .i64 (1 : Int))])), [], none⟩) else (bif (decide (a0 = (ByteArray.mk #[60]))) then (some ⟨(Out.ret (V.tup [(V.int .i64 (1 : Int)), (V.int .i64 (2 : Int))])), [], none⟩) else (bif (decide (a0 = (ByteArray.mk #[60, 61]))) then (some ⟨(Out.ret (V.tup [(V.int .i64 (1 : Int)), (V.int .i64 (2 : Int))])), [], none⟩) else (bif (decide (a0 = (ByteArray.mk #[38, 38]))) then (some ⟨(Out.ret (V.tup [(V.int .i64 (2 : Int)), (V.int .i64 (2 : Int))])), [], none⟩) else (bif (decide (a0 = (ByteArray.mk #[124, 124]))) then (some ⟨(Out.ret (V.tup [(V.int .i64 (2 : Int)), (V.int .i64 (2 : Int))])), [], none⟩) else (bif (decide (a0 = (ByteArray.mk #[61, 61]))) then (some ⟨(Out.ret (V.tup [(V.int .i64 (3 : Int)), (V.int .i64 (2 : Int))])), [], none⟩) else (bif (decide (a0 = (ByteArray.mk #[33, 61]))) then (some ⟨(Out.ret (V.tup [(V.int .i64 (3 : Int)), (V.int .i64 (2 : Int))])), [], none⟩) else (some ⟨(Out.ret (V.tup [(V.int .i64 (0 : Int)), (V.int .i64 (0 : Int))])), [], none⟩)))))))))))) := (den_eq ..).trans (by kernel_rfl)
end ref04_one
namespace ref04_TypeOf
noncomputable abbrev e (p : List Nat) := ev Sp (den Sp) id Tryz.f99.ntmps (cAt (bodyOf Tryz.f99) p)
noncomputable abbrev cn (n0 : List Nat) := canon Sp id n0
noncomputable abbrev K : K := kFin Sp (den Sp) Tryz.f99 0
noncomputable def J1_1_0_1_0_0 (l0 : List (List V)) (i1 i2 : Int) (s3 : ByteArray) (i4 : Int) (l5 : List (List V)) : Option Res := joinAt Sp (den Sp) id Tryz.f99.ntmps (cAt (bodyOf Tryz.f99) [1, 1, 0, 1, 0, 0]) (kSeq (e [1, 1, 0, 1, 0, 1]) (kSeq (e [1, 1, 1]) (K))) ([(1, (V.sl .no T_api_Var l0)), (2, (V.int .i64 i1)), (3, (V.ref 1003 0)), (9, V.undef), (10, V.undef), (15, V.undef)], ⟨[(1003, (Blk.cells T_api_Expr [(V.int .i64 i2), (V.str s3), (V.int .i64 i4), (V.sl .no T_api_Expr l5)] false))], [], [], [], none⟩)
noncomputable def J1_1_1_0_0 (l0 : List (List V)) (i1 i2 : Int) (s3 : ByteArray) (i4 : Int) (l5 : List (List V)) : Option Res := joinAt Sp (den Sp) id Tryz.f99.ntmps (cAt (bodyOf Tryz.f99) [1, 1, 1, 0, 0]) (kSeq (e [1, 1, 1, 0, 1]) (kSeq (e [1, 1, 1, 1]) (K))) ([(1, (V.sl .no T_api_Var l0)), (2, (V.int .i64 i1)), (3, (V.ref 1003 0)), (9, V.undef), (10, V.undef), (15, V.undef)], ⟨[(1003, (Blk.cells T_api_Expr [(V.int .i64 i2), (V.str s3), (V.int .i64 i4), (V.sl .no T_api_Expr l5)] false))], [], [], [], none⟩)
noncomputable def J1_1_1_1_0_0 (l0 : List (List V)) (i1 i2 : Int) (s3 : ByteArray) (i4 : Int) (l5 : List (List V)) : Option Res := joinAt Sp (den Sp) id Tryz.f99.ntmps (cAt (bodyOf Tryz.f99) [1, 1, 1, 1, 0, 0]) (kSeq (e [1, 1, 1, 1, 0, 1]) (kSeq (e [1, 1, 1, 1, 1]) (K))) ([(1, (V.sl .no T_api_Var l0)), (2, (V.int .i64 i1)), (3, (V.ref 1003 0)), (9, V.undef), (10, V.undef), (15, V.undef)], ⟨[(1003, (Blk.cells T_api_Expr [(V.int .i64 i2), (V.str s3), (V.int .i64 i4), (V.sl .no T_api_Expr l5)] false))], [], [], [], none⟩)
noncomputable def J1_1_1_1_1_1_0_1_0_1_1_0_1_0_0 (l0 : List (List V)) (i1 i2 i3 : Int) (s4 : ByteArray) (i5 : Int) (l6 : List (List V)) : Option Res := joinAt Sp (den Sp) id Tryz.f99.ntmps (cAt (bodyOf Tryz.f99) [1, 1, 1, 1, 1, 1, 0, 1, 0, 1, 1, 0, 1, 0, 0]) (kSeq (e [1, 1, 1, 1, 1, 1, 0, 1, 0, 1, 1, 0, 1, 0, 1]) (kSeq (e [1, 1, 1, 1, 1, 1, 0, 1, 0, 1, 1, 1]) (kSeq (e [1, 1, 1, 1, 1, 1, 1]) (K)))) ([(1, (V.sl .no T_api_Var l0)), (2, (V.int .i64 i1)), (3, (V.ref 1003 0)), (9, (V.int .i64 i2)), (10, V.undef), (15, V.undef)], ⟨[(1003, (Blk.cells T_api_Expr [(V.int .i64 i3), (V.str s4), (V.int .i64 i5), (V.sl .no T_api_Expr l6)] false))], [], [], [], none⟩)
noncomputable def J1_1_1_1_1_1_0_1_0_1_1_1_0_0 (l0 : List (List V)) (i1 i2 i3 : Int) (s4 : ByteArray) (i5 : Int) (l6 : List (List V)) : Option Res := joinAt Sp (den Sp) id Tryz.f99.ntmps (cAt (bodyOf Tryz.f99) [1, 1, 1, 1, 1, 1, 0, 1, 0, 1, 1, 1, 0, 0]) (kSeq (e [1, 1, 1, 1, 1, 1, 0, 1, 0, 1, 1, 1, 0, 1]) (kSeq (e [1, 1, 1, 1, 1, 1, 0, 1, 0, 1, 1, 1, 1]) (kSeq (e [1, 1, 1, 1, 1, 1, 1]) (K)))) ([(1, (V.sl .no T_api_Var l0)), (2, (V.int .i64 i1)), (3, (V.ref 1003 0)), (9, (V.int .i64 i2)), (10, V.undef), (15, V.undef)], ⟨[(1003, (Blk.cells T_api_Expr [(V.int .i64 i3), (V.str s4), (V.int .i64 i5), (V.sl .no T_api_Expr l6)] false))], [], [], [], none⟩)
noncomputable def J1_1_1_1_1_1_1_1_1_0_1_0_0_1_0_0 (l0 : List (List V)) (i1 i2 i3 : Int) (s4 : ByteArray) (i5 : Int) (l6 : List (List V)) : Option Res := joinAt Sp (den Sp) id Tryz.f99.ntmps (cAt (bodyOf Tryz.f99) [1, 1, 1, 1, 1, 1, 1, 1, 1, 0, 1, 0, 0, 1, 0, 0]) (kSeq (e [1, 1, 1, 1, 1, 1, 1, 1, 1, 0, 1, 0, 0, 1, 0, 1]) (kSeq (e [1, 1, 1, 1, 1, 1, 1, 1, 1, 0, 1, 0, 1]) (kSeq (e [1, 1, 1, 1, 1, 1, 1, 1, 1, 1]) (K)))) ([(1, (V.sl .no T_api_Var l0)), (2, (V.int .i64 i1)), (3, (V.ref 1003 0)), (9, V.undef), (10, (V.int .i64 i2)), (15, V.undef)], ⟨[(1003, (Blk.cells T_api_Expr [(V.int .i64 i3), (V.str s4), (V.int .i64 i5), (V.sl .no T_api_Expr l6)] false))], [], [], [], none⟩)
noncomputable def J1_1_1_1_1_1_1_1_1_0_1_0_1_0_0 (l0 : List (List V)) (i1 i2 i3 : Int) (s4 : ByteArray) (i5 : Int) (l6 : List (List V)) : Option Res := joinAt Sp (den Sp) id Tryz.f99.ntmps (cAt (bodyOf Tryz.f99) [1, 1, 1, 1, 1, 1, 1, 1, 1, 0, 1, 0, 1, 0, 0]) (kSeq (e [1, 1, 1, 1, 1, 1, 1, 1, 1, 0, 1, 0, 1, 0, 1]) (kSeq (e [1, 1, 1, 1, 1, 1, 1, 1, 1, 0, 1, 0, 1, 1]) (kSeq (e [1, 1, 1, 1, 1, 1, 1, 1, 1, 1]) (K)))) ([(1, (V.sl .no T_api_Var l0)), (2, (V.int .i64 i1)), (3, (V.ref 1003 0)), (9, V.undef), (10, (V.int .i64 i2)), (15, V.undef)], ⟨[(1003, (Blk.cells T_api_Expr [(V.int .i64 i3), (V.str s4), (V.int .i64 i5), (V.sl .no T_api_Expr l6)] false))], [], [], [], none⟩)
noncomputable def J1_1_1_1_1_1_1_1_1_1_1_1_1_1_0_1_0_0 (l0 : List (List V)) (i1 i2 i3 i4 : Int) (s5 : ByteArray) (i6 : Int) (l7 : List (List V)) : Option Res := joinAt Sp (den Sp) id Tryz.f99.ntmps (cAt (bodyOf Tryz.f99) [1, 1, 1, 1, 1, 1, 1, 1, 1, 1, 1, 1, 1, 1, 0, 1, 0, 0]) (kSeq (e [1, 1, 1, 1, 1, 1, 1, 1, 1, 1, 1, 1, 1, 1, 0, 1, 0, 1]) (kSeq (e [1, 1, 1, 1, 1, 1, 1, 1, 1, 1, 1, 1, 1, 1, 1]) (K))) ([(1, (V.sl .no T_api_Var l0)), (2, (V.int .i64 i1)), (3, (V.ref 1003 0)), (9, V.undef), (10, (V.int .i64 i2)), (15, (V.int .i64 i3))], ⟨[(1003, (Blk.cells T_api_Expr [(V.int .i64 i4), (V.str s5), (V.int .i64 i6), (V.sl .no T_api_Expr l7)] false))], [], [], [], none⟩)
noncomputable def J1_1_1_1_1_1_1_1_1_1_1_1_1_1_1_0 (l0 : List (List V)) (i1 i2 i3 i4 : Int) (s5 : ByteArray) (i6 : Int) (l7 : List (List V)) : Option Res := joinAt Sp (den Sp) id Tryz.f99.ntmps (cAt (bodyOf Tryz.f99) [1, 1, 1, 1, 1, 1, 1, 1, 1, 1, 1, 1, 1, 1, 1, 0]) (kSeq (e [1, 1, 1, 1, 1, 1, 1, 1, 1, 1, 1, 1, 1, 1, 1, 1]) (K)) ([(1, (V.sl .no T_api_Var l0)), (2, (V.int .i64 i1)), (3, (V.ref 1003 0)), (9, V.undef), (10, (V.int .i64 i2)), (15, (V.int .i64 i3))], ⟨[(1003, (Blk.cells T_api_Expr [(V.int .i64 i4), (V.str s5), (V.int .i64 i6), (V.sl .no T_api_Expr l7)] false))], [], [], [], none⟩)
theorem J1_1_1_1_0_0_eq (l0 : List (List V)) (i1 i2 : Int) (s3 : ByteArray) (i4 : Int) (l5 : List (List V)) : J1_1_1_1_0_0 l0 i1 i2 s3 i4 l5 =
    (bif (i2 == (1 : Int)) then (some ⟨(Out.ret (V.tup [(V.int .i64 (1 : Int)), (V.int .i64 (0 : Int))])), [], none⟩) else (bif (i2 == (2 : Int)) then (some ⟨(Out.ret (V.tup [(V.int .i64 (2 : Int)), (V.int .i64 (0 : Int))])), [], none⟩) else (bif (i2 == (3 : Int)) then ((den Sp ref04_Find.id [(V.sl .no T_api_Var l0), (V.str s3), (V.int .i64 i1)] [] none)).bind (fun r27 => (Res.onRet r27 (fun v28 => (V.asInt v28 .i64 (fun n29 => (bif (decide (n29 < (0 : Int))) then (some ⟨(Out.ret (V.tup [(V.int .i64 (0 : Int)), (V.int .i64 (40 : Int))])), [], none⟩) else (if (((0 : Int) ≤ n29) ∧ (n29 < (l0.length : Int))) then (V.asInt (List.getD (List.getD l0 (Int.toNat n29) []) 2 V.undef) .i64 (fun n32 => (bif (!((decide (n32 > (0 : Int))) == (i2 == (4 : Int)))) then (J1_1_1_1_1_1_0_1_0_1_1_0_1_0_0 l0 i1 n29 i2 s3 i4 l5) else (if (((0 : Int) ≤ n29) ∧ (n29 < (l0.length : Int))) then (V.asInt (List.getD (List.getD l0 (Int.toNat n29) []) 2 V.undef) .i64 (fun n33 => (bif (decide (n33 < (0 : Int))) then (bif (i2 == (3 : Int)) then (J1_1_1_1_1_1_0_1_0_1_1_0_1_0_0 l0 i1 n29 i2 s3 i4 l5) else (J1_1_1_1_1_1_0_1_0_1_1_1_0_0 l0 i1 n29 i2 s3 i4 l5)) else (J1_1_1_1_1_1_0_1_0_1_1_1_0_0 l0 i1 n29 i2 s3 i4 l5)))) else none)))) else none))))))) else (bif (i2 == (4 : Int)) then ((den Sp ref04_Find.id [(V.sl .no T_api_Var l0), (V.str s3), (V.int .i64 i1)] [] none)).bind (fun r27 => (Res.onRet r27 (fun v28 => (V.asInt v28 .i64 (fun n29 => (bif (decide (n29 < (0 : Int))) then (some ⟨(Out.ret (V.tup [(V.int .i64 (0 : Int)), (V.int .i64 (40 : Int))])), [], none⟩) else (if (((0 : Int) ≤ n29) ∧ (n29 < (l0.length : Int))) then (V.asInt (List.getD (List.getD l0 (Int.toNat n29) []) 2 V.undef) .i64 (fun n32 => (bif (!((decide (n32 > (0 : Int))) == (i2 == (4 : Int)))) then (J1_1_1_1_1_1_0_1_0_1_1_0_1_0_0 l0 i1 n29 i2 s3 i4 l5) else (if (((0 : Int) ≤ n29) ∧ (n29 < (l0.length : Int))) then (V.asInt (List.getD (List.getD l0 (Int.toNat n29) []) 2 V.undef) .i64 (fun n33 => (bif (decide (n33 < (0 : Int))) then (bif (i2 == (3 : Int)) then (J1_1_1_1_1_1_0_1_0_1_1_0_1_0_0 l0 i1 n29 i2 s3 i4 l5) else (J1_1_1_1_1_1_0_1_0_1_1_1_0_0 l0 i1 n29 i2 s3 i4 l5)) else (J1_1_1_1_1_1_0_1_0_1_1_1_0_0 l0 i1 n29 i2 s3 i4 l5)))) else none)))) else none))))))) else (if (((0 : Int) ≤ (0 : Int)) ∧ ((0 : Int) < (l5.length : Int))) then (V.asInt (List.getD (List.getD l5 0 []) 0 V.undef) .i64 (fun n27 => (V.asStr (List.getD (List.getD l5 0 []) 1 V.undef) (fun s28 => (V.asInt (List.getD (List.getD l5 0 []) 2 V.undef) .i64 (fun n29 => (V.asSl (List.getD (List.getD l5 0 []) 3 V.undef) T_api_Expr (fun es30 => ((den Sp ref04_TypeOf.id [(V.agg [(V.int .i64 n27), (V.str s28), (V.int .i64 n29), (V.sl .no T_api_Expr es30)]), (V.sl .no T_api_Var l0), (V.int .i64 i1)] [] none)).bind (fun r31 => (Res.onRet r31 (fun v32 => (V.asTup v32 2 (fun rd33 => (V.asInt (rd33 0) .i64 (fun n34 => (V.asInt (rd33 1) .i64 (fun n35 => (bif (n35 != (0 : Int)) then (some ⟨(Out.ret (V.tup [(V.int .i64 (0 : Int)), (V.int .i64 n35)])), [], none⟩) else (bif (i2 == (5 : Int)) then (bif (!(decide (s3 = (ByteArray.mk #[45])))) then (bif (!(decide (s3 = (ByteArray.mk #[33])))) then (J1_1_1_1_1_1_1_1_1_0_1_0_0_1_0_0 l0 i1 n34 i2 s3 i4 l5) else (J1_1_1_1_1_1_1_1_1_0_1_0_1_0_0 l0 i1 n34 i2 s3 i4 l5)) else (J1_1_1_1_1_1_1_1_1_0_1_0_1_0_0 l0 i1 n34 i2 s3 i4 l5)) else (if (((0 : Int) ≤ (1 : Int)) ∧ ((1 : Int) < (l5.length : Int))) then (V.asInt (List.getD (List.getD l5 1 []) 0 V.undef) .i64 (fun n39 => (V.asStr (List.getD (List.getD l5 1 []) 1 V.undef) (fun s40 => (V.asInt (List.getD (List.getD l5 1 []) 2 V.undef) .i64 (fun n41 => (V.asSl (List.getD (List.getD l5 1 []) 3 V.undef) T_api_Expr (fun es42 => ((den Sp ref04_TypeOf.id [(V.agg [(V.int .i64 n39), (V.str s40), (V.int .i64 n41), (V.sl .no T_api_Expr es42)]), (V.sl .no T_api_Var l0), (V.int .i64 i1)] [] none)).bind (fun r43 => (Res.onRet r43 (fun v44 => (V.asTup v44 2 (fun rd45 => (V.asInt (rd45 0) .i64 (fun n46 => (V.asInt (rd45 1) .i64 (fun n47 => (bif (n47 != (0 : Int)) then (some ⟨(Out.ret (V.tup [(V.int .i64 (0 : Int)), (V.int .i64 n47)])), [], none⟩) else ((den Sp ref04_one.id [(V.str s3)] [] none)).bind (fun r50 => (Res.onRet r50 (fun v51 => (V.asTup v51 2 (fun rd52 => (V.asInt (rd52 0) .i64 (fun n53 => (V.asInt (rd52 1) .i64 (fun n54 => (bif (n54 == (0 : Int)) then (some ⟨(Out.ret (V.tup [(V.int .i64 (0 : Int)), (V.int .i64 (32 : Int))])), [], none⟩) else (bif (n34 != n46) then (J1_1_1_1_1_1_1_1_1_1_1_1_1_1_0_1_0_0 l0 i1 n34 n54 i2 s3 i4 l5) else (bif (n53 != (3 : Int)) then (bif (n34 != n53) then (J1_1_1_1_1_1_1_1_1_1_1_1_1_1_0_1_0_0 l0 i1 n34 n54 i2 s3 i4 l5) else (J1_1_1_1_1_1_1_1_1_1_1_1_1_1_1_0 l0 i1 n34 n54 i2 s3 i4 l5)) else (J1_1_1_1_1_1_1_1_1_1_1_1_1_1_1_0 l0 i1 n34 n54 i2 s3 i4 l5))))))))))))))))))))))))))))))) else none)))))))))))))))))))) else none))))) := (joinAt_eq ..).trans (by kernel_rfl)
theorem eq (a0_0 : Int) (a0_1 : ByteArray) (a0_2 : Int) (a0_3 a1 : List (List V)) (a2 : Int) : den Sp id [(V.agg [(V.int .i64 a0_0), (V.str a0_1), (V.int .i64 a0_2), (V.sl .no T_api_Expr a0_3)]), (V.sl .no T_api_Var a1), (V.int .i64 a2)] [] none =
    (bif (decide (a0_0 < (1 : Int))) then (J1_1_0_1_0_0 a1 a2 a0_0 a0_1 a0_2 a0_3) else (bif (decide (a0_0 > (6 : Int))) then (J1_1_0_1_0_0 a1 a2 a0_0 a0_1 a0_2 a0_3) else (if (((0 : Int) ≤ a0_0) ∧ (a0_0 < ((7 : Nat) : Int))) then (V.asInt (List.getD (List.getD [[(V.int .i64 (Neg.neg (1 : Int)))], [(V.int .i64 (0 : Int))], [(V.int .i64 (0 : Int))], [(V.int .i64 (0 : Int))], [(V.int .i64 (1 : Int))], [(V.int .i64 (1 : Int))], [(V.int .i64 (2 : Int))]] (Int.toNat a0_0) []) 0 V.undef) .i64 (fun n9 => (bif ((a0_3.length : Int) != n9) then (J1_1_0_1_0_0 a1 a2 a0_0 a0_1 a0_2 a0_3) else (J1_1_1_0_0 a1 a2 a0_0 a0_1 a0_2 a0_3)))) else none))) := (den_eq ..).trans (by kernel_rfl)
end ref04_TypeOf
namespace ref04_typed
noncomputable abbrev e (p : List Nat) := ev Sp (den Sp) id Tryz.f144.ntmps (cAt (bodyOf Tryz.f144) p)
noncomputable abbrev cn (n0 : List Nat) := canon Sp id n0
noncomputable abbrev K : K := kFin Sp (den Sp) Tryz.f144 0
theorem eq (a0_0 : Int) (a0_1 : ByteArray) (a0_2 : Int) (a0_3 a1 : List (List V)) (a2 a3 a4 : Int) : den Sp id [(V.agg [(V.int .i64 a0_0), (V.str a0_1), (V.int .i64 a0_2), (V.sl .no T_api_Expr a0_3)]), (V.sl .no T_api_Var a1), (V.int .i64 a2), (V.int .i64 a3), (V.int .i64 a4)] [] none =
    ((den Sp ref04_TypeOf.id [(V.agg [(V.int .i64 a0_0), (V.str a0_1), (V.int .i64 a0_2), (V.sl .no T_api_Expr a0_3)]), (V.sl .no T_api_Var a1), (V.int .i64 a2)] [] none)).bind (fun r10 => (Res.onRet r10 (fun v11 => (V.asTup v11 2 (fun rd12 => (V.asInt (rd12 0) .i64 (fun n13 => (V.asInt (rd12 1) .i64 (fun n14 => (bif (n14 != (0 : Int)) then (some ⟨(Out.ret (V.tup [(V.int .i64 (0 : Int)), (V.int .i64 n14)])), [], none⟩) else (bif (n13 != a3) then (some ⟨(Out.ret (V.tup [(V.int .i64 (0 : Int)), (V.int .i64 (41 : Int))])), [], none⟩) else (some ⟨(Out.ret (V.tup [(V.int .i64 a4), (V.int .i64 (0 : Int))])), [], none⟩)))))))))))) := (den_eq ..).trans (by kernel_rfl)
end ref04_typed
namespace ref04_is
noncomputable abbrev e (p : List Nat) := ev Sp (den Sp) id Tryz.f148.ntmps (cAt (bodyOf Tryz.f148) p)
noncomputable abbrev cn (n0 : List Nat) := canon Sp id n0
noncomputable abbrev K : K := kFin Sp (den Sp) Tryz.f148 0
theorem eq (a0_0 : Int) (a0_1 : ByteArray) (a0_2 : Int) (a0_3 a1 : List (List V)) (a2 a3 : Int) : den Sp id [(V.agg [(V.int .i64 a0_0), (V.str a0_1), (V.int .i64 a0_2), (V.sl .no T_api_Expr a0_3)]), (V.sl .no T_api_Var a1), (V.int .i64 a2), (V.int .i64 a3)] [] none =
    ((den Sp ref04_typed.id [(V.agg [(V.int .i64 a0_0), (V.str a0_1), (V.int .i64 a0_2), (V.sl .no T_api_Expr a0_3)]), (V.sl .no T_api_Var a1), (V.int .i64 a2), (V.int .i64 a3), (V.int .i64 a3)] [] none)).bind (fun r9 => (Res.onRet r9 (fun v10 => (V.asTup v10 2 (fun rd11 => (V.asInt (rd11 0) .i64 (fun n12 => (V.asInt (rd11 1) .i64 (fun n13 => (some ⟨(Out.ret (V.int .i64 n13)), [], none⟩)))))))))) := (den_eq ..).trans (by kernel_rfl)
end ref04_is
namespace ref04_holder
noncomputable abbrev e (p : List Nat) := ev Sp (den Sp) id Tryz.f147.ntmps (cAt (bodyOf Tryz.f147) p)
noncomputable abbrev cn (n0 : List Nat) := canon Sp id n0
noncomputable abbrev K : K := kFin Sp (den Sp) Tryz.f147 0
theorem eq (a0 : List (List V)) (a1 : ByteArray) (a2 : Int) (a3 : Bool) (a4 : Int) : den Sp id [(V.sl .no T_api_Var a0), (V.str a1), (V.int .i64 a2), (V.bool a3), (V.int .i64 a4)] [] none =
    ((den Sp ref04_Find.id [(V.sl .no T_api_Var a0), (V.str a1), (V.int .i64 a2)] [] none)).bind (fun r7 => (Res.onRet r7 (fun v8 => (V.asInt v8 .i64 (fun n9 => (bif (decide (n9 < (0 : Int))) then (some ⟨(Out.ret (V.int .i64 (40 : Int))), [], none⟩) else (if (((0 : Int) ≤ n9) ∧ (n9 < (a0.length : Int))) then (V.asInt (List.getD (List.getD a0 (Int.toNat n9) []) 2 V.undef) .i64 (fun n12 => (bif (!((decide (n12 > (0 : Int))) == a3)) then (some ⟨(Out.ret (V.int .i64 (41 : Int))), [], none⟩) else (bif (a4 != (0 : Int)) then (if (((0 : Int) ≤ n9) ∧ (n9 < (a0.length : Int))) then (V.asInt (List.getD (List.getD a0 (Int.toNat n9) []) 1 V.undef) .i64 (fun n13 => (bif (n13 != a4) then (some ⟨(Out.ret (V.int .i64 (41 : Int))), [], none⟩) else (some ⟨(Out.ret (V.int .i64 (0 : Int))), [], none⟩)))) else none) else (some ⟨(Out.ret (V.int .i64 (0 : Int))), [], none⟩))))) else none))))))) := (den_eq ..).trans (by kernel_rfl)
end ref04_holder
namespace ref04_first
noncomputable abbrev e (p : List Nat) := ev Sp (den Sp) id Tryz.f149.ntmps (cAt (bodyOf Tryz.f149) p)
noncomputable abbrev cn (n0 : List Nat) := canon Sp id n0
noncomputable abbrev K : K := kFin Sp (den Sp) Tryz.f149 0
noncomputable def L1_0_1_0 (l0 : List (List V)) (i1 : Int) : Option Res := LP (e [1, 0, 1, 0, 0]) (cn []) (kBlk 0 (kSeq (e [1, 1]) (K))) ([(0, (V.sl .no T_api_Errno l0)), (3, (V.int .i64 i1))], ⟨[], [], [], [], none⟩)
theorem L1_0_1_0_eq (l0 : List (List V)) (i1 : Int) : L1_0_1_0 l0 i1 =
    (bif (decide (i1 < (l0.length : Int))) then (if (((0 : Int) ≤ i1) ∧ (i1 < (l0.length : Int))) then (V.asInt (List.getD (List.getD l0 (Int.toNat i1) []) 0 V.undef) .i64 (fun n7 => (bif (n7 != (0 : Int)) then (if (((0 : Int) ≤ i1) ∧ (i1 < (l0.length : Int))) then (V.asInt (List.getD (List.getD l0 (Int.toNat i1) []) 0 V.undef) .i64 (fun n9 => (some ⟨(Out.ret (V.int .i64 n9)), [], none⟩))) else none) else (L1_0_1_0 l0 (IntKind.wrap .i64 (i1 + (1 : Int))))))) else none) else (some ⟨(Out.ret (V.int .i64 (0 : Int))), [], none⟩)) := (LP_eq ..).trans (by kernel_rfl)
theorem eq (a0 : (List (List V))) : den Sp id [(V.sl .no T_api_Errno a0)] [] none =
    (L1_0_1_0 a0 (0 : Int)) := (den_eq ..).trans (by kernel_rfl)
end ref04_first
namespace ref04_kinds
noncomputable abbrev e (p : List Nat) := ev Sp (den Sp) id Tryz.f146.ntmps (cAt (bodyOf Tryz.f146) p)
noncomputable abbrev cn (n0 : List Nat) := canon Sp id n0
noncomputable abbrev K : K := kFin Sp (den Sp) Tryz.f146 0
theorem eq (a0 : Int) : den Sp id [(V.int .i64 a0)] [] none =
    (bif (decide (a0 < (1 : Int))) then (some ⟨(Out.ret (V.int .i64 (Neg.neg (2 : Int)))), [], none⟩) else (bif (decide (a0 > (10 : Int))) then (some ⟨(Out.ret (V.int .i64 (Neg.neg (2 : Int)))), [], none⟩) else (if (((0 : Int) ≤ a0) ∧ (a0 < ((11 : Nat) : Int))) then (V.asInt (List.getD (List.getD [[(V.int .i64 (Neg.neg (1 : Int)))], [(V.int .i64 (0 : Int))], [(V.int .i64 (1 : Int))], [(V.int .i64 (2 : Int))], [(V.int .i64 (1 : Int))], [(V.int .i64 (1 : Int))], [(V.int .i64 (Neg.neg (1 : Int)))], [(V.int .i64 (Neg.neg (1 : Int)))], [(V.int .i64 (1 : Int))], [(V.int .i64 (0 : Int))], [(V.int .i64 (1 : Int))]] (Int.toNat a0) []) 0 V.undef) .i64 (fun n5 => (some ⟨(Out.ret (V.int .i64 n5)), [], none⟩))) else none))) := (den_eq ..).trans (by kernel_rfl)
end ref04_kinds
namespace ref04_call
noncomputable abbrev e (p : List Nat) := ev Sp (den Sp) id Tryz.f150.ntmps (cAt (bodyOf Tryz.f150) p)
noncomputable abbrev cn (n0 : List Nat) := canon Sp id n0
noncomputable abbrev K : K := kFin Sp (den Sp) Tryz.f150 0
noncomputable def L1_1_0_1_0 (l0 : List (List V)) (i1 i2 i3 : Int) (l4 : List (List V)) (i5 : Int) (s6 s7 : ByteArray) (i8 : Int) (l9 l10 l11 : List (List V)) : Option Res := LP (e [1, 1, 0, 1, 0, 0]) (cn [1004, 1005]) (kBlk 0 (kSeq (e [1, 1, 1]) (K))) ([(2, (V.sl .no T_api_Var l0)), (3, (V.int .i64 i1)), (4, (V.ref 1004 0)), (5, (V.ref 1005 0)), (9, (V.int .i64 i2)), (10, (V.int .i64 i3)), (11, V.undef), (12, V.undef)], ⟨[(1004, (Blk.cells T_api_Prog [(V.sl .no T_api_Proc l4)] false)), (1005, (Blk.cells T_api_Stmt [(V.int .i64 i5), (V.str s6), (V.str s7), (V.int .i64 i8), (V.sl .no T_api_Expr l9), (V.sl .no T_api_Stmt l10), (V.sl .no T_api_Stmt l11)] false))], [], [], [], none⟩)
noncomputable def L1_1_1_1_1_1_0_1_0 (l0 : List (List V)) (i1 i2 i3 i4 : Int) (l5 : List (List V)) (i6 : Int) (s7 s8 : ByteArray) (i9 : Int) (l10 l11 l12 : List (List V)) (s13 : ByteArray) (l14 : List (List V)) (i15 : Int) (l16 : List (List V)) : Option Res := LP (e [1, 1, 1, 1, 1, 1, 0, 1, 0, 0]) (cn [1004, 1005, 1011]) (kBlk 2 (kSeq (e [1, 1, 1, 1, 1, 1, 1]) (K))) ([(2, (V.sl .no T_api_Var l0)), (3, (V.int .i64 i1)), (4, (V.ref 1004 0)), (5, (V.ref 1005 0)), (9, (V.int .i64 i2)), (10, (V.int .i64 i3)), (11, (V.ref 1011 0)), (12, (V.int .i64 i4))], ⟨[(1004, (Blk.cells T_api_Prog [(V.sl .no T_api_Proc l5)] false)), (1005, (Blk.cells T_api_Stmt [(V.int .i64 i6), (V.str s7), (V.str s8), (V.int .i64 i9), (V.sl .no T_api_Expr l10), (V.sl .no T_api_Stmt l11), (V.sl .no T_api_Stmt l12)] false)), (1011, (Blk.cells T_api_Proc [(V.str s13), (V.sl .no T_api_Param l14), (V.int .i64 i15), (V.sl .no T_api_Stmt l16)] false))], [], [], [], none⟩)
theorem L1_1_0_1_0_eq (l0 : List (List V)) (i1 i2 i3 : Int) (l4 : List (List V)) (i5 : Int) (s6 s7 : ByteArray) (i8 : Int) (l9 l10 l11 : List (List V)) : L1_1_0_1_0 l0 i1 i2 i3 l4 i5 s6 s7 i8 l9 l10 l11 =
    (bif (decide (i3 ≥ (0 : Int))) then (if (((0 : Int) ≤ i3) ∧ (i3 < (l4.length : Int))) then (V.asStr (List.getD (List.getD l4 (Int.toNat i3) []) 0 V.undef) (fun s27 => (bif (decide (s27 = s7)) then (L1_1_0_1_0 l0 i1 i3 (IntKind.wrap .i64 (i3 - (1 : Int))) l4 i5 s6 s7 i8 l9 l10 l11) else (L1_1_0_1_0 l0 i1 i2 (IntKind.wrap .i64 (i3 - (1 : Int))) l4 i5 s6 s7 i8 l9 l10 l11)))) else none) else (bif (decide (i2 < (0 : Int))) then (some ⟨(Out.ret (V.int .i64 (40 : Int))), [], none⟩) else (if (((0 : Int) ≤ i2) ∧ (i2 < (l4.length : Int))) then (V.asStr (List.getD (List.getD l4 (Int.toNat i2) []) 0 V.undef) (fun s28 => (V.asSl (List.getD (List.getD l4 (Int.toNat i2) []) 1 V.undef) T_api_Param (fun es29 => (V.asInt (List.getD (List.getD l4 (Int.toNat i2) []) 2 V.undef) .i64 (fun n30 => (V.asSl (List.getD (List.getD l4 (Int.toNat i2) []) 3 V.undef) T_api_Stmt (fun es31 => (bif ((es29.length : Int) != (l9.length : Int)) then (some ⟨(Out.ret (V.int .i64 (41 : Int))), [], none⟩) else (L1_1_1_1_1_1_0_1_0 l0 i1 i2 i3 (0 : Int) l4 i5 s6 s7 i8 l9 l10 l11 s28 es29 n30 es31)))))))))) else none))) := (LP_eq ..).trans (by kernel_rfl)
theorem L1_1_1_1_1_1_0_1_0_eq (l0 : List (List V)) (i1 i2 i3 i4 : Int) (l5 : List (List V)) (i6 : Int) (s7 s8 : ByteArray) (i9 : Int) (l10 l11 l12 : List (List V)) (s13 : ByteArray) (l14 : List (List V)) (i15 : Int) (l16 : List (List V)) : L1_1_1_1_1_1_0_1_0 l0 i1 i2 i3 i4 l5 i6 s7 s8 i9 l10 l11 l12 s13 l14 i15 l16 =
    (bif (decide (i4 < (l10.length : Int))) then (if (((0 : Int) ≤ i4) ∧ (i4 < (l10.length : Int))) then (V.asInt (List.getD (List.getD l10 (Int.toNat i4) []) 0 V.undef) .i64 (fun n53 => (V.asStr (List.getD (List.getD l10 (Int.toNat i4) []) 1 V.undef) (fun s54 => (V.asInt (List.getD (List.getD l10 (Int.toNat i4) []) 2 V.undef) .i64 (fun n55 => (V.asSl (List.getD (List.getD l10 (Int.toNat i4) []) 3 V.undef) T_api_Expr (fun es56 => (if (((0 : Int) ≤ i4) ∧ (i4 < (l14.length : Int))) then (V.asInt (List.getD (List.getD l14 (Int.toNat i4) []) 1 V.undef) .i64 (fun n57 => ((den Sp ref04_is.id [(V.agg [(V.int .i64 n53), (V.str s54), (V.int .i64 n55), (V.sl .no T_api_Expr es56)]), (V.sl .no T_api_Var l0), (V.int .i64 i1), (V.int .i64 n57)] [] none)).bind (fun r58 => (Res.onRet r58 (fun v59 => (V.asInt v59 .i64 (fun n60 => (bif (n60 != (0 : Int)) then (some ⟨(Out.ret (V.int .i64 n60)), [], none⟩) else (L1_1_1_1_1_1_0_1_0 l0 i1 i2 i3 (IntKind.wrap .i64 (i4 + (1 : Int))) l5 i6 s7 s8 i9 l10 l11 l12 s13 l14 i15 l16))))))))) else none))))))))) else none) else (bif (decide (s7 = (ByteArray.mk #[]))) then (some ⟨(Out.ret (V.int .i64 (0 : Int))), [], none⟩) else ((den Sp ref04_holder.id [(V.sl .no T_api_Var l0), (V.str s7), (V.int .i64 i1), (V.bool false), (V.int .i64 (0 : Int))] [] none)).bind (fun r54 => (Res.onRet r54 (fun v55 => (V.asInt v55 .i64 (fun n56 => (bif (n56 != (0 : Int)) then (some ⟨(Out.ret (V.int .i64 n56)), [], none⟩) else (bif (i15 == (0 : Int)) then (some ⟨(Out.ret (V.int .i64 (41 : Int))), [], none⟩) else ((den Sp ref04_Find.id [(V.sl .no T_api_Var l0), (V.str s7), (V.int .i64 i1)] [] none)).bind (fun r59 => (Res.onRet r59 (fun v60 => (V.asInt v60 .i64 (fun n61 => (if (((0 : Int) ≤ n61) ∧ (n61 < (l0.length : Int))) then (V.asInt (List.getD (List.getD l0 (Int.toNat n61) []) 1 V.undef) .i64 (fun n62 => (bif (n62 != i15) then (some ⟨(Out.ret (V.int .i64 (41 : Int))), [], none⟩) else (some ⟨(Out.ret (V.int .i64 (0 : Int))), [], none⟩)))) else none))))))))))))))) := (LP_eq ..).trans (by kernel_rfl)
theorem eq (a0_0 : List (List V)) (a1_0 : Int) (a1_1 a1_2 : ByteArray) (a1_3 : Int) (a1_4 a1_5 a1_6 a2 : List (List V)) (a3 : Int) : den Sp id [(V.agg [(V.sl .no T_api_Proc a0_0)]), (V.agg [(V.int .i64 a1_0), (V.str a1_1), (V.str a1_2), (V.int .i64 a1_3), (V.sl .no T_api_Expr a1_4), (V.sl .no T_api_Stmt a1_5), (V.sl .no T_api_Stmt a1_6)]), (V.sl .no T_api_Var a2), (V.int .i64 a3)] [] none =
    (L1_1_0_1_0 a2 a3 (Neg.neg (1 : Int)) (IntKind.wrap .i64 ((a0_0.length : Int) - (1 : Int))) a0_0 a1_0 a1_1 a1_2 a1_3 a1_4 a1_5 a1_6) := (den_eq ..).trans (by kernel_rfl)
end ref04_call
namespace ref04_stmt
noncomputable abbrev e (p : List Nat) := ev Sp (den Sp) id Tryz.f101.ntmps (cAt (bodyOf Tryz.f101) p)
noncomputable abbrev cn (n0 : List Nat) := canon Sp id n0
noncomputable abbrev K : K := kFin Sp (den Sp) Tryz.f101 0
noncomputable def J1_1_0_1_0_0 (l0 : List (List V)) (i1 i2 : Int) (l3 : List (List V)) (s4 : ByteArray) (l5 : List (List V)) (i6 : Int) (l7 : List (List V)) (i8 : Int) (s9 s10 : ByteArray) (i11 : Int) (l12 l13 l14 : List (List V)) : Option Res := joinAt Sp (den Sp) id Tryz.f101.ntmps (cAt (bodyOf Tryz.f101) [1, 1, 0, 1, 0, 0]) (kSeq (e [1, 1, 0, 1, 0, 1]) (kSeq (e [1, 1, 1]) (K))) ([(3, (V.sl .no T_api_Var l0)), (4, (V.int .i64 i1)), (5, (V.ref 1005 0)), (6, (V.ref 1006 0)), (7, (V.ref 1007 0)), (11, (V.int .i64 i2)), (78, V.undef)], ⟨[(1005, (Blk.cells T_api_Prog [(V.sl .no T_api_Proc l3)] false)), (1006, (Blk.cells T_api_Proc [(V.str s4), (V.sl .no T_api_Param l5), (V.int .i64 i6), (V.sl .no T_api_Stmt l7)] false)), (1007, (Blk.cells T_api_Stmt [(V.int .i64 i8), (V.str s9), (V.str s10), (V.int .i64 i11), (V.sl .no T_api_Expr l12), (V.sl .no T_api_Stmt l13), (V.sl .no T_api_Stmt l14)] false))], [], [], [], none⟩)
noncomputable def J1_1_1_0_0 (l0 : List (List V)) (i1 i2 : Int) (l3 : List (List V)) (s4 : ByteArray) (l5 : List (List V)) (i6 : Int) (l7 : List (List V)) (i8 : Int) (s9 s10 : ByteArray) (i11 : Int) (l12 l13 l14 : List (List V)) : Option Res := joinAt Sp (den Sp) id Tryz.f101.ntmps (cAt (bodyOf Tryz.f101) [1, 1, 1, 0, 0]) (kSeq (e [1, 1, 1, 0, 1]) (kSeq (e [1, 1, 1, 1]) (K))) ([(3, (V.sl .no T_api_Var l0)), (4, (V.int .i64 i1)), (5, (V.ref 1005 0)), (6, (V.ref 1006 0)), (7, (V.ref 1007 0)), (11, (V.int .i64 i2)), (78, V.undef)], ⟨[(1005, (Blk.cells T_api_Prog [(V.sl .no T_api_Proc l3)] false)), (1006, (Blk.cells T_api_Proc [(V.str s4), (V.sl .no T_api_Param l5), (V.int .i64 i6), (V.sl .no T_api_Stmt l7)] false)), (1007, (Blk.cells T_api_Stmt [(V.int .i64 i8), (V.str s9), (V.str s10), (V.int .i64 i11), (V.sl .no T_api_Expr l12), (V.sl .no T_api_Stmt l13), (V.sl .no T_api_Stmt l14)] false))], [], [], [], none⟩)
noncomputable def J1_1_1_1_0_0 (l0 : List (List V)) (i1 i2 : Int) (l3 : List (List V)) (s4 : ByteArray) (l5 : List (List V)) (i6 : Int) (l7 : List (List V)) (i8 : Int) (s9 s10 : ByteArray) (i11 : Int) (l12 l13 l14 : List (List V)) : Option Res := joinAt Sp (den Sp) id Tryz.f101.ntmps (cAt (bodyOf Tryz.f101) [1, 1, 1, 1, 0, 0]) (kSeq (e [1, 1, 1, 1, 0, 1]) (kSeq (e [1, 1, 1, 1, 1]) (K))) ([(3, (V.sl .no T_api_Var l0)), (4, (V.int .i64 i1)), (5, (V.ref 1005 0)), (6, (V.ref 1006 0)), (7, (V.ref 1007 0)), (11, (V.int .i64 i2)), (78, V.undef)], ⟨[(1005, (Blk.cells T_api_Prog [(V.sl .no T_api_Proc l3)] false)), (1006, (Blk.cells T_api_Proc [(V.str s4), (V.sl .no T_api_Param l5), (V.int .i64 i6), (V.sl .no T_api_Stmt l7)] false)), (1007, (Blk.cells T_api_Stmt [(V.int .i64 i8), (V.str s9), (V.str s10), (V.int .i64 i11), (V.sl .no T_api_Expr l12), (V.sl .no T_api_Stmt l13), (V.sl .no T_api_Stmt l14)] false))], [], [], [], none⟩)
noncomputable def J1_1_1_1_1_0 (l0 : List (List V)) (i1 i2 i3 : Int) (l4 : List (List V)) (s5 : ByteArray) (l6 : List (List V)) (i7 : Int) (l8 : List (List V)) (i9 : Int) (s10 s11 : ByteArray) (i12 : Int) (l13 l14 l15 : List (List V)) : Option Res := joinAt Sp (den Sp) id Tryz.f101.ntmps (cAt (bodyOf Tryz.f101) [1, 1, 1, 1, 1, 0]) (kSeq (e [1, 1, 1, 1, 1, 1]) (K)) ([(3, (V.sl .no T_api_Var l0)), (4, (V.int .i64 i1)), (5, (V.ref 1005 0)), (6, (V.ref 1006 0)), (7, (V.ref 1007 0)), (11, (V.int .i64 i2)), (78, (V.int .i64 i3))], ⟨[(1005, (Blk.cells T_api_Prog [(V.sl .no T_api_Proc l4)] false)), (1006, (Blk.cells T_api_Proc [(V.str s5), (V.sl .no T_api_Param l6), (V.int .i64 i7), (V.sl .no T_api_Stmt l8)] false)), (1007, (Blk.cells T_api_Stmt [(V.int .i64 i9), (V.str s10), (V.str s11), (V.int .i64 i12), (V.sl .no T_api_Expr l13), (V.sl .no T_api_Stmt l14), (V.sl .no T_api_Stmt l15)] false))], [], [], [], none⟩)
noncomputable def J1_1_1_1_0_1_0_1_1_1_1_1_1_1_0_0 (l0 : List (List V)) (i1 i2 i3 : Int) (l4 : List (List V)) (s5 : ByteArray) (l6 : List (List V)) (i7 : Int) (l8 : List (List V)) (i9 : Int) (s10 s11 : ByteArray) (i12 : Int) (l13 l14 l15 : List (List V)) : Option Res := joinAt Sp (den Sp) id Tryz.f101.ntmps (cAt (bodyOf Tryz.f101) [1, 1, 1, 1, 0, 1, 0, 1, 1, 1, 1, 1, 1, 1, 0, 0]) (kSeq (e [1, 1, 1, 1, 0, 1, 0, 1, 1, 1, 1, 1, 1, 1, 0, 1]) (kBlk 0 (kSeq (e [1, 1, 1, 1, 1]) (K)))) ([(3, (V.sl .no T_api_Var l0)), (4, (V.int .i64 i1)), (5, (V.ref 1005 0)), (6, (V.ref 1006 0)), (7, (V.ref 1007 0)), (11, (V.int .i64 i2)), (78, (V.int .i64 i3))], ⟨[(1005, (Blk.cells T_api_Prog [(V.sl .no T_api_Proc l4)] false)), (1006, (Blk.cells T_api_Proc [(V.str s5), (V.sl .no T_api_Param l6), (V.int .i64 i7), (V.sl .no T_api_Stmt l8)] false)), (1007, (Blk.cells T_api_Stmt [(V.int .i64 i9), (V.str s10), (V.str s11), (V.int .i64 i12), (V.sl .no T_api_Expr l13), (V.sl .no T_api_Stmt l14), (V.sl .no T_api_Stmt l15)] false))], [], [], [], none⟩)
noncomputable def J1_1_1_1_0_1_0_1_1_1_1_1_1_1_1_0 (l0 : List (List V)) (i1 i2 i3 : Int) (l4 : List (List V)) (s5 : ByteArray) (l6 : List (List V)) (i7 : Int) (l8 : List (List V)) (i9 : Int) (s10 s11 : ByteArray) (i12 : Int) (l13 l14 l15 : List (List V)) : Option Res := joinAt Sp (den Sp) id Tryz.f101.ntmps (cAt (bodyOf Tryz.f101) [1, 1, 1, 1, 0, 1, 0, 1, 1, 1, 1, 1, 1, 1, 1, 0]) (kSeq (e [1, 1, 1, 1, 0, 1, 0, 1, 1, 1, 1, 1, 1, 1, 1, 1]) (kBlk 0 (kSeq (e [1, 1, 1, 1, 1]) (K)))) ([(3, (V.sl .no T_api_Var l0)), (4, (V.int .i64 i1)), (5, (V.ref 1005 0)), (6, (V.ref 1006 0)), (7, (V.ref 1007 0)), (11, (V.int .i64 i2)), (78, (V.int .i64 i3))], ⟨[(1005, (Blk.cells T_api_Prog [(V.sl .no T_api_Proc l4)] false)), (1006, (Blk.cells T_api_Proc [(V.str s5), (V.sl .no T_api_Param l6), (V.int .i64 i7), (V.sl .no T_api_Stmt l8)] false)), (1007, (Blk.cells T_api_Stmt [(V.int .i64 i9), (V.str s10), (V.str s11), (V.int .i64 i12), (V.sl .no T_api_Expr l13), (V.sl .no T_api_Stmt l14), (V.sl .no T_api_Stmt l15)] false))], [], [], [], none⟩)
theorem J1_1_1_1_0_0_eq (l0 : List (List V)) (i1 i2 : Int) (l3 : List (List V)) (s4 : ByteArray) (l5 : List (List V)) (i6 : Int) (l7 : List (List V)) (i8 : Int) (s9 s10 : ByteArray) (i11 : Int) (l12 l13 l14 : List (List V)) : J1_1_1_1_0_0 l0 i1 i2 l3 s4 l5 i6 l7 i8 s9 s10 i11 l12 l13 l14 =
    (bif (i8 == (1 : Int)) then (bif (decide (i11 > (64 : Int))) then (some ⟨(Out.ret (V.int .i64 (2 : Int))), [], none⟩) else (J1_1_1_1_1_0 l0 i1 i2 i8 l3 s4 l5 i6 l7 i8 s9 s10 i11 l12 l13 l14)) else (bif (i8 == (2 : Int)) then ((den Sp ref04_holder.id [(V.sl .no T_api_Var l0), (V.str s9), (V.int .i64 i1), (V.bool false), (V.int .i64 (0 : Int))] [] none)).bind (fun r55 => (Res.onRet r55 (fun v56 => (V.asInt v56 .i64 (fun n57 => (bif (n57 != (0 : Int)) then (some ⟨(Out.ret (V.int .i64 n57)), [], none⟩) else (if (((0 : Int) ≤ (0 : Int)) ∧ ((0 : Int) < (l12.length : Int))) then (V.asInt (List.getD (List.getD l12 0 []) 0 V.undef) .i64 (fun n60 => (V.asStr (List.getD (List.getD l12 0 []) 1 V.undef) (fun s61 => (V.asInt (List.getD (List.getD l12 0 []) 2 V.undef) .i64 (fun n62 => (V.asSl (List.getD (List.getD l12 0 []) 3 V.undef) T_api_Expr (fun es63 => ((den Sp ref04_Find.id [(V.sl .no T_api_Var l0), (V.str s9), (V.int .i64 i1)] [] none)).bind (fun r64 => (Res.onRet r64 (fun v65 => (V.asInt v65 .i64 (fun n66 => (if (((0 : Int) ≤ n66) ∧ (n66 < (l0.length : Int))) then (V.asInt (List.getD (List.getD l0 (Int.toNat n66) []) 1 V.undef) .i64 (fun n67 => ((den Sp ref04_is.id [(V.agg [(V.int .i64 n60), (V.str s61), (V.int .i64 n62), (V.sl .no T_api_Expr es63)]), (V.sl .no T_api_Var l0), (V.int .i64 i1), (V.int .i64 n67)] [] none)).bind (fun r68 => (Res.onRet r68 (fun v69 => (V.asInt v69 .i64 (fun n70 => (some ⟨(Out.ret (V.int .i64 n70)), [], none⟩)))))))) else none)))))))))))))) else none))))))) else (bif (i8 == (3 : Int)) then ((den Sp ref04_holder.id [(V.sl .no T_api_Var l0), (V.str s9), (V.int .i64 i1), (V.bool true), (V.int .i64 (0 : Int))] [] none)).bind (fun r56 => (Res.onRet r56 (fun v57 => (V.asInt v57 .i64 (fun n58 => (if (((0 : Int) ≤ (0 : Int)) ∧ ((0 : Int) < (l12.length : Int))) then (V.asInt (List.getD (List.getD l12 0 []) 0 V.undef) .i64 (fun n59 => (V.asStr (List.getD (List.getD l12 0 []) 1 V.undef) (fun s60 => (V.asInt (List.getD (List.getD l12 0 []) 2 V.undef) .i64 (fun n61 => (V.asSl (List.getD (List.getD l12 0 []) 3 V.undef) T_api_Expr (fun es62 => ((den Sp ref04_is.id [(V.agg [(V.int .i64 n59), (V.str s60), (V.int .i64 n61), (V.sl .no T_api_Expr es62)]), (V.sl .no T_api_Var l0), (V.int .i64 i1), (V.int .i64 (1 : Int))] [] none)).bind (fun r63 => (Res.onRet r63 (fun v64 => (V.asInt v64 .i64 (fun n65 => (if (((0 : Int) ≤ (1 : Int)) ∧ ((1 : Int) < (l12.length : Int))) then (V.asInt (List.getD (List.getD l12 1 []) 0 V.undef) .i64 (fun n66 => (V.asStr (List.getD (List.getD l12 1 []) 1 V.undef) (fun s67 => (V.asInt (List.getD (List.getD l12 1 []) 2 V.undef) .i64 (fun n68 => (V.asSl (List.getD (List.getD l12 1 []) 3 V.undef) T_api_Expr (fun es69 => ((den Sp ref04_is.id [(V.agg [(V.int .i64 n66), (V.str s67), (V.int .i64 n68), (V.sl .no T_api_Expr es69)]), (V.sl .no T_api_Var l0), (V.int .i64 i1), (V.int .i64 (1 : Int))] [] none)).bind (fun r70 => (Res.onRet r70 (fun v71 => (V.asInt v71 .i64 (fun n72 => ((den Sp ref04_first.id [(V.sl .no T_api_Errno [[(V.int .i64 n58)], [(V.int .i64 n65)], [(V.int .i64 n72)]])] [] none)).bind (fun r73 => (Res.onRet r73 (fun v74 => (V.asInt v74 .i64 (fun n75 => (some ⟨(Out.ret (V.int .i64 n75)), [], none⟩))))))))))))))))))) else none)))))))))))))) else none)))))) else (bif (i8 == (4 : Int)) then (J1_1_1_1_0_1_0_1_1_1_1_1_1_1_0_0 l0 i1 i2 i8 l3 s4 l5 i6 l7 i8 s9 s10 i11 l12 l13 l14) else (bif (i8 == (5 : Int)) then (J1_1_1_1_0_1_0_1_1_1_1_1_1_1_0_0 l0 i1 i2 i8 l3 s4 l5 i6 l7 i8 s9 s10 i11 l12 l13 l14) else (bif (i8 == (10 : Int)) then (J1_1_1_1_0_1_0_1_1_1_1_1_1_1_0_0 l0 i1 i2 i8 l3 s4 l5 i6 l7 i8 s9 s10 i11 l12 l13 l14) else (J1_1_1_1_0_1_0_1_1_1_1_1_1_1_1_0 l0 i1 i2 i8 l3 s4 l5 i6 l7 i8 s9 s10 i11 l12 l13 l14))))))) := (joinAt_eq ..).trans (by kernel_rfl)
theorem J1_1_1_1_1_0_eq (l0 : List (List V)) (i1 i2 i3 : Int) (l4 : List (List V)) (s5 : ByteArray) (l6 : List (List V)) (i7 : Int) (l8 : List (List V)) (i9 : Int) (s10 s11 : ByteArray) (i12 : Int) (l13 l14 l15 : List (List V)) : J1_1_1_1_1_0 l0 i1 i2 i3 l4 s5 l6 i7 l8 i9 s10 s11 i12 l13 l14 l15 =
    (some ⟨(Out.ret (V.int .i64 (0 : Int))), [], none⟩) := (joinAt_eq ..).trans (by kernel_rfl)
theorem eq (a0_0 : List (List V)) (a1_0 : ByteArray) (a1_1 : List (List V)) (a1_2 : Int) (a1_3 : List (List V)) (a2_0 : Int) (a2_1 a2_2 : ByteArray) (a2_3 : Int) (a2_4 a2_5 a2_6 a3 : List (List V)) (a4 : Int) : den Sp id [(V.agg [(V.sl .no T_api_Proc a0_0)]), (V.agg [(V.str a1_0), (V.sl .no T_api_Param a1_1), (V.int .i64 a1_2), (V.sl .no T_api_Stmt a1_3)]), (V.agg [(V.int .i64 a2_0), (V.str a2_1), (V.str a2_2), (V.int .i64 a2_3), (V.sl .no T_api_Expr a2_4), (V.sl .no T_api_Stmt a2_5), (V.sl .no T_api_Stmt a2_6)]), (V.sl .no T_api_Var a3), (V.int .i64 a4)] [] none =
    ((den Sp ref04_kinds.id [(V.int .i64 a2_0)] [] none)).bind (fun r16 => (Res.onRet r16 (fun v17 => (V.asInt v17 .i64 (fun n18 => (bif (decide ((a2_5.length : Int) > (0 : Int))) then (bif (a2_0 != (4 : Int)) then (bif (a2_0 != (5 : Int)) then (J1_1_0_1_0_0 a3 a4 n18 a0_0 a1_0 a1_1 a1_2 a1_3 a2_0 a2_1 a2_2 a2_3 a2_4 a2_5 a2_6) else (bif (decide ((a2_6.length : Int) > (0 : Int))) then (bif (a2_0 != (4 : Int)) then (J1_1_0_1_0_0 a3 a4 n18 a0_0 a1_0 a1_1 a1_2 a1_3 a2_0 a2_1 a2_2 a2_3 a2_4 a2_5 a2_6) else (bif (a2_0 == (1 : Int)) then (bif (decide (a2_3 < (Neg.neg (1 : Int)))) then (J1_1_0_1_0_0 a3 a4 n18 a0_0 a1_0 a1_1 a1_2 a1_3 a2_0 a2_1 a2_2 a2_3 a2_4 a2_5 a2_6) else (J1_1_1_0_0 a3 a4 n18 a0_0 a1_0 a1_1 a1_2 a1_3 a2_0 a2_1 a2_2 a2_3 a2_4 a2_5 a2_6)) else (J1_1_1_0_0 a3 a4 n18 a0_0 a1_0 a1_1 a1_2 a1_3 a2_0 a2_1 a2_2 a2_3 a2_4 a2_5 a2_6))) else (bif (a2_0 == (1 : Int)) then (bif (decide (a2_3 < (Neg.neg (1 : Int)))) then (J1_1_0_1_0_0 a3 a4 n18 a0_0 a1_0 a1_1 a1_2 a1_3 a2_0 a2_1 a2_2 a2_3 a2_4 a2_5 a2_6) else (J1_1_1_0_0 a3 a4 n18 a0_0 a1_0 a1_1 a1_2 a1_3 a2_0 a2_1 a2_2 a2_3 a2_4 a2_5 a2_6)) else (J1_1_1_0_0 a3 a4 n18 a0_0 a1_0 a1_1 a1_2 a1_3 a2_0 a2_1 a2_2 a2_3 a2_4 a2_5 a2_6)))) else (bif (decide ((a2_6.length : Int) > (0 : Int))) then (bif (a2_0 != (4 : Int)) then (J1_1_0_1_0_0 a3 a4 n18 a0_0 a1_0 a1_1 a1_2 a1_3 a2_0 a2_1 a2_2 a2_3 a2_4 a2_5 a2_6) else (bif (a2_0 == (1 : Int)) then (bif (decide (a2_3 < (Neg.neg (1 : Int)))) then (J1_1_0_1_0_0 a3 a4 n18 a0_0 a1_0 a1_1 a1_2 a1_3 a2_0 a2_1 a2_2 a2_3 a2_4 a2_5 a2_6) else (J1_1_1_0_0 a3 a4 n18 a0_0 a1_0 a1_1 a1_2 a1_3 a2_0 a2_1 a2_2 a2_3 a2_4 a2_5 a2_6)) else (J1_1_1_0_0 a3 a4 n18 a0_0 a1_0 a1_1 a1_2 a1_3 a2_0 a2_1 a2_2 a2_3 a2_4 a2_5 a2_6))) else (bif (a2_0 == (1 : Int)) then (bif (decide (a2_3 < (Neg.neg (1 : Int)))) then (J1_1_0_1_0_0 a3 a4 n18 a0_0 a1_0 a1_1 a1_2 a1_3 a2_0 a2_1 a2_2 a2_3 a2_4 a2_5 a2_6) else (J1_1_1_0_0 a3 a4 n18 a0_0 a1_0 a1_1 a1_2 a1_3 a2_0 a2_1 a2_2 a2_3 a2_4 a2_5 a2_6)) else (J1_1_1_0_0 a3 a4 n18 a0_0 a1_0 a1_1 a1_2 a1_3 a2_0 a2_1 a2_2 a2_3 a2_4 a2_5 a2_6)))) else (bif (decide ((a2_6.length : Int) > (0 : Int))) then (bif (a2_0 != (4 : Int)) then (J1_1_0_1_0_0 a3 a4 n18 a0_0 a1_0 a1_1 a1_2 a1_3 a2_0 a2_1 a2_2 a2_3 a2_4 a2_5 a2_6) else (bif (a2_0 == (1 : Int)) then (bif (decide (a2_3 < (Neg.neg (1 : Int)))) then (J1_1_0_1_0_0 a3 a4 n18 a0_0 a1_0 a1_1 a1_2 a1_3 a2_0 a2_1 a2_2 a2_3 a2_4 a2_5 a2_6) else (J1_1_1_0_0 a3 a4 n18 a0_0 a1_0 a1_1 a1_2 a1_3 a2_0 a2_1 a2_2 a2_3 a2_4 a2_5 a2_6)) else (J1_1_1_0_0 a3 a4 n18 a0_0 a1_0 a1_1 a1_2 a1_3 a2_0 a2_1 a2_2 a2_3 a2_4 a2_5 a2_6))) else (bif (a2_0 == (1 : Int)) then (bif (decide (a2_3 < (Neg.neg (1 : Int)))) then (J1_1_0_1_0_0 a3 a4 n18 a0_0 a1_0 a1_1 a1_2 a1_3 a2_0 a2_1 a2_2 a2_3 a2_4 a2_5 a2_6) else (J1_1_1_0_0 a3 a4 n18 a0_0 a1_0 a1_1 a1_2 a1_3 a2_0 a2_1 a2_2 a2_3 a2_4 a2_5 a2_6)) else (J1_1_1_0_0 a3 a4 n18 a0_0 a1_0 a1_1 a1_2 a1_3 a2_0 a2_1 a2_2 a2_3 a2_4 a2_5 a2_6))))))))) := (den_eq ..).trans (by kernel_rfl)
end ref04_stmt
namespace ref04_Returns
noncomputable abbrev e (p : List Nat) := ev Sp (den Sp) id Tryz.f102.ntmps (cAt (bodyOf Tryz.f102) p)
noncomputable abbrev cn (n0 : List Nat) := canon Sp id n0
noncomputable abbrev K : K := kFin Sp (den Sp) Tryz.f102 0
noncomputable def L1_0_1_0 (l0 : List (List V)) (i1 : Int) : Option Res := LP (e [1, 0, 1, 0, 0]) (cn []) (kBlk 0 (kSeq (e [1, 1]) (K))) ([(0, (V.sl .no T_api_Stmt l0)), (3, (V.int .i64 i1))], ⟨[], [], [], [], none⟩)
theorem L1_0_1_0_eq (l0 : List (List V)) (i1 : Int) : L1_0_1_0 l0 i1 =
    (bif (decide (i1 < (l0.length : Int))) then (if (((0 : Int) ≤ i1) ∧ (i1 < (l0.length : Int))) then (V.asInt (List.getD (List.getD l0 (Int.toNat i1) []) 0 V.undef) .i64 (fun n7 => (bif (n7 == (7 : Int)) then (some ⟨(Out.ret (V.bool true)), [], none⟩) else (if (((0 : Int) ≤ i1) ∧ (i1 < (l0.length : Int))) then (V.asInt (List.getD (List.getD l0 (Int.toNat i1) []) 0 V.undef) .i64 (fun n9 => (bif (n9 == (4 : Int)) then (if (((0 : Int) ≤ i1) ∧ (i1 < (l0.length : Int))) then (V.asSl (List.getD (List.getD l0 (Int.toNat i1) []) 5 V.undef) T_api_Stmt (fun es10 => ((den Sp ref04_Returns.id [(V.sl .no T_api_Stmt es10)] [] none)).bind (fun r11 => (Res.onRet r11 (fun v12 => (V.asBool v12 (fun b13 => (bif b13 then (if (((0 : Int) ≤ i1) ∧ (i1 < (l0.length : Int))) then (V.asSl (List.getD (List.getD l0 (Int.toNat i1) []) 6 V.undef) T_api_Stmt (fun es14 => ((den Sp ref04_Returns.id [(V.sl .no T_api_Stmt es14)] [] none)).bind (fun r15 => (Res.onRet r15 (fun v16 => (V.asBool v16 (fun b17 => (bif b17 then (some ⟨(Out.ret (V.bool true)), [], none⟩) else (L1_0_1_0 l0 (IntKind.wrap .i64 (i1 + (1 : Int)))))))))))) else none) else (L1_0_1_0 l0 (IntKind.wrap .i64 (i1 + (1 : Int)))))))))))) else none) else (L1_0_1_0 l0 (IntKind.wrap .i64 (i1 + (1 : Int))))))) else none)))) else none) else (some ⟨(Out.ret (V.bool false)), [], none⟩)) := (LP_eq ..).trans (by kernel_rfl)
theorem eq (a0 : (List (List V))) : den Sp id [(V.sl .no T_api_Stmt a0)] [] none =
    (L1_0_1_0 a0 (0 : Int)) := (den_eq ..).trans (by kernel_rfl)
end ref04_Returns
namespace ref04_Vars
noncomputable abbrev e (p : List Nat) := ev Sp (den Sp) id Tryz.f56.ntmps (cAt (bodyOf Tryz.f56) p)
noncomputable abbrev cn (n0 : List Nat) := canon Sp id n0
noncomputable abbrev K : K := kFin Sp (den Sp) Tryz.f56 0
noncomputable def L1_1_1_0_1_0 (l0 l1 : List (List V)) (i2 : Int) (s3 : ByteArray) (l4 : List (List V)) (i5 : Int) (l6 : List (List V)) : Option Res := LP (e [1, 1, 1, 0, 1, 0, 0]) (cn [1001]) (kBlk 0 (kSeq (e [1, 1, 1, 1]) (K))) ([(1, (V.ref 1001 0)), (3, (V.sl .no T_parallaxref04_Item l0)), (4, (V.sl (Tok.row 0) T_api_Var l1)), (5, (V.int .i64 i2)), (6, V.undef)], ⟨[(1001, (Blk.cells T_api_Proc [(V.str s3), (V.sl .no T_api_Param l4), (V.int .i64 i5), (V.sl .no T_api_Stmt l6)] false))], [0], [], [], none⟩)
noncomputable def L1_1_1_1_0_1_0 (l0 l1 : List (List V)) (i2 i3 : Int) (s4 : ByteArray) (l5 : List (List V)) (i6 : Int) (l7 : List (List V)) : Option Res := LP (e [1, 1, 1, 1, 0, 1, 0, 0]) (cn [1001]) (kBlk 2 (kSeq (e [1, 1, 1, 1, 1]) (K))) ([(1, (V.ref 1001 0)), (3, (V.sl .no T_parallaxref04_Item l0)), (4, (V.sl (Tok.row 0) T_api_Var l1)), (5, (V.int .i64 i2)), (6, (V.int .i64 i3))], ⟨[(1001, (Blk.cells T_api_Proc [(V.str s4), (V.sl .no T_api_Param l5), (V.int .i64 i6), (V.sl .no T_api_Stmt l7)] false))], [0], [], [], none⟩)
theorem L1_1_1_0_1_0_eq (l0 l1 : List (List V)) (i2 : Int) (s3 : ByteArray) (l4 : List (List V)) (i5 : Int) (l6 : List (List V)) : L1_1_1_0_1_0 l0 l1 i2 s3 l4 i5 l6 =
    (bif (decide (i2 < (l4.length : Int))) then (if (((0 : Int) ≤ i2) ∧ (i2 < (l4.length : Int))) then (V.asStr (List.getD (List.getD l4 (Int.toNat i2) []) 0 V.undef) (fun s20 => (if (((0 : Int) ≤ i2) ∧ (i2 < (l4.length : Int))) then (V.asInt (List.getD (List.getD l4 (Int.toNat i2) []) 1 V.undef) .i64 (fun n21 => (if (((List.length l1) + (List.length [[(V.str s20), (V.int .i64 n21), (V.int .i64 (0 : Int)), (V.int .i64 (0 : Int)), (V.int .i64 (IntKind.wrap .i64 ((l0.length : Int) + (1 : Int))))]])) ≤ most) then (L1_1_1_0_1_0 l0 (l1 ++ [[(V.str s20), (V.int .i64 n21), (V.int .i64 (0 : Int)), (V.int .i64 (0 : Int)), (V.int .i64 (IntKind.wrap .i64 ((l0.length : Int) + (1 : Int))))]]) (IntKind.wrap .i64 (i2 + (1 : Int))) s3 l4 i5 l6) else none))) else none))) else none) else (L1_1_1_1_0_1_0 l0 l1 i2 (0 : Int) s3 l4 i5 l6)) := (LP_eq ..).trans (by kernel_rfl)
theorem L1_1_1_1_0_1_0_eq (l0 l1 : List (List V)) (i2 i3 : Int) (s4 : ByteArray) (l5 : List (List V)) (i6 : Int) (l7 : List (List V)) : L1_1_1_1_0_1_0 l0 l1 i2 i3 s4 l5 i6 l7 =
    (bif (decide (i3 < (l0.length : Int))) then (if (((0 : Int) ≤ i3) ∧ (i3 < (l0.length : Int))) then (V.asInt (List.getD (List.getD l0 (Int.toNat i3) []) 0 V.undef) .i64 (fun n30 => (V.asStr (List.getD (List.getD l0 (Int.toNat i3) []) 1 V.undef) (fun s31 => (V.asStr (List.getD (List.getD l0 (Int.toNat i3) []) 2 V.undef) (fun s32 => (V.asInt (List.getD (List.getD l0 (Int.toNat i3) []) 3 V.undef) .i64 (fun n33 => (V.asSl (List.getD (List.getD l0 (Int.toNat i3) []) 4 V.undef) T_api_Expr (fun es34 => (V.asSl (List.getD (List.getD l0 (Int.toNat i3) []) 5 V.undef) T_api_Stmt (fun es35 => (V.asSl (List.getD (List.getD l0 (Int.toNat i3) []) 6 V.undef) T_api_Stmt (fun es36 => (bif (n30 != (1 : Int)) then (L1_1_1_1_0_1_0 l0 l1 i2 (IntKind.wrap .i64 (i3 + (1 : Int))) s4 l5 i6 l7) else (if (((0 : Int) ≤ i3) ∧ (i3 < (l0.length : Int))) then (V.asInt (List.getD (List.getD l0 (Int.toNat i3) []) 7 V.undef) .i64 (fun n39 => (bif (n33 == (Neg.neg (1 : Int))) then (if (((List.length l1) + (List.length [[(V.str s31), (V.int .i64 (2 : Int)), (V.int .i64 (0 : Int)), (V.int .i64 (IntKind.wrap .i64 (i3 + (2 : Int)))), (V.int .i64 n39)]])) ≤ most) then (L1_1_1_1_0_1_0 l0 (l1 ++ [[(V.str s31), (V.int .i64 (2 : Int)), (V.int .i64 (0 : Int)), (V.int .i64 (IntKind.wrap .i64 (i3 + (2 : Int)))), (V.int .i64 n39)]]) i2 (IntKind.wrap .i64 (i3 + (1 : Int))) s4 l5 i6 l7) else none) else (bif (decide (n33 > (64 : Int))) then (if (((List.length l1) + (List.length [[(V.str s31), (V.int .i64 (1 : Int)), (V.int .i64 (65 : Int)), (V.int .i64 (IntKind.wrap .i64 (i3 + (2 : Int)))), (V.int .i64 n39)]])) ≤ most) then (L1_1_1_1_0_1_0 l0 (l1 ++ [[(V.str s31), (V.int .i64 (1 : Int)), (V.int .i64 (65 : Int)), (V.int .i64 (IntKind.wrap .i64 (i3 + (2 : Int)))), (V.int .i64 n39)]]) i2 (IntKind.wrap .i64 (i3 + (1 : Int))) s4 l5 i6 l7) else none) else (if (((List.length l1) + (List.length [[(V.str s31), (V.int .i64 (1 : Int)), (V.int .i64 n33), (V.int .i64 (IntKind.wrap .i64 (i3 + (2 : Int)))), (V.int .i64 n39)]])) ≤ most) then (L1_1_1_1_0_1_0 l0 (l1 ++ [[(V.str s31), (V.int .i64 (1 : Int)), (V.int .i64 n33), (V.int .i64 (IntKind.wrap .i64 (i3 + (2 : Int)))), (V.int .i64 n39)]]) i2 (IntKind.wrap .i64 (i3 + (1 : Int))) s4 l5 i6 l7) else none))))) else none)))))))))))))))) else none) else (some ⟨(Out.ret (V.sl .no T_api_Var l1)), [], none⟩)) := (LP_eq ..).trans (by kernel_rfl)
theorem eq (a0_0 : ByteArray) (a0_1 : List (List V)) (a0_2 : Int) (a0_3 : List (List V)) : den Sp id [(V.agg [(V.str a0_0), (V.sl .no T_api_Param a0_1), (V.int .i64 a0_2), (V.sl .no T_api_Stmt a0_3)])] [] none =
    ((den Sp ref04_Row.id [(V.sl .no T_api_Stmt a0_3), (V.int .i64 (1 : Int))] [] none)).bind (fun r6 => (Res.onRet r6 (fun v7 => (V.asSl v7 T_parallaxref04_Item (fun es8 => (L1_1_1_0_1_0 es8 [] (0 : Int) a0_0 a0_1 a0_2 a0_3)))))) := (den_eq ..).trans (by kernel_rfl)
end ref04_Vars
namespace ref04_proc
noncomputable abbrev e (p : List Nat) := ev Sp (den Sp) id Tryz.f55.ntmps (cAt (bodyOf Tryz.f55) p)
noncomputable abbrev cn (n0 : List Nat) := canon Sp id n0
noncomputable abbrev K : K := kFin Sp (den Sp) Tryz.f55 0
noncomputable def L1_1_1_0_1_0 (l0 l1 : List (List V)) (s2 : ByteArray) (l3 : List (List V)) (i4 : Int) (l5 : List (List V)) : Option Res := LP (e [1, 1, 1, 0, 1, 0, 0]) (cn [1002, 1003]) (kBlk 0 (kSeq (e [1, 1, 1, 1]) (K))) ([(2, (V.ref 1002 0)), (3, (V.ref 1003 0)), (6, (V.sl .no T_api_Var l0)), (7, (V.int .i64 (0 : Int))), (8, V.undef), (9, V.undef), (10, V.undef)], ⟨[(1002, (Blk.cells T_api_Prog [(V.sl .no T_api_Proc l1)] false)), (1003, (Blk.cells T_api_Proc [(V.str s2), (V.sl .no T_api_Param l3), (V.int .i64 i4), (V.sl .no T_api_Stmt l5)] false))], [], [], [], none⟩)
noncomputable def L1_1_1_0_1_0_0_1_0_0_1_0 (l0 : List (List V)) (i1 i2 : Int) (l3 : List (List V)) (s4 : ByteArray) (l5 : List (List V)) (i6 : Int) (l7 : List (List V)) : Option Res := LP (e [1, 1, 1, 0, 1, 0, 0, 1, 0, 0, 1, 0, 0]) (cn [1002, 1003]) (kBlk 2 (kBlk 1 (kSeq (e [1, 1, 1, 0, 1, 0, 0, 1, 1]) (kLp (e [1, 1, 1, 0, 1, 0, 0]) (cn [1002, 1003]) (kBlk 0 (kSeq (e [1, 1, 1, 1]) (K))))))) ([(2, (V.ref 1002 0)), (3, (V.ref 1003 0)), (6, (V.sl .no T_api_Var l0)), (7, (V.int .i64 i1)), (8, (V.int .i64 i2)), (9, V.undef), (10, V.undef)], ⟨[(1002, (Blk.cells T_api_Prog [(V.sl .no T_api_Proc l3)] false)), (1003, (Blk.cells T_api_Proc [(V.str s4), (V.sl .no T_api_Param l5), (V.int .i64 i6), (V.sl .no T_api_Stmt l7)] false))], [], [], [], none⟩)
noncomputable def L1_1_1_1_1_0_1_0 (l0 : List (List V)) (i1 i2 : Int) (l3 : List (List V)) (i4 : Int) (l5 : List (List V)) (s6 : ByteArray) (l7 : List (List V)) (i8 : Int) (l9 : List (List V)) : Option Res := LP (e [1, 1, 1, 1, 1, 0, 1, 0, 0]) (cn [1002, 1003]) (kBlk 4 (kSeq (e [1, 1, 1, 1, 1, 1]) (K))) ([(2, (V.ref 1002 0)), (3, (V.ref 1003 0)), (6, (V.sl .no T_api_Var l0)), (7, (V.int .i64 i1)), (8, (V.int .i64 i2)), (9, (V.sl .no T_parallaxref04_Item l3)), (10, (V.int .i64 i4))], ⟨[(1002, (Blk.cells T_api_Prog [(V.sl .no T_api_Proc l5)] false)), (1003, (Blk.cells T_api_Proc [(V.str s6), (V.sl .no T_api_Param l7), (V.int .i64 i8), (V.sl .no T_api_Stmt l9)] false))], [], [], [], none⟩)
noncomputable def L1_1_1_1_1_0_1_0v1 (l0 l1 : List (List V)) (i2 : Int) (l3 : List (List V)) (s4 : ByteArray) (l5 : List (List V)) (i6 : Int) (l7 : List (List V)) : Option Res := LP (e [1, 1, 1, 1, 1, 0, 1, 0, 0]) (cn [1002, 1003]) (kBlk 4 (kSeq (e [1, 1, 1, 1, 1, 1]) (K))) ([(2, (V.ref 1002 0)), (3, (V.ref 1003 0)), (6, (V.sl .no T_api_Var l0)), (7, (V.int .i64 (0 : Int))), (8, V.undef), (9, (V.sl .no T_parallaxref04_Item l1)), (10, (V.int .i64 i2))], ⟨[(1002, (Blk.cells T_api_Prog [(V.sl .no T_api_Proc l3)] false)), (1003, (Blk.cells T_api_Proc [(V.str s4), (V.sl .no T_api_Param l5), (V.int .i64 i6), (V.sl .no T_api_Stmt l7)] false))], [], [], [], none⟩)
theorem L1_1_1_0_1_0_eq (l0 l1 : List (List V)) (s2 : ByteArray) (l3 : List (List V)) (i4 : Int) (l5 : List (List V)) : L1_1_1_0_1_0 l0 l1 s2 l3 i4 l5 =
    (bif (decide ((0 : Int) < (l0.length : Int))) then (L1_1_1_0_1_0_0_1_0_0_1_0 l0 (0 : Int) (0 : Int) l1 s2 l3 i4 l5) else ((den Sp ref04_Row.id [(V.sl .no T_api_Stmt l5), (V.int .i64 (1 : Int))] [] none)).bind (fun r20 => (Res.onRet r20 (fun v21 => (V.asSl v21 T_parallaxref04_Item (fun es22 => (L1_1_1_1_1_0_1_0v1 l0 es22 (0 : Int) l1 s2 l3 i4 l5))))))) := (LP_eq ..).trans (by kernel_rfl)
theorem L1_1_1_1_1_0_1_0_eq (l0 : List (List V)) (i1 i2 : Int) (l3 : List (List V)) (i4 : Int) (l5 : List (List V)) (s6 : ByteArray) (l7 : List (List V)) (i8 : Int) (l9 : List (List V)) : L1_1_1_1_1_0_1_0 l0 i1 i2 l3 i4 l5 s6 l7 i8 l9 =
    (bif (decide (i4 < (l3.length : Int))) then (if (((0 : Int) ≤ i4) ∧ (i4 < (l3.length : Int))) then (V.asInt (List.getD (List.getD l3 (Int.toNat i4) []) 0 V.undef) .i64 (fun n56 => (V.asStr (List.getD (List.getD l3 (Int.toNat i4) []) 1 V.undef) (fun s57 => (V.asStr (List.getD (List.getD l3 (Int.toNat i4) []) 2 V.undef) (fun s58 => (V.asInt (List.getD (List.getD l3 (Int.toNat i4) []) 3 V.undef) .i64 (fun n59 => (V.asSl (List.getD (List.getD l3 (Int.toNat i4) []) 4 V.undef) T_api_Expr (fun es60 => (V.asSl (List.getD (List.getD l3 (Int.toNat i4) []) 5 V.undef) T_api_Stmt (fun es61 => (V.asSl (List.getD (List.getD l3 (Int.toNat i4) []) 6 V.undef) T_api_Stmt (fun es62 => ((den Sp ref04_stmt.id [(V.agg [(V.sl .no T_api_Proc l5)]), (V.agg [(V.str s6), (V.sl .no T_api_Param l7), (V.int .i64 i8), (V.sl .no T_api_Stmt l9)]), (V.agg [(V.int .i64 n56), (V.str s57), (V.str s58), (V.int .i64 n59), (V.sl .no T_api_Expr es60), (V.sl .no T_api_Stmt es61), (V.sl .no T_api_Stmt es62)]), (V.sl .no T_api_Var l0), (V.int .i64 (IntKind.wrap .i64 (i4 + (1 : Int))))] [] none)).bind (fun r63 => (Res.onRet r63 (fun v64 => (V.asInt v64 .i64 (fun n65 => (bif (n65 != (0 : Int)) then (some ⟨(Out.ret (V.tup [(V.int .i64 (IntKind.wrap .i64 (i4 + (1 : Int)))), (V.int .i64 n65)])), [], none⟩) else (L1_1_1_1_1_0_1_0 l0 i1 i2 l3 (IntKind.wrap .i64 (i4 + (1 : Int))) l5 s6 l7 i8 l9))))))))))))))))))))) else none) else (bif (i8 != (0 : Int)) then ((den Sp ref04_Returns.id [(V.sl .no T_api_Stmt l9)] [] none)).bind (fun r56 => (Res.onRet r56 (fun v57 => (V.asBool v57 (fun b58 => (bif (!b58) then (some ⟨(Out.ret (V.tup [(V.int .i64 (IntKind.wrap .i64 ((l3.length : Int) + (1 : Int)))), (V.int .i64 (43 : Int))])), [], none⟩) else (some ⟨(Out.ret (V.tup [(V.int .i64 (0 : Int)), (V.int .i64 (0 : Int))])), [], none⟩))))))) else (some ⟨(Out.ret (V.tup [(V.int .i64 (0 : Int)), (V.int .i64 (0 : Int))])), [], none⟩))) := (LP_eq ..).trans (by kernel_rfl)
theorem eq (a0_0 : List (List V)) (a1_0 : ByteArray) (a1_1 : List (List V)) (a1_2 : Int) (a1_3 : List (List V)) : den Sp id [(V.agg [(V.sl .no T_api_Proc a0_0)]), (V.agg [(V.str a1_0), (V.sl .no T_api_Param a1_1), (V.int .i64 a1_2), (V.sl .no T_api_Stmt a1_3)])] [] none =
    ((den Sp ref04_Vars.id [(V.agg [(V.str a1_0), (V.sl .no T_api_Param a1_1), (V.int .i64 a1_2), (V.sl .no T_api_Stmt a1_3)])] [] none)).bind (fun r7 => (Res.onRet r7 (fun v8 => (V.asSl v8 T_api_Var (fun es9 => (bif (decide ((a1_1.length : Int) > (8 : Int))) then (some ⟨(Out.ret (V.tup [(V.int .i64 (0 : Int)), (V.int .i64 (2 : Int))])), [], none⟩) else (bif (decide ((es9.length : Int) > (60 : Int))) then (some ⟨(Out.ret (V.tup [(V.int .i64 (0 : Int)), (V.int .i64 (2 : Int))])), [], none⟩) else (L1_1_1_0_1_0 es9 a0_0 a1_0 a1_1 a1_2 a1_3)))))))) := (den_eq ..).trans (by kernel_rfl)
end ref04_proc
namespace ref04_Check
noncomputable abbrev e (p : List Nat) := ev Sp (den Sp) id Tryz.f25.ntmps (cAt (bodyOf Tryz.f25) p)
noncomputable abbrev cn (n0 : List Nat) := canon Sp id n0
noncomputable abbrev K : K := kFin Sp (den Sp) Tryz.f25 0
noncomputable def L1_1_1_0_1_0 (l0 : (List (List V))) : Option Res := LP (e [1, 1, 1, 0, 1, 0, 0]) (cn [1001, 1002, 1003]) (kBlk 0 (kSeq (e [1, 1, 1, 1]) (K))) ([(1, (V.ref 1001 0)), (2, (V.ref 1002 0)), (3, (V.ref 1003 0)), (5, (V.bool false)), (6, (V.int .i64 (0 : Int))), (7, V.undef), (8, V.undef), (9, V.undef), (10, V.undef)], ⟨[(1001, (Blk.cells T_api_Prog [(V.sl .no T_api_Proc l0)] false)), (1002, (Blk.cells T_parallaxref04_Info [(V.sl (Tok.row 0) T_L_api_Var []), (V.sl (Tok.row 1) T_int [])] false)), (1003, (Blk.cells T_parallaxref04_Place [(V.int .i64 (0 : Int)), (V.int .i64 (0 : Int))] false))], [0, 1], [], [], none⟩)
noncomputable def L1_1_1_0_1_0_0_1_0_0_1_1_1_0 (b0 : Bool) (i1 i2 : Int) (l3 : List (List V)) (s4 : ByteArray) (l5 : List (List V)) (i6 : Int) (l7 : List (List V)) : Option Res := LP (e [1, 1, 1, 0, 1, 0, 0, 1, 0, 0, 1, 1, 1, 0, 0]) (cn [1001, 1002, 1003, 1007]) (kBlk 2 (kBlk 1 (kSeq (e [1, 1, 1, 0, 1, 0, 0, 1, 1]) (kLp (e [1, 1, 1, 0, 1, 0, 0]) (cn [1001, 1002, 1003]) (kBlk 0 (kSeq (e [1, 1, 1, 1]) (K))))))) ([(1, (V.ref 1001 0)), (2, (V.ref 1002 0)), (3, (V.ref 1003 0)), (5, (V.bool b0)), (6, (V.int .i64 i1)), (7, (V.ref 1007 0)), (8, (V.int .i64 i2)), (9, V.undef), (10, V.undef)], ⟨[(1001, (Blk.cells T_api_Prog [(V.sl .no T_api_Proc l3)] false)), (1002, (Blk.cells T_parallaxref04_Info [(V.sl (Tok.row 0) T_L_api_Var []), (V.sl (Tok.row 1) T_int [])] false)), (1003, (Blk.cells T_parallaxref04_Place [(V.int .i64 (0 : Int)), (V.int .i64 (0 : Int))] false)), (1007, (Blk.cells T_api_Proc [(V.str s4), (V.sl .no T_api_Param l5), (V.int .i64 i6), (V.sl .no T_api_Stmt l7)] false))], [0, 1], [], [], none⟩)
noncomputable def L1_1_1_1_1_1_0_1_0 (b0 : Bool) (i1 i2 i3 : Int) (l4 l5 l6 : List (List V)) : Option Res := LP (e [1, 1, 1, 1, 1, 1, 0, 1, 0, 0]) (cn [1001, 1002, 1003, 1009]) (kBlk 4 (kSeq (e [1, 1, 1, 1, 1, 1, 1]) (K))) ([(1, (V.ref 1001 0)), (2, (V.ref 1002 0)), (3, (V.ref 1003 0)), (5, (V.bool b0)), (6, (V.int .i64 i1)), (7, V.undef), (8, (V.int .i64 i2)), (9, (V.ref 1009 0)), (10, (V.int .i64 i3))], ⟨[(1001, (Blk.cells T_api_Prog [(V.sl .no T_api_Proc l4)] false)), (1002, (Blk.cells T_parallaxref04_Info [(V.sl (Tok.row 0) T_L_api_Var []), (V.sl (Tok.row 1) T_int [])] false)), (1003, (Blk.cells T_parallaxref04_Place [(V.int .i64 (0 : Int)), (V.int .i64 (0 : Int))] false)), (1009, (Blk.cells T_parallaxref04_Info [(V.sl (Tok.row 2) T_L_api_Var l5), (V.sl (Tok.row 3) T_int l6)] false))], [0, 1, 2, 3], [], [], none⟩)
theorem L1_1_1_0_1_0_eq (l0 : (List (List V))) : L1_1_1_0_1_0 l0 =
    (bif (decide ((0 : Int) < (l0.length : Int))) then (if (((0 : Int) ≤ (0 : Int)) ∧ ((0 : Int) < (l0.length : Int))) then (V.asStr (List.getD (List.getD l0 0 []) 0 V.undef) (fun s8 => (V.asSl (List.getD (List.getD l0 0 []) 1 V.undef) T_api_Param (fun es9 => (V.asInt (List.getD (List.getD l0 0 []) 2 V.undef) .i64 (fun n10 => (V.asSl (List.getD (List.getD l0 0 []) 3 V.undef) T_api_Stmt (fun es11 => (bif (decide (s8 = (ByteArray.mk #[109, 97, 105, 110]))) then (bif ((es9.length : Int) == (0 : Int)) then (L1_1_1_0_1_0_0_1_0_0_1_1_1_0 (n10 == (0 : Int)) (0 : Int) (0 : Int) l0 s8 es9 n10 es11) else (L1_1_1_0_1_0_0_1_0_0_1_1_1_0 false (0 : Int) (0 : Int) l0 s8 es9 n10 es11)) else (L1_1_1_0_1_0_0_1_0_0_1_1_1_0 false (0 : Int) (0 : Int) l0 s8 es9 n10 es11)))))))))) else none) else (some ⟨(Out.ret (V.tup [(V.agg [(V.sl .no T_L_api_Var []), (V.sl .no T_int [])]), (V.agg [(V.int .i64 (0 : Int)), (V.int .i64 (0 : Int))]), (V.int .i64 (42 : Int))])), [], none⟩)) := (LP_eq ..).trans (by kernel_rfl)
theorem L1_1_1_1_1_1_0_1_0_eq (b0 : Bool) (i1 i2 i3 : Int) (l4 l5 l6 : List (List V)) : L1_1_1_1_1_1_0_1_0 b0 i1 i2 i3 l4 l5 l6 =
    (bif (decide (i3 < (l4.length : Int))) then (if (((0 : Int) ≤ i3) ∧ (i3 < (l4.length : Int))) then (V.asStr (List.getD (List.getD l4 (Int.toNat i3) []) 0 V.undef) (fun s41 => (V.asSl (List.getD (List.getD l4 (Int.toNat i3) []) 1 V.undef) T_api_Param (fun es42 => (V.asInt (List.getD (List.getD l4 (Int.toNat i3) []) 2 V.undef) .i64 (fun n43 => (V.asSl (List.getD (List.getD l4 (Int.toNat i3) []) 3 V.undef) T_api_Stmt (fun es44 => ((den Sp ref04_proc.id [(V.agg [(V.sl .no T_api_Proc l4)]), (V.agg [(V.str s41), (V.sl .no T_api_Param es42), (V.int .i64 n43), (V.sl .no T_api_Stmt es44)])] [] none)).bind (fun r45 => (Res.onRet r45 (fun v46 => (V.asTup v46 2 (fun rd47 => (V.asInt (rd47 0) .i64 (fun n48 => (V.asInt (rd47 1) .i64 (fun n49 => (bif (n49 != (0 : Int)) then (some ⟨(Out.ret (V.tup [(V.agg [(V.sl .no T_L_api_Var []), (V.sl .no T_int [])]), (V.agg [(V.int .i64 i3), (V.int .i64 n48)]), (V.int .i64 n49)])), [], none⟩) else (if (((0 : Int) ≤ i3) ∧ (i3 < (l4.length : Int))) then (V.asStr (List.getD (List.getD l4 (Int.toNat i3) []) 0 V.undef) (fun s52 => (V.asSl (List.getD (List.getD l4 (Int.toNat i3) []) 1 V.undef) T_api_Param (fun es53 => (V.asInt (List.getD (List.getD l4 (Int.toNat i3) []) 2 V.undef) .i64 (fun n54 => (V.asSl (List.getD (List.getD l4 (Int.toNat i3) []) 3 V.undef) T_api_Stmt (fun es55 => ((den Sp ref04_Vars.id [(V.agg [(V.str s52), (V.sl .no T_api_Param es53), (V.int .i64 n54), (V.sl .no T_api_Stmt es55)])] [] none)).bind (fun r56 => (Res.onRet r56 (fun v57 => (V.asSl v57 T_api_Var (fun es58 => (if (((List.length l5) + (List.length [[(V.sl .no T_api_Var es58)]])) ≤ most) then (if (((0 : Int) ≤ i3) ∧ (i3 < (l4.length : Int))) then (V.asSl (List.getD (List.getD l4 (Int.toNat i3) []) 3 V.undef) T_api_Stmt (fun es60 => ((den Sp ref04_total.id [(V.sl .no T_api_Stmt es60)] [] none)).bind (fun r61 => (Res.onRet r61 (fun v62 => (V.asInt v62 .i64 (fun n63 => (if (((List.length l6) + (List.length [[(V.int .i64 n63)]])) ≤ most) then (L1_1_1_1_1_1_0_1_0 b0 i1 i2 (IntKind.wrap .i64 (i3 + (1 : Int))) l4 (l5 ++ [[(V.sl .no T_api_Var es58)]]) (l6 ++ [[(V.int .i64 n63)]])) else none)))))))) else none) else none)))))))))))))) else none))))))))))))))))))) else none) else (some ⟨(Out.ret (V.tup [(V.agg [(V.sl .no T_L_api_Var l5), (V.sl .no T_int l6)]), (V.agg [(V.int .i64 (0 : Int)), (V.int .i64 (0 : Int))]), (V.int .i64 (0 : Int))])), [], none⟩)) := (LP_eq ..).trans (by kernel_rfl)
theorem eq (a0_0 : (List (List V))) : den Sp id [(V.agg [(V.sl .no T_api_Proc a0_0)])] [] none =
    (bif (decide ((a0_0.length : Int) > (40 : Int))) then (some ⟨(Out.ret (V.tup [(V.agg [(V.sl .no T_L_api_Var []), (V.sl .no T_int [])]), (V.agg [(V.int .i64 (0 : Int)), (V.int .i64 (0 : Int))]), (V.int .i64 (2 : Int))])), [], none⟩) else (L1_1_1_0_1_0 a0_0)) := (den_eq ..).trans (by kernel_rfl)
end ref04_Check
end Go.Proofs.YtmhnmelaodhemaaGreatDoor
namespace Go.Proofs.YtmhnmelaodhemaaGreatDoor
open Go Go.Proofs.Ab Go.Proofs.Px
set_option linter.unusedVariables false
set_option linter.unusedSimpArgs false
set_option maxRecDepth 100000
end Go.Proofs.YtmhnmelaodhemaaGreatDoor
namespace Go.Proofs.YtmhnmelaodhemaaGreatDoor
open Go Go.Proofs.Ab Go.Proofs.Px
set_option linter.unusedVariables false
set_option linter.unusedSimpArgs false
set_option maxRecDepth 100000
section
variable (vs : List Vr) (hl : vs.length ≤ 140737488351232) (mark : Int)
include hl
end
section
variable (vs : List Vr) (hl : vs.length ≤ 140737488351232) (mark : Int) (ps : List Prc) (hps : ps.length ≤ 140737488351232) (q : Prc) (k : Int) (n p : List UInt8) (m : Int) (e : List Ex) (b l : List Stm) (he : e.length ≤ 140737488351232)
    (hv : ∀ v, findV n mark vs = some v → 0 ≤ v.size)
include hl hps he hv
end
end Go.Proofs.YtmhnmelaodhemaaGreatDoor
namespace Go.Proofs.YtmhnmelaodhemaaGreatDoor
open Go Go.Proofs.Ab
set_option maxRecDepth 100000
set_option linter.unusedVariables false
namespace ref04_total
noncomputable abbrev e (p : List Nat) := ev Sp (den Sp) id Tryz.f57.ntmps (cAt (bodyOf Tryz.f57) p)
noncomputable abbrev cn (n0 : List Nat) := canon Sp id n0
noncomputable abbrev K : K := kFin Sp (den Sp) Tryz.f57 0
noncomputable def L1_1_0_1_0 (l0 : List (List V)) (i1 i2 : Int) : Option Res := LP (e [1, 1, 0, 1, 0, 0]) (cn []) (kBlk 0 (kSeq (e [1, 1, 1]) (K))) ([(0, (V.sl .no T_api_Stmt l0)), (3, (V.int .i64 i1)), (4, (V.int .i64 i2))], ⟨[], [], [], [], none⟩)
theorem L1_1_0_1_0_eq (l0 : List (List V)) (i1 i2 : Int) : L1_1_0_1_0 l0 i1 i2 =
    (bif (decide (i2 < (l0.length : Int))) then (if (((0 : Int) ≤ i2) ∧ (i2 < (l0.length : Int))) then (V.asSl (List.getD (List.getD l0 (Int.toNat i2) []) 5 V.undef) T_api_Stmt (fun es10 => ((den Sp ref04_total.id [(V.sl .no T_api_Stmt es10)] [] none)).bind (fun r11 => (Res.onRet r11 (fun v12 => (V.asInt v12 .i64 (fun n13 => (if (((0 : Int) ≤ i2) ∧ (i2 < (l0.length : Int))) then (V.asSl (List.getD (List.getD l0 (Int.toNat i2) []) 6 V.undef) T_api_Stmt (fun es15 => ((den Sp ref04_total.id [(V.sl .no T_api_Stmt es15)] [] none)).bind (fun r16 => (Res.onRet r16 (fun v17 => (V.asInt v17 .i64 (fun n18 => (L1_1_0_1_0 l0 (IntKind.wrap .i64 ((IntKind.wrap .i64 ((IntKind.wrap .i64 (i1 + (1 : Int))) + n13)) + n18)) (IntKind.wrap .i64 (i2 + (1 : Int))))))))))) else none)))))))) else none) else (some ⟨(Out.ret (V.int .i64 i1)), [], none⟩)) := (LP_eq ..).trans (by kernel_rfl)
theorem eq (a0 : (List (List V))) : den Sp id [(V.sl .no T_api_Stmt a0)] [] none =
    (L1_1_0_1_0 a0 (0 : Int) (0 : Int)) := (den_eq ..).trans (by kernel_rfl)
end ref04_total
namespace ref04_Row
noncomputable abbrev e (p : List Nat) := ev Sp (den Sp) id Tryz.f100.ntmps (cAt (bodyOf Tryz.f100) p)
noncomputable abbrev cn (n0 : List Nat) := canon Sp id n0
noncomputable abbrev K : K := kFin Sp (den Sp) Tryz.f100 0
noncomputable def L1_1_1_0_1_0 (l0 : List (List V)) (i1 : Int) (l2 : List (List V)) (i3 i4 : Int) : Option Res := LP (e [1, 1, 1, 0, 1, 0, 0]) (cn []) (kBlk 0 (kSeq (e [1, 1, 1, 1]) (K))) ([(0, (V.sl .no T_api_Stmt l0)), (1, (V.int .i64 i1)), (5, (V.sl (Tok.row 0) T_parallaxref04_Item l2)), (6, (V.int .i64 i3)), (7, (V.int .i64 i4))], ⟨[], [0], [], [], none⟩)
theorem L1_1_1_0_1_0_eq (l0 : List (List V)) (i1 : Int) (l2 : List (List V)) (i3 i4 : Int) : L1_1_1_0_1_0 l0 i1 l2 i3 i4 =
    (bif (decide (i4 < (l0.length : Int))) then (if (((0 : Int) ≤ i4) ∧ (i4 < (l0.length : Int))) then (V.asInt (List.getD (List.getD l0 (Int.toNat i4) []) 0 V.undef) .i64 (fun n16 => (V.asStr (List.getD (List.getD l0 (Int.toNat i4) []) 1 V.undef) (fun s17 => (V.asStr (List.getD (List.getD l0 (Int.toNat i4) []) 2 V.undef) (fun s18 => (V.asInt (List.getD (List.getD l0 (Int.toNat i4) []) 3 V.undef) .i64 (fun n19 => (V.asSl (List.getD (List.getD l0 (Int.toNat i4) []) 4 V.undef) T_api_Expr (fun es20 => (V.asSl (List.getD (List.getD l0 (Int.toNat i4) []) 5 V.undef) T_api_Stmt (fun es21 => (V.asSl (List.getD (List.getD l0 (Int.toNat i4) []) 6 V.undef) T_api_Stmt (fun es22 => (if (((List.length l2) + (List.length [[(V.int .i64 n16), (V.str s17), (V.str s18), (V.int .i64 n19), (V.sl .no T_api_Expr es20), (V.sl .no T_api_Stmt es21), (V.sl .no T_api_Stmt es22), (V.int .i64 i3)]])) ≤ most) then (if (((0 : Int) ≤ i4) ∧ (i4 < (l0.length : Int))) then (V.asSl (List.getD (List.getD l0 (Int.toNat i4) []) 5 V.undef) T_api_Stmt (fun es24 => ((den Sp ref04_Row.id [(V.sl .no T_api_Stmt es24), (V.int .i64 (IntKind.wrap .i64 (i1 + (1 : Int))))] [] none)).bind (fun r25 => (Res.onRet r25 (fun v26 => (V.asSl v26 T_parallaxref04_Item (fun es27 => (if (((0 : Int) ≤ i4) ∧ (i4 < (l0.length : Int))) then (V.asSl (List.getD (List.getD l0 (Int.toNat i4) []) 6 V.undef) T_api_Stmt (fun es29 => ((den Sp ref04_Row.id [(V.sl .no T_api_Stmt es29), (V.int .i64 (IntKind.wrap .i64 ((IntKind.wrap .i64 (i1 + (1 : Int))) + (es27.length : Int))))] [] none)).bind (fun r30 => (Res.onRet r30 (fun v31 => (V.asSl v31 T_parallaxref04_Item (fun es32 => (if (((List.length (l2 ++ [[(V.int .i64 n16), (V.str s17), (V.str s18), (V.int .i64 n19), (V.sl .no T_api_Expr es20), (V.sl .no T_api_Stmt es21), (V.sl .no T_api_Stmt es22), (V.int .i64 i3)]])) + (List.length es27)) ≤ most) then (if (((List.length ((l2 ++ [[(V.int .i64 n16), (V.str s17), (V.str s18), (V.int .i64 n19), (V.sl .no T_api_Expr es20), (V.sl .no T_api_Stmt es21), (V.sl .no T_api_Stmt es22), (V.int .i64 i3)]]) ++ es27)) + (List.length es32)) ≤ most) then (L1_1_1_0_1_0 l0 (IntKind.wrap .i64 ((IntKind.wrap .i64 ((IntKind.wrap .i64 (i1 + (1 : Int))) + (es27.length : Int))) + (es32.length : Int))) (((l2 ++ [[(V.int .i64 n16), (V.str s17), (V.str s18), (V.int .i64 n19), (V.sl .no T_api_Expr es20), (V.sl .no T_api_Stmt es21), (V.sl .no T_api_Stmt es22), (V.int .i64 i3)]]) ++ es27) ++ es32) i3 (IntKind.wrap .i64 (i4 + (1 : Int)))) else none) else none)))))))) else none)))))))) else none) else none))))))))))))))) else none) else (some ⟨(Out.ret (V.sl .no T_parallaxref04_Item l2)), [], none⟩)) := (LP_eq ..).trans (by kernel_rfl)
theorem eq (a0 : List (List V)) (a1 : Int) : den Sp id [(V.sl .no T_api_Stmt a0), (V.int .i64 a1)] [] none =
    ((den Sp ref04_total.id [(V.sl .no T_api_Stmt a0)] [] none)).bind (fun r5 => (Res.onRet r5 (fun v6 => (V.asInt v6 .i64 (fun n7 => (L1_1_1_0_1_0 a0 a1 [] (IntKind.wrap .i64 ((IntKind.wrap .i64 (a1 + n7)) - (1 : Int))) (0 : Int))))))) := (den_eq ..).trans (by kernel_rfl)
end ref04_Row
namespace ref04_Count
noncomputable abbrev e (p : List Nat) := ev Sp (den Sp) id Tryz.f98.ntmps (cAt (bodyOf Tryz.f98) p)
noncomputable abbrev cn (n0 : List Nat) := canon Sp id n0
noncomputable abbrev K : K := kFin Sp (den Sp) Tryz.f98 0
theorem eq (a0_0 : ByteArray) (a0_1 : List (List V)) (a0_2 : Int) (a0_3 : List (List V)) : den Sp id [(V.agg [(V.str a0_0), (V.sl .no T_api_Param a0_1), (V.int .i64 a0_2), (V.sl .no T_api_Stmt a0_3)])] [] none =
    ((den Sp ref04_total.id [(V.sl .no T_api_Stmt a0_3)] [] none)).bind (fun r6 => (Res.onRet r6 (fun v7 => (V.asInt v7 .i64 (fun n8 => (some ⟨(Out.ret (V.int .i64 n8)), [], none⟩)))))) := (den_eq ..).trans (by kernel_rfl)
end ref04_Count
end Go.Proofs.YtmhnmelaodhemaaGreatDoor
namespace Go.Proofs.YtmhnmelaodhemaaGreatDoor
open Go Go.Proofs.Ab Go.Proofs.Px
set_option linter.unusedVariables false
set_option linter.unusedSimpArgs false
set_option maxRecDepth 100000
end Go.Proofs.YtmhnmelaodhemaaGreatDoor
namespace Go.Proofs.YtmhnmelaodhemaaGreatDoor
open Go Go.Proofs.Ab Go.Proofs.Px
set_option linter.unusedVariables false
set_option linter.unusedSimpArgs false
set_option maxRecDepth 100000
@[simp] theorem itemV_0 (p : Stm × Int) : (itemV p).getD 0 .undef = .int .i64 p.1.kind := rfl
@[simp] theorem itemV_1 (p : Stm × Int) : (itemV p).getD 1 .undef = .str (B p.1.name) := rfl
@[simp] theorem itemV_2 (p : Stm × Int) : (itemV p).getD 2 .undef = .str (B p.1.proc) := rfl
@[simp] theorem itemV_3 (p : Stm × Int) : (itemV p).getD 3 .undef = .int .i64 p.1.num := rfl
@[simp] theorem itemV_4 (p : Stm × Int) : (itemV p).getD 4 .undef = .sl .no T_api_Expr (p.1.e.map Ex.v) := rfl
@[simp] theorem itemV_5 (p : Stm × Int) : (itemV p).getD 5 .undef = .sl .no T_api_Stmt (p.1.body.map Stm.v) := rfl
@[simp] theorem itemV_6 (p : Stm × Int) : (itemV p).getD 6 .undef = .sl .no T_api_Stmt (p.1.els.map Stm.v) := rfl
@[simp] theorem itemV_7 (p : Stm × Int) : (itemV p).getD 7 .undef = .int .i64 p.2 := rfl
@[simp] theorem itemV_q0 (p : Stm × Int) : (itemV p)[0]?.getD .undef = .int .i64 p.1.kind := rfl
@[simp] theorem itemV_q1 (p : Stm × Int) : (itemV p)[1]?.getD .undef = .str (B p.1.name) := rfl
@[simp] theorem itemV_q2 (p : Stm × Int) : (itemV p)[2]?.getD .undef = .str (B p.1.proc) := rfl
@[simp] theorem itemV_q3 (p : Stm × Int) : (itemV p)[3]?.getD .undef = .int .i64 p.1.num := rfl
@[simp] theorem itemV_q4 (p : Stm × Int) : (itemV p)[4]?.getD .undef = .sl .no T_api_Expr (p.1.e.map Ex.v) := rfl
@[simp] theorem itemV_q5 (p : Stm × Int) : (itemV p)[5]?.getD .undef = .sl .no T_api_Stmt (p.1.body.map Stm.v) := rfl
@[simp] theorem itemV_q6 (p : Stm × Int) : (itemV p)[6]?.getD .undef = .sl .no T_api_Stmt (p.1.els.map Stm.v) := rfl
@[simp] theorem itemV_q7 (p : Stm × Int) : (itemV p)[7]?.getD .undef = .int .i64 p.2 := rfl
end Go.Proofs.YtmhnmelaodhemaaGreatDoor
namespace Go.Proofs.YtmhnmelaodhemaaGreatDoor
open Go Go.Proofs.Ab Go.Proofs.Px
set_option linter.unusedVariables false
set_option linter.unusedSimpArgs false
set_option maxRecDepth 100000
end Go.Proofs.YtmhnmelaodhemaaGreatDoor
namespace Go.Proofs.YtmhnmelaodhemaaGreatDoor
open Go Go.Proofs.Ab Go.Proofs.Px
set_option linter.unusedVariables false
set_option linter.unusedSimpArgs false
set_option maxRecDepth 100000
end Go.Proofs.YtmhnmelaodhemaaGreatDoor
namespace Go.Proofs.YtmhnmelaodhemaaGreatDoor
open Go Go.Proofs.Ab
set_option maxRecDepth 100000
set_option linter.unusedVariables false
namespace ref12_Proc
noncomputable abbrev e (p : List Nat) := ev Sp (den Sp) id Tryz.f97.ntmps (cAt (bodyOf Tryz.f97) p)
noncomputable abbrev cn (n0 : List Nat) := canon Sp id n0
noncomputable abbrev K : K := kFin Sp (den Sp) Tryz.f97 0
noncomputable def L1_0_1_0 (s0 : ByteArray) (i1 : Int) (l2 : List (List V)) : Option Res := LP (e [1, 0, 1, 0, 0]) (cn [1002]) (kBlk 0 (kSeq (e [1, 1]) (K))) ([(1, (V.str s0)), (2, (V.ref 1002 0)), (5, (V.int .i64 i1))], ⟨[(1002, (Blk.cells T_api_Prog [(V.sl .no T_api_Proc l2)] false))], [], [], [], none⟩)
theorem L1_0_1_0_eq (s0 : ByteArray) (i1 : Int) (l2 : List (List V)) : L1_0_1_0 s0 i1 l2 =
    (bif (decide (i1 < (l2.length : Int))) then (if (((0 : Int) ≤ i1) ∧ (i1 < (l2.length : Int))) then (V.asStr (List.getD (List.getD l2 (Int.toNat i1) []) 0 V.undef) (fun s9 => (bif (decide (s9 = s0)) then (some ⟨(Out.ret (V.int .i64 i1)), [], none⟩) else (L1_0_1_0 s0 (IntKind.wrap .i64 (i1 + (1 : Int))) l2)))) else none) else (some ⟨(Out.ret (V.int .i64 (Neg.neg (1 : Int)))), [], none⟩)) := (LP_eq ..).trans (by kernel_rfl)
theorem eq (a0_0 : List (List V)) (a1 : ByteArray) : den Sp id [(V.agg [(V.sl .no T_api_Proc a0_0)]), (V.str a1)] [] none =
    (L1_0_1_0 a1 (0 : Int) a0_0) := (den_eq ..).trans (by kernel_rfl)
end ref12_Proc
namespace ref12_Var
noncomputable abbrev e (p : List Nat) := ev Sp (den Sp) id Tryz.f53.ntmps (cAt (bodyOf Tryz.f53) p)
noncomputable abbrev cn (n0 : List Nat) := canon Sp id n0
noncomputable abbrev K : K := kFin Sp (den Sp) Tryz.f53 0
noncomputable def L1_1_1_1_0_1_0 (s0 : ByteArray) (l1 : List (List V)) (i2 : Int) (l3 : List (List V)) : Option Res := LP (e [1, 1, 1, 1, 0, 1, 0, 0]) (cn [1003, 1006]) (kBlk 0 (kSeq (e [1, 1, 1, 1, 1]) (K))) ([(2, (V.str s0)), (6, (V.ref 1006 0)), (9, (V.sl .no T_api_Var l1)), (10, (V.int .i64 i2))], ⟨[(1003, (Blk.cells T_api_Prog [(V.sl .no T_api_Proc l3)] false)), (1006, (Blk.cells T_api_Var [(V.str (ByteArray.mk #[])), (V.int .i64 (0 : Int)), (V.int .i64 (0 : Int)), (V.int .i64 (0 : Int)), (V.int .i64 (0 : Int))] false))], [], [], [], none⟩)
theorem L1_1_1_1_0_1_0_eq (s0 : ByteArray) (l1 : List (List V)) (i2 : Int) (l3 : List (List V)) : L1_1_1_1_0_1_0 s0 l1 i2 l3 =
    (bif (decide (i2 < (l1.length : Int))) then (if (((0 : Int) ≤ i2) ∧ (i2 < (l1.length : Int))) then (V.asStr (List.getD (List.getD l1 (Int.toNat i2) []) 0 V.undef) (fun s24 => (bif (decide (s24 = s0)) then (if (((0 : Int) ≤ i2) ∧ (i2 < (l1.length : Int))) then (V.asStr (List.getD (List.getD l1 (Int.toNat i2) []) 0 V.undef) (fun s26 => (V.asInt (List.getD (List.getD l1 (Int.toNat i2) []) 1 V.undef) .i64 (fun n27 => (V.asInt (List.getD (List.getD l1 (Int.toNat i2) []) 2 V.undef) .i64 (fun n28 => (V.asInt (List.getD (List.getD l1 (Int.toNat i2) []) 3 V.undef) .i64 (fun n29 => (V.asInt (List.getD (List.getD l1 (Int.toNat i2) []) 4 V.undef) .i64 (fun n30 => (some ⟨(Out.ret (V.tup [(V.agg [(V.str s26), (V.int .i64 n27), (V.int .i64 n28), (V.int .i64 n29), (V.int .i64 n30)]), (V.bool true)])), [], none⟩))))))))))) else none) else (L1_1_1_1_0_1_0 s0 l1 (IntKind.wrap .i64 (i2 + (1 : Int))) l3)))) else none) else (some ⟨(Out.ret (V.tup [(V.agg [(V.str (ByteArray.mk #[])), (V.int .i64 (0 : Int)), (V.int .i64 (0 : Int)), (V.int .i64 (0 : Int)), (V.int .i64 (0 : Int))]), (V.bool false)])), [], none⟩)) := (LP_eq ..).trans (by kernel_rfl)
theorem eq (a0_0 : List (List V)) (a1 a2 : ByteArray) : den Sp id [(V.agg [(V.sl .no T_api_Proc a0_0)]), (V.str a1), (V.str a2)] [] none =
    ((den Sp ref12_Proc.id [(V.agg [(V.sl .no T_api_Proc a0_0)]), (V.str a1)] [] none)).bind (fun r5 => (Res.onRet r5 (fun v6 => (V.asInt v6 .i64 (fun n7 => (bif (decide (n7 < (0 : Int))) then (some ⟨(Out.ret (V.tup [(V.agg [(V.str (ByteArray.mk #[])), (V.int .i64 (0 : Int)), (V.int .i64 (0 : Int)), (V.int .i64 (0 : Int)), (V.int .i64 (0 : Int))]), (V.bool false)])), [], none⟩) else (if (((0 : Int) ≤ n7) ∧ (n7 < (a0_0.length : Int))) then (V.asStr (List.getD (List.getD a0_0 (Int.toNat n7) []) 0 V.undef) (fun s10 => (V.asSl (List.getD (List.getD a0_0 (Int.toNat n7) []) 1 V.undef) T_api_Param (fun es11 => (V.asInt (List.getD (List.getD a0_0 (Int.toNat n7) []) 2 V.undef) .i64 (fun n12 => (V.asSl (List.getD (List.getD a0_0 (Int.toNat n7) []) 3 V.undef) T_api_Stmt (fun es13 => ((den Sp ref04_Vars.id [(V.agg [(V.str s10), (V.sl .no T_api_Param es11), (V.int .i64 n12), (V.sl .no T_api_Stmt es13)])] [] none)).bind (fun r14 => (Res.onRet r14 (fun v15 => (V.asSl v15 T_api_Var (fun es16 => (L1_1_1_1_0_1_0 a2 es16 (0 : Int) a0_0)))))))))))))) else none))))))) := (den_eq ..).trans (by kernel_rfl)
end ref12_Var
namespace ref12_of
noncomputable abbrev e (p : List Nat) := ev Sp (den Sp) id Tryz.f52.ntmps (cAt (bodyOf Tryz.f52) p)
noncomputable abbrev cn (n0 : List Nat) := canon Sp id n0
noncomputable abbrev K : K := kFin Sp (den Sp) Tryz.f52 0
theorem eq (a0 : Int) (a1_0 a2_0 : List (List V)) : den Sp id [(V.int .i64 a0), (V.agg [(V.sl .no T_api_Proc a1_0)]), (V.agg [(V.sl .no T_api_Proc a2_0)])] [] none =
    (bif (a0 == (1 : Int)) then (some ⟨(Out.ret (V.tup [(V.agg [(V.sl .no T_api_Proc a2_0)]), (V.bool true)])), [], none⟩) else (some ⟨(Out.ret (V.tup [(V.agg [(V.sl .no T_api_Proc a1_0)]), (V.bool (a0 == (0 : Int)))])), [], none⟩)) := (den_eq ..).trans (by kernel_rfl)
end ref12_of
namespace ref12_same
noncomputable abbrev e (p : List Nat) := ev Sp (den Sp) id Tryz.f51.ntmps (cAt (bodyOf Tryz.f51) p)
noncomputable abbrev cn (n0 : List Nat) := canon Sp id n0
noncomputable abbrev K : K := kFin Sp (den Sp) Tryz.f51 0
noncomputable def L1_1_1_0_1_0 (l0 : List (List V)) (b1 : Bool) (i2 : Int) (s3 s4 s5 s6 : ByteArray) (l7 l8 : List (List V)) : Option Res := LP (e [1, 1, 1, 0, 1, 0, 0]) (cn [1004, 1006, 1007]) (kBlk 0 (kSeq (e [1, 1, 1, 1]) (K))) ([(1, (V.sl .no T_api_Pair l0)), (4, (V.ref 1004 0)), (6, (V.ref 1006 0)), (7, (V.ref 1007 0)), (9, (V.bool b1)), (10, (V.int .i64 i2))], ⟨[(1004, (Blk.cells T_api_Pair [(V.str s3), (V.str s4), (V.str s5), (V.str s6)] false)), (1006, (Blk.cells T_api_Prog [(V.sl .no T_api_Proc l7)] false)), (1007, (Blk.cells T_api_Prog [(V.sl .no T_api_Proc l8)] false))], [], [], [], none⟩)
theorem L1_1_1_0_1_0_eq (l0 : List (List V)) (b1 : Bool) (i2 : Int) (s3 s4 s5 s6 : ByteArray) (l7 l8 : List (List V)) : L1_1_1_0_1_0 l0 b1 i2 s3 s4 s5 s6 l7 l8 =
    (bif (decide (i2 < (l0.length : Int))) then (bif b1 then (L1_1_1_0_1_0 l0 true (IntKind.wrap .i64 (i2 + (1 : Int))) s3 s4 s5 s6 l7 l8) else (if (((0 : Int) ≤ i2) ∧ (i2 < (l0.length : Int))) then (V.asStr (List.getD (List.getD l0 (Int.toNat i2) []) 0 V.undef) (fun s28 => (bif (decide (s28 = s3)) then (if (((0 : Int) ≤ i2) ∧ (i2 < (l0.length : Int))) then (V.asStr (List.getD (List.getD l0 (Int.toNat i2) []) 1 V.undef) (fun s29 => (L1_1_1_0_1_0 l0 (decide (s29 = s4)) (IntKind.wrap .i64 (i2 + (1 : Int))) s3 s4 s5 s6 l7 l8))) else none) else (L1_1_1_0_1_0 l0 false (IntKind.wrap .i64 (i2 + (1 : Int))) s3 s4 s5 s6 l7 l8)))) else none)) else (bif (!b1) then (some ⟨(Out.ret (V.int .i64 (90 : Int))), [], none⟩) else ((den Sp ref12_Var.id [(V.agg [(V.sl .no T_api_Proc l7)]), (V.str s3), (V.str s5)] [] none)).bind (fun r29 => (Res.onRet r29 (fun v30 => (V.asTup v30 2 (fun rd31 => (V.asAgg (rd31 0) 5 (fun rd32 => (V.asStr (rd32 0) (fun s33 => (V.asInt (rd32 1) .i64 (fun n34 => (V.asInt (rd32 2) .i64 (fun n35 => (V.asInt (rd32 3) .i64 (fun n36 => (V.asInt (rd32 4) .i64 (fun n37 => (V.asBool (rd31 1) (fun b38 => ((den Sp ref12_Var.id [(V.agg [(V.sl .no T_api_Proc l8)]), (V.str s4), (V.str s6)] [] none)).bind (fun r40 => (Res.onRet r40 (fun v41 => (V.asTup v41 2 (fun rd42 => (V.asAgg (rd42 0) 5 (fun rd43 => (V.asStr (rd43 0) (fun s44 => (V.asInt (rd43 1) .i64 (fun n45 => (V.asInt (rd43 2) .i64 (fun n46 => (V.asInt (rd43 3) .i64 (fun n47 => (V.asInt (rd43 4) .i64 (fun n48 => (V.asBool (rd42 1) (fun b49 => (bif (!b38) then (some ⟨(Out.ret (V.int .i64 (40 : Int))), [], none⟩) else (bif (!b49) then (some ⟨(Out.ret (V.int .i64 (40 : Int))), [], none⟩) else (bif (n34 != n45) then (some ⟨(Out.ret (V.int .i64 (41 : Int))), [], none⟩) else (bif (n35 != n46) then (some ⟨(Out.ret (V.int .i64 (41 : Int))), [], none⟩) else (some ⟨(Out.ret (V.int .i64 (0 : Int))), [], none⟩))))))))))))))))))))))))))))))))))))))))))))) := (LP_eq ..).trans (by kernel_rfl)
theorem eq (a0_0 a0_1 a0_2 a0_3 : ByteArray) (a1 a2_0 a3_0 : List (List V)) : den Sp id [(V.agg [(V.str a0_0), (V.str a0_1), (V.str a0_2), (V.str a0_3)]), (V.sl .no T_api_Pair a1), (V.agg [(V.sl .no T_api_Proc a2_0)]), (V.agg [(V.sl .no T_api_Proc a3_0)])] [] none =
    ((den Sp ref12_Proc.id [(V.agg [(V.sl .no T_api_Proc a2_0)]), (V.str a0_0)] [] none)).bind (fun r9 => (Res.onRet r9 (fun v10 => (V.asInt v10 .i64 (fun n11 => (bif (decide (n11 < (0 : Int))) then (some ⟨(Out.ret (V.int .i64 (40 : Int))), [], none⟩) else ((den Sp ref12_Proc.id [(V.agg [(V.sl .no T_api_Proc a3_0)]), (V.str a0_1)] [] none)).bind (fun r12 => (Res.onRet r12 (fun v13 => (V.asInt v13 .i64 (fun n14 => (bif (decide (n14 < (0 : Int))) then (some ⟨(Out.ret (V.int .i64 (40 : Int))), [], none⟩) else (L1_1_1_0_1_0 a1 false (0 : Int) a0_0 a0_1 a0_2 a0_3 a2_0 a3_0))))))))))))) := (den_eq ..).trans (by kernel_rfl)
end ref12_same
namespace ref12_pairs
noncomputable abbrev e (p : List Nat) := ev Sp (den Sp) id Tryz.f50.ntmps (cAt (bodyOf Tryz.f50) p)
noncomputable abbrev cn (n0 : List Nat) := canon Sp id n0
noncomputable abbrev K : K := kFin Sp (den Sp) Tryz.f50 0
noncomputable def L1_0_1_0 (l0 l1 l2 : List (List V)) : Option Res := LP (e [1, 0, 1, 0, 0]) (cn [1004, 1005]) (kBlk 0 (kSeq (e [1, 1]) (K))) ([(0, (V.sl .no T_api_Pair l0)), (4, (V.ref 1004 0)), (5, (V.ref 1005 0)), (8, (V.int .i64 (0 : Int))), (9, V.undef)], ⟨[(1004, (Blk.cells T_api_Prog [(V.sl .no T_api_Proc l1)] false)), (1005, (Blk.cells T_api_Prog [(V.sl .no T_api_Proc l2)] false))], [], [], [], none⟩)
noncomputable def L1_0_1_0_0_1_0_0_1_1_0 (l0 : List (List V)) (i1 i2 : Int) (l3 l4 : List (List V)) : Option Res := LP (e [1, 0, 1, 0, 0, 1, 0, 0, 1, 1, 0, 0]) (cn [1004, 1005]) (kBlk 2 (kBlk 1 (kSeq (e [1, 0, 1, 0, 0, 1, 1]) (kLp (e [1, 0, 1, 0, 0]) (cn [1004, 1005]) (kBlk 0 (kSeq (e [1, 1]) (K))))))) ([(0, (V.sl .no T_api_Pair l0)), (4, (V.ref 1004 0)), (5, (V.ref 1005 0)), (8, (V.int .i64 i1)), (9, (V.int .i64 i2))], ⟨[(1004, (Blk.cells T_api_Prog [(V.sl .no T_api_Proc l3)] false)), (1005, (Blk.cells T_api_Prog [(V.sl .no T_api_Proc l4)] false))], [], [], [], none⟩)
theorem L1_0_1_0_eq (l0 l1 l2 : List (List V)) : L1_0_1_0 l0 l1 l2 =
    (bif (decide ((0 : Int) < (l0.length : Int))) then (if (((0 : Int) ≤ (0 : Int)) ∧ ((0 : Int) < (l0.length : Int))) then (V.asStr (List.getD (List.getD l0 0 []) 0 V.undef) (fun s10 => ((den Sp ref12_Proc.id [(V.agg [(V.sl .no T_api_Proc l1)]), (V.str s10)] [] none)).bind (fun r11 => (Res.onRet r11 (fun v12 => (V.asInt v12 .i64 (fun n13 => (bif (decide (n13 < (0 : Int))) then (some ⟨(Out.ret (V.tup [(V.int .i64 (0 : Int)), (V.int .i64 (40 : Int))])), [], none⟩) else (if (((0 : Int) ≤ (0 : Int)) ∧ ((0 : Int) < (l0.length : Int))) then (V.asStr (List.getD (List.getD l0 0 []) 1 V.undef) (fun s14 => ((den Sp ref12_Proc.id [(V.agg [(V.sl .no T_api_Proc l2)]), (V.str s14)] [] none)).bind (fun r15 => (Res.onRet r15 (fun v16 => (V.asInt v16 .i64 (fun n17 => (bif (decide (n17 < (0 : Int))) then (some ⟨(Out.ret (V.tup [(V.int .i64 (0 : Int)), (V.int .i64 (40 : Int))])), [], none⟩) else (L1_0_1_0_0_1_0_0_1_1_0 l0 (0 : Int) (0 : Int) l1 l2))))))))) else none))))))))) else none) else (some ⟨(Out.ret (V.tup [(V.int .i64 (0 : Int)), (V.int .i64 (0 : Int))])), [], none⟩)) := (LP_eq ..).trans (by kernel_rfl)
theorem eq (a0 a1_0 a2_0 : List (List V)) : den Sp id [(V.sl .no T_api_Pair a0), (V.agg [(V.sl .no T_api_Proc a1_0)]), (V.agg [(V.sl .no T_api_Proc a2_0)])] [] none =
    (L1_0_1_0 a0 a1_0 a2_0) := (den_eq ..).trans (by kernel_rfl)
end ref12_pairs
namespace ref12_stop
noncomputable abbrev e (p : List Nat) := ev Sp (den Sp) id Tryz.f54.ntmps (cAt (bodyOf Tryz.f54) p)
noncomputable abbrev cn (n0 : List Nat) := canon Sp id n0
noncomputable abbrev K : K := kFin Sp (den Sp) Tryz.f54 0
noncomputable def L1_1_1_1_1_0_1_0 (i0 i1 i2 : Int) (s3 : ByteArray) (i4 : Int) (l5 l6 l7 l8 : List (List V)) : Option Res := LP (e [1, 1, 1, 1, 1, 0, 1, 0, 0]) (cn [1003, 1004, 1005, 1007]) (kBlk 0 (kSeq (e [1, 1, 1, 1, 1, 1]) (K))) ([(3, (V.ref 1003 0)), (7, (V.ref 1007 0)), (9, (V.int .i64 i0)), (10, (V.int .i64 i1))], ⟨[(1003, (Blk.cells T_parallaxref12_Break [(V.int .i64 i2), (V.str s3), (V.int .i64 i4), (V.sl .no T_api_Expr l5)] false)), (1004, (Blk.cells T_api_Prog [(V.sl .no T_api_Proc l6)] false)), (1005, (Blk.cells T_api_Prog [(V.sl .no T_api_Proc l7)] false)), (1007, (Blk.cells T_api_Prog [(V.sl .no T_api_Proc l8)] false))], [], [], [], none⟩)
theorem L1_1_1_1_1_0_1_0_eq (i0 i1 i2 : Int) (s3 : ByteArray) (i4 : Int) (l5 l6 l7 l8 : List (List V)) : L1_1_1_1_1_0_1_0 i0 i1 i2 s3 i4 l5 l6 l7 l8 =
    (bif (decide (i1 < (l5.length : Int))) then (if (((0 : Int) ≤ i1) ∧ (i1 < (l5.length : Int))) then (V.asInt (List.getD (List.getD l5 (Int.toNat i1) []) 0 V.undef) .i64 (fun n39 => (V.asStr (List.getD (List.getD l5 (Int.toNat i1) []) 1 V.undef) (fun s40 => (V.asInt (List.getD (List.getD l5 (Int.toNat i1) []) 2 V.undef) .i64 (fun n41 => (V.asSl (List.getD (List.getD l5 (Int.toNat i1) []) 3 V.undef) T_api_Expr (fun es42 => (if (((0 : Int) ≤ i0) ∧ (i0 < (l8.length : Int))) then (V.asStr (List.getD (List.getD l8 (Int.toNat i0) []) 0 V.undef) (fun s43 => (V.asSl (List.getD (List.getD l8 (Int.toNat i0) []) 1 V.undef) T_api_Param (fun es44 => (V.asInt (List.getD (List.getD l8 (Int.toNat i0) []) 2 V.undef) .i64 (fun n45 => (V.asSl (List.getD (List.getD l8 (Int.toNat i0) []) 3 V.undef) T_api_Stmt (fun es46 => ((den Sp ref04_Vars.id [(V.agg [(V.str s43), (V.sl .no T_api_Param es44), (V.int .i64 n45), (V.sl .no T_api_Stmt es46)])] [] none)).bind (fun r47 => (Res.onRet r47 (fun v48 => (V.asSl v48 T_api_Var (fun es49 => ((den Sp ref04_TypeOf.id [(V.agg [(V.int .i64 n39), (V.str s40), (V.int .i64 n41), (V.sl .no T_api_Expr es42)]), (V.sl .no T_api_Var es49), (V.int .i64 i4)] [] none)).bind (fun r50 => (Res.onRet r50 (fun v51 => (V.asTup v51 2 (fun rd52 => (V.asInt (rd52 0) .i64 (fun n53 => (V.asInt (rd52 1) .i64 (fun n54 => (bif (n54 != (0 : Int)) then (some ⟨(Out.ret (V.int .i64 n54)), [], none⟩) else (bif (n53 != (2 : Int)) then (some ⟨(Out.ret (V.int .i64 (41 : Int))), [], none⟩) else (L1_1_1_1_1_0_1_0 i0 (IntKind.wrap .i64 (i1 + (1 : Int))) i2 s3 i4 l5 l6 l7 l8))))))))))))))))))))))))) else none))))))))) else none) else (some ⟨(Out.ret (V.int .i64 (0 : Int))), [], none⟩)) := (LP_eq ..).trans (by kernel_rfl)
theorem eq (a0_0 : Int) (a0_1 : ByteArray) (a0_2 : Int) (a0_3 a1_0 a2_0 : List (List V)) : den Sp id [(V.agg [(V.int .i64 a0_0), (V.str a0_1), (V.int .i64 a0_2), (V.sl .no T_api_Expr a0_3)]), (V.agg [(V.sl .no T_api_Proc a1_0)]), (V.agg [(V.sl .no T_api_Proc a2_0)])] [] none =
    ((den Sp ref12_of.id [(V.int .i64 a0_0), (V.agg [(V.sl .no T_api_Proc a1_0)]), (V.agg [(V.sl .no T_api_Proc a2_0)])] [] none)).bind (fun r8 => (Res.onRet r8 (fun v9 => (V.asTup v9 2 (fun rd10 => (V.asAgg (rd10 0) 1 (fun rd11 => (V.asSl (rd11 0) T_api_Proc (fun es12 => (V.asBool (rd10 1) (fun b13 => ((den Sp ref12_Proc.id [(V.agg [(V.sl .no T_api_Proc es12)]), (V.str a0_1)] [] none)).bind (fun r15 => (Res.onRet r15 (fun v16 => (V.asInt v16 .i64 (fun n17 => (bif (!b13) then (some ⟨(Out.ret (V.int .i64 (40 : Int))), [], none⟩) else (bif (decide (n17 < (0 : Int))) then (some ⟨(Out.ret (V.int .i64 (40 : Int))), [], none⟩) else (bif (decide (a0_2 < (0 : Int))) then (some ⟨(Out.ret (V.int .i64 (80 : Int))), [], none⟩) else (if (((0 : Int) ≤ n17) ∧ (n17 < (es12.length : Int))) then (V.asStr (List.getD (List.getD es12 (Int.toNat n17) []) 0 V.undef) (fun s20 => (V.asSl (List.getD (List.getD es12 (Int.toNat n17) []) 1 V.undef) T_api_Param (fun es21 => (V.asInt (List.getD (List.getD es12 (Int.toNat n17) []) 2 V.undef) .i64 (fun n22 => (V.asSl (List.getD (List.getD es12 (Int.toNat n17) []) 3 V.undef) T_api_Stmt (fun es23 => ((den Sp ref04_Count.id [(V.agg [(V.str s20), (V.sl .no T_api_Param es21), (V.int .i64 n22), (V.sl .no T_api_Stmt es23)])] [] none)).bind (fun r24 => (Res.onRet r24 (fun v25 => (V.asInt v25 .i64 (fun n26 => (bif (decide ((IntKind.wrap .i64 (a0_2 - (1 : Int))) > n26)) then (some ⟨(Out.ret (V.int .i64 (80 : Int))), [], none⟩) else (L1_1_1_1_1_0_1_0 n17 (0 : Int) a0_0 a0_1 a0_2 a0_3 a1_0 a2_0 es12))))))))))))))) else none)))))))))))))))))))) := (den_eq ..).trans (by kernel_rfl)
end ref12_stop
namespace ref12_Check
noncomputable abbrev e (p : List Nat) := ev Sp (den Sp) id Tryz.f23.ntmps (cAt (bodyOf Tryz.f23) p)
noncomputable abbrev cn (n0 : List Nat) := canon Sp id n0
noncomputable abbrev K : K := kFin Sp (den Sp) Tryz.f23 0
noncomputable def L1_1_1_1_1_1_1_0_1_0 (i0 : Int) (l1 l2 l3 l4 l5 l6 l7 l8 l9 : List (List V)) (i10 i11 : Int) : Option Res := LP (e [1, 1, 1, 1, 1, 1, 1, 0, 1, 0, 0]) (cn [1003, 1004, 1005, 1006, 1008, 1009]) (kBlk 0 (kSeq (e [1, 1, 1, 1, 1, 1, 1, 1]) (K))) ([(3, (V.ref 1003 0)), (4, (V.ref 1004 0)), (5, (V.ref 1005 0)), (6, (V.ref 1006 0)), (12, (V.int .i64 i0)), (14, V.undef), (19, V.undef), (21, V.undef)], ⟨[(1003, (Blk.cells T_parallaxref12_File [(V.sl .no T_api_Pair l1), (V.sl .no T_api_Pair l2), (V.sl .no T_parallaxref12_Keep l3), (V.sl .no T_parallaxref12_Break l4), (V.sl .no T_parallaxref12_Watch l5)] false)), (1004, (Blk.cells T_api_Prog [(V.sl .no T_api_Proc l6)] false)), (1005, (Blk.cells T_api_Prog [(V.sl .no T_api_Proc l7)] false)), (1006, (Blk.cells T_parallaxref12_Spot [(V.int .i64 (0 : Int)), (V.int .i64 (0 : Int))] false)), (1008, (Blk.cells T_parallaxref04_Info [(V.sl .no T_L_api_Var l8), (V.sl .no T_int l9)] false)), (1009, (Blk.cells T_parallaxref04_Place [(V.int .i64 i10), (V.int .i64 i11)] false))], [], [], [], none⟩)
noncomputable def L1_1_1_1_1_1_1_1_0_1_0 (i0 i1 : Int) (l2 l3 l4 l5 l6 l7 l8 l9 l10 : List (List V)) (i11 i12 : Int) : Option Res := LP (e [1, 1, 1, 1, 1, 1, 1, 1, 0, 1, 0, 0]) (cn [1003, 1004, 1005, 1006, 1008, 1009]) (kBlk 2 (kSeq (e [1, 1, 1, 1, 1, 1, 1, 1, 1]) (K))) ([(3, (V.ref 1003 0)), (4, (V.ref 1004 0)), (5, (V.ref 1005 0)), (6, (V.ref 1006 0)), (12, (V.int .i64 i0)), (14, (V.int .i64 i1)), (19, V.undef), (21, V.undef)], ⟨[(1003, (Blk.cells T_parallaxref12_File [(V.sl .no T_api_Pair l2), (V.sl .no T_api_Pair l3), (V.sl .no T_parallaxref12_Keep l4), (V.sl .no T_parallaxref12_Break l5), (V.sl .no T_parallaxref12_Watch l6)] false)), (1004, (Blk.cells T_api_Prog [(V.sl .no T_api_Proc l7)] false)), (1005, (Blk.cells T_api_Prog [(V.sl .no T_api_Proc l8)] false)), (1006, (Blk.cells T_parallaxref12_Spot [(V.int .i64 (0 : Int)), (V.int .i64 (0 : Int))] false)), (1008, (Blk.cells T_parallaxref04_Info [(V.sl .no T_L_api_Var l9), (V.sl .no T_int l10)] false)), (1009, (Blk.cells T_parallaxref04_Place [(V.int .i64 i11), (V.int .i64 i12)] false))], [], [], [], none⟩)
noncomputable def L1_1_1_1_1_1_1_1_1_0_1_0 (i0 i1 i2 : Int) (l3 l4 l5 l6 l7 l8 l9 l10 l11 : List (List V)) (i12 i13 : Int) : Option Res := LP (e [1, 1, 1, 1, 1, 1, 1, 1, 1, 0, 1, 0, 0]) (cn [1003, 1004, 1005, 1006, 1008, 1009]) (kBlk 4 (kSeq (e [1, 1, 1, 1, 1, 1, 1, 1, 1, 1]) (K))) ([(3, (V.ref 1003 0)), (4, (V.ref 1004 0)), (5, (V.ref 1005 0)), (6, (V.ref 1006 0)), (12, (V.int .i64 i0)), (14, (V.int .i64 i1)), (19, (V.int .i64 i2)), (21, V.undef)], ⟨[(1003, (Blk.cells T_parallaxref12_File [(V.sl .no T_api_Pair l3), (V.sl .no T_api_Pair l4), (V.sl .no T_parallaxref12_Keep l5), (V.sl .no T_parallaxref12_Break l6), (V.sl .no T_parallaxref12_Watch l7)] false)), (1004, (Blk.cells T_api_Prog [(V.sl .no T_api_Proc l8)] false)), (1005, (Blk.cells T_api_Prog [(V.sl .no T_api_Proc l9)] false)), (1006, (Blk.cells T_parallaxref12_Spot [(V.int .i64 (0 : Int)), (V.int .i64 (0 : Int))] false)), (1008, (Blk.cells T_parallaxref04_Info [(V.sl .no T_L_api_Var l10), (V.sl .no T_int l11)] false)), (1009, (Blk.cells T_parallaxref04_Place [(V.int .i64 i12), (V.int .i64 i13)] false))], [], [], [], none⟩)
theorem L1_1_1_1_1_1_1_0_1_0_eq (i0 : Int) (l1 l2 l3 l4 l5 l6 l7 l8 l9 : List (List V)) (i10 i11 : Int) : L1_1_1_1_1_1_1_0_1_0 i0 l1 l2 l3 l4 l5 l6 l7 l8 l9 i10 i11 =
    (bif (decide (i0 < (l2.length : Int))) then (if (((0 : Int) ≤ i0) ∧ (i0 < (l2.length : Int))) then (V.asStr (List.getD (List.getD l2 (Int.toNat i0) []) 0 V.undef) (fun s54 => (V.asStr (List.getD (List.getD l2 (Int.toNat i0) []) 1 V.undef) (fun s55 => (V.asStr (List.getD (List.getD l2 (Int.toNat i0) []) 2 V.undef) (fun s56 => (V.asStr (List.getD (List.getD l2 (Int.toNat i0) []) 3 V.undef) (fun s57 => ((den Sp ref12_same.id [(V.agg [(V.str s54), (V.str s55), (V.str s56), (V.str s57)]), (V.sl .no T_api_Pair l1), (V.agg [(V.sl .no T_api_Proc l6)]), (V.agg [(V.sl .no T_api_Proc l7)])] [] none)).bind (fun r58 => (Res.onRet r58 (fun v59 => (V.asInt v59 .i64 (fun n60 => (bif (n60 != (0 : Int)) then (some ⟨(Out.ret (V.tup [(V.agg [(V.int .i64 (2 : Int)), (V.int .i64 i0)]), (V.int .i64 n60)])), [], none⟩) else (L1_1_1_1_1_1_1_0_1_0 (IntKind.wrap .i64 (i0 + (1 : Int))) l1 l2 l3 l4 l5 l6 l7 l8 l9 i10 i11))))))))))))))) else none) else (L1_1_1_1_1_1_1_1_0_1_0 i0 (0 : Int) l1 l2 l3 l4 l5 l6 l7 l8 l9 i10 i11)) := (LP_eq ..).trans (by kernel_rfl)
theorem L1_1_1_1_1_1_1_1_0_1_0_eq (i0 i1 : Int) (l2 l3 l4 l5 l6 l7 l8 l9 l10 : List (List V)) (i11 i12 : Int) : L1_1_1_1_1_1_1_1_0_1_0 i0 i1 l2 l3 l4 l5 l6 l7 l8 l9 l10 i11 i12 =
    (bif (decide (i1 < (l4.length : Int))) then (if (((0 : Int) ≤ i1) ∧ (i1 < (l4.length : Int))) then (V.asInt (List.getD (List.getD l4 (Int.toNat i1) []) 0 V.undef) .i64 (fun n69 => ((den Sp ref12_of.id [(V.int .i64 n69), (V.agg [(V.sl .no T_api_Proc l7)]), (V.agg [(V.sl .no T_api_Proc l8)])] [] none)).bind (fun r70 => (Res.onRet r70 (fun v71 => (V.asTup v71 2 (fun rd72 => (V.asAgg (rd72 0) 1 (fun rd73 => (V.asSl (rd73 0) T_api_Proc (fun es74 => (V.asBool (rd72 1) (fun b75 => (if (((0 : Int) ≤ i1) ∧ (i1 < (l4.length : Int))) then (V.asStr (List.getD (List.getD l4 (Int.toNat i1) []) 1 V.undef) (fun s77 => (if (((0 : Int) ≤ i1) ∧ (i1 < (l4.length : Int))) then (V.asStr (List.getD (List.getD l4 (Int.toNat i1) []) 2 V.undef) (fun s78 => ((den Sp ref12_Var.id [(V.agg [(V.sl .no T_api_Proc es74)]), (V.str s77), (V.str s78)] [] none)).bind (fun r79 => (Res.onRet r79 (fun v80 => (V.asTup v80 2 (fun rd81 => (V.asAgg (rd81 0) 5 (fun rd82 => (V.asStr (rd82 0) (fun s83 => (V.asInt (rd82 1) .i64 (fun n84 => (V.asInt (rd82 2) .i64 (fun n85 => (V.asInt (rd82 3) .i64 (fun n86 => (V.asInt (rd82 4) .i64 (fun n87 => (V.asBool (rd81 1) (fun b88 => (bif (!b75) then (some ⟨(Out.ret (V.tup [(V.agg [(V.int .i64 (3 : Int)), (V.int .i64 i1)]), (V.int .i64 (40 : Int))])), [], none⟩) else (bif (!b88) then (some ⟨(Out.ret (V.tup [(V.agg [(V.int .i64 (3 : Int)), (V.int .i64 i1)]), (V.int .i64 (40 : Int))])), [], none⟩) else (L1_1_1_1_1_1_1_1_0_1_0 i0 (IntKind.wrap .i64 (i1 + (1 : Int))) l2 l3 l4 l5 l6 l7 l8 l9 l10 i11 i12)))))))))))))))))))))))) else none))) else none)))))))))))))) else none) else (L1_1_1_1_1_1_1_1_1_0_1_0 i0 i1 (0 : Int) l2 l3 l4 l5 l6 l7 l8 l9 l10 i11 i12)) := (LP_eq ..).trans (by kernel_rfl)
theorem eq (a0_0 a0_1 a0_2 a0_3 a0_4 a1_0 a2_0 : List (List V)) : den Sp id [(V.agg [(V.sl .no T_api_Pair a0_0), (V.sl .no T_api_Pair a0_1), (V.sl .no T_parallaxref12_Keep a0_2), (V.sl .no T_parallaxref12_Break a0_3), (V.sl .no T_parallaxref12_Watch a0_4)]), (V.agg [(V.sl .no T_api_Proc a1_0)]), (V.agg [(V.sl .no T_api_Proc a2_0)])] [] none =
    ((den Sp ref04_Check.id [(V.agg [(V.sl .no T_api_Proc a1_0)])] [] none)).bind (fun r9 => (Res.onRet r9 (fun v10 => (V.asTup v10 3 (fun rd11 => (V.asAgg (rd11 0) 2 (fun rd12 => (V.asSl (rd12 0) T_L_api_Var (fun es13 => (V.asSl (rd12 1) T_int (fun es14 => (V.asAgg (rd11 1) 2 (fun rd15 => (V.asInt (rd15 0) .i64 (fun n16 => (V.asInt (rd15 1) .i64 (fun n17 => (V.asInt (rd11 2) .i64 (fun n18 => (bif (n18 != (0 : Int)) then (some ⟨(Out.ret (V.tup [(V.agg [(V.int .i64 (6 : Int)), (V.int .i64 n16)]), (V.int .i64 n18)])), [], none⟩) else ((den Sp ref04_Check.id [(V.agg [(V.sl .no T_api_Proc a2_0)])] [] none)).bind (fun r21 => (Res.onRet r21 (fun v22 => (V.asTup v22 3 (fun rd23 => (V.asAgg (rd23 0) 2 (fun rd24 => (V.asSl (rd24 0) T_L_api_Var (fun es25 => (V.asSl (rd24 1) T_int (fun es26 => (V.asAgg (rd23 1) 2 (fun rd27 => (V.asInt (rd27 0) .i64 (fun n28 => (V.asInt (rd27 1) .i64 (fun n29 => (V.asInt (rd23 2) .i64 (fun n30 => (bif (n30 != (0 : Int)) then (some ⟨(Out.ret (V.tup [(V.agg [(V.int .i64 (7 : Int)), (V.int .i64 n28)]), (V.int .i64 n30)])), [], none⟩) else ((den Sp ref12_pairs.id [(V.sl .no T_api_Pair a0_0), (V.agg [(V.sl .no T_api_Proc a1_0)]), (V.agg [(V.sl .no T_api_Proc a2_0)])] [] none)).bind (fun r33 => (Res.onRet r33 (fun v34 => (V.asTup v34 2 (fun rd35 => (V.asInt (rd35 0) .i64 (fun n36 => (V.asInt (rd35 1) .i64 (fun n37 => (bif (n37 != (0 : Int)) then (some ⟨(Out.ret (V.tup [(V.agg [(V.int .i64 (1 : Int)), (V.int .i64 n36)]), (V.int .i64 n37)])), [], none⟩) else (L1_1_1_1_1_1_1_0_1_0 (0 : Int) a0_0 a0_1 a0_2 a0_3 a0_4 a1_0 a2_0 es13 es14 n28 n29))))))))))))))))))))))))))))))))))))))))))))))))))) := (den_eq ..).trans (by kernel_rfl)
end ref12_Check
end Go.Proofs.YtmhnmelaodhemaaGreatDoor
namespace Go.Proofs.YtmhnmelaodhemaaGreatDoor
open Go Go.Proofs.Ab Go.Proofs.Px
set_option linter.unusedVariables false
set_option linter.unusedSimpArgs false
set_option maxRecDepth 100000
structure Smalls (ps : List Prc) : Prop where
  len : ps.length ≤ 1000000
  proc : ∀ q ∈ ps, q.params.length ≤ 1000000 ∧ Stm.counts q.body ≤ 1000000
theorem Smalls.of {ps : List Prc} (hs : Prc.sizes ps ≤ 1000000) : Smalls ps := by
  have hlen := Prc.sizes_len ps
  refine ⟨by omega, fun q h => ?_⟩
  have h1 := Prc.size_mem h
  have h2 := Stm.counts_sizes q.body
  unfold Prc.size at h1
  omega
def varA (o : Option Vr) : V := .tup [.agg ((o.getD ⟨[], 0, 0, 0, 0⟩).v), .bool o.isSome]
end Go.Proofs.YtmhnmelaodhemaaGreatDoor
namespace Go.Proofs.YtmhnmelaodhemaaGreatDoor
open Go Go.Proofs.Ab Go.Proofs.Px
set_option linter.unusedVariables false
set_option linter.unusedSimpArgs false
set_option maxRecDepth 100000
end Go.Proofs.YtmhnmelaodhemaaGreatDoor
namespace Go.Proofs.YtmhnmelaodhemaaGreatDoor
open Go Go.Proofs.Ab Go.Proofs.Px
set_option linter.unusedVariables false
set_option linter.unusedSimpArgs false
set_option linter.unusedSectionVars false
set_option maxRecDepth 100000
structure SmallF (f : Fl) : Prop where
  pairs : f.pairs.length ≤ 1000000
  sames : f.sames.length ≤ 1000000
  keeps : f.keeps.length ≤ 1000000
  breaks : f.breaks.length ≤ 1000000
  watches : f.watches.length ≤ 1000000
  whn : ∀ x ∈ f.breaks, x.whn.length ≤ 1000000
  mark : ∀ x ∈ f.breaks, (Lit.int .i64 x.mark).wf = true
section
variable (f : Fl) (a b : List Prc) (ha : Smalls a) (hb : Smalls b) (hf : SmallF f)
include ha hb hf
end
end Go.Proofs.YtmhnmelaodhemaaGreatDoor
namespace Go.Proofs.YtmhnmelaodhemaaGreatDoor
open Go Go.Proofs.Ab
set_option maxRecDepth 100000
set_option linter.unusedVariables false
namespace ref12_Size
noncomputable abbrev e (p : List Nat) := ev Sp (den Sp) id Tryz.f27.ntmps (cAt (bodyOf Tryz.f27) p)
noncomputable abbrev cn (n0 : List Nat) := canon Sp id n0
noncomputable abbrev K : K := kFin Sp (den Sp) Tryz.f27 0
noncomputable def L1_1_0_1_0 (i0 i1 : Int) (l2 l3 l4 l5 l6 : List (List V)) : Option Res := LP (e [1, 1, 0, 1, 0, 0]) (cn [1002]) (kBlk 0 (kSeq (e [1, 1, 1]) (K))) ([(1, (V.int .i64 i0)), (2, (V.ref 1002 0)), (5, (V.int .i64 i1)), (6, (V.int .i64 (0 : Int))), (7, V.undef)], ⟨[(1002, (Blk.cells T_parallaxref12_File [(V.sl .no T_api_Pair l2), (V.sl .no T_api_Pair l3), (V.sl .no T_parallaxref12_Keep l4), (V.sl .no T_parallaxref12_Break l5), (V.sl .no T_parallaxref12_Watch l6)] false))], [], [], [], none⟩)
noncomputable def L1_1_0_1_0_0_1_0_0_1_1_0 (i0 i1 i2 i3 : Int) (l4 l5 l6 l7 l8 : List (List V)) : Option Res := LP (e [1, 1, 0, 1, 0, 0, 1, 0, 0, 1, 1, 0, 0]) (cn [1002]) (kBlk 2 (kBlk 1 (kSeq (e [1, 1, 0, 1, 0, 0, 1, 1]) (kLp (e [1, 1, 0, 1, 0, 0]) (cn [1002]) (kBlk 0 (kSeq (e [1, 1, 1]) (K))))))) ([(1, (V.int .i64 i0)), (2, (V.ref 1002 0)), (5, (V.int .i64 i1)), (6, (V.int .i64 i2)), (7, (V.int .i64 i3))], ⟨[(1002, (Blk.cells T_parallaxref12_File [(V.sl .no T_api_Pair l4), (V.sl .no T_api_Pair l5), (V.sl .no T_parallaxref12_Keep l6), (V.sl .no T_parallaxref12_Break l7), (V.sl .no T_parallaxref12_Watch l8)] false))], [], [], [], none⟩)
noncomputable def L1_1_0_1_0v1 (i0 i1 i2 i3 : Int) (l4 l5 l6 l7 l8 : List (List V)) : Option Res := LP (e [1, 1, 0, 1, 0, 0]) (cn [1002]) (kBlk 0 (kSeq (e [1, 1, 1]) (K))) ([(1, (V.int .i64 i0)), (2, (V.ref 1002 0)), (5, (V.int .i64 i1)), (6, (V.int .i64 i2)), (7, (V.int .i64 i3))], ⟨[(1002, (Blk.cells T_parallaxref12_File [(V.sl .no T_api_Pair l4), (V.sl .no T_api_Pair l5), (V.sl .no T_parallaxref12_Keep l6), (V.sl .no T_parallaxref12_Break l7), (V.sl .no T_parallaxref12_Watch l8)] false))], [], [], [], none⟩)
theorem L1_1_0_1_0_eq (i0 i1 : Int) (l2 l3 l4 l5 l6 : List (List V)) : L1_1_0_1_0 i0 i1 l2 l3 l4 l5 l6 =
    (bif (decide ((0 : Int) < (l5.length : Int))) then (bif (decide (i1 ≤ i0)) then (L1_1_0_1_0_0_1_0_0_1_1_0 i0 (IntKind.wrap .i64 (i1 + (1 : Int))) (0 : Int) (0 : Int) l2 l3 l4 l5 l6) else (some ⟨(Out.ret (V.int .i64 i1)), [], none⟩)) else (some ⟨(Out.ret (V.int .i64 i1)), [], none⟩)) := (LP_eq ..).trans (by kernel_rfl)
theorem L1_1_0_1_0_0_1_0_0_1_1_0_eq (i0 i1 i2 i3 : Int) (l4 l5 l6 l7 l8 : List (List V)) : L1_1_0_1_0_0_1_0_0_1_1_0 i0 i1 i2 i3 l4 l5 l6 l7 l8 =
    (if (((0 : Int) ≤ i2) ∧ (i2 < (l7.length : Int))) then (V.asSl (List.getD (List.getD l7 (Int.toNat i2) []) 3 V.undef) T_api_Expr (fun es29 => (bif (decide (i3 < (es29.length : Int))) then (bif (decide (i1 ≤ i0)) then (if (((0 : Int) ≤ i2) ∧ (i2 < (l7.length : Int))) then (V.asSl (List.getD (List.getD l7 (Int.toNat i2) []) 3 V.undef) T_api_Expr (fun es31 => (if (((0 : Int) ≤ i3) ∧ (i3 < (es31.length : Int))) then (V.asInt (List.getD (List.getD es31 (Int.toNat i3) []) 0 V.undef) .i64 (fun n32 => (V.asStr (List.getD (List.getD es31 (Int.toNat i3) []) 1 V.undef) (fun s33 => (V.asInt (List.getD (List.getD es31 (Int.toNat i3) []) 2 V.undef) .i64 (fun n34 => (V.asSl (List.getD (List.getD es31 (Int.toNat i3) []) 3 V.undef) T_api_Expr (fun es35 => ((den Sp ref03_ExprSize.id [(V.agg [(V.int .i64 n32), (V.str s33), (V.int .i64 n34), (V.sl .no T_api_Expr es35)]), (V.int .i64 i0)] [] none)).bind (fun r36 => (Res.onRet r36 (fun v37 => (V.asInt v37 .i64 (fun n38 => (L1_1_0_1_0_0_1_0_0_1_1_0 i0 (IntKind.wrap .i64 ((IntKind.wrap .i64 (i1 + (1 : Int))) + n38)) i2 (IntKind.wrap .i64 (i3 + (1 : Int))) l4 l5 l6 l7 l8)))))))))))))) else none))) else none) else (L1_1_0_1_0v1 i0 i1 (IntKind.wrap .i64 (i2 + (1 : Int))) i3 l4 l5 l6 l7 l8)) else (L1_1_0_1_0v1 i0 i1 (IntKind.wrap .i64 (i2 + (1 : Int))) i3 l4 l5 l6 l7 l8)))) else none) := (LP_eq ..).trans (by kernel_rfl)
theorem L1_1_0_1_0v1_eq (i0 i1 i2 i3 : Int) (l4 l5 l6 l7 l8 : List (List V)) : L1_1_0_1_0v1 i0 i1 i2 i3 l4 l5 l6 l7 l8 =
    (bif (decide (i2 < (l7.length : Int))) then (bif (decide (i1 ≤ i0)) then (L1_1_0_1_0_0_1_0_0_1_1_0 i0 (IntKind.wrap .i64 (i1 + (1 : Int))) i2 (0 : Int) l4 l5 l6 l7 l8) else (some ⟨(Out.ret (V.int .i64 i1)), [], none⟩)) else (some ⟨(Out.ret (V.int .i64 i1)), [], none⟩)) := (LP_eq ..).trans (by kernel_rfl)
theorem eq (a0_0 a0_1 a0_2 a0_3 a0_4 : List (List V)) (a1 : Int) : den Sp id [(V.agg [(V.sl .no T_api_Pair a0_0), (V.sl .no T_api_Pair a0_1), (V.sl .no T_parallaxref12_Keep a0_2), (V.sl .no T_parallaxref12_Break a0_3), (V.sl .no T_parallaxref12_Watch a0_4)]), (V.int .i64 a1)] [] none =
    (L1_1_0_1_0 a1 (IntKind.wrap .i64 ((IntKind.wrap .i64 ((IntKind.wrap .i64 ((a0_0.length : Int) + (a0_1.length : Int))) + (a0_2.length : Int))) + (a0_4.length : Int))) a0_0 a0_1 a0_2 a0_3 a0_4) := (den_eq ..).trans (by kernel_rfl)
end ref12_Size
namespace law12_great
noncomputable abbrev e (p : List Nat) := ev Sp (den Sp) id Tryz.f9.ntmps (cAt (bodyOf Tryz.f9) p)
noncomputable abbrev cn (n0 : List Nat) := canon Sp id n0
noncomputable abbrev K : K := kFin Sp (den Sp) Tryz.f9 0
noncomputable def L1_1_0_1_0 (i0 i1 : Int) (l2 l3 l4 l5 l6 : List (List V)) : Option Res := LP (e [1, 1, 0, 1, 0, 0]) (cn [1001]) (kBlk 0 (kSeq (e [1, 1, 1]) (K))) ([(1, (V.ref 1001 0)), (3, (V.int .i64 i0)), (4, (V.int .i64 i1)), (5, V.undef)], ⟨[(1001, (Blk.cells T_parallaxref12_File [(V.sl .no T_api_Pair l2), (V.sl .no T_api_Pair l3), (V.sl .no T_parallaxref12_Keep l4), (V.sl .no T_parallaxref12_Break l5), (V.sl .no T_parallaxref12_Watch l6)] false))], [], [], [], none⟩)
noncomputable def L1_1_1_0_1_0 (i0 i1 i2 : Int) (l3 l4 l5 l6 l7 : List (List V)) : Option Res := LP (e [1, 1, 1, 0, 1, 0, 0]) (cn [1001]) (kBlk 2 (kSeq (e [1, 1, 1, 1]) (K))) ([(1, (V.ref 1001 0)), (3, (V.int .i64 i0)), (4, (V.int .i64 i1)), (5, (V.int .i64 i2))], ⟨[(1001, (Blk.cells T_parallaxref12_File [(V.sl .no T_api_Pair l3), (V.sl .no T_api_Pair l4), (V.sl .no T_parallaxref12_Keep l5), (V.sl .no T_parallaxref12_Break l6), (V.sl .no T_parallaxref12_Watch l7)] false))], [], [], [], none⟩)
theorem L1_1_0_1_0_eq (i0 i1 : Int) (l2 l3 l4 l5 l6 : List (List V)) : L1_1_0_1_0 i0 i1 l2 l3 l4 l5 l6 =
    (bif (decide (i1 < (l2.length : Int))) then (bif (decide (i0 ≤ (600 : Int))) then (if (((0 : Int) ≤ i1) ∧ (i1 < (l2.length : Int))) then (V.asStr (List.getD (List.getD l2 (Int.toNat i1) []) 0 V.undef) (fun s20 => (if (((0 : Int) ≤ i1) ∧ (i1 < (l2.length : Int))) then (V.asStr (List.getD (List.getD l2 (Int.toNat i1) []) 1 V.undef) (fun s21 => (if (((0 : Int) ≤ i1) ∧ (i1 < (l2.length : Int))) then (V.asStr (List.getD (List.getD l2 (Int.toNat i1) []) 2 V.undef) (fun s22 => (if (((0 : Int) ≤ i1) ∧ (i1 < (l2.length : Int))) then (V.asStr (List.getD (List.getD l2 (Int.toNat i1) []) 3 V.undef) (fun s23 => (L1_1_0_1_0 (IntKind.wrap .i64 ((IntKind.wrap .i64 ((IntKind.wrap .i64 ((IntKind.wrap .i64 (i0 + (IntKind.wrap .i64 (Int.tdiv (((ByteArray.size s20) : Nat) : Int) (8 : Int))))) + (IntKind.wrap .i64 (Int.tdiv (((ByteArray.size s21) : Nat) : Int) (8 : Int))))) + (IntKind.wrap .i64 (Int.tdiv (((ByteArray.size s22) : Nat) : Int) (8 : Int))))) + (IntKind.wrap .i64 (Int.tdiv (((ByteArray.size s23) : Nat) : Int) (8 : Int))))) (IntKind.wrap .i64 (i1 + (1 : Int))) l2 l3 l4 l5 l6))) else none))) else none))) else none))) else none) else (L1_1_1_0_1_0 i0 i1 (0 : Int) l2 l3 l4 l5 l6)) else (L1_1_1_0_1_0 i0 i1 (0 : Int) l2 l3 l4 l5 l6)) := (LP_eq ..).trans (by kernel_rfl)
theorem L1_1_1_0_1_0_eq (i0 i1 i2 : Int) (l3 l4 l5 l6 l7 : List (List V)) : L1_1_1_0_1_0 i0 i1 i2 l3 l4 l5 l6 l7 =
    (bif (decide (i2 < (l4.length : Int))) then (bif (decide (i0 ≤ (600 : Int))) then (if (((0 : Int) ≤ i2) ∧ (i2 < (l4.length : Int))) then (V.asStr (List.getD (List.getD l4 (Int.toNat i2) []) 0 V.undef) (fun s30 => (if (((0 : Int) ≤ i2) ∧ (i2 < (l4.length : Int))) then (V.asStr (List.getD (List.getD l4 (Int.toNat i2) []) 1 V.undef) (fun s31 => (if (((0 : Int) ≤ i2) ∧ (i2 < (l4.length : Int))) then (V.asStr (List.getD (List.getD l4 (Int.toNat i2) []) 2 V.undef) (fun s32 => (if (((0 : Int) ≤ i2) ∧ (i2 < (l4.length : Int))) then (V.asStr (List.getD (List.getD l4 (Int.toNat i2) []) 3 V.undef) (fun s33 => (L1_1_1_0_1_0 (IntKind.wrap .i64 ((IntKind.wrap .i64 ((IntKind.wrap .i64 ((IntKind.wrap .i64 (i0 + (IntKind.wrap .i64 (Int.tdiv (((ByteArray.size s30) : Nat) : Int) (8 : Int))))) + (IntKind.wrap .i64 (Int.tdiv (((ByteArray.size s31) : Nat) : Int) (8 : Int))))) + (IntKind.wrap .i64 (Int.tdiv (((ByteArray.size s32) : Nat) : Int) (8 : Int))))) + (IntKind.wrap .i64 (Int.tdiv (((ByteArray.size s33) : Nat) : Int) (8 : Int))))) i1 (IntKind.wrap .i64 (i2 + (1 : Int))) l3 l4 l5 l6 l7))) else none))) else none))) else none))) else none) else (some ⟨(Out.ret (V.bool (decide (i0 > (600 : Int))))), [], none⟩)) else (some ⟨(Out.ret (V.bool (decide (i0 > (600 : Int))))), [], none⟩)) := (LP_eq ..).trans (by kernel_rfl)
theorem eq (a0_0 a0_1 a0_2 a0_3 a0_4 : List (List V)) : den Sp id [(V.agg [(V.sl .no T_api_Pair a0_0), (V.sl .no T_api_Pair a0_1), (V.sl .no T_parallaxref12_Keep a0_2), (V.sl .no T_parallaxref12_Break a0_3), (V.sl .no T_parallaxref12_Watch a0_4)])] [] none =
    ((den Sp ref12_Size.id [(V.agg [(V.sl .no T_api_Pair a0_0), (V.sl .no T_api_Pair a0_1), (V.sl .no T_parallaxref12_Keep a0_2), (V.sl .no T_parallaxref12_Break a0_3), (V.sl .no T_parallaxref12_Watch a0_4)]), (V.int .i64 (600 : Int))] [] none)).bind (fun r7 => (Res.onRet r7 (fun v8 => (V.asInt v8 .i64 (fun n9 => (L1_1_0_1_0 n9 (0 : Int) a0_0 a0_1 a0_2 a0_3 a0_4)))))) := (den_eq ..).trans (by kernel_rfl)
end law12_great
namespace law12_own
noncomputable abbrev e (p : List Nat) := ev Sp (den Sp) id Tryz.f12.ntmps (cAt (bodyOf Tryz.f12) p)
noncomputable abbrev cn (n0 : List Nat) := canon Sp id n0
noncomputable abbrev K : K := kFin Sp (den Sp) Tryz.f12 0
noncomputable def L1_1_0_1_0 (i0 : Int) (l1 l2 l3 l4 l5 l6 l7 l8 : List (List V)) : Option Res := LP (e [1, 1, 0, 1, 0, 0]) (cn [1001, 1002, 1003]) (kBlk 0 (kSeq (e [1, 1, 1]) (K))) ([(1, (V.ref 1001 0)), (2, (V.ref 1002 0)), (3, (V.ref 1003 0)), (4, (V.int .i64 i0)), (5, V.undef), (7, V.undef)], ⟨[(1001, (Blk.cells T_parallaxref12_File [(V.sl .no T_api_Pair l1), (V.sl .no T_api_Pair l2), (V.sl .no T_parallaxref12_Keep l3), (V.sl .no T_parallaxref12_Break l4), (V.sl .no T_parallaxref12_Watch l5)] false)), (1002, (Blk.cells T_decl_File [(V.sl (Tok.row 0) T_api_Pair []), (V.sl (Tok.row 1) T_api_Pair []), (V.sl (Tok.row 2) T_decl_Keep []), (V.sl (Tok.row 3) T_decl_Break []), (V.sl (Tok.row 4) T_decl_Watch [])] false)), (1003, (Blk.cells T_decl_File [(V.sl .no T_api_Pair l6), (V.sl .no T_api_Pair l7), (V.sl (Tok.row 5) T_decl_Keep l8), (V.sl (Tok.row 6) T_decl_Break []), (V.sl (Tok.row 7) T_decl_Watch [])] false))], [0, 1, 2, 3, 4, 5, 6, 7], [], [], none⟩)
noncomputable def L1_1_1_0_1_0 (i0 i1 : Int) (l2 l3 l4 l5 l6 l7 l8 l9 l10 : List (List V)) : Option Res := LP (e [1, 1, 1, 0, 1, 0, 0]) (cn [1001, 1002, 1003]) (kBlk 2 (kSeq (e [1, 1, 1, 1]) (K))) ([(1, (V.ref 1001 0)), (2, (V.ref 1002 0)), (3, (V.ref 1003 0)), (4, (V.int .i64 i0)), (5, (V.int .i64 i1)), (7, V.undef)], ⟨[(1001, (Blk.cells T_parallaxref12_File [(V.sl .no T_api_Pair l2), (V.sl .no T_api_Pair l3), (V.sl .no T_parallaxref12_Keep l4), (V.sl .no T_parallaxref12_Break l5), (V.sl .no T_parallaxref12_Watch l6)] false)), (1002, (Blk.cells T_decl_File [(V.sl (Tok.row 0) T_api_Pair []), (V.sl (Tok.row 1) T_api_Pair []), (V.sl (Tok.row 2) T_decl_Keep []), (V.sl (Tok.row 3) T_decl_Break []), (V.sl (Tok.row 4) T_decl_Watch [])] false)), (1003, (Blk.cells T_decl_File [(V.sl .no T_api_Pair l7), (V.sl .no T_api_Pair l8), (V.sl (Tok.row 5) T_decl_Keep l9), (V.sl (Tok.row 6) T_decl_Break l10), (V.sl (Tok.row 7) T_decl_Watch [])] false))], [0, 1, 2, 3, 4, 5, 6, 7], [], [], none⟩)
noncomputable def L1_1_1_1_0_1_0 (i0 i1 i2 : Int) (l3 l4 l5 l6 l7 l8 l9 l10 l11 l12 : List (List V)) : Option Res := LP (e [1, 1, 1, 1, 0, 1, 0, 0]) (cn [1001, 1002, 1003]) (kBlk 4 (kSeq (e [1, 1, 1, 1, 1]) (K))) ([(1, (V.ref 1001 0)), (2, (V.ref 1002 0)), (3, (V.ref 1003 0)), (4, (V.int .i64 i0)), (5, (V.int .i64 i1)), (7, (V.int .i64 i2))], ⟨[(1001, (Blk.cells T_parallaxref12_File [(V.sl .no T_api_Pair l3), (V.sl .no T_api_Pair l4), (V.sl .no T_parallaxref12_Keep l5), (V.sl .no T_parallaxref12_Break l6), (V.sl .no T_parallaxref12_Watch l7)] false)), (1002, (Blk.cells T_decl_File [(V.sl (Tok.row 0) T_api_Pair []), (V.sl (Tok.row 1) T_api_Pair []), (V.sl (Tok.row 2) T_decl_Keep []), (V.sl (Tok.row 3) T_decl_Break []), (V.sl (Tok.row 4) T_decl_Watch [])] false)), (1003, (Blk.cells T_decl_File [(V.sl .no T_api_Pair l8), (V.sl .no T_api_Pair l9), (V.sl (Tok.row 5) T_decl_Keep l10), (V.sl (Tok.row 6) T_decl_Break l11), (V.sl (Tok.row 7) T_decl_Watch l12)] false))], [0, 1, 2, 3, 4, 5, 6, 7], [], [], none⟩)
theorem L1_1_0_1_0_eq (i0 : Int) (l1 l2 l3 l4 l5 l6 l7 l8 : List (List V)) : L1_1_0_1_0 i0 l1 l2 l3 l4 l5 l6 l7 l8 =
    (bif (decide (i0 < (l3.length : Int))) then (if (((0 : Int) ≤ i0) ∧ (i0 < (l3.length : Int))) then (V.asInt (List.getD (List.getD l3 (Int.toNat i0) []) 0 V.undef) .i64 (fun n19 => (if (((0 : Int) ≤ i0) ∧ (i0 < (l3.length : Int))) then (V.asStr (List.getD (List.getD l3 (Int.toNat i0) []) 1 V.undef) (fun s20 => (if (((0 : Int) ≤ i0) ∧ (i0 < (l3.length : Int))) then (V.asStr (List.getD (List.getD l3 (Int.toNat i0) []) 2 V.undef) (fun s21 => (if (((List.length l8) + (List.length [[(V.int .i64 n19), (V.str s20), (V.str s21)]])) ≤ most) then (L1_1_0_1_0 (IntKind.wrap .i64 (i0 + (1 : Int))) l1 l2 l3 l4 l5 l6 l7 (l8 ++ [[(V.int .i64 n19), (V.str s20), (V.str s21)]])) else none))) else none))) else none))) else none) else (L1_1_1_0_1_0 i0 (0 : Int) l1 l2 l3 l4 l5 l6 l7 l8 [])) := (LP_eq ..).trans (by kernel_rfl)
theorem L1_1_1_0_1_0_eq (i0 i1 : Int) (l2 l3 l4 l5 l6 l7 l8 l9 l10 : List (List V)) : L1_1_1_0_1_0 i0 i1 l2 l3 l4 l5 l6 l7 l8 l9 l10 =
    (bif (decide (i1 < (l5.length : Int))) then (if (((0 : Int) ≤ i1) ∧ (i1 < (l5.length : Int))) then (V.asInt (List.getD (List.getD l5 (Int.toNat i1) []) 0 V.undef) .i64 (fun n32 => (V.asStr (List.getD (List.getD l5 (Int.toNat i1) []) 1 V.undef) (fun s33 => (V.asInt (List.getD (List.getD l5 (Int.toNat i1) []) 2 V.undef) .i64 (fun n34 => (V.asSl (List.getD (List.getD l5 (Int.toNat i1) []) 3 V.undef) T_api_Expr (fun es35 => (if (((List.length l10) + (List.length [[(V.int .i64 n32), (V.str s33), (V.int .i64 n34), (V.sl .no T_api_Expr es35)]])) ≤ most) then (L1_1_1_0_1_0 i0 (IntKind.wrap .i64 (i1 + (1 : Int))) l2 l3 l4 l5 l6 l7 l8 l9 (l10 ++ [[(V.int .i64 n32), (V.str s33), (V.int .i64 n34), (V.sl .no T_api_Expr es35)]])) else none))))))))) else none) else (L1_1_1_1_0_1_0 i0 i1 (0 : Int) l2 l3 l4 l5 l6 l7 l8 l9 l10 [])) := (LP_eq ..).trans (by kernel_rfl)
theorem L1_1_1_1_0_1_0_eq (i0 i1 i2 : Int) (l3 l4 l5 l6 l7 l8 l9 l10 l11 l12 : List (List V)) : L1_1_1_1_0_1_0 i0 i1 i2 l3 l4 l5 l6 l7 l8 l9 l10 l11 l12 =
    (bif (decide (i2 < (l7.length : Int))) then (if (((0 : Int) ≤ i2) ∧ (i2 < (l7.length : Int))) then (V.asInt (List.getD (List.getD l7 (Int.toNat i2) []) 0 V.undef) .i64 (fun n47 => (if (((0 : Int) ≤ i2) ∧ (i2 < (l7.length : Int))) then (V.asStr (List.getD (List.getD l7 (Int.toNat i2) []) 1 V.undef) (fun s48 => (if (((0 : Int) ≤ i2) ∧ (i2 < (l7.length : Int))) then (V.asStr (List.getD (List.getD l7 (Int.toNat i2) []) 2 V.undef) (fun s49 => (if (((List.length l12) + (List.length [[(V.int .i64 n47), (V.str s48), (V.str s49)]])) ≤ most) then (L1_1_1_1_0_1_0 i0 i1 (IntKind.wrap .i64 (i2 + (1 : Int))) l3 l4 l5 l6 l7 l8 l9 l10 l11 (l12 ++ [[(V.int .i64 n47), (V.str s48), (V.str s49)]])) else none))) else none))) else none))) else none) else (some ⟨(Out.ret (V.agg [(V.sl .no T_api_Pair l8), (V.sl .no T_api_Pair l9), (V.sl .no T_decl_Keep l10), (V.sl .no T_decl_Break l11), (V.sl .no T_decl_Watch l12)])), [], none⟩)) := (LP_eq ..).trans (by kernel_rfl)
theorem eq (a0_0 a0_1 a0_2 a0_3 a0_4 : List (List V)) : den Sp id [(V.agg [(V.sl .no T_api_Pair a0_0), (V.sl .no T_api_Pair a0_1), (V.sl .no T_parallaxref12_Keep a0_2), (V.sl .no T_parallaxref12_Break a0_3), (V.sl .no T_parallaxref12_Watch a0_4)])] [] none =
    (L1_1_0_1_0 (0 : Int) a0_0 a0_1 a0_2 a0_3 a0_4 a0_0 a0_1 []) := (den_eq ..).trans (by kernel_rfl)
end law12_own
namespace law12_wide
noncomputable abbrev e (p : List Nat) := ev Sp (den Sp) id Tryz.f21.ntmps (cAt (bodyOf Tryz.f21) p)
noncomputable abbrev cn (n0 : List Nat) := canon Sp id n0
noncomputable abbrev K : K := kFin Sp (den Sp) Tryz.f21 0
theorem eq (a0_0 a1_0 : List (List V)) : den Sp id [(V.agg [(V.sl .no T_api_Proc a0_0)]), (V.agg [(V.sl .no T_api_Proc a1_0)])] [] none =
    ((den Sp ref03_Size.id [(V.agg [(V.sl .no T_api_Proc a0_0)]), (V.int .i64 (500 : Int))] [] none)).bind (fun r4 => (Res.onRet r4 (fun v5 => (V.asInt v5 .i64 (fun n6 => (bif (decide (n6 > (500 : Int))) then (some ⟨(Out.ret (V.bool true)), [], none⟩) else ((den Sp ref03_Size.id [(V.agg [(V.sl .no T_api_Proc a1_0)]), (V.int .i64 (500 : Int))] [] none)).bind (fun r7 => (Res.onRet r7 (fun v8 => (V.asInt v8 .i64 (fun n9 => (some ⟨(Out.ret (V.bool (decide (n9 > (500 : Int))))), [], none⟩)))))))))))) := (den_eq ..).trans (by kernel_rfl)
end law12_wide
end Go.Proofs.YtmhnmelaodhemaaGreatDoor
namespace Go.Proofs.YtmhnmelaodhemaaGreatDoor
open Go Go.Proofs.Ab Go.Proofs.Px
set_option linter.unusedVariables false
set_option linter.unusedSimpArgs false
set_option maxRecDepth 100000
def Bk.sizes : List Bk → Nat
  | [] => 0
  | b :: l => 1 + b.whn.length + Ex.sizes b.whn + Bk.sizes l
theorem Bk.sizes_drop {l : List Bk} {i : Nat} (h : i < l.length) : Bk.sizes (l.drop i) = 1 + l[i].whn.length + Ex.sizes l[i].whn + Bk.sizes (l.drop (i + 1)) := by
  rw [List.drop_eq_getElem_cons h, Bk.sizes]
theorem Bk.sizes_len : ∀ l : List Bk, l.length ≤ Bk.sizes l
  | [] => Nat.zero_le _
  | b :: l => by have := Bk.sizes_len l; rw [Bk.sizes, List.length_cons]; omega
theorem Bk.sizes_mem : ∀ {l : List Bk} {b : Bk}, b ∈ l → b.whn.length + Ex.sizes b.whn ≤ Bk.sizes l
  | x :: l, b, h => by
    rw [Bk.sizes]
    rcases List.mem_cons.1 h with rfl | h
    · omega
    · have := Bk.sizes_mem h; omega
theorem ref12_Size_is (f : Fl) (hf : FlOk f) : ∃ n : Int, den Sp ref12_Size.id [.agg f.v, .int .i64 600] [] none = some ⟨.ret (.int .i64 n), [], none⟩ ∧ 0 ≤ n ∧ n ≤ 1125899906842624 ∧
    (n ≤ 600 → n = (f.pairs.length : Int) + (f.sames.length : Int) + (f.keeps.length : Int) + (f.watches.length : Int) + (Bk.sizes f.breaks : Int)) := by
  have hb := hf.breaks
  have inner : ∀ i (hi : i < f.breaks.length), (∀ n k : Int, 0 ≤ n → n ≤ 1125899906842624 → ∃ n2 : Int, ref12_Size.L1_1_0_1_0v1 600 n ((i + 1 : Nat) : Int) k (f.pairs.map Pai.v) (f.sames.map Pai.v) (f.keeps.map Kp.v) (f.breaks.map Bk.v) (f.watches.map Wt.v) = some ⟨.ret (.int .i64 n2), [], none⟩ ∧ n ≤ n2 ∧ n2 ≤ 1125899906842624 ∧ (n2 ≤ 600 → n2 = n + (Bk.sizes (f.breaks.drop (i + 1)) : Int))) →
      ∀ j : Nat, j ≤ f.breaks[i].whn.length → ∀ n : Int, 0 ≤ n → n ≤ 1125899906842624 → ∃ n2 : Int, ref12_Size.L1_1_0_1_0_0_1_0_0_1_1_0 600 n (i : Int) (j : Int) (f.pairs.map Pai.v) (f.sames.map Pai.v) (f.keeps.map Kp.v) (f.breaks.map Bk.v) (f.watches.map Wt.v) = some ⟨.ret (.int .i64 n2), [], none⟩ ∧ n ≤ n2 ∧ n2 ≤ 1125899906842624 ∧
        (n2 ≤ 600 → n2 = n + (f.breaks[i].whn.length - j : Int) + (Ex.sizes (f.breaks[i].whn.drop j) : Int) + (Bk.sizes (f.breaks.drop (i + 1)) : Int)) := by
    intro i hi hnext
    have ho := hb.2 _ (List.getElem_mem hi)
    have hw := ho.whn
    have hwr : IntKind.wrap .i64 ((i : Int) + 1) = (i : Int) + 1 := wrap_in (by omega) (by omega)
    simp only [Int.natCast_add, Int.natCast_one] at hnext
    refine down (fun n hn hn2 => ?_) fun j hj ihj n hn hn2 => ?_
    · obtain ⟨n2, g1, g2, g3, g4⟩ := hnext n (f.breaks[i].whn.length : Int) hn hn2
      refine ⟨n2, ?_, g2, g3, fun h => ?_⟩
      · rw [ref12_Size.L1_1_0_1_0_0_1_0_0_1_1_0_eq]
        simp [hi, hwr, g1]
      · have := g4 h
        rw [List.drop_length, Ex.sizes]; omega
    · by_cases hc : n ≤ 600
      · obtain ⟨m, h1, h2, h3, h4⟩ := ref03_ExprSize_is f.breaks[i].whn[j] (hw.2 _ (List.getElem_mem hj)) 600 (by omega) (by omega)
        obtain ⟨n2, g1, g2, g3, g4⟩ := ihj (n + 1 + m) (by omega) (by omega)
        have w1 : IntKind.wrap .i64 (n + 1) = n + 1 := wrap_in (by omega) (by omega)
        have w2 : IntKind.wrap .i64 (n + 1 + m) = n + 1 + m := wrap_in (by omega) (by omega)
        have w3 : IntKind.wrap .i64 ((j : Int) + 1) = (j : Int) + 1 := wrap_in (by omega) (by omega)
        simp only [Int.natCast_add, Int.natCast_one] at g1
        refine ⟨n2, ?_, by omega, g3, fun h => ?_⟩
        · rw [ref12_Size.L1_1_0_1_0_0_1_0_0_1_1_0_eq]
          simp [hi, hj, hc, h1, w1, w2, w3, g1]
        · have e1 := g4 h
          have e2 := h4 (by omega)
          rw [Ex.sizes_drop hj]; omega
      · obtain ⟨n2, g1, g2, g3, g4⟩ := hnext n (j : Int) hn hn2
        refine ⟨n2, ?_, g2, g3, fun h => by omega⟩
        rw [ref12_Size.L1_1_0_1_0_0_1_0_0_1_1_0_eq]
        simp [hi, hj, hc, hwr, g1]
  have outer : ∀ i : Nat, i ≤ f.breaks.length → ∀ n k : Int, 0 ≤ n → n ≤ 1125899906842624 → ∃ n2 : Int, ref12_Size.L1_1_0_1_0v1 600 n (i : Int) k (f.pairs.map Pai.v) (f.sames.map Pai.v) (f.keeps.map Kp.v) (f.breaks.map Bk.v) (f.watches.map Wt.v) = some ⟨.ret (.int .i64 n2), [], none⟩ ∧ n ≤ n2 ∧ n2 ≤ 1125899906842624 ∧ (n2 ≤ 600 → n2 = n + (Bk.sizes (f.breaks.drop i) : Int)) := by
    refine down (fun n k hn hn2 => ?_) fun i hi ihi n k hn hn2 => ?_
    · refine ⟨n, ?_, by omega, hn2, fun _ => by rw [List.drop_length, Bk.sizes]; omega⟩
      rw [ref12_Size.L1_1_0_1_0v1_eq]; simp
    · by_cases hc : n ≤ 600
      · obtain ⟨n2, g1, g2, g3, g4⟩ := inner i hi ihi 0 (Nat.zero_le _) (n + 1) (by omega) (by omega)
        have w1 : IntKind.wrap .i64 (n + 1) = n + 1 := wrap_in (by omega) (by omega)
        refine ⟨n2, ?_, by omega, g3, fun h => ?_⟩
        · rw [ref12_Size.L1_1_0_1_0v1_eq]
          simp [hi, hc, w1]
          simpa using g1
        · have := g4 h
          rw [Bk.sizes_drop hi]
          rw [List.drop_zero] at this
          omega
      · refine ⟨n, ?_, by omega, hn2, fun h => by omega⟩
        rw [ref12_Size.L1_1_0_1_0v1_eq]; simp [hi, hc]
  have l1 := hf.pairs.1
  have l2 := hf.sames.1
  have l3 := hf.keeps.1
  have l4 := hf.watches.1
  obtain ⟨n2, g1, g2, g3, g4⟩ := outer 0 (Nat.zero_le _) ((f.pairs.length : Int) + (f.sames.length : Int) + (f.keeps.length : Int) + (f.watches.length : Int)) 0 (by omega) (by omega)
  refine ⟨n2, ?_, by omega, g3, fun h => by have := g4 h; rw [List.drop_zero] at this; exact this⟩
  have e : ∀ n : Int, ref12_Size.L1_1_0_1_0 600 n (f.pairs.map Pai.v) (f.sames.map Pai.v) (f.keeps.map Kp.v) (f.breaks.map Bk.v) (f.watches.map Wt.v) = ref12_Size.L1_1_0_1_0v1 600 n 0 0 (f.pairs.map Pai.v) (f.sames.map Pai.v) (f.keeps.map Kp.v) (f.breaks.map Bk.v) (f.watches.map Wt.v) := fun n => by
    rw [ref12_Size.L1_1_0_1_0_eq, ref12_Size.L1_1_0_1_0v1_eq]
  rw [Fl.v, ref12_Size.eq]
  simp (disch := omega) only [List.length_map, wrap_in]
  rw [e]
  simpa using g1
def Pai.len (p : Pai) : Nat := p.procA.length / 8 + p.procB.length / 8 + p.varA.length / 8 + p.varB.length / 8
def Pai.lens : List Pai → Nat
  | [] => 0
  | p :: l => p.len + Pai.lens l
theorem Pai.lens_drop {l : List Pai} {i : Nat} (h : i < l.length) : Pai.lens (l.drop i) = l[i].len + Pai.lens (l.drop (i + 1)) := by
  rw [List.drop_eq_getElem_cons h, Pai.lens]
structure NotGreat (f : Fl) : Prop where
  num : f.pairs.length + f.sames.length + f.keeps.length + f.watches.length + Bk.sizes f.breaks ≤ 600
  pairs : Pai.lens f.pairs ≤ 600
  sames : Pai.lens f.sames ≤ 600
theorem law12_great_is (f : Fl) (hf : FlOk f) : ∃ g : Bool, den Sp law12_great.id [.agg f.v] [] none = some ⟨.ret (.bool g), [], none⟩ ∧ (g = false → NotGreat f) := by
  obtain ⟨n, h1, h2, h3, h4⟩ := ref12_Size_is f hf
  have second : ∀ x : Int, ∀ i : Nat, i ≤ f.sames.length → ∀ m : Int, 0 ≤ m → m ≤ 1125899906843824 → ∃ m2 : Int, law12_great.L1_1_1_0_1_0 m x (i : Int) (f.pairs.map Pai.v) (f.sames.map Pai.v) (f.keeps.map Kp.v) (f.breaks.map Bk.v) (f.watches.map Wt.v) = some ⟨.ret (.bool (decide (600 < m2))), [], none⟩ ∧ m ≤ m2 ∧ (m2 ≤ 600 → m2 = m + (Pai.lens (f.sames.drop i) : Int)) := by
    intro x
    have hl := hf.sames
    refine down (fun m hm hm2 => ?_) fun i hi ih m hm hm2 => ?_
    · refine ⟨m, ?_, by omega, fun _ => by rw [List.drop_length, Pai.lens]; omega⟩
      rw [law12_great.L1_1_1_0_1_0_eq]; simp
    · by_cases hc : m ≤ 600
      · have ho := hl.2 _ (List.getElem_mem hi)
        have e1 := ho.procA
        have e2 := ho.procB
        have e3 := ho.varA
        have e4 := ho.varB
        obtain ⟨m2, g1, g2, g3⟩ := ih (m + ((f.sames[i].procA.length / 8 : Nat) : Int) + ((f.sames[i].procB.length / 8 : Nat) : Int) + ((f.sames[i].varA.length / 8 : Nat) : Int) + ((f.sames[i].varB.length / 8 : Nat) : Int)) (by omega) (by omega)
        simp only [Int.natCast_add, Int.natCast_one] at g1
        refine ⟨m2, ?_, by omega, fun h => ?_⟩
        · rw [law12_great.L1_1_1_0_1_0_eq]
          simp (disch := omega) only [List.length_map, decide_eq_true (show (i : Int) < (f.sames.length : Int) by omega), cond_true, decide_eq_true hc, if_pos (in_row hi), Int.toNat_natCast, map_at _ _ _ hi, Pai.v_0, Pai.v_1, Pai.v_2, Pai.v_3, asStr_str, B_size, eighth, wrap_in]
          exact g1
        · have := g3 h
          rw [Pai.lens_drop hi, Pai.len]; omega
      · refine ⟨m, ?_, by omega, fun h => by omega⟩
        rw [law12_great.L1_1_1_0_1_0_eq]; simp [hi, hc]
  have first : ∀ i : Nat, i ≤ f.pairs.length → ∀ m : Int, 0 ≤ m → m ≤ 1125899906843224 → ∃ m2 : Int, law12_great.L1_1_0_1_0 m (i : Int) (f.pairs.map Pai.v) (f.sames.map Pai.v) (f.keeps.map Kp.v) (f.breaks.map Bk.v) (f.watches.map Wt.v) = some ⟨.ret (.bool (decide (600 < m2))), [], none⟩ ∧ m ≤ m2 ∧ (m2 ≤ 600 → m2 = m + (Pai.lens (f.pairs.drop i) : Int) + (Pai.lens f.sames : Int)) := by
    have hl := hf.pairs
    refine down (fun m hm hm2 => ?_) fun i hi ih m hm hm2 => ?_
    · obtain ⟨m2, g1, g2, g3⟩ := second (f.pairs.length : Int) 0 (Nat.zero_le _) m hm (by omega)
      refine ⟨m2, ?_, g2, fun h => by have := g3 h; rw [List.drop_length, Pai.lens]; rw [List.drop_zero] at this; omega⟩
      rw [law12_great.L1_1_0_1_0_eq]; simpa using g1
    · by_cases hc : m ≤ 600
      · have ho := hl.2 _ (List.getElem_mem hi)
        have e1 := ho.procA
        have e2 := ho.procB
        have e3 := ho.varA
        have e4 := ho.varB
        obtain ⟨m2, g1, g2, g3⟩ := ih (m + ((f.pairs[i].procA.length / 8 : Nat) : Int) + ((f.pairs[i].procB.length / 8 : Nat) : Int) + ((f.pairs[i].varA.length / 8 : Nat) : Int) + ((f.pairs[i].varB.length / 8 : Nat) : Int)) (by omega) (by omega)
        simp only [Int.natCast_add, Int.natCast_one] at g1
        refine ⟨m2, ?_, by omega, fun h => ?_⟩
        · rw [law12_great.L1_1_0_1_0_eq]
          simp (disch := omega) only [List.length_map, decide_eq_true (show (i : Int) < (f.pairs.length : Int) by omega), cond_true, decide_eq_true hc, if_pos (in_row hi), Int.toNat_natCast, map_at _ _ _ hi, Pai.v_0, Pai.v_1, Pai.v_2, Pai.v_3, asStr_str, B_size, eighth, wrap_in]
          exact g1
        · have := g3 h
          rw [Pai.lens_drop hi, Pai.len]; omega
      · obtain ⟨m2, g1, g2, g3⟩ := second (i : Int) 0 (Nat.zero_le _) m hm (by omega)
        refine ⟨m2, ?_, g2, fun h => by omega⟩
        rw [law12_great.L1_1_0_1_0_eq]
        simp [hi, hc]
        simpa using g1
  obtain ⟨m2, g1, g2, g3⟩ := first 0 (Nat.zero_le _) n h2 (by omega)
  refine ⟨decide (600 < m2), ?_, fun hg => ?_⟩
  · rw [Fl.v] at h1
    rw [Fl.v, law12_great.eq, h1]
    simpa using g1
  · have hm : m2 ≤ 600 := by simpa using hg
    have e1 := g3 hm
    rw [List.drop_zero] at e1
    have e2 := h4 (by omega)
    exact ⟨by omega, by omega, by omega⟩
theorem NotGreat.small {f : Fl} (h : NotGreat f) (hf : FlOk f) : SmallF f := by
  have := h.num
  have hb := Bk.sizes_len f.breaks
  exact ⟨by omega, by omega, by omega, by omega, by omega, fun x hx => by have := Bk.sizes_mem hx; omega, fun x hx => (hf.breaks.2 x hx).mark⟩
def Fl.ov (f : Fl) : List V := [.sl .no T_api_Pair (f.pairs.map Pai.v), .sl .no T_api_Pair (f.sames.map Pai.v), .sl .no T_decl_Keep (f.keeps.map Kp.v), .sl .no T_decl_Break (f.breaks.map Bk.v), .sl .no T_decl_Watch (f.watches.map Wt.v)]
theorem law12_own_is (f : Fl) (hf : SmallF f) : den Sp law12_own.id [.agg f.v] [] none = some ⟨.ret (.agg f.ov), [], none⟩ := by
  have hm : most = 1099511627776 := rfl
  have third : ∀ (x y : Int), ∀ i : Nat, i ≤ f.watches.length → law12_own.L1_1_1_1_0_1_0 x y (i : Int) (f.pairs.map Pai.v) (f.sames.map Pai.v) (f.keeps.map Kp.v) (f.breaks.map Bk.v) (f.watches.map Wt.v) (f.pairs.map Pai.v) (f.sames.map Pai.v) (f.keeps.map Kp.v) (f.breaks.map Bk.v) ((f.watches.take i).map Wt.v) = some ⟨.ret (.agg f.ov), [], none⟩ := by
    intro x y
    have hl := hf.watches
    refine down ?_ fun i hi ih => ?_
    · rw [law12_own.L1_1_1_1_0_1_0_eq, List.take_length]; simp [Fl.ov]
    · rw [List.take_succ_eq_append_getElem hi, List.map_append, List.map_singleton, Wt.v] at ih
      simp only [Int.natCast_add, Int.natCast_one] at ih
      have hw : IntKind.wrap .i64 ((i : Int) + 1) = (i : Int) + 1 := wrap_in (by omega) (by omega)
      rw [law12_own.L1_1_1_1_0_1_0_eq]
      simp (disch := omega) only [List.length_map, decide_eq_true (show (i : Int) < (f.watches.length : Int) by omega), cond_true, if_pos (in_row hi), Int.toNat_natCast, map_at _ _ _ hi, Wt.v_0, Wt.v_1, Wt.v_2, asInt_int, asStr_str, hw, List.length_take, List.length_singleton]
      rw [if_pos (by omega)]
      exact ih
  have second : ∀ (x : Int), ∀ i : Nat, i ≤ f.breaks.length → law12_own.L1_1_1_0_1_0 x (i : Int) (f.pairs.map Pai.v) (f.sames.map Pai.v) (f.keeps.map Kp.v) (f.breaks.map Bk.v) (f.watches.map Wt.v) (f.pairs.map Pai.v) (f.sames.map Pai.v) (f.keeps.map Kp.v) ((f.breaks.take i).map Bk.v) = some ⟨.ret (.agg f.ov), [], none⟩ := by
    intro x
    have hl := hf.breaks
    refine down ?_ fun i hi ih => ?_
    · rw [law12_own.L1_1_1_0_1_0_eq, List.take_length]; simpa using third x (f.breaks.length : Int) 0 (Nat.zero_le _)
    · rw [List.take_succ_eq_append_getElem hi, List.map_append, List.map_singleton, Bk.v] at ih
      simp only [Int.natCast_add, Int.natCast_one] at ih
      have hw : IntKind.wrap .i64 ((i : Int) + 1) = (i : Int) + 1 := wrap_in (by omega) (by omega)
      rw [law12_own.L1_1_1_0_1_0_eq]
      simp (disch := omega) only [List.length_map, decide_eq_true (show (i : Int) < (f.breaks.length : Int) by omega), cond_true, if_pos (in_row hi), Int.toNat_natCast, map_at _ _ _ hi, Bk.v_0, Bk.v_1, Bk.v_2, Bk.v_3, asInt_int, asStr_str, asSl_sl, hw, List.length_take, List.length_singleton]
      rw [if_pos (by omega)]
      exact ih
  have first : ∀ i : Nat, i ≤ f.keeps.length → law12_own.L1_1_0_1_0 (i : Int) (f.pairs.map Pai.v) (f.sames.map Pai.v) (f.keeps.map Kp.v) (f.breaks.map Bk.v) (f.watches.map Wt.v) (f.pairs.map Pai.v) (f.sames.map Pai.v) ((f.keeps.take i).map Kp.v) = some ⟨.ret (.agg f.ov), [], none⟩ := by
    have hl := hf.keeps
    refine down ?_ fun i hi ih => ?_
    · rw [law12_own.L1_1_0_1_0_eq, List.take_length]; simpa using second (f.keeps.length : Int) 0 (Nat.zero_le _)
    · rw [List.take_succ_eq_append_getElem hi, List.map_append, List.map_singleton, Kp.v] at ih
      simp only [Int.natCast_add, Int.natCast_one] at ih
      have hw : IntKind.wrap .i64 ((i : Int) + 1) = (i : Int) + 1 := wrap_in (by omega) (by omega)
      rw [law12_own.L1_1_0_1_0_eq]
      simp (disch := omega) only [List.length_map, decide_eq_true (show (i : Int) < (f.keeps.length : Int) by omega), cond_true, if_pos (in_row hi), Int.toNat_natCast, map_at _ _ _ hi, Kp.v_0, Kp.v_1, Kp.v_2, asInt_int, asStr_str, hw, List.length_take, List.length_singleton]
      rw [if_pos (by omega)]
      exact ih
  have h0 := first 0 (Nat.zero_le _)
  rw [Fl.v, law12_own.eq]
  simpa using h0
end Go.Proofs.YtmhnmelaodhemaaGreatDoor
namespace Go.Proofs.YtmhnmelaodhemaaGreatDoor
open Go Go.Proofs.Ab Go.Proofs.Px
set_option linter.unusedVariables false
set_option linter.unusedSimpArgs false
set_option maxRecDepth 100000
def isN (s : List UInt8) : Bool := isName (B s)
def nb (l : List (List UInt8)) : Bool := l.any fun s => !isN s && !decide (s = [40]) && !decide (s = [41])
def sideT (n : Int) : List UInt8 := if n = 1 then [114, 105, 103, 104, 116] else [108, 101, 102, 116]
def sideK (n : Int) : Bool := decide (n = 0) || decide (n = 1)
def pairW (p : Pai) : List (List UInt8) := [[112, 97, 105, 114], p.procA, p.procB, [59]]
def sameW (p : Pai) : List (List UInt8) := [[115, 97, 109, 101], p.procA, [40], p.varA, [41], p.procB, [40], p.varB, [41], [59]]
def keepW (k : Kp) : List (List UInt8) := [[107, 101, 101, 112], sideT k.side, k.prc, k.vr, [59]]
def whenW : List Ex → List (List UInt8)
  | [] => []
  | x :: l => [119, 104, 101, 110] :: (prX x).1 :: whenW l
def breakW (b : Bk) : List (List UInt8) := [98, 114, 101, 97, 107] :: sideT b.side :: b.prc :: decs b.mark :: (whenW b.whn ++ [[59]])
def watchW (k : Wt) : List (List UInt8) := [[119, 97, 116, 99, 104], sideT k.side, k.prc, k.vr, [59]]
def okPair (p : Pai) : Bool := isN p.procA && isN p.procB && decide (p.varA = []) && decide (p.varB = [])
def okSame (p : Pai) : Bool := isN p.procA && isN p.procB && isN p.varA && isN p.varB
def okKeep (k : Kp) : Bool := isN k.prc && isN k.vr && sideK k.side
def okWhen : List Ex → Bool
  | [] => true
  | x :: l => decide ((prX x).2 = 0) && okWhen l
def okBreak (b : Bk) : Bool := isN b.prc && sideK b.side && decide (0 ≤ b.mark) && decide (b.whn.length < 2) && okWhen b.whn
def okWatch (k : Wt) : Bool := isN k.prc && isN k.vr && sideK k.side
def linesW {α : Type} (w : α → List (List UInt8)) : List α → List (List UInt8)
  | [] => []
  | x :: l => w x ++ linesW w l
def allK {α : Type} (o : α → Bool) : List α → Bool
  | [] => true
  | x :: l => o x && allK o l
theorem linesW_drop {α : Type} {w : α → List (List UInt8)} {l : List α} {i : Nat} (h : i < l.length) : linesW w (l.drop i) = w l[i] ++ linesW w (l.drop (i + 1)) := by
  rw [List.drop_eq_getElem_cons h, linesW]
theorem allK_drop {α : Type} {o : α → Bool} {l : List α} {i : Nat} (h : i < l.length) : allK o (l.drop i) = (o l[i] && allK o (l.drop (i + 1))) := by
  rw [List.drop_eq_getElem_cons h, allK]
def fileW (f : Fl) : List (List UInt8) := linesW pairW f.pairs ++ (linesW sameW f.sames ++ (linesW keepW f.keeps ++ (linesW breakW f.breaks ++ linesW watchW f.watches)))
def okFile (f : Fl) : Bool := allK okPair f.pairs && (allK okSame f.sames && (allK okKeep f.keeps && (allK okBreak f.breaks && allK okWatch f.watches)))
def longF (f : Fl) : Bool := decide (40 < f.pairs.length) || decide (40 < f.sames.length) || decide (40 < f.keeps.length) || decide (40 < f.breaks.length) || decide (40 < f.watches.length)
def prF (f : Fl) : List UInt8 × Int := if okFile f then (if longF f then ([], 2) else (joinL (fileW f), 0)) else ([], 32)
theorem isN_nb {s : List UInt8} (h : isN s = true) : nb [s] = false := by simp [nb, h]
theorem isN_len {s : List UInt8} (h : isN s = true) : s.length ≤ 40 := name_len h
theorem sideT_len (n : Int) : (sideT n).length ≤ 5 := by unfold sideT; split <;> decide
theorem prX_len (x : Ex) : (prX x).1.length ≤ 60 * x.size := by
  unfold prX
  split
  · rename_i h
    split
    · simp
    · have := (okX_weigh x h).1
      have := joinL_len (exW x)
      simp only; omega
  · simp
theorem whenW_weigh : ∀ l : List Ex, weighW (whenW l) ≤ 6 * l.length + 60 * Ex.sizes l
  | [] => by rw [whenW, weighW_nil]; omega
  | x :: l => by
    have := prX_len x
    have := whenW_weigh l
    rw [whenW, weighW_cons, weighW_cons, Ex.sizes, List.length_cons]
    simp only [List.length_cons, List.length_nil] at *
    omega
theorem whenW_len : ∀ l : List Ex, (whenW l).length = 2 * l.length
  | [] => rfl
  | x :: l => by rw [whenW, List.length_cons, List.length_cons, whenW_len l, List.length_cons]; omega
theorem pairW_weigh {p : Pai} (h : okPair p = true) : weighW (pairW p) ≤ 1000 := by
  unfold okPair at h
  simp only [Bool.and_eq_true] at h
  have := isN_len h.1.1.1
  have := isN_len h.1.1.2
  unfold pairW
  simp only [weighW_cons, weighW_nil, List.length_cons, List.length_nil]; omega
theorem sameW_weigh {p : Pai} (h : okSame p = true) : weighW (sameW p) ≤ 1000 := by
  unfold okSame at h
  simp only [Bool.and_eq_true] at h
  have := isN_len h.1.1.1
  have := isN_len h.1.1.2
  have := isN_len h.1.2
  have := isN_len h.2
  unfold sameW
  simp only [weighW_cons, weighW_nil, List.length_cons, List.length_nil]; omega
theorem keepW_weigh {p : Kp} (h : okKeep p = true) : weighW (keepW p) ≤ 1000 := by
  unfold okKeep at h
  simp only [Bool.and_eq_true] at h
  have := isN_len h.1.1
  have := isN_len h.1.2
  have := sideT_len p.side
  unfold keepW
  simp only [weighW_cons, weighW_nil, List.length_cons, List.length_nil]; omega
theorem watchW_weigh {p : Wt} (h : okWatch p = true) : weighW (watchW p) ≤ 1000 := by
  unfold okWatch at h
  simp only [Bool.and_eq_true] at h
  have := isN_len h.1.1
  have := isN_len h.1.2
  have := sideT_len p.side
  unfold watchW
  simp only [weighW_cons, weighW_nil, List.length_cons, List.length_nil]; omega
theorem breakW_weigh {p : Bk} (h : okBreak p = true) : weighW (breakW p) ≤ 1000 * (1 + p.whn.length + Ex.sizes p.whn) := by
  unfold okBreak at h
  simp only [Bool.and_eq_true] at h
  have := isN_len h.1.1.1.1
  have := sideT_len p.side
  have := decs_len p.mark
  have := whenW_weigh p.whn
  unfold breakW
  simp only [weighW_cons, weighW_app, weighW_nil, List.length_cons, List.length_nil]; omega
theorem breakW_len (p : Bk) : (breakW p).length = 5 + 2 * p.whn.length := by
  unfold breakW
  simp only [List.length_cons, List.length_append, whenW_len, List.length_nil]; omega
end Go.Proofs.YtmhnmelaodhemaaGreatDoor
namespace Go.Proofs.YtmhnmelaodhemaaGreatDoor
open Go Go.Proofs.Ab Go.Proofs.Px
set_option linter.unusedVariables false
set_option linter.unusedSimpArgs false
theorem sz_str : sz (Pg.P Sp) 9 = 1 := by kernel_rfl
theorem lex_letter_is (c : Int) : den Sp lex_letter.id [.int .u8 c] [] none = some ⟨.ret (.bool (letter c)), [], none⟩ := by
  rw [lex_letter.eq]
  unfold letter
  by_cases h1 : 65 ≤ c <;> by_cases h2 : c ≤ 90 <;> by_cases h3 : 97 ≤ c <;> simp [h1, h2, h3]
theorem lex_digit_is (c : Int) : den Sp lex_digit.id [.int .u8 c] [] none = some ⟨.ret (.bool (digit c)), [], none⟩ := by
  rw [lex_digit.eq]
  unfold digit
  by_cases h1 : 48 ≤ c <;> simp [h1]
theorem lex_inner_is (c : Int) : den Sp lex_inner.id [.int .u8 c] [] none = some ⟨.ret (.bool (inner c)), [], none⟩ := by
  rw [lex_inner.eq, lex_letter_is, lex_digit_is]
  unfold inner
  cases letter c <;> cases digit c <;> simp
theorem lex_isKey_is (s : ByteArray) : den Sp lex_isKey.id [.str s] [] none = some ⟨.ret (.bool (isKey s)), [], none⟩ := by
  rw [lex_isKey.eq]
  have key : ∀ i : Nat, i ≤ 13 → lex_isKey.L1_0_1_0 s (i : Int) = some ⟨.ret (.bool (isIn s (keys.drop i))), [], none⟩ := by
    refine down ?_ fun i hi ih => ?_
    · rw [lex_isKey.L1_0_1_0_eq]; rfl
    · rw [lex_isKey.L1_0_1_0_eq, wrap_nat (by omega), ih, isIn_step (show i < keys.length from hi)]
      have h1 : ((i : Int) < 13) := by omega
      have h2 : ((0 : Int) ≤ i ∧ (i : Int) < ((13 : Nat) : Int)) := by omega
      rw [show (decide ((i : Int) < 13)) = true by simp [h1], cond_true, if_pos h2]
      try rw [sz_str]
      have hi' : i < keys.length := hi
      have h3 : (keys.map V.str).getD ((Int.toNat (i : Int)) * 1 + 0) V.undef = V.str (keys[i]'hi') := by
        rw [List.getD_eq_getElem?_getD, List.getElem?_map, show Int.toNat (i : Int) * 1 + 0 = i by simp, List.getElem?_eq_getElem hi']
        rfl
      refine (congrArg (fun v => V.asStr v _) h3).trans ?_
      rw [asStr_str]
      generalize keys[i]'hi' = kk
      by_cases he : s = kk
      · subst he; simp
      · have he' : ¬ kk = s := fun h => he h.symm
        simp [he, he']
  exact key 0 (by omega)
theorem lex_IsName_is (s : ByteArray) (hs : s.size < 4611686018427387904) : den Sp lex_IsName.id [.str s] [] none = some ⟨.ret (.bool (isName s)), [], none⟩ := by
  rw [lex_IsName.eq, lex_letter_is, lex_isKey_is]
  have key : ∀ i : Nat, i ≤ s.size → lex_IsName.L1_1_0_1_0 s (s.size : Int) (i : Int) = some ⟨.ret (.bool (allF (fun i => inner (byteAt s i)) s.size i)), [], none⟩ := by
    refine down ?_ fun i hi ih => ?_
    · rw [lex_IsName.L1_1_0_1_0_eq, allF_end]; simp
    · rw [lex_IsName.L1_1_0_1_0_eq, wrap_nat (by omega), ih, lex_inner_is, allF_step hi]
      have h1 : ((i : Int) < (s.size : Int)) := by omega
      cases hin : inner (byteAt s i) <;> simp [hi, hin]
  unfold isName
  by_cases h0 : s = ⟨#[]⟩
  · subst h0; rfl
  · have hsz : 0 < s.size := by
      rcases Nat.eq_zero_or_pos s.size with h | h
      · exact absurd ((empty_iff s).2 h) h0
      · exact h
    by_cases h1 : 40 < s.size
    · have h1' : ¬ s.size ≤ 40 := by omega
      have h3 : ((s.size : Int) > 40) := by omega
      simp [h0, show ¬ s = B [] from h0, h1', h3]
    · have h1' : s.size ≤ 40 := by omega
      have h2 : ¬ ((s.size : Int) > 40) := by omega
      have hk := key 0 (by omega)
      rw [show ((0 : Nat) : Int) = (0 : Int) from rfl] at hk
      cases hl : letter (byteAt s 0) <;> cases hq : isKey s <;> simp [h0, show ¬ s = B [] from h0, h1', h2, hsz, hl, hq, hk]
theorem ref02_between_is (a b c : Int) : den Sp ref02_between.id [.int .u8 a, .int .u8 b, .int .u8 c] [] none = some ⟨.ret (.bool (decide (b ≤ a) && decide (a ≤ c))), [], none⟩ := by
  rw [ref02_between.eq]
  by_cases h1 : b ≤ a <;> simp [h1]
theorem ref02_letter_is (c : Int) : den Sp ref02_letter.id [.int .u8 c] [] none = some ⟨.ret (.bool (letter c)), [], none⟩ := by
  rw [ref02_letter.eq, ref02_between_is, ref02_between_is]
  unfold letter
  by_cases h1 : 65 ≤ c <;> by_cases h2 : c ≤ 90 <;> by_cases h3 : 97 ≤ c <;> simp [h1, h2, h3]
theorem ref02_digit_is (c : Int) : den Sp ref02_digit.id [.int .u8 c] [] none = some ⟨.ret (.bool (digit c)), [], none⟩ := by
  rw [ref02_digit.eq, ref02_between_is]
  simp [digit]
theorem ref02_inner_is (c : Int) : den Sp ref02_inner.id [.int .u8 c] [] none = some ⟨.ret (.bool (inner c)), [], none⟩ := by
  rw [ref02_inner.eq, ref02_letter_is, ref02_digit_is]
  unfold inner
  cases letter c <;> cases digit c <;> simp
theorem ref02_Keys_is : den Sp ref02_Keys.id [] [] none = some ⟨.ret (.sl .no T_string (keys.map fun k => [.str k])), [], none⟩ := ref02_Keys.eq
theorem ref02_in_is (s : ByteArray) (l : List ByteArray) (hl : l.length < 4611686018427387904) : den Sp ref02_in.id [.str s, .sl .no T_string (l.map fun k => [.str k])] [] none = some ⟨.ret (.bool (isIn s l)), [], none⟩ := by
  rw [ref02_in.eq]
  have key : ∀ i : Nat, i ≤ l.length → ref02_in.L1_0_1_0 s (l.map fun k => [V.str k]) (i : Int) = some ⟨.ret (.bool (isIn s (l.drop i))), [], none⟩ := by
    refine down ?_ fun i hi ih => ?_
    · rw [ref02_in.L1_0_1_0_eq]; simp [isIn]
    · rw [ref02_in.L1_0_1_0_eq, wrap_nat (by omega), ih, isIn_step hi]
      have h3 : (List.getD (List.getD (l.map fun k => [V.str k]) (Int.toNat (i : Int)) []) 0 V.undef) = V.str l[i] := by
        simp [List.getD_eq_getElem?_getD, hi]
      rw [h3]
      by_cases he : l[i] = s
      · simp [hi, he]
      · simp [hi, he]
  exact key 0 (by omega)
theorem ref02_IsName_is (s : ByteArray) (hs : s.size < 4611686018427387904) : den Sp ref02_IsName.id [.str s] [] none = some ⟨.ret (.bool (isName s)), [], none⟩ := by
  rw [ref02_IsName.eq]
  have key : ∀ i : Nat, i ≤ s.size → ref02_IsName.L1_0_1_0 s (i : Int) = some ⟨.ret (.bool (decide (0 < s.size) && decide (s.size ≤ 40) && letter (byteAt s 0) && !isKey s && allF (fun i => inner (byteAt s i)) s.size i)), [], none⟩ := by
    refine down ?_ fun i hi ih => ?_
    · rw [ref02_IsName.L1_0_1_0_eq, allF_end, ref02_Keys_is, ref02_letter_is]
      simp only [Option.bind_some, onRet_ret, asBool_bool, asSl_sl, ref02_in_is s keys (by decide)]
      by_cases h0 : 0 < s.size
      · by_cases h1 : s.size ≤ 40
        · have h2 : (s.size : Int) ≤ 40 := by omega
          have h3 : (0 : Int) < s.size := by omega
          cases hl : letter (byteAt s 0) <;> simp [h0, h1, h2, h3, isKey]
        · have h2 : ¬ (s.size : Int) ≤ 40 := by omega
          have h3 : (0 : Int) < s.size := by omega
          simp [h0, h1, h2, h3]
      · have h3 : ¬ (0 : Int) < s.size := by omega
        simp [h0, h3]
    · rw [ref02_IsName.L1_0_1_0_eq, wrap_nat (by omega), ih, ref02_inner_is, allF_step hi]
      cases hin : inner (byteAt s i) <;> simp [hi, hin]
  exact key 0 (by omega)
end Go.Proofs.YtmhnmelaodhemaaGreatDoor
namespace Go.Proofs.YtmhnmelaodhemaaGreatDoor
open Go Go.Proofs.Ab
set_option maxRecDepth 100000
set_option linter.unusedVariables false
namespace syntax_level
noncomputable abbrev e (p : List Nat) := ev Sp (den Sp) id Tryz.f171.ntmps (cAt (bodyOf Tryz.f171) p)
noncomputable abbrev cn (n0 : List Nat) := canon Sp id n0
noncomputable abbrev K : K := kFin Sp (den Sp) Tryz.f171 0
theorem eq (a0 : ByteArray) : den Sp id [(V.str a0)] [] none =
    (bif (decide (a0 = (ByteArray.mk #[124, 124]))) then (some ⟨(Out.ret (V.int .i64 (1 : Int))), [], none⟩) else (bif (decide (a0 = (ByteArray.mk #[38, 38]))) then (some ⟨(Out.ret (V.int .i64 (2 : Int))), [], none⟩) else (bif (decide (a0 = (ByteArray.mk #[61, 61]))) then (some ⟨(Out.ret (V.int .i64 (3 : Int))), [], none⟩) else (bif (decide (a0 = (ByteArray.mk #[33, 61]))) then (some ⟨(Out.ret (V.int .i64 (3 : Int))), [], none⟩) else (bif (decide (a0 = (ByteArray.mk #[60]))) then (some ⟨(Out.ret (V.int .i64 (3 : Int))), [], none⟩) else (bif (decide (a0 = (ByteArray.mk #[60, 61]))) then (some ⟨(Out.ret (V.int .i64 (3 : Int))), [], none⟩) else (bif (decide (a0 = (ByteArray.mk #[43]))) then (some ⟨(Out.ret (V.int .i64 (4 : Int))), [], none⟩) else (bif (decide (a0 = (ByteArray.mk #[45]))) then (some ⟨(Out.ret (V.int .i64 (4 : Int))), [], none⟩) else (bif (decide (a0 = (ByteArray.mk #[42]))) then (some ⟨(Out.ret (V.int .i64 (5 : Int))), [], none⟩) else (bif (decide (a0 = (ByteArray.mk #[47]))) then (some ⟨(Out.ret (V.int .i64 (5 : Int))), [], none⟩) else (bif (decide (a0 = (ByteArray.mk #[37]))) then (some ⟨(Out.ret (V.int .i64 (5 : Int))), [], none⟩) else (some ⟨(Out.ret (V.int .i64 (0 : Int))), [], none⟩)))))))))))) := (den_eq ..).trans (by kernel_rfl)
end syntax_level
namespace syntax_plain
noncomputable abbrev e (p : List Nat) := ev Sp (den Sp) id Tryz.f152.ntmps (cAt (bodyOf Tryz.f152) p)
noncomputable abbrev cn (n0 : List Nat) := canon Sp id n0
noncomputable abbrev K : K := kFin Sp (den Sp) Tryz.f152 0
theorem eq (a0_0 : Int) (a0_1 : ByteArray) (a0_2 : Int) (a0_3 : List (List V)) : den Sp id [(V.agg [(V.int .i64 a0_0), (V.str a0_1), (V.int .i64 a0_2), (V.sl .no T_api_Expr a0_3)])] [] none =
    (bif (a0_0 != (1 : Int)) then (bif (!((!(decide (a0_1 = (ByteArray.mk #[])))) == (a0_0 != (2 : Int)))) then (some ⟨(Out.ret (V.bool false)), [], none⟩) else (bif (a0_2 != (0 : Int)) then (bif (a0_0 != (1 : Int)) then (bif (a0_0 != (2 : Int)) then (some ⟨(Out.ret (V.bool false)), [], none⟩) else (bif (a0_0 == (1 : Int)) then (bif (decide (a0_2 ≥ (0 : Int))) then (some ⟨(Out.ret (V.bool ((a0_3.length : Int) == (0 : Int)))), [], none⟩) else (some ⟨(Out.ret (V.bool false)), [], none⟩)) else (bif (a0_0 == (2 : Int)) then (bif (a0_2 == (0 : Int)) then (some ⟨(Out.ret (V.bool ((a0_3.length : Int) == (0 : Int)))), [], none⟩) else (bif (a0_2 == (1 : Int)) then (some ⟨(Out.ret (V.bool ((a0_3.length : Int) == (0 : Int)))), [], none⟩) else (some ⟨(Out.ret (V.bool false)), [], none⟩))) else (bif (a0_0 == (3 : Int)) then (some ⟨(Out.ret (V.bool ((a0_3.length : Int) == (0 : Int)))), [], none⟩) else (bif (a0_0 == (4 : Int)) then (some ⟨(Out.ret (V.bool ((a0_3.length : Int) == (1 : Int)))), [], none⟩) else (bif (a0_0 == (5 : Int)) then (bif (decide (a0_1 = (ByteArray.mk #[45]))) then (some ⟨(Out.ret (V.bool ((a0_3.length : Int) == (1 : Int)))), [], none⟩) else (bif (decide (a0_1 = (ByteArray.mk #[33]))) then (some ⟨(Out.ret (V.bool ((a0_3.length : Int) == (1 : Int)))), [], none⟩) else (some ⟨(Out.ret (V.bool false)), [], none⟩))) else (bif (a0_0 == (6 : Int)) then ((den Sp syntax_level.id [(V.str a0_1)] [] none)).bind (fun r14 => (Res.onRet r14 (fun v15 => (V.asInt v15 .i64 (fun n16 => (bif (decide (n16 > (0 : Int))) then (some ⟨(Out.ret (V.bool ((a0_3.length : Int) == (2 : Int)))), [], none⟩) else (some ⟨(Out.ret (V.bool false)), [], none⟩))))))) else (some ⟨(Out.ret (V.bool false)), [], none⟩)))))))) else (bif (a0_0 == (1 : Int)) then (bif (decide (a0_2 ≥ (0 : Int))) then (some ⟨(Out.ret (V.bool ((a0_3.length : Int) == (0 : Int)))), [], none⟩) else (some ⟨(Out.ret (V.bool false)), [], none⟩)) else (bif (a0_0 == (2 : Int)) then (bif (a0_2 == (0 : Int)) then (some ⟨(Out.ret (V.bool ((a0_3.length : Int) == (0 : Int)))), [], none⟩) else (bif (a0_2 == (1 : Int)) then (some ⟨(Out.ret (V.bool ((a0_3.length : Int) == (0 : Int)))), [], none⟩) else (some ⟨(Out.ret (V.bool false)), [], none⟩))) else (bif (a0_0 == (3 : Int)) then (some ⟨(Out.ret (V.bool ((a0_3.length : Int) == (0 : Int)))), [], none⟩) else (bif (a0_0 == (4 : Int)) then (some ⟨(Out.ret (V.bool ((a0_3.length : Int) == (1 : Int)))), [], none⟩) else (bif (a0_0 == (5 : Int)) then (bif (decide (a0_1 = (ByteArray.mk #[45]))) then (some ⟨(Out.ret (V.bool ((a0_3.length : Int) == (1 : Int)))), [], none⟩) else (bif (decide (a0_1 = (ByteArray.mk #[33]))) then (some ⟨(Out.ret (V.bool ((a0_3.length : Int) == (1 : Int)))), [], none⟩) else (some ⟨(Out.ret (V.bool false)), [], none⟩))) else (bif (a0_0 == (6 : Int)) then ((den Sp syntax_level.id [(V.str a0_1)] [] none)).bind (fun r14 => (Res.onRet r14 (fun v15 => (V.asInt v15 .i64 (fun n16 => (bif (decide (n16 > (0 : Int))) then (some ⟨(Out.ret (V.bool ((a0_3.length : Int) == (2 : Int)))), [], none⟩) else (some ⟨(Out.ret (V.bool false)), [], none⟩))))))) else (some ⟨(Out.ret (V.bool false)), [], none⟩)))))))) else (bif (a0_0 == (1 : Int)) then (bif (decide (a0_2 ≥ (0 : Int))) then (some ⟨(Out.ret (V.bool ((a0_3.length : Int) == (0 : Int)))), [], none⟩) else (some ⟨(Out.ret (V.bool false)), [], none⟩)) else (bif (a0_0 == (2 : Int)) then (bif (a0_2 == (0 : Int)) then (some ⟨(Out.ret (V.bool ((a0_3.length : Int) == (0 : Int)))), [], none⟩) else (bif (a0_2 == (1 : Int)) then (some ⟨(Out.ret (V.bool ((a0_3.length : Int) == (0 : Int)))), [], none⟩) else (some ⟨(Out.ret (V.bool false)), [], none⟩))) else (bif (a0_0 == (3 : Int)) then (some ⟨(Out.ret (V.bool ((a0_3.length : Int) == (0 : Int)))), [], none⟩) else (bif (a0_0 == (4 : Int)) then (some ⟨(Out.ret (V.bool ((a0_3.length : Int) == (1 : Int)))), [], none⟩) else (bif (a0_0 == (5 : Int)) then (bif (decide (a0_1 = (ByteArray.mk #[45]))) then (some ⟨(Out.ret (V.bool ((a0_3.length : Int) == (1 : Int)))), [], none⟩) else (bif (decide (a0_1 = (ByteArray.mk #[33]))) then (some ⟨(Out.ret (V.bool ((a0_3.length : Int) == (1 : Int)))), [], none⟩) else (some ⟨(Out.ret (V.bool false)), [], none⟩))) else (bif (a0_0 == (6 : Int)) then ((den Sp syntax_level.id [(V.str a0_1)] [] none)).bind (fun r14 => (Res.onRet r14 (fun v15 => (V.asInt v15 .i64 (fun n16 => (bif (decide (n16 > (0 : Int))) then (some ⟨(Out.ret (V.bool ((a0_3.length : Int) == (2 : Int)))), [], none⟩) else (some ⟨(Out.ret (V.bool false)), [], none⟩))))))) else (some ⟨(Out.ret (V.bool false)), [], none⟩))))))))) else (bif (!((!(decide (a0_1 = (ByteArray.mk #[])))) == false)) then (some ⟨(Out.ret (V.bool false)), [], none⟩) else (bif (a0_2 != (0 : Int)) then (bif (a0_0 != (1 : Int)) then (bif (a0_0 != (2 : Int)) then (some ⟨(Out.ret (V.bool false)), [], none⟩) else (bif (a0_0 == (1 : Int)) then (bif (decide (a0_2 ≥ (0 : Int))) then (some ⟨(Out.ret (V.bool ((a0_3.length : Int) == (0 : Int)))), [], none⟩) else (some ⟨(Out.ret (V.bool false)), [], none⟩)) else (bif (a0_0 == (2 : Int)) then (bif (a0_2 == (0 : Int)) then (some ⟨(Out.ret (V.bool ((a0_3.length : Int) == (0 : Int)))), [], none⟩) else (bif (a0_2 == (1 : Int)) then (some ⟨(Out.ret (V.bool ((a0_3.length : Int) == (0 : Int)))), [], none⟩) else (some ⟨(Out.ret (V.bool false)), [], none⟩))) else (bif (a0_0 == (3 : Int)) then (some ⟨(Out.ret (V.bool ((a0_3.length : Int) == (0 : Int)))), [], none⟩) else (bif (a0_0 == (4 : Int)) then (some ⟨(Out.ret (V.bool ((a0_3.length : Int) == (1 : Int)))), [], none⟩) else (bif (a0_0 == (5 : Int)) then (bif (decide (a0_1 = (ByteArray.mk #[45]))) then (some ⟨(Out.ret (V.bool ((a0_3.length : Int) == (1 : Int)))), [], none⟩) else (bif (decide (a0_1 = (ByteArray.mk #[33]))) then (some ⟨(Out.ret (V.bool ((a0_3.length : Int) == (1 : Int)))), [], none⟩) else (some ⟨(Out.ret (V.bool false)), [], none⟩))) else (bif (a0_0 == (6 : Int)) then ((den Sp syntax_level.id [(V.str a0_1)] [] none)).bind (fun r14 => (Res.onRet r14 (fun v15 => (V.asInt v15 .i64 (fun n16 => (bif (decide (n16 > (0 : Int))) then (some ⟨(Out.ret (V.bool ((a0_3.length : Int) == (2 : Int)))), [], none⟩) else (some ⟨(Out.ret (V.bool false)), [], none⟩))))))) else (some ⟨(Out.ret (V.bool false)), [], none⟩)))))))) else (bif (a0_0 == (1 : Int)) then (bif (decide (a0_2 ≥ (0 : Int))) then (some ⟨(Out.ret (V.bool ((a0_3.length : Int) == (0 : Int)))), [], none⟩) else (some ⟨(Out.ret (V.bool false)), [], none⟩)) else (bif (a0_0 == (2 : Int)) then (bif (a0_2 == (0 : Int)) then (some ⟨(Out.ret (V.bool ((a0_3.length : Int) == (0 : Int)))), [], none⟩) else (bif (a0_2 == (1 : Int)) then (some ⟨(Out.ret (V.bool ((a0_3.length : Int) == (0 : Int)))), [], none⟩) else (some ⟨(Out.ret (V.bool false)), [], none⟩))) else (bif (a0_0 == (3 : Int)) then (some ⟨(Out.ret (V.bool ((a0_3.length : Int) == (0 : Int)))), [], none⟩) else (bif (a0_0 == (4 : Int)) then (some ⟨(Out.ret (V.bool ((a0_3.length : Int) == (1 : Int)))), [], none⟩) else (bif (a0_0 == (5 : Int)) then (bif (decide (a0_1 = (ByteArray.mk #[45]))) then (some ⟨(Out.ret (V.bool ((a0_3.length : Int) == (1 : Int)))), [], none⟩) else (bif (decide (a0_1 = (ByteArray.mk #[33]))) then (some ⟨(Out.ret (V.bool ((a0_3.length : Int) == (1 : Int)))), [], none⟩) else (some ⟨(Out.ret (V.bool false)), [], none⟩))) else (bif (a0_0 == (6 : Int)) then ((den Sp syntax_level.id [(V.str a0_1)] [] none)).bind (fun r14 => (Res.onRet r14 (fun v15 => (V.asInt v15 .i64 (fun n16 => (bif (decide (n16 > (0 : Int))) then (some ⟨(Out.ret (V.bool ((a0_3.length : Int) == (2 : Int)))), [], none⟩) else (some ⟨(Out.ret (V.bool false)), [], none⟩))))))) else (some ⟨(Out.ret (V.bool false)), [], none⟩)))))))) else (bif (a0_0 == (1 : Int)) then (bif (decide (a0_2 ≥ (0 : Int))) then (some ⟨(Out.ret (V.bool ((a0_3.length : Int) == (0 : Int)))), [], none⟩) else (some ⟨(Out.ret (V.bool false)), [], none⟩)) else (bif (a0_0 == (2 : Int)) then (bif (a0_2 == (0 : Int)) then (some ⟨(Out.ret (V.bool ((a0_3.length : Int) == (0 : Int)))), [], none⟩) else (bif (a0_2 == (1 : Int)) then (some ⟨(Out.ret (V.bool ((a0_3.length : Int) == (0 : Int)))), [], none⟩) else (some ⟨(Out.ret (V.bool false)), [], none⟩))) else (bif (a0_0 == (3 : Int)) then (some ⟨(Out.ret (V.bool ((a0_3.length : Int) == (0 : Int)))), [], none⟩) else (bif (a0_0 == (4 : Int)) then (some ⟨(Out.ret (V.bool ((a0_3.length : Int) == (1 : Int)))), [], none⟩) else (bif (a0_0 == (5 : Int)) then (bif (decide (a0_1 = (ByteArray.mk #[45]))) then (some ⟨(Out.ret (V.bool ((a0_3.length : Int) == (1 : Int)))), [], none⟩) else (bif (decide (a0_1 = (ByteArray.mk #[33]))) then (some ⟨(Out.ret (V.bool ((a0_3.length : Int) == (1 : Int)))), [], none⟩) else (some ⟨(Out.ret (V.bool false)), [], none⟩))) else (bif (a0_0 == (6 : Int)) then ((den Sp syntax_level.id [(V.str a0_1)] [] none)).bind (fun r14 => (Res.onRet r14 (fun v15 => (V.asInt v15 .i64 (fun n16 => (bif (decide (n16 > (0 : Int))) then (some ⟨(Out.ret (V.bool ((a0_3.length : Int) == (2 : Int)))), [], none⟩) else (some ⟨(Out.ret (V.bool false)), [], none⟩))))))) else (some ⟨(Out.ret (V.bool false)), [], none⟩)))))))))) := (den_eq ..).trans (by kernel_rfl)
end syntax_plain
namespace syntax_writer_put
noncomputable abbrev e (p : List Nat) := ev Sp (den Sp) id Tryz.f153.ntmps (cAt (bodyOf Tryz.f153) p)
noncomputable abbrev cn (n0 : List Nat) := canon Sp id n0
noncomputable abbrev K : K := kFin Sp (den Sp) Tryz.f153 1
theorem eq (m0_0 : List (List V)) (m0_1 : Bool) (m0_2 : Int) (a1 : List (List V)) : den Sp id [(V.ref 0 0), (V.sl .no T_string a1)] [(Blk.cells T_syntax_writer [(V.sl (Tok.row 0) T_string m0_0), (V.bool m0_1), (V.int .i64 m0_2)] false)] none =
    (if (((List.length m0_0) + (List.length a1)) ≤ most) then (some ⟨(Out.ret (V.tup [])), [(Blk.cells T_syntax_writer [(V.sl (Tok.row 0) T_string (m0_0 ++ a1)), (V.bool m0_1), (V.int .i64 m0_2)] false)], none⟩) else none) := (den_eq ..).trans (by kernel_rfl)
end syntax_writer_put
namespace syntax_writer_need
noncomputable abbrev e (p : List Nat) := ev Sp (den Sp) id Tryz.f151.ntmps (cAt (bodyOf Tryz.f151) p)
noncomputable abbrev cn (n0 : List Nat) := canon Sp id n0
noncomputable abbrev K : K := kFin Sp (den Sp) Tryz.f151 1
theorem eq (m0_0 : List (List V)) (m0_1 : Bool) (m0_2 : Int) (a1 : Bool) : den Sp id [(V.ref 0 0), (V.bool a1)] [(Blk.cells T_syntax_writer [(V.sl (Tok.row 0) T_string m0_0), (V.bool m0_1), (V.int .i64 m0_2)] false)] none =
    (bif m0_1 then (some ⟨(Out.ret (V.tup [])), [(Blk.cells T_syntax_writer [(V.sl (Tok.row 0) T_string m0_0), (V.bool true), (V.int .i64 m0_2)] false)], none⟩) else (some ⟨(Out.ret (V.tup [])), [(Blk.cells T_syntax_writer [(V.sl (Tok.row 0) T_string m0_0), (V.bool (!a1)), (V.int .i64 m0_2)] false)], none⟩)) := (den_eq ..).trans (by kernel_rfl)
end syntax_writer_need
namespace syntax_writer_name
noncomputable abbrev e (p : List Nat) := ev Sp (den Sp) id Tryz.f154.ntmps (cAt (bodyOf Tryz.f154) p)
noncomputable abbrev cn (n0 : List Nat) := canon Sp id n0
noncomputable abbrev K : K := kFin Sp (den Sp) Tryz.f154 1
theorem eq (m0_0 : List (List V)) (m0_1 : Bool) (m0_2 : Int) (a1 : ByteArray) : den Sp id [(V.ref 0 0), (V.str a1)] [(Blk.cells T_syntax_writer [(V.sl (Tok.row 0) T_string m0_0), (V.bool m0_1), (V.int .i64 m0_2)] false)] none =
    ((den Sp lex_IsName.id [(V.str a1)] [] none)).bind (fun r5 => (Res.onRet r5 (fun v6 => (V.asBool v6 (fun b7 => ((den Sp syntax_writer_need.id [(V.ref 0 0), (V.bool b7)] [(Blk.cells T_syntax_writer [(V.sl (Tok.row 0) T_string m0_0), (V.bool m0_1), (V.int .i64 m0_2)] false)] none)).bind (fun r8 => (Blk.asCells (List.getD (Res.bl r8) 0 (Blk.cells T_n0 [] true)) T_syntax_writer 3 (fun rd9 => (V.asSlR (rd9 0) 0 T_string (fun es10 => (V.asBool (rd9 1) (fun b11 => (V.asInt (rd9 2) .i64 (fun n12 => (Res.onRet r8 (fun v13 => (V.asTup v13 0 (fun rd14 => ((den Sp syntax_writer_put.id [(V.ref 0 0), (V.sl .no T_string [[(V.str a1)]])] [(Blk.cells T_syntax_writer [(V.sl (Tok.row 0) T_string es10), (V.bool b11), (V.int .i64 n12)] false)] none)).bind (fun r16 => (Blk.asCells (List.getD (Res.bl r16) 0 (Blk.cells T_n0 [] true)) T_syntax_writer 3 (fun rd17 => (V.asSlR (rd17 0) 0 T_string (fun es18 => (V.asBool (rd17 1) (fun b19 => (V.asInt (rd17 2) .i64 (fun n20 => (Res.onRet r16 (fun v21 => (V.asTup v21 0 (fun rd22 => (some ⟨(Out.ret (V.tup [])), [(Blk.cells T_syntax_writer [(V.sl (Tok.row 0) T_string es18), (V.bool b19), (V.int .i64 n20)] false)], none⟩)))))))))))))))))))))))))))))))) := (den_eq ..).trans (by kernel_rfl)
end syntax_writer_name
namespace syntax_writer_expr
noncomputable abbrev e (p : List Nat) := ev Sp (den Sp) id Tryz.f106.ntmps (cAt (bodyOf Tryz.f106) p)
noncomputable abbrev cn (n0 : List Nat) := canon Sp id n0
noncomputable abbrev K : K := kFin Sp (den Sp) Tryz.f106 1
theorem eq (m0_0 : List (List V)) (m0_1 : Bool) (m0_2 a1_0 : Int) (a1_1 : ByteArray) (a1_2 : Int) (a1_3 : List (List V)) (a2 : Int) : den Sp id [(V.ref 0 0), (V.agg [(V.int .i64 a1_0), (V.str a1_1), (V.int .i64 a1_2), (V.sl .no T_api_Expr a1_3)]), (V.int .i64 a2)] [(Blk.cells T_syntax_writer [(V.sl (Tok.row 0) T_string m0_0), (V.bool m0_1), (V.int .i64 m0_2)] false)] none =
    ((den Sp syntax_plain.id [(V.agg [(V.int .i64 a1_0), (V.str a1_1), (V.int .i64 a1_2), (V.sl .no T_api_Expr a1_3)])] [] none)).bind (fun r11 => (Res.onRet r11 (fun v12 => (V.asBool v12 (fun b13 => ((den Sp syntax_writer_need.id [(V.ref 0 0), (V.bool b13)] [(Blk.cells T_syntax_writer [(V.sl (Tok.row 0) T_string m0_0), (V.bool m0_1), (V.int .i64 (if (a2 > m0_2) then a2 else m0_2))] false)] none)).bind (fun r14 => (Blk.asCells (List.getD (Res.bl r14) 0 (Blk.cells T_n0 [] true)) T_syntax_writer 3 (fun rd15 => (V.asSlR (rd15 0) 0 T_string (fun es16 => (V.asBool (rd15 1) (fun b17 => (V.asInt (rd15 2) .i64 (fun n18 => (Res.onRet r14 (fun v19 => (V.asTup v19 0 (fun rd20 => (bif b17 then (some ⟨(Out.ret (V.tup [])), [(Blk.cells T_syntax_writer [(V.sl (Tok.row 0) T_string es16), (V.bool b17), (V.int .i64 n18)] false)], none⟩) else (bif (a1_0 == (1 : Int)) then ((den Sp num_Text.id [(V.int .i64 a1_2)] [] none)).bind (fun r25 => (Res.onRet r25 (fun v26 => (V.asStr v26 (fun s27 => ((den Sp syntax_writer_put.id [(V.ref 0 0), (V.sl .no T_string [[(V.str s27)]])] [(Blk.cells T_syntax_writer [(V.sl (Tok.row 0) T_string es16), (V.bool b17), (V.int .i64 n18)] false)] none)).bind (fun r28 => (Blk.asCells (List.getD (Res.bl r28) 0 (Blk.cells T_n0 [] true)) T_syntax_writer 3 (fun rd29 => (V.asSlR (rd29 0) 0 T_string (fun es30 => (V.asBool (rd29 1) (fun b31 => (V.asInt (rd29 2) .i64 (fun n32 => (Res.onRet r28 (fun v33 => (V.asTup v33 0 (fun rd34 => (some ⟨(Out.ret (V.tup [])), [(Blk.cells T_syntax_writer [(V.sl (Tok.row 0) T_string es30), (V.bool b31), (V.int .i64 n32)] false)], none⟩))))))))))))))))))) else (bif (a1_0 == (2 : Int)) then (bif (a1_2 == (1 : Int)) then ((den Sp syntax_writer_put.id [(V.ref 0 0), (V.sl .no T_string [[(V.str (ByteArray.mk #[116, 114, 117, 101]))]])] [(Blk.cells T_syntax_writer [(V.sl (Tok.row 0) T_string es16), (V.bool b17), (V.int .i64 n18)] false)] none)).bind (fun r27 => (Blk.asCells (List.getD (Res.bl r27) 0 (Blk.cells T_n0 [] true)) T_syntax_writer 3 (fun rd28 => (V.asSlR (rd28 0) 0 T_string (fun es29 => (V.asBool (rd28 1) (fun b30 => (V.asInt (rd28 2) .i64 (fun n31 => (Res.onRet r27 (fun v32 => (V.asTup v32 0 (fun rd33 => (some ⟨(Out.ret (V.tup [])), [(Blk.cells T_syntax_writer [(V.sl (Tok.row 0) T_string es29), (V.bool b30), (V.int .i64 n31)] false)], none⟩)))))))))))))) else ((den Sp syntax_writer_put.id [(V.ref 0 0), (V.sl .no T_string [[(V.str (ByteArray.mk #[102, 97, 108, 115, 101]))]])] [(Blk.cells T_syntax_writer [(V.sl (Tok.row 0) T_string es16), (V.bool b17), (V.int .i64 n18)] false)] none)).bind (fun r27 => (Blk.asCells (List.getD (Res.bl r27) 0 (Blk.cells T_n0 [] true)) T_syntax_writer 3 (fun rd28 => (V.asSlR (rd28 0) 0 T_string (fun es29 => (V.asBool (rd28 1) (fun b30 => (V.asInt (rd28 2) .i64 (fun n31 => (Res.onRet r27 (fun v32 => (V.asTup v32 0 (fun rd33 => (some ⟨(Out.ret (V.tup [])), [(Blk.cells T_syntax_writer [(V.sl (Tok.row 0) T_string es29), (V.bool b30), (V.int .i64 n31)] false)], none⟩))))))))))))))) else (bif (a1_0 == (3 : Int)) then ((den Sp syntax_writer_name.id [(V.ref 0 0), (V.str a1_1)] [(Blk.cells T_syntax_writer [(V.sl (Tok.row 0) T_string es16), (V.bool b17), (V.int .i64 n18)] false)] none)).bind (fun r27 => (Blk.asCells (List.getD (Res.bl r27) 0 (Blk.cells T_n0 [] true)) T_syntax_writer 3 (fun rd28 => (V.asSlR (rd28 0) 0 T_string (fun es29 => (V.asBool (rd28 1) (fun b30 => (V.asInt (rd28 2) .i64 (fun n31 => (Res.onRet r27 (fun v32 => (V.asTup v32 0 (fun rd33 => (bif (a1_0 == (4 : Int)) then ((den Sp syntax_writer_put.id [(V.ref 0 0), (V.sl .no T_string [[(V.str (ByteArray.mk #[91]))]])] [(Blk.cells T_syntax_writer [(V.sl (Tok.row 0) T_string es29), (V.bool b30), (V.int .i64 n31)] false)] none)).bind (fun r36 => (Blk.asCells (List.getD (Res.bl r36) 0 (Blk.cells T_n0 [] true)) T_syntax_writer 3 (fun rd37 => (V.asSlR (rd37 0) 0 T_string (fun es38 => (V.asBool (rd37 1) (fun b39 => (V.asInt (rd37 2) .i64 (fun n40 => (Res.onRet r36 (fun v41 => (V.asTup v41 0 (fun rd42 => (if (((0 : Int) ≤ (0 : Int)) ∧ ((0 : Int) < (a1_3.length : Int))) then (V.asInt (List.getD (List.getD a1_3 0 []) 0 V.undef) .i64 (fun n44 => (V.asStr (List.getD (List.getD a1_3 0 []) 1 V.undef) (fun s45 => (V.asInt (List.getD (List.getD a1_3 0 []) 2 V.undef) .i64 (fun n46 => (V.asSl (List.getD (List.getD a1_3 0 []) 3 V.undef) T_api_Expr (fun es47 => ((den Sp syntax_writer_expr.id [(V.ref 0 0), (V.agg [(V.int .i64 n44), (V.str s45), (V.int .i64 n46), (V.sl .no T_api_Expr es47)]), (V.int .i64 (IntKind.wrap .i64 (a2 + (1 : Int))))] [(Blk.cells T_syntax_writer [(V.sl (Tok.row 0) T_string es38), (V.bool b39), (V.int .i64 n40)] false)] none)).bind (fun r48 => (Blk.asCells (List.getD (Res.bl r48) 0 (Blk.cells T_n0 [] true)) T_syntax_writer 3 (fun rd49 => (V.asSlR (rd49 0) 0 T_string (fun es50 => (V.asBool (rd49 1) (fun b51 => (V.asInt (rd49 2) .i64 (fun n52 => (Res.onRet r48 (fun v53 => (V.asTup v53 0 (fun rd54 => ((den Sp syntax_writer_put.id [(V.ref 0 0), (V.sl .no T_string [[(V.str (ByteArray.mk #[93]))]])] [(Blk.cells T_syntax_writer [(V.sl (Tok.row 0) T_string es50), (V.bool b51), (V.int .i64 n52)] false)] none)).bind (fun r56 => (Blk.asCells (List.getD (Res.bl r56) 0 (Blk.cells T_n0 [] true)) T_syntax_writer 3 (fun rd57 => (V.asSlR (rd57 0) 0 T_string (fun es58 => (V.asBool (rd57 1) (fun b59 => (V.asInt (rd57 2) .i64 (fun n60 => (Res.onRet r56 (fun v61 => (V.asTup v61 0 (fun rd62 => (some ⟨(Out.ret (V.tup [])), [(Blk.cells T_syntax_writer [(V.sl (Tok.row 0) T_string es58), (V.bool b59), (V.int .i64 n60)] false)], none⟩))))))))))))))))))))))))))))))))))) else none)))))))))))))) else (some ⟨(Out.ret (V.tup [])), [(Blk.cells T_syntax_writer [(V.sl (Tok.row 0) T_string es29), (V.bool b30), (V.int .i64 n31)] false)], none⟩))))))))))))))) else (bif (a1_0 == (4 : Int)) then ((den Sp syntax_writer_name.id [(V.ref 0 0), (V.str a1_1)] [(Blk.cells T_syntax_writer [(V.sl (Tok.row 0) T_string es16), (V.bool b17), (V.int .i64 n18)] false)] none)).bind (fun r28 => (Blk.asCells (List.getD (Res.bl r28) 0 (Blk.cells T_n0 [] true)) T_syntax_writer 3 (fun rd29 => (V.asSlR (rd29 0) 0 T_string (fun es30 => (V.asBool (rd29 1) (fun b31 => (V.asInt (rd29 2) .i64 (fun n32 => (Res.onRet r28 (fun v33 => (V.asTup v33 0 (fun rd34 => (bif (a1_0 == (4 : Int)) then ((den Sp syntax_writer_put.id [(V.ref 0 0), (V.sl .no T_string [[(V.str (ByteArray.mk #[91]))]])] [(Blk.cells T_syntax_writer [(V.sl (Tok.row 0) T_string es30), (V.bool b31), (V.int .i64 n32)] false)] none)).bind (fun r37 => (Blk.asCells (List.getD (Res.bl r37) 0 (Blk.cells T_n0 [] true)) T_syntax_writer 3 (fun rd38 => (V.asSlR (rd38 0) 0 T_string (fun es39 => (V.asBool (rd38 1) (fun b40 => (V.asInt (rd38 2) .i64 (fun n41 => (Res.onRet r37 (fun v42 => (V.asTup v42 0 (fun rd43 => (if (((0 : Int) ≤ (0 : Int)) ∧ ((0 : Int) < (a1_3.length : Int))) then (V.asInt (List.getD (List.getD a1_3 0 []) 0 V.undef) .i64 (fun n45 => (V.asStr (List.getD (List.getD a1_3 0 []) 1 V.undef) (fun s46 => (V.asInt (List.getD (List.getD a1_3 0 []) 2 V.undef) .i64 (fun n47 => (V.asSl (List.getD (List.getD a1_3 0 []) 3 V.undef) T_api_Expr (fun es48 => ((den Sp syntax_writer_expr.id [(V.ref 0 0), (V.agg [(V.int .i64 n45), (V.str s46), (V.int .i64 n47), (V.sl .no T_api_Expr es48)]), (V.int .i64 (IntKind.wrap .i64 (a2 + (1 : Int))))] [(Blk.cells T_syntax_writer [(V.sl (Tok.row 0) T_string es39), (V.bool b40), (V.int .i64 n41)] false)] none)).bind (fun r49 => (Blk.asCells (List.getD (Res.bl r49) 0 (Blk.cells T_n0 [] true)) T_syntax_writer 3 (fun rd50 => (V.asSlR (rd50 0) 0 T_string (fun es51 => (V.asBool (rd50 1) (fun b52 => (V.asInt (rd50 2) .i64 (fun n53 => (Res.onRet r49 (fun v54 => (V.asTup v54 0 (fun rd55 => ((den Sp syntax_writer_put.id [(V.ref 0 0), (V.sl .no T_string [[(V.str (ByteArray.mk #[93]))]])] [(Blk.cells T_syntax_writer [(V.sl (Tok.row 0) T_string es51), (V.bool b52), (V.int .i64 n53)] false)] none)).bind (fun r57 => (Blk.asCells (List.getD (Res.bl r57) 0 (Blk.cells T_n0 [] true)) T_syntax_writer 3 (fun rd58 => (V.asSlR (rd58 0) 0 T_string (fun es59 => (V.asBool (rd58 1) (fun b60 => (V.asInt (rd58 2) .i64 (fun n61 => (Res.onRet r57 (fun v62 => (V.asTup v62 0 (fun rd63 => (some ⟨(Out.ret (V.tup [])), [(Blk.cells T_syntax_writer [(V.sl (Tok.row 0) T_string es59), (V.bool b60), (V.int .i64 n61)] false)], none⟩))))))))))))))))))))))))))))))))))) else none)))))))))))))) else (some ⟨(Out.ret (V.tup [])), [(Blk.cells T_syntax_writer [(V.sl (Tok.row 0) T_string es30), (V.bool b31), (V.int .i64 n32)] false)], none⟩))))))))))))))) else (bif (a1_0 == (5 : Int)) then ((den Sp syntax_writer_put.id [(V.ref 0 0), (V.sl .no T_string [[(V.str a1_1)]])] [(Blk.cells T_syntax_writer [(V.sl (Tok.row 0) T_string es16), (V.bool b17), (V.int .i64 n18)] false)] none)).bind (fun r29 => (Blk.asCells (List.getD (Res.bl r29) 0 (Blk.cells T_n0 [] true)) T_syntax_writer 3 (fun rd30 => (V.asSlR (rd30 0) 0 T_string (fun es31 => (V.asBool (rd30 1) (fun b32 => (V.asInt (rd30 2) .i64 (fun n33 => (Res.onRet r29 (fun v34 => (V.asTup v34 0 (fun rd35 => (if (((0 : Int) ≤ (0 : Int)) ∧ ((0 : Int) < (a1_3.length : Int))) then (V.asInt (List.getD (List.getD a1_3 0 []) 0 V.undef) .i64 (fun n38 => (V.asStr (List.getD (List.getD a1_3 0 []) 1 V.undef) (fun s39 => (V.asInt (List.getD (List.getD a1_3 0 []) 2 V.undef) .i64 (fun n40 => (V.asSl (List.getD (List.getD a1_3 0 []) 3 V.undef) T_api_Expr (fun es41 => ((den Sp syntax_writer_operand.id [(V.ref 0 0), (V.agg [(V.int .i64 n38), (V.str s39), (V.int .i64 n40), (V.sl .no T_api_Expr es41)]), (V.int .i64 (IntKind.wrap .i64 (a2 + (1 : Int))))] [(Blk.cells T_syntax_writer [(V.sl (Tok.row 0) T_string es31), (V.bool b32), (V.int .i64 (if ((IntKind.wrap .i64 (a2 + (1 : Int))) > n33) then (IntKind.wrap .i64 (a2 + (1 : Int))) else n33))] false)] none)).bind (fun r42 => (Blk.asCells (List.getD (Res.bl r42) 0 (Blk.cells T_n0 [] true)) T_syntax_writer 3 (fun rd43 => (V.asSlR (rd43 0) 0 T_string (fun es44 => (V.asBool (rd43 1) (fun b45 => (V.asInt (rd43 2) .i64 (fun n46 => (Res.onRet r42 (fun v47 => (V.asTup v47 0 (fun rd48 => (some ⟨(Out.ret (V.tup [])), [(Blk.cells T_syntax_writer [(V.sl (Tok.row 0) T_string es44), (V.bool b45), (V.int .i64 n46)] false)], none⟩)))))))))))))))))))))) else none)))))))))))))) else (bif (a1_0 == (6 : Int)) then (if (((0 : Int) ≤ (0 : Int)) ∧ ((0 : Int) < (a1_3.length : Int))) then (V.asInt (List.getD (List.getD a1_3 0 []) 0 V.undef) .i64 (fun n30 => (V.asStr (List.getD (List.getD a1_3 0 []) 1 V.undef) (fun s31 => (V.asInt (List.getD (List.getD a1_3 0 []) 2 V.undef) .i64 (fun n32 => (V.asSl (List.getD (List.getD a1_3 0 []) 3 V.undef) T_api_Expr (fun es33 => ((den Sp syntax_writer_operand.id [(V.ref 0 0), (V.agg [(V.int .i64 n30), (V.str s31), (V.int .i64 n32), (V.sl .no T_api_Expr es33)]), (V.int .i64 a2)] [(Blk.cells T_syntax_writer [(V.sl (Tok.row 0) T_string es16), (V.bool b17), (V.int .i64 n18)] false)] none)).bind (fun r34 => (Blk.asCells (List.getD (Res.bl r34) 0 (Blk.cells T_n0 [] true)) T_syntax_writer 3 (fun rd35 => (V.asSlR (rd35 0) 0 T_string (fun es36 => (V.asBool (rd35 1) (fun b37 => (V.asInt (rd35 2) .i64 (fun n38 => (Res.onRet r34 (fun v39 => (V.asTup v39 0 (fun rd40 => ((den Sp syntax_writer_put.id [(V.ref 0 0), (V.sl .no T_string [[(V.str a1_1)]])] [(Blk.cells T_syntax_writer [(V.sl (Tok.row 0) T_string es36), (V.bool b37), (V.int .i64 n38)] false)] none)).bind (fun r42 => (Blk.asCells (List.getD (Res.bl r42) 0 (Blk.cells T_n0 [] true)) T_syntax_writer 3 (fun rd43 => (V.asSlR (rd43 0) 0 T_string (fun es44 => (V.asBool (rd43 1) (fun b45 => (V.asInt (rd43 2) .i64 (fun n46 => (Res.onRet r42 (fun v47 => (V.asTup v47 0 (fun rd48 => (if (((0 : Int) ≤ (1 : Int)) ∧ ((1 : Int) < (a1_3.length : Int))) then (V.asInt (List.getD (List.getD a1_3 1 []) 0 V.undef) .i64 (fun n50 => (V.asStr (List.getD (List.getD a1_3 1 []) 1 V.undef) (fun s51 => (V.asInt (List.getD (List.getD a1_3 1 []) 2 V.undef) .i64 (fun n52 => (V.asSl (List.getD (List.getD a1_3 1 []) 3 V.undef) T_api_Expr (fun es53 => ((den Sp syntax_writer_operand.id [(V.ref 0 0), (V.agg [(V.int .i64 n50), (V.str s51), (V.int .i64 n52), (V.sl .no T_api_Expr es53)]), (V.int .i64 a2)] [(Blk.cells T_syntax_writer [(V.sl (Tok.row 0) T_string es44), (V.bool b45), (V.int .i64 n46)] false)] none)).bind (fun r54 => (Blk.asCells (List.getD (Res.bl r54) 0 (Blk.cells T_n0 [] true)) T_syntax_writer 3 (fun rd55 => (V.asSlR (rd55 0) 0 T_string (fun es56 => (V.asBool (rd55 1) (fun b57 => (V.asInt (rd55 2) .i64 (fun n58 => (Res.onRet r54 (fun v59 => (V.asTup v59 0 (fun rd60 => (some ⟨(Out.ret (V.tup [])), [(Blk.cells T_syntax_writer [(V.sl (Tok.row 0) T_string es56), (V.bool b57), (V.int .i64 n58)] false)], none⟩)))))))))))))))))))))) else none))))))))))))))))))))))))))))))))))) else none) else (some ⟨(Out.ret (V.tup [])), [(Blk.cells T_syntax_writer [(V.sl (Tok.row 0) T_string es16), (V.bool b17), (V.int .i64 n18)] false)], none⟩)))))))))))))))))))))))))) := (den_eq ..).trans (by kernel_rfl)
end syntax_writer_expr
namespace syntax_writer_operand
noncomputable abbrev e (p : List Nat) := ev Sp (den Sp) id Tryz.f155.ntmps (cAt (bodyOf Tryz.f155) p)
noncomputable abbrev cn (n0 : List Nat) := canon Sp id n0
noncomputable abbrev K : K := kFin Sp (den Sp) Tryz.f155 1
theorem eq (m0_0 : List (List V)) (m0_1 : Bool) (m0_2 a1_0 : Int) (a1_1 : ByteArray) (a1_2 : Int) (a1_3 : List (List V)) (a2 : Int) : den Sp id [(V.ref 0 0), (V.agg [(V.int .i64 a1_0), (V.str a1_1), (V.int .i64 a1_2), (V.sl .no T_api_Expr a1_3)]), (V.int .i64 a2)] [(Blk.cells T_syntax_writer [(V.sl (Tok.row 0) T_string m0_0), (V.bool m0_1), (V.int .i64 m0_2)] false)] none =
    (bif (a1_0 == (6 : Int)) then ((den Sp syntax_writer_put.id [(V.ref 0 0), (V.sl .no T_string [[(V.str (ByteArray.mk #[40]))]])] [(Blk.cells T_syntax_writer [(V.sl (Tok.row 0) T_string m0_0), (V.bool m0_1), (V.int .i64 m0_2)] false)] none)).bind (fun r11 => (Blk.asCells (List.getD (Res.bl r11) 0 (Blk.cells T_n0 [] true)) T_syntax_writer 3 (fun rd12 => (V.asSlR (rd12 0) 0 T_string (fun es13 => (V.asBool (rd12 1) (fun b14 => (V.asInt (rd12 2) .i64 (fun n15 => (Res.onRet r11 (fun v16 => (V.asTup v16 0 (fun rd17 => ((den Sp syntax_writer_expr.id [(V.ref 0 0), (V.agg [(V.int .i64 a1_0), (V.str a1_1), (V.int .i64 a1_2), (V.sl .no T_api_Expr a1_3)]), (V.int .i64 (IntKind.wrap .i64 (a2 + (1 : Int))))] [(Blk.cells T_syntax_writer [(V.sl (Tok.row 0) T_string es13), (V.bool b14), (V.int .i64 n15)] false)] none)).bind (fun r19 => (Blk.asCells (List.getD (Res.bl r19) 0 (Blk.cells T_n0 [] true)) T_syntax_writer 3 (fun rd20 => (V.asSlR (rd20 0) 0 T_string (fun es21 => (V.asBool (rd20 1) (fun b22 => (V.asInt (rd20 2) .i64 (fun n23 => (Res.onRet r19 (fun v24 => (V.asTup v24 0 (fun rd25 => ((den Sp syntax_writer_put.id [(V.ref 0 0), (V.sl .no T_string [[(V.str (ByteArray.mk #[41]))]])] [(Blk.cells T_syntax_writer [(V.sl (Tok.row 0) T_string es21), (V.bool b22), (V.int .i64 n23)] false)] none)).bind (fun r27 => (Blk.asCells (List.getD (Res.bl r27) 0 (Blk.cells T_n0 [] true)) T_syntax_writer 3 (fun rd28 => (V.asSlR (rd28 0) 0 T_string (fun es29 => (V.asBool (rd28 1) (fun b30 => (V.asInt (rd28 2) .i64 (fun n31 => (Res.onRet r27 (fun v32 => (V.asTup v32 0 (fun rd33 => (some ⟨(Out.ret (V.tup [])), [(Blk.cells T_syntax_writer [(V.sl (Tok.row 0) T_string es29), (V.bool b30), (V.int .i64 n31)] false)], none⟩)))))))))))))))))))))))))))))))))))))))) else ((den Sp syntax_writer_expr.id [(V.ref 0 0), (V.agg [(V.int .i64 a1_0), (V.str a1_1), (V.int .i64 a1_2), (V.sl .no T_api_Expr a1_3)]), (V.int .i64 a2)] [(Blk.cells T_syntax_writer [(V.sl (Tok.row 0) T_string m0_0), (V.bool m0_1), (V.int .i64 m0_2)] false)] none)).bind (fun r11 => (Blk.asCells (List.getD (Res.bl r11) 0 (Blk.cells T_n0 [] true)) T_syntax_writer 3 (fun rd12 => (V.asSlR (rd12 0) 0 T_string (fun es13 => (V.asBool (rd12 1) (fun b14 => (V.asInt (rd12 2) .i64 (fun n15 => (Res.onRet r11 (fun v16 => (V.asTup v16 0 (fun rd17 => (some ⟨(Out.ret (V.tup [])), [(Blk.cells T_syntax_writer [(V.sl (Tok.row 0) T_string es13), (V.bool b14), (V.int .i64 n15)] false)], none⟩))))))))))))))) := (den_eq ..).trans (by kernel_rfl)
end syntax_writer_operand
namespace syntax_writer_done
noncomputable abbrev e (p : List Nat) := ev Sp (den Sp) id Tryz.f107.ntmps (cAt (bodyOf Tryz.f107) p)
noncomputable abbrev cn (n0 : List Nat) := canon Sp id n0
noncomputable abbrev K : K := kFin Sp (den Sp) Tryz.f107 1
theorem eq (m0_0 : List (List V)) (m0_1 : Bool) (m0_2 : Int) : den Sp id [(V.ref 0 0)] [(Blk.cells T_syntax_writer [(V.sl (Tok.row 0) T_string m0_0), (V.bool m0_1), (V.int .i64 m0_2)] false)] none =
    (bif m0_1 then (some ⟨(Out.ret (V.tup [(V.str (ByteArray.mk #[])), (V.int .i64 (32 : Int))])), [(Blk.cells T_syntax_writer [(V.sl (Tok.row 0) T_string m0_0), (V.bool m0_1), (V.int .i64 m0_2)] false)], none⟩) else (bif (decide (m0_2 > (60 : Int))) then (some ⟨(Out.ret (V.tup [(V.str (ByteArray.mk #[])), (V.int .i64 (31 : Int))])), [(Blk.cells T_syntax_writer [(V.sl (Tok.row 0) T_string m0_0), (V.bool m0_1), (V.int .i64 m0_2)] false)], none⟩) else ((den Sp num_Join.id [(V.sl .no T_string m0_0)] [] none)).bind (fun r7 => (Res.onRet r7 (fun v8 => (V.asStr v8 (fun s9 => (some ⟨(Out.ret (V.tup [(V.str s9), (V.int .i64 (0 : Int))])), [(Blk.cells T_syntax_writer [(V.sl (Tok.row 0) T_string m0_0), (V.bool m0_1), (V.int .i64 m0_2)] false)], none⟩)))))))) := (den_eq ..).trans (by kernel_rfl)
end syntax_writer_done
namespace syntax_PrintExpr
noncomputable abbrev e (p : List Nat) := ev Sp (den Sp) id Tryz.f62.ntmps (cAt (bodyOf Tryz.f62) p)
noncomputable abbrev cn (n0 : List Nat) := canon Sp id n0
noncomputable abbrev K : K := kFin Sp (den Sp) Tryz.f62 0
theorem eq (a0_0 : Int) (a0_1 : ByteArray) (a0_2 : Int) (a0_3 : List (List V)) : den Sp id [(V.agg [(V.int .i64 a0_0), (V.str a0_1), (V.int .i64 a0_2), (V.sl .no T_api_Expr a0_3)])] [] none =
    ((den Sp syntax_writer_expr.id [(V.ref 0 0), (V.agg [(V.int .i64 a0_0), (V.str a0_1), (V.int .i64 a0_2), (V.sl .no T_api_Expr a0_3)]), (V.int .i64 (1 : Int))] [(Blk.cells T_syntax_writer [(V.sl (Tok.row 0) T_string []), (V.bool false), (V.int .i64 (0 : Int))] false)] none)).bind (fun r7 => (Blk.asCells (List.getD (Res.bl r7) 0 (Blk.cells T_n0 [] true)) T_syntax_writer 3 (fun rd8 => (V.asSlR (rd8 0) 0 T_string (fun es9 => (V.asBool (rd8 1) (fun b10 => (V.asInt (rd8 2) .i64 (fun n11 => (Res.onRet r7 (fun v12 => (V.asTup v12 0 (fun rd13 => ((den Sp syntax_writer_done.id [(V.ref 0 0)] [(Blk.cells T_syntax_writer [(V.sl (Tok.row 0) T_string es9), (V.bool b10), (V.int .i64 n11)] false)] none)).bind (fun r15 => (Blk.asCells (List.getD (Res.bl r15) 0 (Blk.cells T_n0 [] true)) T_syntax_writer 3 (fun rd16 => (V.asSlR (rd16 0) 0 T_string (fun es17 => (V.asBool (rd16 1) (fun b18 => (V.asInt (rd16 2) .i64 (fun n19 => (Res.onRet r15 (fun v20 => (V.asTup v20 2 (fun rd21 => (V.asStr (rd21 0) (fun s22 => (V.asInt (rd21 1) .i64 (fun n23 => (some ⟨(Out.ret (V.tup [(V.str s22), (V.int .i64 n23)])), [], none⟩))))))))))))))))))))))))))))))) := (den_eq ..).trans (by kernel_rfl)
end syntax_PrintExpr
end Go.Proofs.YtmhnmelaodhemaaGreatDoor
namespace Go.Proofs.YtmhnmelaodhemaaGreatDoor
open Go Go.Proofs.Ab Go.Proofs.Px
set_option linter.unusedVariables false
set_option linter.unusedSimpArgs false
set_option maxRecDepth 100000
theorem level_is (s : List UInt8) : den Sp syntax_level.id [.str (B s)] [] none = some ⟨.ret (.int .i64 (levelP s)), [], none⟩ := by
  rw [syntax_level.eq]
  unfold levelP
  by_cases h1 : s = [124, 124]
  · subst h1; rfl
  by_cases h2 : s = [38, 38]
  · subst h2; rfl
  by_cases h3 : s = [61, 61]
  · subst h3; rfl
  by_cases h4 : s = [33, 61]
  · subst h4; rfl
  by_cases h5 : s = [60]
  · subst h5; rfl
  by_cases h6 : s = [60, 61]
  · subst h6; rfl
  by_cases h7 : s = [43]
  · subst h7; rfl
  by_cases h8 : s = [45]
  · subst h8; rfl
  by_cases h9 : s = [42]
  · subst h9; rfl
  by_cases h10 : s = [47]
  · subst h10; rfl
  by_cases h11 : s = [37]
  · subst h11; rfl
  simp [h1, h2, h3, h4, h5, h6, h7, h8, h9, h10, h11]
theorem plain_is (k : Int) (n : List UInt8) (m : Int) (l : List Ex) : den Sp syntax_plain.id [.agg (Ex.v (.mk k n m l))] [] none = some ⟨.ret (.bool (plainK k n m l.length)), [], none⟩ := by
  rw [Ex.v_mk, syntax_plain.eq, level_is, List.length_map]
  unfold plainK
  by_cases h1 : k = 1
  · subst h1
    by_cases c1 : n = [] <;> by_cases c2 : 0 ≤ m <;> simp [c1, c2] <;> omega
  by_cases h2 : k = 2
  · subst h2
    by_cases c1 : n = [] <;> by_cases c2 : m = 0 <;> by_cases c3 : m = 1 <;> simp [c1, c2, c3] <;> omega
  by_cases h3 : k = 3
  · subst h3
    by_cases c1 : n = [] <;> by_cases c2 : m = 0 <;> simp [c1, c2] <;> omega
  by_cases h4 : k = 4
  · subst h4
    by_cases c1 : n = [] <;> by_cases c2 : m = 0 <;> simp [c1, c2] <;> omega
  by_cases h5 : k = 5
  · subst h5
    by_cases c1 : n = []
    · subst c1; simp
    · by_cases c2 : m = 0 <;> by_cases c3 : n = [45] <;> by_cases c4 : n = [33] <;> simp [c1, c2, c3, c4] <;> omega
  by_cases h6 : k = 6
  · subst h6
    by_cases c1 : n = []
    · subst c1; simp [levelP]
    · by_cases c2 : m = 0 <;> by_cases c3 : 0 < levelP n <;> simp [c1, c2, c3] <;> omega
  by_cases c1 : n = [] <;> by_cases c2 : m = 0 <;> simp [h1, h2, h3, h4, h5, h6, c1, c2]
def wB (ws : List (List UInt8)) (b : Bool) (d : Int) : Blk := .cells T_syntax_writer [.sl (.row 0) T_string (sv ws), .bool b, .int .i64 d] false
theorem sv_append (a b : List (List UInt8)) : sv a ++ sv b = sv (a ++ b) := by simp [sv]
theorem put_is (ws l : List (List UInt8)) (b : Bool) (d : Int) (h : ws.length + l.length ≤ 1099511627776) : den Sp syntax_writer_put.id [.ref 0 0, .sl .no T_string (sv l)] [wB ws b d] none = some ⟨.ret (.tup []), [wB (ws ++ l) b d], none⟩ := by
  unfold wB
  rw [syntax_writer_put.eq, sv_len, sv_len, most_if h, sv_append]
theorem need_is (ws : List (List UInt8)) (b ok : Bool) (d : Int) : den Sp syntax_writer_need.id [.ref 0 0, .bool ok] [wB ws b d] none = some ⟨.ret (.tup []), [wB ws (b || !ok) d], none⟩ := by
  unfold wB
  rw [syntax_writer_need.eq]
  cases b <;> rfl
theorem wname_is (ws : List (List UInt8)) (n : List UInt8) (b : Bool) (d : Int) (hn : n.length ≤ 140737488351232) (h : ws.length + 1 ≤ 1099511627776) :
    den Sp syntax_writer_name.id [.ref 0 0, .str (B n)] [wB ws b d] none = some ⟨.ret (.tup []), [wB (ws ++ [n]) (b || !isName (B n)) d], none⟩ := by
  have e1 := need_is ws b (isName (B n)) d
  have e2 := put_is ws [n] (b || !isName (B n)) d (by simpa using h)
  unfold wB at *
  rw [syntax_writer_name.eq, lex_IsName_is _ (by rw [B_size]; omega)]
  simp [e1]
  rw [show ([[V.str (B n)]] : List (List V)) = sv [n] from rfl, e2]
  simp
def WrE (f : Nat) (x : Ex) (w : List (List UInt8)) (h : Int) (c : Nat) (e : Int) : Prop :=
  ∀ (ws : List (List UInt8)) (b : Bool) (d t : Int), 0 ≤ t → t + 4 * (x.size : Int) + e ≤ 1099511627776 → ws.length + c ≤ 1099511627776 →
    ∃ (ws' : List (List UInt8)) (b' : Bool) (d' : Int), den Sp f [.ref 0 0, .agg x.v, .int .i64 t] [wB ws b d] none = some ⟨.ret (.tup []), [wB ws' b' d'], none⟩ ∧
      ws'.length ≤ ws.length + c ∧ b' = (b || !okX x) ∧ (b' = false → ws' = ws ++ w ∧ d' = max d (t + h))
theorem operand_of (x : Ex) (hE : WrE syntax_writer_expr.id x (exW x) (hX x) (8 * x.size) 0) : WrE syntax_writer_operand.id x (sideW x.kind (exW x)) (sideH x.kind (hX x)) (8 * x.size + 2) 1 := by
  intro ws b d t ht ht2 hl
  have hp := Ex.size_pos x
  by_cases hk : x.kind = 6
  · obtain ⟨ws1, b1, d1, e1, f1, f2, f3⟩ := hE (ws ++ [[40]]) b d (t + 1) (by omega) (by omega) (by simp; omega)
    have p1 : den Sp syntax_writer_put.id [.ref 0 0, .sl .no T_string [[.str (B [40])]]] [wB ws b d] none = _ := put_is ws [[40]] b d (by simp; omega)
    have p2 : den Sp syntax_writer_put.id [.ref 0 0, .sl .no T_string [[.str (B [41])]]] [wB ws1 b1 d1] none = _ := put_is ws1 [[41]] b1 d1 (by simp at f1 ⊢; omega)
    have w1 : IntKind.wrap .i64 (t + 1) = t + 1 := wrap_in (by omega) (by omega)
    refine ⟨ws1 ++ [[41]], b1, d1, ?_, by simp at f1 ⊢; omega, f2, fun h => ?_⟩
    · unfold wB at *
      have e0 := Ex.v_is x
      rw [e0, syntax_writer_operand.eq, ← e0]
      simp [hk, p1, w1, e1, p2]
    · obtain ⟨g1, g2⟩ := f3 h
      refine ⟨by rw [g1]; simp [sideW, hk], by rw [g2]; unfold sideH; rw [if_pos hk]; omega⟩
  · obtain ⟨ws1, b1, d1, e1, f1, f2, f3⟩ := hE ws b d t ht (by omega) (by omega)
    refine ⟨ws1, b1, d1, ?_, by omega, f2, fun h => ?_⟩
    · unfold wB at *
      have e0 := Ex.v_is x
      rw [e0, syntax_writer_operand.eq, ← e0]
      simp [hk, e1]
    · obtain ⟨g1, g2⟩ := f3 h
      refine ⟨by rw [g1]; simp [sideW, hk], by rw [g2]; unfold sideH; rw [if_neg hk]⟩
theorem wexpr_is : ∀ x : Ex, ExOk x → WrE syntax_writer_expr.id x (exW x) (hX x) (8 * x.size) 0 := by
  refine Ex.ind fun k n m l ih ho => ?_
  intro ws b d t ht ht2 hl
  obtain ⟨ok, on, om, ol, oh⟩ := ho.inv
  rw [Ex.size] at ht2 hl ⊢
  have e1 := plain_is k n m l
  have e2 := need_is ws b (plainK k n m l.length) (if t > d then t else d)
  rw [Ex.v_mk] at e1 ⊢
  rw [exW, hX, okX]
  cases hb : (b || !plainK k n m l.length) with
  | true =>
    refine ⟨ws, true, if t > d then t else d, ?_, by omega, ?_, nofun⟩
    · unfold wB at *
      rw [syntax_writer_expr.eq]
      simp [e1, e2, hb]
    · cases b <;> simp at hb ⊢
      simp [hb]
  | false =>
    obtain ⟨rfl, hp⟩ : b = false ∧ plainK k n m l.length = true := by
      cases b <;> simp at hb ⊢
      exact hb
    rw [hp] at e1 e2
    simp only [Bool.not_true, Bool.or_false, hp, Bool.true_and, Bool.false_or] at e2 ⊢
    have hm64 := om
    generalize hD : (if t > d then t else d) = D at e2
    have hD2 : D = max d t := by rw [← hD]; split <;> omega
    have w1 : IntKind.wrap .i64 (t + 1) = t + 1 := wrap_in (by omega) (by omega)
    unfold wK hK
    rcases plain_forms hp with ⟨rfl, rfl, hm, rfl⟩ | ⟨rfl, rfl, hm, rfl⟩ | ⟨rfl, hn, rfl, rfl⟩ | ⟨rfl, hn, rfl, x, rfl⟩ | ⟨rfl, hn, rfl, x, rfl⟩ | ⟨rfl, hn, rfl, x, y, rfl⟩ <;> simp only [List.map_nil, List.map_cons] at e1 ⊢
    · have p1 : den Sp syntax_writer_put.id [.ref 0 0, .sl .no T_string [[.str (B (decs m))]]] [wB ws false D] none = _ := put_is ws [decs m] false D (by simp; omega)
      obtain ⟨m1, m2⟩ := i64_bounds om
      refine ⟨ws ++ [decs m], false, D, ?_, by simp; omega, by simp [namedK, okXs], fun _ => ⟨by simp, by simp; omega⟩⟩
      unfold wB at *
      rw [syntax_writer_expr.eq]
      simp [e1, e2, hD, num_Text_is m m1 m2, p1]
    · have p1 : den Sp syntax_writer_put.id [.ref 0 0, .sl .no T_string [[.str (B [116, 114, 117, 101])]]] [wB ws false D] none = _ := put_is ws [[116, 114, 117, 101]] false D (by simp; omega)
      have p2 : den Sp syntax_writer_put.id [.ref 0 0, .sl .no T_string [[.str (B [102, 97, 108, 115, 101])]]] [wB ws false D] none = _ := put_is ws [[102, 97, 108, 115, 101]] false D (by simp; omega)
      by_cases c : m = 1
      · subst c
        refine ⟨ws ++ [[116, 114, 117, 101]], false, D, ?_, by simp; omega, by simp [namedK, okXs], fun _ => ⟨by simp, by simp; omega⟩⟩
        unfold wB at *
        rw [syntax_writer_expr.eq]
        simp [e1, e2, hD, p1]
      · refine ⟨ws ++ [[102, 97, 108, 115, 101]], false, D, ?_, by simp; omega, by simp [namedK, okXs], fun _ => ⟨by simp [c], by simp; omega⟩⟩
        unfold wB at *
        rw [syntax_writer_expr.eq]
        simp [e1, e2, hD, c, p2]
    · have p1 := wname_is ws n false D on (by omega)
      refine ⟨ws ++ [n], !isName (B n), D, ?_, by simp; omega, by simp [namedK, okXs], fun _ => ⟨by simp, by simp; omega⟩⟩
      unfold wB at *
      rw [syntax_writer_expr.eq]
      simp [e1, e2, hD, p1]
    · have hsx : Ex.sizes [x] = x.size := by simp [Ex.sizes]
      have p1 := wname_is ws n false D on (by omega)
      rw [Bool.false_or] at p1
      have p2 : den Sp syntax_writer_put.id [.ref 0 0, .sl .no T_string [[.str (B [91])]]] [wB (ws ++ [n]) (!isName (B n)) D] none = _ := put_is (ws ++ [n]) [[91]] (!isName (B n)) D (by simp; omega)
      obtain ⟨ws1, b1, d1, q1, q2, q3, q4⟩ := ih x (by simp) (oh x (by simp)) (ws ++ [n, [91]]) (!isName (B n)) D (t + 1) (by omega) (by omega) (by simp; omega)
      have p3 : den Sp syntax_writer_put.id [.ref 0 0, .sl .no T_string [[.str (B [93])]]] [wB ws1 b1 d1] none = _ := put_is ws1 [[93]] b1 d1 (by simp at q2 ⊢; omega)
      refine ⟨ws1 ++ [[93]], b1, d1, ?_, by simp at q2 ⊢; omega, by rw [q3]; simp [namedK, okXs], fun h => ?_⟩
      · unfold wB at *
        rw [syntax_writer_expr.eq]
        simp [e1, e2, hD, p1, p2, w1, q1, p3]
      · obtain ⟨g1, g2⟩ := q4 h
        have ho : okX x = true := by
          rw [q3] at h
          cases c : okX x with
          | true => rfl
          | false => simp [c] at h
        obtain ⟨_, h0, _⟩ := okX_weigh x ho
        refine ⟨by rw [g1]; simp [exWs], ?_⟩
        rw [g2]; simp [hXs]; omega
    · have hsx : Ex.sizes [x] = x.size := by simp [Ex.sizes]
      have p1 : den Sp syntax_writer_put.id [.ref 0 0, .sl .no T_string [[.str (B n)]]] [wB ws false D] none = _ := put_is ws [n] false D (by simp; omega)
      obtain ⟨ws1, b1, d1, q1, q2, q3, q4⟩ := operand_of x (ih x (by simp) (oh x (by simp))) (ws ++ [n]) false (if t + 1 > D then t + 1 else D) (t + 1) (by omega) (by omega) (by simp; omega)
      refine ⟨ws1, b1, d1, ?_, by simp at q2 ⊢; omega, by rw [q3]; simp [namedK, okXs], fun h => ?_⟩
      · unfold wB at *
        rw [syntax_writer_expr.eq]
        simp [e1, e2, hD, p1, w1, q1]
      · obtain ⟨g1, g2⟩ := q4 h
        have ho : okX x = true := by
          rw [q3] at h
          cases c : okX x with
          | true => rfl
          | false => simp [c] at h
        obtain ⟨_, h0, _⟩ := okX_weigh x ho
        refine ⟨by rw [g1]; simp [exWs], ?_⟩
        rw [g2]; simp [hXs]
        unfold sideH
        split <;> split <;> omega
    · have hsx : Ex.sizes [x, y] = x.size + y.size := by simp [Ex.sizes]
      have p2 : ∀ (ws : List (List UInt8)) (b : Bool) (d : Int), ws.length + 1 ≤ 1099511627776 → den Sp syntax_writer_put.id [.ref 0 0, .sl .no T_string [[.str (B n)]]] [wB ws b d] none = some ⟨.ret (.tup []), [wB (ws ++ [n]) b d], none⟩ := fun ws b d h => put_is ws [n] b d (by simpa using h)
      obtain ⟨ws1, b1, d1, q1, q2, q3, q4⟩ := operand_of x (ih x (by simp) (oh x (by simp))) ws false D t (by omega) (by omega) (by omega)
      have p3 := p2 ws1 b1 d1 (by omega)
      obtain ⟨ws2, b2, d2, r1, r2, r3, r4⟩ := operand_of y (ih y (by simp) (oh y (by simp))) (ws1 ++ [n]) b1 d1 t (by omega) (by omega) (by simp; omega)
      refine ⟨ws2, b2, d2, ?_, by simp at r2 ⊢; omega, by rw [r3, q3]; simp [namedK, okXs], fun h => ?_⟩
      · unfold wB at *
        rw [syntax_writer_expr.eq]
        simp [e1, e2, hD, q1, p3, r1]
      · obtain ⟨g1, g2⟩ := r4 h
        have h1 : b1 = false := by
          rw [r3] at h
          cases b1 <;> simp at h ⊢
        obtain ⟨g3, g4⟩ := q4 h1
        have ho : okX x = true := by
          rw [q3] at h1
          cases c : okX x with
          | true => rfl
          | false => simp [c] at h1
        obtain ⟨_, h0, _⟩ := okX_weigh x ho
        refine ⟨by rw [g1, g3]; simp [exWs], ?_⟩
        rw [g2, g4]; simp [hXs]
        unfold sideH
        split <;> split <;> omega
theorem done_is (ws : List (List UInt8)) (b : Bool) (d : Int) (hl : ws.length < 4611686018427387904) (hw : b = false → ¬ 60 < d → weighW ws ≤ 1099511627776) : den Sp syntax_writer_done.id [.ref 0 0] [wB ws b d] none =
    some ⟨.ret (if b then .tup [.str (B []), .int .i64 32] else if 60 < d then .tup [.str (B []), .int .i64 31] else .tup [.str (B (joinL ws)), .int .i64 0]), [wB ws b d], none⟩ := by
  unfold wB
  rw [syntax_writer_done.eq]
  cases b with
  | true => rfl
  | false =>
    by_cases c : 60 < d
    · simp [c]
    · simp [c, num_Join_is ws hl (hw rfl c)]
theorem syntax_PrintExpr_is (x : Ex) (ho : ExOk x) (hs : x.size ≤ 1000000) : den Sp syntax_PrintExpr.id [.agg x.v] [] none = some ⟨.ret (.tup [.str (B (prX x).1), .int .i64 (prX x).2]), [], none⟩ := by
  obtain ⟨ws, b, d, e1, e2, e3, e4⟩ := wexpr_is x ho [] false 0 1 (by omega) (by omega) (by simp; omega)
  have hw : b = false → ¬ 60 < d → weighW ws ≤ 1099511627776 := by
    intro hb _
    rw [(e4 hb).1]
    have ok : okX x = true := by
      rw [e3] at hb
      cases c : okX x with
      | true => rfl
      | false => simp [c] at hb
    have := (okX_weigh x ok).1
    simp; omega
  have e5 := done_is ws b d (by simp at e2; omega) hw
  have e1 : den Sp syntax_writer_expr.id [.ref 0 0, .agg x.v, .int .i64 1] [.cells T_syntax_writer [.sl (.row 0) T_string [], .bool false, .int .i64 0] false] none = _ := e1
  unfold wB at *
  have e0 := Ex.v_is x
  rw [e0, syntax_PrintExpr.eq, ← e0]
  unfold prX
  cases ok : okX x with
  | true =>
    simp only [ok, Bool.not_true, Bool.or_false] at e3
    subst e3
    obtain ⟨g1, g2⟩ := e4 rfl
    have h0 := (okX_weigh x ok).2.1
    have g3 : d = 1 + hX x := by omega
    subst g3
    rw [List.nil_append] at g1
    subst g1
    by_cases c : 60 < 1 + hX x <;> simp [e1, e5, c]
  | false =>
    simp only [ok, Bool.not_false, Bool.or_true] at e3
    subst e3
    simp [e1, e5]
end Go.Proofs.YtmhnmelaodhemaaGreatDoor
