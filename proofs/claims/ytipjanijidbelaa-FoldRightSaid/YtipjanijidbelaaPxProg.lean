/- Data by value, and how it comes in: printed by data.py of this work. -/
import Derived.Test.YtipjanijidbelaaPxStmt
import Derived.Test.YtipjanijidbelaaPxS
namespace Go.Proofs.Ytipjanijidbelaa
open Go Go.Proofs.Ab Go.Proofs.Px
set_option linter.unusedVariables false
set_option linter.unusedSimpArgs false
set_option maxRecDepth 100000
structure Vr where
  name : List UInt8
  type : Int
  size : Int
  frm : Int
  to : Int
  deriving DecidableEq
def Vr.v (x : Vr) : List V := [.str (B x.name), .int .i64 x.type, .int .i64 x.size, .int .i64 x.frm, .int .i64 x.to]
theorem Vr.v_mk (name : List UInt8) (type : Int) (size : Int) (frm : Int) (to : Int) : Vr.v ⟨name, type, size, frm, to⟩ = [.str (B name), .int .i64 type, .int .i64 size, .int .i64 frm, .int .i64 to] := rfl
theorem Vr.v_len (x : Vr) : x.v.length = 5 := rfl
@[simp] theorem Vr.asAgg_v (x : Vr) (k : (Nat → V) → Option Res) : V.asAgg (.agg x.v) 5 k = k (fun j => x.v.getD j .undef) := asAgg_agg _ _ rfl k
@[simp] theorem Vr.v_0 (x : Vr) : x.v.getD 0 .undef = .str (B x.name) := rfl
@[simp] theorem Vr.q_0 (x : Vr) : x.v[0]?.getD V.undef = .str (B x.name) := rfl
@[simp] theorem Vr.v_1 (x : Vr) : x.v.getD 1 .undef = .int .i64 x.type := rfl
@[simp] theorem Vr.q_1 (x : Vr) : x.v[1]?.getD V.undef = .int .i64 x.type := rfl
@[simp] theorem Vr.v_2 (x : Vr) : x.v.getD 2 .undef = .int .i64 x.size := rfl
@[simp] theorem Vr.q_2 (x : Vr) : x.v[2]?.getD V.undef = .int .i64 x.size := rfl
@[simp] theorem Vr.v_3 (x : Vr) : x.v.getD 3 .undef = .int .i64 x.frm := rfl
@[simp] theorem Vr.q_3 (x : Vr) : x.v[3]?.getD V.undef = .int .i64 x.frm := rfl
@[simp] theorem Vr.v_4 (x : Vr) : x.v.getD 4 .undef = .int .i64 x.to := rfl
@[simp] theorem Vr.q_4 (x : Vr) : x.v[4]?.getD V.undef = .int .i64 x.to := rfl
structure VrOk (x : Vr) : Prop where
  name : x.name.length ≤ 140737488351232
  type : (Lit.int .i64 x.type).wf = true
  size : (Lit.int .i64 x.size).wf = true
  frm : (Lit.int .i64 x.frm).wf = true
  to : (Lit.int .i64 x.to).wf = true
theorem Vr.parts : partTypes Sp.P T_api_Var = some [9, 3, 3, 3, 3] := by kernel_rfl
theorem Vr_in {cs : List V} (h : Fits Sp.P Sp.pz T_api_Var cs) : ∃ x : Vr, cs = x.v ∧ VrOk x := by
  obtain ⟨ps, rfl, hl, hf⟩ := fits_st Vr.parts h
  match ps, hl with
  | [a0, a1, a2, a3, a4], _ =>
    obtain ⟨b0, e0, w0⟩ := fits_str str_u (hf 0 _ rfl)
    have e0' : a0 = _ := e0
    subst e0'
    obtain ⟨b1, e1, w1⟩ := fits_int (k := .i64) int_u (hf 1 _ rfl)
    have e1' : a1 = _ := e1
    subst e1'
    obtain ⟨b2, e2, w2⟩ := fits_int (k := .i64) int_u (hf 2 _ rfl)
    have e2' : a2 = _ := e2
    subst e2'
    obtain ⟨b3, e3, w3⟩ := fits_int (k := .i64) int_u (hf 3 _ rfl)
    have e3' : a3 = _ := e3
    subst e3'
    obtain ⟨b4, e4, w4⟩ := fits_int (k := .i64) int_u (hf 4 _ rfl)
    have e4' : a4 = _ := e4
    subst e4'
    exact ⟨⟨b0, b1, b2, b3, b4⟩, rfl, ⟨w0, w1, w2, w3, w4⟩⟩
structure Par where
  name : List UInt8
  type : Int
  deriving DecidableEq
def Par.v (x : Par) : List V := [.str (B x.name), .int .i64 x.type]
theorem Par.v_mk (name : List UInt8) (type : Int) : Par.v ⟨name, type⟩ = [.str (B name), .int .i64 type] := rfl
theorem Par.v_len (x : Par) : x.v.length = 2 := rfl
@[simp] theorem Par.asAgg_v (x : Par) (k : (Nat → V) → Option Res) : V.asAgg (.agg x.v) 2 k = k (fun j => x.v.getD j .undef) := asAgg_agg _ _ rfl k
@[simp] theorem Par.v_0 (x : Par) : x.v.getD 0 .undef = .str (B x.name) := rfl
@[simp] theorem Par.q_0 (x : Par) : x.v[0]?.getD V.undef = .str (B x.name) := rfl
@[simp] theorem Par.v_1 (x : Par) : x.v.getD 1 .undef = .int .i64 x.type := rfl
@[simp] theorem Par.q_1 (x : Par) : x.v[1]?.getD V.undef = .int .i64 x.type := rfl
structure ParOk (x : Par) : Prop where
  name : x.name.length ≤ 140737488351232
  type : (Lit.int .i64 x.type).wf = true
theorem Par.parts : partTypes Sp.P T_api_Param = some [9, 3] := by kernel_rfl
theorem Par_in {cs : List V} (h : Fits Sp.P Sp.pz T_api_Param cs) : ∃ x : Par, cs = x.v ∧ ParOk x := by
  obtain ⟨ps, rfl, hl, hf⟩ := fits_st Par.parts h
  match ps, hl with
  | [a0, a1], _ =>
    obtain ⟨b0, e0, w0⟩ := fits_str str_u (hf 0 _ rfl)
    have e0' : a0 = _ := e0
    subst e0'
    obtain ⟨b1, e1, w1⟩ := fits_int (k := .i64) int_u (hf 1 _ rfl)
    have e1' : a1 = _ := e1
    subst e1'
    exact ⟨⟨b0, b1⟩, rfl, ⟨w0, w1⟩⟩
structure Prc where
  name : List UInt8
  params : List Par
  type : Int
  body : List Stm
def Prc.v (x : Prc) : List V := [.str (B x.name), .sl .no T_api_Param (x.params.map Par.v), .int .i64 x.type, .sl .no T_api_Stmt (x.body.map Stm.v)]
theorem Prc.v_mk (name : List UInt8) (params : List Par) (type : Int) (body : List Stm) : Prc.v ⟨name, params, type, body⟩ = [.str (B name), .sl .no T_api_Param (params.map Par.v), .int .i64 type, .sl .no T_api_Stmt (body.map Stm.v)] := rfl
theorem Prc.v_len (x : Prc) : x.v.length = 4 := rfl
@[simp] theorem Prc.asAgg_v (x : Prc) (k : (Nat → V) → Option Res) : V.asAgg (.agg x.v) 4 k = k (fun j => x.v.getD j .undef) := asAgg_agg _ _ rfl k
@[simp] theorem Prc.v_0 (x : Prc) : x.v.getD 0 .undef = .str (B x.name) := rfl
@[simp] theorem Prc.q_0 (x : Prc) : x.v[0]?.getD V.undef = .str (B x.name) := rfl
@[simp] theorem Prc.v_1 (x : Prc) : x.v.getD 1 .undef = .sl .no T_api_Param (x.params.map Par.v) := rfl
@[simp] theorem Prc.q_1 (x : Prc) : x.v[1]?.getD V.undef = .sl .no T_api_Param (x.params.map Par.v) := rfl
@[simp] theorem Prc.v_2 (x : Prc) : x.v.getD 2 .undef = .int .i64 x.type := rfl
@[simp] theorem Prc.q_2 (x : Prc) : x.v[2]?.getD V.undef = .int .i64 x.type := rfl
@[simp] theorem Prc.v_3 (x : Prc) : x.v.getD 3 .undef = .sl .no T_api_Stmt (x.body.map Stm.v) := rfl
@[simp] theorem Prc.q_3 (x : Prc) : x.v[3]?.getD V.undef = .sl .no T_api_Stmt (x.body.map Stm.v) := rfl
structure PrcOk (x : Prc) : Prop where
  name : x.name.length ≤ 140737488351232
  params : x.params.length ≤ 140737488351232 ∧ ∀ y ∈ x.params, ParOk y
  type : (Lit.int .i64 x.type).wf = true
  body : x.body.length ≤ 140737488351232 ∧ ∀ y ∈ x.body, StmOk y
theorem Prc.parts : partTypes Sp.P T_api_Proc = some [9, 73, 3, 74] := by kernel_rfl
theorem Par.row_el : Program.underlying Sp.P 73 = some (.slice T_api_Param) := by kernel_rfl
theorem Par.row_pz : Sp.pz T_api_Param = false := by kernel_rfl
theorem Par.bytes : decide (Program.bytesOf Sp.P T_api_Param ≥ 1) = true := by kernel_rfl
theorem Par.row_in {cs : List V} (h : Fits Sp.P Sp.pz 73 cs) : ∃ l : List Par, cs = [.sl .no T_api_Param (l.map Par.v)] ∧ l.length ≤ 140737488351232 ∧ ∀ y ∈ l, ParOk y := by
  obtain ⟨es, he, hl, hm, hf⟩ := fits_sl Par.row_el Par.row_pz h
  obtain ⟨l, rfl, hok⟩ := fits_rows (v := Par.v) (ok := ParOk) (fun cs h => Par_in h) es hf
  refine ⟨l, he, ?_, hok⟩
  have hb := of_decide_eq_true Par.bytes
  rw [List.length_map] at hl
  exact Nat.le_trans (Nat.le_mul_of_pos_right _ hb) hl
theorem Prc_in {cs : List V} (h : Fits Sp.P Sp.pz T_api_Proc cs) : ∃ x : Prc, cs = x.v ∧ PrcOk x := by
  obtain ⟨ps, rfl, hl, hf⟩ := fits_st Prc.parts h
  match ps, hl with
  | [a0, a1, a2, a3], _ =>
    obtain ⟨b0, e0, w0⟩ := fits_str str_u (hf 0 _ rfl)
    have e0' : a0 = _ := e0
    subst e0'
    obtain ⟨b1, e1, w1⟩ := Par.row_in (hf 1 _ rfl)
    have e1' : a1 = _ := e1
    subst e1'
    obtain ⟨b2, e2, w2⟩ := fits_int (k := .i64) int_u (hf 2 _ rfl)
    have e2' : a2 = _ := e2
    subst e2'
    obtain ⟨b3, e3, w3⟩ := (stmt_in' (hf 3 _ rfl)).2 rfl
    have e3' : a3 = _ := e3
    subst e3'
    exact ⟨⟨b0, b1, b2, b3⟩, rfl, ⟨w0, w1, w2, w3⟩⟩
structure Prg where
  procs : List Prc
def Prg.v (x : Prg) : List V := [.sl .no T_api_Proc (x.procs.map Prc.v)]
theorem Prg.v_mk (procs : List Prc) : Prg.v ⟨procs⟩ = [.sl .no T_api_Proc (procs.map Prc.v)] := rfl
theorem Prg.v_len (x : Prg) : x.v.length = 1 := rfl
@[simp] theorem Prg.asAgg_v (x : Prg) (k : (Nat → V) → Option Res) : V.asAgg (.agg x.v) 1 k = k (fun j => x.v.getD j .undef) := asAgg_agg _ _ rfl k
@[simp] theorem Prg.v_0 (x : Prg) : x.v.getD 0 .undef = .sl .no T_api_Proc (x.procs.map Prc.v) := rfl
@[simp] theorem Prg.q_0 (x : Prg) : x.v[0]?.getD V.undef = .sl .no T_api_Proc (x.procs.map Prc.v) := rfl
structure PrgOk (x : Prg) : Prop where
  procs : x.procs.length ≤ 140737488351232 ∧ ∀ y ∈ x.procs, PrcOk y
theorem Prg.parts : partTypes Sp.P T_api_Prog = some [41] := by kernel_rfl
theorem Prc.row_el : Program.underlying Sp.P 41 = some (.slice T_api_Proc) := by kernel_rfl
theorem Prc.row_pz : Sp.pz T_api_Proc = false := by kernel_rfl
theorem Prc.bytes : decide (Program.bytesOf Sp.P T_api_Proc ≥ 1) = true := by kernel_rfl
theorem Prc.row_in {cs : List V} (h : Fits Sp.P Sp.pz 41 cs) : ∃ l : List Prc, cs = [.sl .no T_api_Proc (l.map Prc.v)] ∧ l.length ≤ 140737488351232 ∧ ∀ y ∈ l, PrcOk y := by
  obtain ⟨es, he, hl, hm, hf⟩ := fits_sl Prc.row_el Prc.row_pz h
  obtain ⟨l, rfl, hok⟩ := fits_rows (v := Prc.v) (ok := PrcOk) (fun cs h => Prc_in h) es hf
  refine ⟨l, he, ?_, hok⟩
  have hb := of_decide_eq_true Prc.bytes
  rw [List.length_map] at hl
  exact Nat.le_trans (Nat.le_mul_of_pos_right _ hb) hl
theorem Prg_in {cs : List V} (h : Fits Sp.P Sp.pz T_api_Prog cs) : ∃ x : Prg, cs = x.v ∧ PrgOk x := by
  obtain ⟨ps, rfl, hl, hf⟩ := fits_st Prg.parts h
  match ps, hl with
  | [a0], _ =>
    obtain ⟨b0, e0, w0⟩ := Prc.row_in (hf 0 _ rfl)
    have e0' : a0 = _ := e0
    subst e0'
    exact ⟨⟨b0⟩, rfl, ⟨w0⟩⟩
end Go.Proofs.Ytipjanijidbelaa
