/- Statements by value. Own work. -/
import Derived.Test.YtipjanijidbelaaPxExpr
namespace Go.Proofs.Ytipjanijidbelaa
open Go Go.Proofs.Ab Go.Proofs.Px
set_option linter.unusedVariables false
set_option linter.unusedSimpArgs false
set_option maxRecDepth 100000

/-- A statement: kind, name, procedure, number, expressions, body, else. -/
inductive Stm where
  | mk (kind : Int) (name proc : List UInt8) (num : Int) (e : List Ex) (body els : List Stm)
instance : Inhabited Stm := ⟨.mk 0 [] [] 0 [] [] []⟩
namespace Stm
def kind : Stm → Int | .mk k _ _ _ _ _ _ => k
def name : Stm → List UInt8 | .mk _ n _ _ _ _ _ => n
def proc : Stm → List UInt8 | .mk _ _ p _ _ _ _ => p
def num : Stm → Int | .mk _ _ _ m _ _ _ => m
def e : Stm → List Ex | .mk _ _ _ _ e _ _ => e
def body : Stm → List Stm | .mk _ _ _ _ _ b _ => b
def els : Stm → List Stm | .mk _ _ _ _ _ _ l => l
mutual
def v : Stm → List V
  | .mk k n p m e b l => [.int .i64 k, .str (B n), .str (B p), .int .i64 m, .sl .no T_api_Expr (e.map Ex.v), .sl .no T_api_Stmt (vs b), .sl .no T_api_Stmt (vs l)]
def vs : List Stm → List (List V)
  | [] => []
  | x :: l => v x :: vs l
end
theorem vs_map : ∀ l : List Stm, vs l = l.map v
  | [] => by rw [vs]; rfl
  | x :: l => by rw [vs, vs_map l]; rfl
theorem v_mk (k : Int) (n p : List UInt8) (m : Int) (e : List Ex) (b l : List Stm) :
    v (.mk k n p m e b l) = [.int .i64 k, .str (B n), .str (B p), .int .i64 m, .sl .no T_api_Expr (e.map Ex.v), .sl .no T_api_Stmt (b.map v), .sl .no T_api_Stmt (l.map v)] := by rw [v, vs_map, vs_map]
theorem v_is (x : Stm) : x.v = [.int .i64 x.kind, .str (B x.name), .str (B x.proc), .int .i64 x.num, .sl .no T_api_Expr (x.e.map Ex.v), .sl .no T_api_Stmt (x.body.map v), .sl .no T_api_Stmt (x.els.map v)] := by cases x; exact v_mk ..
mutual
theorem ind {p : Stm → Prop} (h : ∀ k n q m e b l, (∀ x ∈ b, p x) → (∀ x ∈ l, p x) → p (.mk k n q m e b l)) : ∀ x, p x
  | .mk k n q m e b l => h k n q m e b l (inds h b) (inds h l)
theorem inds {p : Stm → Prop} (h : ∀ k n q m e b l, (∀ x ∈ b, p x) → (∀ x ∈ l, p x) → p (.mk k n q m e b l)) : ∀ (l : List Stm) (x : Stm), x ∈ l → p x
  | [] => nofun
  | y :: l => fun x hx => (List.mem_cons.1 hx).elim (fun e => e ▸ ind h y) (inds h l x)
end
/-- Induction over rows of statements. -/
theorem ind_list {P : List Stm → Prop} (h : ∀ l, (∀ x ∈ l, P x.body ∧ P x.els) → P l) : ∀ l, P l :=
  fun l => h l fun x _ => ind (p := fun x => P x.body ∧ P x.els) (fun k n q m e b l hb hl => ⟨h b hb, h l hl⟩) x
mutual
/-- How many statements. -/
def count : Stm → Nat
  | .mk _ _ _ _ _ b l => 1 + counts b + counts l
def counts : List Stm → Nat
  | [] => 0
  | x :: l => count x + counts l
end
theorem count_pos (x : Stm) : 0 < x.count := by cases x; rw [count]; omega
theorem count_mem : ∀ {l : List Stm} {x : Stm}, x ∈ l → x.count ≤ counts l
  | y :: l, x, h => by
    rw [counts]
    rcases List.mem_cons.1 h with rfl | h
    · omega
    · have := count_mem h; omega
end Stm
namespace Stm
@[simp] theorem kind_mk (k : Int) (n p : List UInt8) (m : Int) (e : List Ex) (b l : List Stm) : (Stm.mk k n p m e b l).kind = k := rfl
@[simp] theorem name_mk (k : Int) (n p : List UInt8) (m : Int) (e : List Ex) (b l : List Stm) : (Stm.mk k n p m e b l).name = n := rfl
@[simp] theorem proc_mk (k : Int) (n p : List UInt8) (m : Int) (e : List Ex) (b l : List Stm) : (Stm.mk k n p m e b l).proc = p := rfl
@[simp] theorem num_mk (k : Int) (n p : List UInt8) (m : Int) (e : List Ex) (b l : List Stm) : (Stm.mk k n p m e b l).num = m := rfl
@[simp] theorem e_mk (k : Int) (n p : List UInt8) (m : Int) (e : List Ex) (b l : List Stm) : (Stm.mk k n p m e b l).e = e := rfl
@[simp] theorem body_mk (k : Int) (n p : List UInt8) (m : Int) (e : List Ex) (b l : List Stm) : (Stm.mk k n p m e b l).body = b := rfl
@[simp] theorem els_mk (k : Int) (n p : List UInt8) (m : Int) (e : List Ex) (b l : List Stm) : (Stm.mk k n p m e b l).els = l := rfl
theorem eta (x : Stm) : Stm.mk x.kind x.name x.proc x.num x.e x.body x.els = x := by cases x; rfl
@[simp] theorem v_0 (x : Stm) : x.v.getD 0 .undef = .int .i64 x.kind := by rw [v_is]; rfl
@[simp] theorem v_1 (x : Stm) : x.v.getD 1 .undef = .str (B x.name) := by rw [v_is]; rfl
@[simp] theorem v_2 (x : Stm) : x.v.getD 2 .undef = .str (B x.proc) := by rw [v_is]; rfl
@[simp] theorem v_3 (x : Stm) : x.v.getD 3 .undef = .int .i64 x.num := by rw [v_is]; rfl
@[simp] theorem v_4 (x : Stm) : x.v.getD 4 .undef = .sl .no T_api_Expr (x.e.map Ex.v) := by rw [v_is]; rfl
@[simp] theorem v_5 (x : Stm) : x.v.getD 5 .undef = .sl .no T_api_Stmt (x.body.map v) := by rw [v_is]; rfl
@[simp] theorem v_6 (x : Stm) : x.v.getD 6 .undef = .sl .no T_api_Stmt (x.els.map v) := by rw [v_is]; rfl
@[simp] theorem q0 (x : Stm) : x.v[0]?.getD V.undef = .int .i64 x.kind := by rw [v_is]; rfl
@[simp] theorem q1 (x : Stm) : x.v[1]?.getD V.undef = .str (B x.name) := by rw [v_is]; rfl
@[simp] theorem q2 (x : Stm) : x.v[2]?.getD V.undef = .str (B x.proc) := by rw [v_is]; rfl
@[simp] theorem q3 (x : Stm) : x.v[3]?.getD V.undef = .int .i64 x.num := by rw [v_is]; rfl
@[simp] theorem q4 (x : Stm) : x.v[4]?.getD V.undef = .sl .no T_api_Expr (x.e.map Ex.v) := by rw [v_is]; rfl
@[simp] theorem q5 (x : Stm) : x.v[5]?.getD V.undef = .sl .no T_api_Stmt (x.body.map v) := by rw [v_is]; rfl
@[simp] theorem q6 (x : Stm) : x.v[6]?.getD V.undef = .sl .no T_api_Stmt (x.els.map v) := by rw [v_is]; rfl
@[simp] theorem v_list (x : Stm) : [V.int .i64 x.kind, V.str (B x.name), V.str (B x.proc), V.int .i64 x.num, V.sl .no T_api_Expr (x.e.map Ex.v), V.sl .no T_api_Stmt (x.body.map v), V.sl .no T_api_Stmt (x.els.map v)] = x.v := by rw [v_is]
theorem v_agg (x : Stm) : V.agg [V.int .i64 x.kind, V.str (B x.name), V.str (B x.proc), V.int .i64 x.num, V.sl .no T_api_Expr (x.e.map Ex.v), V.sl .no T_api_Stmt (x.body.map v), V.sl .no T_api_Stmt (x.els.map v)] = .agg x.v := by rw [v_is]
@[simp] theorem asAgg_st (x : Stm) (k : (Nat → V) → Option Res) : V.asAgg (.agg x.v) 7 k = k (fun j => x.v.getD j .undef) := asAgg_agg _ _ (by rw [v_is]; rfl) k
mutual
/-- How great statements are. -/
def size : Stm → Nat
  | .mk _ n p _ e b l => 1 + n.length / 8 + p.length / 8 + Ex.sizes e + sizes b + sizes l
def sizes : List Stm → Nat
  | [] => 0
  | x :: l => size x + sizes l
end
theorem size_pos (x : Stm) : 0 < x.size := by cases x; rw [size]; omega
theorem size_mem : ∀ {l : List Stm} {x : Stm}, x ∈ l → x.size ≤ sizes l
  | y :: l, x, h => by
    rw [sizes]
    rcases List.mem_cons.1 h with rfl | h
    · omega
    · have := size_mem h; omega
theorem sizes_len : ∀ l : List Stm, l.length ≤ sizes l
  | [] => Nat.zero_le _
  | x :: l => by rw [sizes]; have := size_pos x; have := sizes_len l; simp only [List.length_cons]; omega
theorem sizes_drop {l : List Stm} {i : Nat} (h : i < l.length) : sizes (l.drop i) = l[i].size + sizes (l.drop (i + 1)) := by
  rw [List.drop_eq_getElem_cons h, sizes]
theorem counts_drop {l : List Stm} {i : Nat} (h : i < l.length) : counts (l.drop i) = l[i].count + counts (l.drop (i + 1)) := by
  rw [List.drop_eq_getElem_cons h, counts]
theorem count_is (x : Stm) : x.count = 1 + counts x.body + counts x.els := by cases x; rw [count]; rfl
theorem size_is (x : Stm) : x.size = 1 + x.name.length / 8 + x.proc.length / 8 + Ex.sizes x.e + sizes x.body + sizes x.els := by cases x; rw [size]; rfl
mutual
theorem count_size : ∀ x : Stm, x.count ≤ x.size
  | .mk k n p m e b l => by rw [count, size]; have := counts_sizes b; have := counts_sizes l; omega
theorem counts_sizes : ∀ l : List Stm, counts l ≤ sizes l
  | [] => Nat.le_refl _
  | x :: l => by rw [counts, sizes]; have := count_size x; have := counts_sizes l; omega
end
end Stm
/-- What is known of a statement that came in. -/
inductive StmOk : Stm → Prop where
  | mk {k : Int} {n p : List UInt8} {m : Int} {e : List Ex} {b l : List Stm} (hk : (Lit.int .i64 k).wf = true) (hn : n.length ≤ 140737488351232) (hp : p.length ≤ 140737488351232) (hm : (Lit.int .i64 m).wf = true)
      (he : e.length ≤ 140737488351232) (hes : ∀ x ∈ e, ExOk x) (hb : b.length ≤ 140737488351232) (hbs : ∀ x ∈ b, StmOk x) (hl : l.length ≤ 140737488351232) (hls : ∀ x ∈ l, StmOk x) : StmOk (.mk k n p m e b l)
structure StmInv (k : Int) (n p : List UInt8) (m : Int) (e : List Ex) (b l : List Stm) : Prop where
  hk : (Lit.int .i64 k).wf = true
  hn : n.length ≤ 140737488351232
  hp : p.length ≤ 140737488351232
  hm : (Lit.int .i64 m).wf = true
  he : e.length ≤ 140737488351232
  hes : ∀ x ∈ e, ExOk x
  hb : b.length ≤ 140737488351232
  hbs : ∀ x ∈ b, StmOk x
  hl : l.length ≤ 140737488351232
  hls : ∀ x ∈ l, StmOk x
theorem StmOk.inv {k : Int} {n p : List UInt8} {m : Int} {e : List Ex} {b l : List Stm} (h : StmOk (.mk k n p m e b l)) : StmInv k n p m e b l := by
  cases h with
  | mk hk hn hp hm he hes hb hbs hl hls => exact ⟨hk, hn, hp, hm, he, hes, hb, hbs, hl, hls⟩
theorem StmOk.inv' {x : Stm} (h : StmOk x) : StmInv x.kind x.name x.proc x.num x.e x.body x.els := by cases x; exact h.inv
theorem stmt_parts : partTypes Sp.P T_api_Stmt = some [3, 9, 9, 2, 22, 74, 74] := by kernel_rfl
theorem stmts_el : Program.underlying Sp.P 74 = some (.slice T_api_Stmt) := by kernel_rfl
theorem stmt_pz : Sp.pz T_api_Stmt = false := by kernel_rfl
theorem stmt_bytes : Program.bytesOf Sp.P T_api_Stmt = 120 := by kernel_rfl
theorem stmt_in' : ∀ {t : TypeId} {cs : List V}, Fits Sp.P Sp.pz t cs → (t = T_api_Stmt → ∃ x : Stm, cs = x.v ∧ StmOk x) ∧ (t = 74 → ∃ l : List Stm, cs = [.sl .no T_api_Stmt (l.map Stm.v)] ∧ l.length ≤ 140737488351232 ∧ ∀ x ∈ l, StmOk x) := by
  intro t cs h
  obtain ⟨fs0, hfs⟩ := partTypes_st stmt_parts
  have no : ∀ {u}, Program.underlying Sp.P t = some u → (∀ fs, u ≠ .struct fs) → (∀ e, u ≠ .slice e) → (t = T_api_Stmt → ∃ x : Stm, cs = x.v ∧ StmOk x) ∧ (t = 74 → ∃ l : List Stm, cs = [.sl .no T_api_Stmt (l.map Stm.v)] ∧ l.length ≤ 140737488351232 ∧ ∀ x ∈ l, StmOk x) := by
    intro u h1 h2 h3
    refine ⟨fun ht => ?_, fun ht => ?_⟩
    · rw [ht, hfs] at h1; exact absurd (Option.some.inj h1).symm (h2 _)
    · rw [ht, stmts_el] at h1; exact absurd (Option.some.inj h1).symm (h3 _)
  induction h with
  | int h hw e => exact no h (fun _ => nofun) (fun _ => nofun)
  | bool h e => exact no h (fun _ => nofun) (fun _ => nofun)
  | str h hw e => exact no h (fun _ => nofun) (fun _ => nofun)
  | @sl t el tok es cs h ht hl hm he e ih =>
    clear no
    refine ⟨fun h1 => ?_, fun h1 => ?_⟩
    · rw [h1, hfs] at h; cases h
    · subst h1
      obtain rfl : T_api_Stmt = el := by rw [stmts_el] at h; injection h with h; injection h
      have hf : ∀ i, i < es.length → ∃ x : Stm, es.getD i [] = x.v ∧ StmOk x := fun i hi => (ih i hi (fun {u} h1 h2 h3 => by rw [hfs] at h1; exact absurd (Option.some.inj h1).symm (h2 _))).1 rfl
      unfold ZTok at ht
      rw [stmt_pz, if_neg (by simp)] at ht
      subst ht
      have key : ∀ es : List (List V), (∀ i, i < es.length → ∃ x : Stm, es.getD i [] = x.v ∧ StmOk x) → ∃ l : List Stm, es = l.map Stm.v ∧ ∀ x ∈ l, StmOk x := by
        intro es
        induction es with
        | nil => intro _; exact ⟨[], rfl, nofun⟩
        | cons a es ihe =>
          intro hq
          obtain ⟨x, hx, hxo⟩ := hq 0 (by simp)
          obtain ⟨l, hl, hlo⟩ := ihe (fun i hi => hq (i + 1) (by simpa using hi))
          refine ⟨x :: l, ?_, fun y hy => ?_⟩
          · rw [List.map_cons, ← hl, ← hx]; rfl
          · rcases List.mem_cons.1 hy with rfl | hy
            · exact hxo
            · exact hlo y hy
      obtain ⟨l, hl2, hlo⟩ := key es hf
      subst hl2
      refine ⟨l, e, ?_, hlo⟩
      rw [List.length_map] at hl
      rw [stmt_bytes] at hl
      omega
  | @st t fs ps cs h hl he e ih =>
    clear no
    refine ⟨fun h1 => ?_, fun h1 => ?_⟩
    · subst h1
      have hft : fs.toList.map (·.type) = [3, 9, 9, 2, 22, 74, 74] := by
        have h2 := stmt_parts
        unfold partTypes at h2
        rw [h] at h2
        exact Option.some.inj h2
      have hsz : fs.size = 7 := by
        have := congrArg List.length hft
        simpa using this
      have hty : ∀ (i : Nat) (u : TypeId), [3, 9, 9, 2, 22, 74, 74][i]? = some u → ∃ f, fs[i]? = some f ∧ f.type = u := by
        intro i u hi
        rw [← hft, List.getElem?_map] at hi
        obtain ⟨f, hf, rfl⟩ := Option.map_eq_some_iff.1 hi
        exact ⟨f, (Array.getElem?_toList ..).symm.trans hf, rfl⟩
      match ps, hl.trans hsz with
      | [a0, a1, a2, a3, a4, a5, a6], _ =>
        obtain ⟨f0, hf0, ht0⟩ := hty 0 _ rfl
        obtain ⟨f1, hf1, ht1⟩ := hty 1 _ rfl
        obtain ⟨f2, hf2, ht2⟩ := hty 2 _ rfl
        obtain ⟨f3, hf3, ht3⟩ := hty 3 _ rfl
        obtain ⟨f4, hf4, ht4⟩ := hty 4 _ rfl
        obtain ⟨f5, hf5, ht5⟩ := hty 5 _ rfl
        obtain ⟨f6, hf6, ht6⟩ := hty 6 _ rfl
        obtain ⟨n0, h0, w0⟩ := fits_int (k := .i64) int_u (ht0 ▸ he 0 f0 hf0)
        obtain ⟨s1, h1, w1⟩ := fits_str str_u (ht1 ▸ he 1 f1 hf1)
        obtain ⟨s2, h2, w2⟩ := fits_str str_u (ht2 ▸ he 2 f2 hf2)
        obtain ⟨n3, h3, w3⟩ := fits_int (k := .i64) int64_u (ht3 ▸ he 3 f3 hf3)
        obtain ⟨l4, h4, w4, w4'⟩ := (expr_in' (ht4 ▸ he 4 f4 hf4)).2 rfl
        obtain ⟨l5, h5, w5, w5'⟩ := (ih 5 f5 hf5 (fun {u} h1 h2 h3 => by rw [ht5, stmts_el] at h1; exact absurd (Option.some.inj h1).symm (h3 _))).2 ht5
        obtain ⟨l6, h6, w6, w6'⟩ := (ih 6 f6 hf6 (fun {u} h1 h2 h3 => by rw [ht6, stmts_el] at h1; exact absurd (Option.some.inj h1).symm (h3 _))).2 ht6
        have h0' : a0 = _ := h0
        have h1' : a1 = _ := h1
        have h2' : a2 = _ := h2
        have h3' : a3 = _ := h3
        have h4' : a4 = _ := h4
        have h5' : a5 = _ := h5
        have h6' : a6 = _ := h6
        refine ⟨.mk n0 s1 s2 n3 l4 l5 l6, ?_, .mk w0 w1 w2 w3 w4 w4' w5 w5' w6 w6'⟩
        rw [e, Stm.v_mk, h0', h1', h2', h3', h4', h5', h6']
        rfl
    · rw [h1, stmts_el] at h; cases h
theorem stmt_in {cs : List V} (h : Fits Sp.P Sp.pz T_api_Stmt cs) : ∃ x : Stm, cs = x.v ∧ StmOk x := (stmt_in' h).1 rfl
end Go.Proofs.Ytipjanijidbelaa
