/- Expressions by value. Own work. -/
import Derived.Test.YtipjanijidbelaaPxOpen
import Derived.Test.YtipjanijidbelaaAbS
import Derived.KernelRfl
namespace Go.Proofs.Ytipjanijidbelaa
open Go Go.Proofs.Ab Go.Proofs.Px
set_option linter.unusedVariables false
set_option linter.unusedSimpArgs false
set_option maxRecDepth 100000

/-- An expression. -/
inductive Ex where
  | mk (kind : Int) (name : List UInt8) (num : Int) (l : List Ex)
instance : Inhabited Ex := ⟨.mk 0 [] 0 []⟩
def Ex.kind : Ex → Int | .mk k _ _ _ => k
def Ex.name : Ex → List UInt8 | .mk _ n _ _ => n
def Ex.num : Ex → Int | .mk _ _ m _ => m
def Ex.l : Ex → List Ex | .mk _ _ _ l => l
mutual
def Ex.v : Ex → List V
  | .mk k n m l => [.int .i64 k, .str (B n), .int .i64 m, .sl .no T_api_Expr (Ex.vs l)]
def Ex.vs : List Ex → List (List V)
  | [] => []
  | x :: l => Ex.v x :: Ex.vs l
end
theorem Ex.vs_map : ∀ l : List Ex, Ex.vs l = l.map Ex.v
  | [] => by rw [Ex.vs]; rfl
  | x :: l => by rw [Ex.vs, Ex.vs_map l]; rfl
theorem Ex.v_mk (k : Int) (n : List UInt8) (m : Int) (l : List Ex) : Ex.v (.mk k n m l) = [.int .i64 k, .str (B n), .int .i64 m, .sl .no T_api_Expr (l.map Ex.v)] := by rw [Ex.v, Ex.vs_map]
theorem Ex.v_is (x : Ex) : x.v = [.int .i64 x.kind, .str (B x.name), .int .i64 x.num, .sl .no T_api_Expr (x.l.map Ex.v)] := by cases x; exact Ex.v_mk ..
mutual
theorem Ex.ind {p : Ex → Prop} (h : ∀ k n m l, (∀ x ∈ l, p x) → p (.mk k n m l)) : ∀ x, p x
  | .mk k n m l => h k n m l (Ex.inds h l)
theorem Ex.inds {p : Ex → Prop} (h : ∀ k n m l, (∀ x ∈ l, p x) → p (.mk k n m l)) : ∀ (l : List Ex) (x : Ex), x ∈ l → p x
  | [] => nofun
  | y :: l => fun x hx => (List.mem_cons.1 hx).elim (fun e => e ▸ Ex.ind h y) (Ex.inds h l x)
end
/-- What is known of an expression that came in. -/
inductive ExOk : Ex → Prop where
  | mk {k : Int} {n : List UInt8} {m : Int} {l : List Ex} (hk : (Lit.int .i64 k).wf = true) (hn : n.length ≤ 140737488351232) (hm : (Lit.int .i64 m).wf = true) (hl : l.length ≤ 140737488351232) (h : ∀ x ∈ l, ExOk x) : ExOk (.mk k n m l)
theorem ExOk.inv {k : Int} {n : List UInt8} {m : Int} {l : List Ex} (h : ExOk (.mk k n m l)) : (Lit.int .i64 k).wf = true ∧ n.length ≤ 140737488351232 ∧ (Lit.int .i64 m).wf = true ∧ l.length ≤ 140737488351232 ∧ ∀ x ∈ l, ExOk x := by
  cases h with
  | mk hk hn hm hl h => exact ⟨hk, hn, hm, hl, h⟩
mutual
/-- How great an expression is. -/
def Ex.size : Ex → Nat
  | .mk _ n _ l => 1 + n.length / 8 + Ex.sizes l
def Ex.sizes : List Ex → Nat
  | [] => 0
  | x :: l => Ex.size x + Ex.sizes l
end
theorem Ex.size_pos (x : Ex) : 0 < x.size := by cases x; rw [Ex.size]; omega
theorem Ex.size_mem : ∀ {l : List Ex} {x : Ex}, x ∈ l → x.size ≤ Ex.sizes l
  | y :: l, x, h => by
    rw [Ex.sizes]
    rcases List.mem_cons.1 h with rfl | h
    · omega
    · have := Ex.size_mem h; omega
theorem Ex.sizes_len : ∀ l : List Ex, l.length ≤ Ex.sizes l
  | [] => Nat.zero_le _
  | x :: l => by rw [Ex.sizes]; have := Ex.size_pos x; have := Ex.sizes_len l; simp only [List.length_cons]; omega
theorem partTypes_st {P : Program} {t : TypeId} {ts : List TypeId} (h : partTypes P t = some ts) : ∃ fs : Array Field, P.underlying t = some (.struct fs) := by
  unfold partTypes at h
  split at h
  · rename_i fs hf; exact ⟨fs, hf⟩
  · cases h
theorem expr_parts : partTypes Sp.P T_api_Expr = some [3, 9, 2, 22] := by kernel_rfl
theorem exprs_el : Program.underlying Sp.P 22 = some (.slice T_api_Expr) := by kernel_rfl
theorem int_u : Program.underlying Sp.P 3 = some (.int .i64) := by kernel_rfl
theorem int64_u : Program.underlying Sp.P 2 = some (.int .i64) := by kernel_rfl
theorem str_u : Program.underlying Sp.P 9 = some .string := by kernel_rfl
theorem bool_u : Program.underlying Sp.P 4 = some .bool := by kernel_rfl
theorem expr_pz : Sp.pz T_api_Expr = false := by kernel_rfl
theorem expr_in' : ∀ {t : TypeId} {cs : List V}, Fits Sp.P Sp.pz t cs → (t = T_api_Expr → ∃ x : Ex, cs = x.v ∧ ExOk x) ∧ (t = 22 → ∃ l : List Ex, cs = [.sl .no T_api_Expr (l.map Ex.v)] ∧ l.length ≤ 140737488351232 ∧ ∀ x ∈ l, ExOk x) := by
  intro t cs h
  obtain ⟨fs0, hfs⟩ := partTypes_st expr_parts
  have no : ∀ {u}, Program.underlying Sp.P t = some u → (∀ fs, u ≠ .struct fs) → (∀ e, u ≠ .slice e) → (t = T_api_Expr → ∃ x : Ex, cs = x.v ∧ ExOk x) ∧ (t = 22 → ∃ l : List Ex, cs = [.sl .no T_api_Expr (l.map Ex.v)] ∧ l.length ≤ 140737488351232 ∧ ∀ x ∈ l, ExOk x) := by
    intro u h1 h2 h3
    refine ⟨fun ht => ?_, fun ht => ?_⟩
    · rw [ht, hfs] at h1; exact absurd (Option.some.inj h1).symm (h2 _)
    · rw [ht, exprs_el] at h1; exact absurd (Option.some.inj h1).symm (h3 _)
  induction h with
  | int h hw e => exact no h (fun _ => nofun) (fun _ => nofun)
  | bool h e => exact no h (fun _ => nofun) (fun _ => nofun)
  | str h hw e => exact no h (fun _ => nofun) (fun _ => nofun)
  | @sl t el tok es cs h ht hl hm he e ih =>
    clear no
    refine ⟨fun h1 => ?_, fun h1 => ?_⟩
    · rw [h1, hfs] at h; cases h
    · subst h1
      obtain rfl : T_api_Expr = el := by rw [exprs_el] at h; injection h with h; injection h
      have hf : ∀ i, i < es.length → ∃ x : Ex, es.getD i [] = x.v ∧ ExOk x := fun i hi => (ih i hi (fun {u} h1 h2 h3 => by rw [hfs] at h1; exact absurd (Option.some.inj h1).symm (h2 _))).1 rfl
      unfold ZTok at ht
      rw [expr_pz, if_neg (by simp)] at ht
      subst ht
      have key : ∀ es : List (List V), (∀ i, i < es.length → ∃ x : Ex, es.getD i [] = x.v ∧ ExOk x) → ∃ l : List Ex, es = l.map Ex.v ∧ ∀ x ∈ l, ExOk x := by
        intro es
        induction es with
        | nil => intro _; exact ⟨[], rfl, nofun⟩
        | cons a es ihe =>
          intro hq
          obtain ⟨x, hx, hxo⟩ := hq 0 (by simp)
          obtain ⟨l, hl, hlo⟩ := ihe (fun i hi => hq (i + 1) (by simpa using hi))
          refine ⟨x :: l, ?_, fun y hy => ?_⟩
          · rw [List.map_cons, ← hl, ← hx]; rfl
          · rcases List.mem_cons.1 hy with rfl | hy
            · exact hxo
            · exact hlo y hy
      obtain ⟨l, hl2, hlo⟩ := key es hf
      subst hl2
      refine ⟨l, e, ?_, hlo⟩
      rw [List.length_map] at hl
      have hb : Program.bytesOf Sp.P T_api_Expr = 56 := by kernel_rfl
      rw [hb] at hl
      omega
  | @st t fs ps cs h hl he e ih =>
    clear no
    refine ⟨fun h1 => ?_, fun h1 => ?_⟩
    · subst h1
      have hft : fs.toList.map (·.type) = [3, 9, 2, 22] := by
        have h2 := expr_parts
        unfold partTypes at h2
        rw [h] at h2
        exact Option.some.inj h2
      have hsz : fs.size = 4 := by
        have := congrArg List.length hft
        simpa using this
      have hty : ∀ (i : Nat) (u : TypeId), [3, 9, 2, 22][i]? = some u → ∃ f, fs[i]? = some f ∧ f.type = u := by
        intro i u hi
        rw [← hft, List.getElem?_map] at hi
        obtain ⟨f, hf, rfl⟩ := Option.map_eq_some_iff.1 hi
        exact ⟨f, (Array.getElem?_toList ..).symm.trans hf, rfl⟩
      match ps, hl.trans hsz with
      | [a, b, c, d], _ =>
        obtain ⟨f0, hf0, ht0⟩ := hty 0 _ rfl
        obtain ⟨f1, hf1, ht1⟩ := hty 1 _ rfl
        obtain ⟨f2, hf2, ht2⟩ := hty 2 _ rfl
        obtain ⟨f3, hf3, ht3⟩ := hty 3 _ rfl
        obtain ⟨n0, h0, w0⟩ := fits_int (k := .i64) int_u (ht0 ▸ he 0 f0 hf0)
        obtain ⟨s, h1, w1⟩ := fits_str str_u (ht1 ▸ he 1 f1 hf1)
        obtain ⟨n2, h2, w2⟩ := fits_int (k := .i64) int64_u (ht2 ▸ he 2 f2 hf2)
        obtain ⟨l, h3, w3, w4⟩ := (ih 3 f3 hf3 (fun {u} h1 h2 h3 => by rw [ht3, exprs_el] at h1; exact absurd (Option.some.inj h1).symm (h3 _))).2 ht3
        have h0' : a = _ := h0
        have h1' : b = _ := h1
        have h2' : c = _ := h2
        have h3' : d = _ := h3
        refine ⟨.mk n0 s n2 l, ?_, .mk w0 w1 w2 w3 w4⟩
        rw [e, Ex.v_mk, h0', h1', h2', h3']
        rfl
    · rw [h1, exprs_el] at h; cases h
theorem expr_in {cs : List V} (h : Fits Sp.P Sp.pz T_api_Expr cs) : ∃ x : Ex, cs = x.v ∧ ExOk x := (expr_in' h).1 rfl
@[simp] theorem Ex.v_0 (x : Ex) : x.v.getD 0 .undef = .int .i64 x.kind := by rw [Ex.v_is]; rfl
@[simp] theorem Ex.v_1 (x : Ex) : x.v.getD 1 .undef = .str (B x.name) := by rw [Ex.v_is]; rfl
@[simp] theorem Ex.v_2 (x : Ex) : x.v.getD 2 .undef = .int .i64 x.num := by rw [Ex.v_is]; rfl
@[simp] theorem Ex.v_3 (x : Ex) : x.v.getD 3 .undef = .sl .no T_api_Expr (x.l.map Ex.v) := by rw [Ex.v_is]; rfl
theorem Ex.v_agg (x : Ex) : V.agg [.int .i64 x.kind, .str (B x.name), .int .i64 x.num, .sl .no T_api_Expr (x.l.map Ex.v)] = .agg x.v := by rw [Ex.v_is]

@[simp] theorem Ex.kind_mk (k : Int) (s : List UInt8) (m : Int) (l : List Ex) : (Ex.mk k s m l).kind = k := rfl
@[simp] theorem Ex.name_mk (k : Int) (s : List UInt8) (m : Int) (l : List Ex) : (Ex.mk k s m l).name = s := rfl
@[simp] theorem Ex.num_mk (k : Int) (s : List UInt8) (m : Int) (l : List Ex) : (Ex.mk k s m l).num = m := rfl
@[simp] theorem Ex.l_mk (k : Int) (s : List UInt8) (m : Int) (l : List Ex) : (Ex.mk k s m l).l = l := rfl
theorem Ex.eta (x : Ex) : Ex.mk x.kind x.name x.num x.l = x := by cases x; rfl
@[simp] theorem Ex.v_list (x : Ex) : [V.int .i64 x.kind, V.str (B x.name), V.int .i64 x.num, V.sl .no T_api_Expr (x.l.map Ex.v)] = x.v := by rw [Ex.v_is]
@[simp] theorem asAgg_ex (x : Ex) (k : (Nat → V) → Option Res) : V.asAgg (.agg x.v) 4 k = k (fun j => x.v.getD j .undef) := asAgg_agg _ _ (by rw [Ex.v_is]; rfl) k
theorem ret_ex (x : Ex) : some (Res.mk (.ret (.agg x.v)) [] none) = some ⟨.ret (.agg [V.int .i64 x.kind, V.str (B x.name), V.int .i64 x.num, V.sl .no T_api_Expr (x.l.map Ex.v)]), [], none⟩ := by rw [Ex.v_is]
@[simp] theorem Ex.q0 (x : Ex) : x.v[0]?.getD V.undef = .int .i64 x.kind := by rw [Ex.v_is]; rfl
@[simp] theorem Ex.q1 (x : Ex) : x.v[1]?.getD V.undef = .str (B x.name) := by rw [Ex.v_is]; rfl
@[simp] theorem Ex.q2 (x : Ex) : x.v[2]?.getD V.undef = .int .i64 x.num := by rw [Ex.v_is]; rfl
@[simp] theorem Ex.q3 (x : Ex) : x.v[3]?.getD V.undef = .sl .no T_api_Expr (x.l.map Ex.v) := by rw [Ex.v_is]; rfl
end Go.Proofs.Ytipjanijidbelaa
