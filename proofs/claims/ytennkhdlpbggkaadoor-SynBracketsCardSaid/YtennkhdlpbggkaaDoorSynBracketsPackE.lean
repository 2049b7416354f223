/- Own texts under the law SynBrackets, merged, without what it does not lean on: part 5 of 6 (the abstract machine and its proof; residual forms; contracts; the plain law). -/
import Derived.Test.YtennkhdlpbggkaaDoorSynBracketsPackD
import Derived.Lib.SmallJoins
import Derived.SizedLaws
import Derived.Laws.Bits64
import Derived.KernelRfl
set_option linter.unusedVariables false
set_option linter.unusedSimpArgs false
set_option linter.unusedSectionVars false
set_option maxRecDepth 100000
namespace Go.Proofs.Px
open Go Go.Proofs.Ab Go.ChangeShapes Go.WideShapes Go.ChangeAt Go.WideMaps Go.WideElems Go.RowKit
def ZTok (z : Bool) (tok : Tok) (es : List (List V)) : Prop := if z = true then (tok = .nil ∧ es = []) ∨ tok = .nn else tok = .no
inductive Fits (P : Program) (pz : TypeId -> Bool) : TypeId -> List V -> Prop where
 | int {t : TypeId} {k : IntKind} {n : Int} {cs : List V} (h : P.underlying t = some (.int k)) (hw : (Lit.int k n).wf = true) (e : cs = [.int k n]) : Fits P pz t cs
 | bool {t : TypeId} {b : Bool} {cs : List V} (h : P.underlying t = some .bool) (e : cs = [.bool b]) : Fits P pz t cs
 | str {t : TypeId} {s : ByteArray} {cs : List V} (h : P.underlying t = some .string) (hw : s.size <= 140737488351232) (e : cs = [.str s]) : Fits P pz t cs
 | sl {t el : TypeId} {tok : Tok} {es : List (List V)} {cs : List V} (h : P.underlying t = some (.slice el)) (ht : ZTok (pz el) tok es) (hl : es.length * P.bytesOf el <= 140737488351232) (hm : es.length <= maxLen) (he : ∀ i, i < es.length -> Fits P pz el (es.getD i [])) (e : cs = [.sl tok el es]) : Fits P pz t cs
 | st {t : TypeId} {fs : Array Field} {ps : List (List V)} {cs : List V} (h : P.underlying t = some (.struct fs)) (hl : ps.length = fs.size) (he : ∀ (i : Nat) (f : Field), fs[i]? = some f -> Fits P pz f.type (ps.getD i [])) (e : cs = ps.flatten) : Fits P pz t cs
def Rep (P : Program) (W : World) (vs : List V) (cs : List Value) : Prop :=
 vs.length = cs.length ∧ ∀ j, j < cs.length -> PRep P W (Before W) (vs.getD j .undef) (cs.getD j Go.undef) ∧ (cs.getD j Go.undef).oneCell' = true
theorem Rep.one {P : Program} {W : World} {v : V} {x : Value} (h : PRep P W (Before W) v x) (ho : x.oneCell' = true) : Rep P W [v] [x] := by
 refine ⟨rfl, fun j hj => ?_⟩
 obtain rfl : j = 0 := by simp at hj; exact hj
 exact ⟨h, ho⟩
theorem Rep.app {P : Program} {W : World} {vs us : List V} {cs ds : List Value} (h : Rep P W vs cs) (g : Rep P W us ds) : Rep P W (vs ++ us) (cs ++ ds) := by
 refine ⟨by simp [h.1, g.1], fun j hj => ?_⟩
 rw [List.getD_eq_getElem?_getD, List.getD_eq_getElem?_getD, List.getElem?_append, List.getElem?_append, h.1]
 split
 ·rename_i hlt
  simpa [List.getD_eq_getElem?_getD] using h.2 j hlt
 ·rename_i hge
  have := g.2 (j - cs.length) (by rw [List.length_append] at hj; omega)
  simpa [List.getD_eq_getElem?_getD] using this
theorem Rep.nil {P : Program} {W : World} : Rep P W [] [] := ⟨rfl, fun j hj => by cases hj⟩
end Go.Proofs.Px
namespace Go.Proofs.Px
open Go Go.Proofs.Ab
theorem i64_bounds {n : Int} (h : (Lit.int .i64 n).wf = true) : -9223372036854775808 <= n ∧ n <= 9223372036854775807 := by
 simpa [Lit.wf, IntKind.min, IntKind.max, IntKind.signed, IntKind.bits] using h
structure TkOk (t : Tk) : Prop where
 text : t.text.length <= 140737488351232
 kind : (Lit.int .i64 t.kind).wf = true
 num : (Lit.int .i64 t.num).wf = true
 at_ : (Lit.int .i64 t.at_).wf = true
def isSign (l : List UInt8) : Bool := signs.contains l
theorem signIn_or (r : List UInt8) : ∀ l, signIn r l = [] ∨ signIn r l ∈ l
 | [] => .inl rfl
 | x :: l => by
  unfold signIn
  split
  ·exact .inr List.mem_cons_self
  ·exact (signIn_or r l).imp id (List.mem_cons_of_mem _)
theorem word_all : ∀ {l : List UInt8} (h : ∀ c ∈ l, inn c = true), word l = l
 | [], _ => rfl
 | c :: l, h => by
  have := word_all (l := l) fun d hd => h d (List.mem_cons_of_mem _ hd)
  unfold word at *
  rw [List.takeWhile_cons, h c List.mem_cons_self, if_pos rfl, this]
theorem name_facts {l : List UInt8} (h : isName (B l) = true) : l ≠ [] ∧ l.length <= 40 ∧ lt (l.getD 0 0) = true ∧ isKeyL l = false ∧ word l = l := by
 unfold isName at h
 simp only [Bool.and_eq_true, decide_eq_true_eq, Bool.not_eq_true', B_size, B_byte] at h
 obtain ⟨⟨⟨⟨h1, h2⟩, h3⟩, h4⟩, h5⟩ := h
 refine ⟨fun h0 => (by subst h0; simp at h1), h2, h3, (isKey_B l).symm.trans h4, word_all fun c hc => ?_⟩
 obtain ⟨i, hi, rfl⟩ := List.getElem_of_mem hc
 have := allF_iff.1 h5 i (Nat.zero_le _) hi
 rw [List.getD_eq_getElem?_getD, List.getElem?_eq_getElem hi] at this
 exact this
theorem key_facts {l : List UInt8} (h : isKeyL l = true) : l ≠ [] ∧ l.length <= 40 ∧ lt (l.getD 0 0) = true ∧ word l = l := by
 have h1 : keysL.all (fun x => !decide (x = []) && decide (x.length <= 40) && lt (x.getD 0 0) && decide (word x = x)) = true := by decide
 unfold isKeyL at h
 obtain ⟨k, hk, h2⟩ := List.any_eq_true.1 h
 obtain rfl := of_decide_eq_true h2
 have := List.all_eq_true.1 h1 k hk
 simp only [Bool.and_eq_true, decide_eq_true_eq, Bool.not_eq_true', decide_eq_false_iff_not] at this
 exact ⟨this.1.1.1, this.1.1.2, this.1.2, this.2⟩
def wrOk (t : Tk) : Bool :=
 if t.kind = 1 then decide (t.num = 0) && isName (B t.text) else if t.kind = 3 then decide (t.num = 0) && isKeyL t.text else
  if t.kind = 4 then decide (t.num = 0) && isSign t.text else if t.kind = 2 then decide (t.text = []) && decide (0 <= t.num) else false
def wrT (t : Tk) : List UInt8 := if t.kind = 2 then decs t.num else t.text
def endT (t : Tk) : Bool := decide (t.kind = 0) && decide (t.text = []) && decide (t.num = 0)
def rightL : List Tk -> Bool
 | [] => false
 | [t] => endT t
 | t :: u :: l => wrOk t && rightL (u :: l)
@[simp] theorem int_beq (a b : Int) : (a == b) = decide (a = b) := by by_cases h : a = b <;> simp [h]
@[simp] theorem int_bne (a b : Int) : (a != b) = !decide (a = b) := by by_cases h : a = b <;> simp [bne, h]
@[simp] theorem nat_neg_not (n : Nat) : (((n : Nat) : Int) < 0) = False := by simp
@[simp] theorem mk_B (l : List UInt8) : ByteArray.mk l.toArray = B l := rfl
@[simp] theorem B_eq (a b : List UInt8) : (B a = B b) = (a = b) := propext B_inj
def tkz (z : Bool) : Tok := if z then .nil else .nn
@[simp] theorem tkz_true : tkz true = .nil := rfl
@[simp] theorem tkz_false : tkz false = .nn := rfl
@[simp] theorem tokOf_tkz (z : Bool) (es : List (List V)) : tokOf true (tkz z) es = tkz z := by cases z <;> rfl
@[simp] theorem tokOf_nil (es : List (List V)) : tokOf true .nil es = .nil := rfl
@[simp] theorem tokOf_nn (es : List (List V)) : tokOf true .nn es = .nn := rfl
@[simp] theorem asSlN_nil {R : Type} (e : TypeId) (es : List (List V)) (k : Bool -> List (List V) -> Option R) : V.asSlN (.sl .nil e es) e k = k true es := by simp [V.asSlN]
@[simp] theorem asSlN_nn {R : Type} (e : TypeId) (es : List (List V)) (k : Bool -> List (List V) -> Option R) : V.asSlN (.sl .nn e es) e k = k false es := by simp [V.asSlN]
@[simp] theorem asSlN_tkz {R : Type} (z : Bool) (e : TypeId) (es : List (List V)) (k : Bool -> List (List V) -> Option R) : V.asSlN (.sl (tkz z) e es) e k = k z es := by cases z <;> simp
def sv (l : List (List UInt8)) : List (List V) := l.map fun s => [.str (B s)]
def iv (l : List Int) : List (List V) := l.map fun n => [.int .i64 n]
@[simp] theorem sv_len (l : List (List UInt8)) : (sv l).length = l.length := by simp [sv]
@[simp] theorem iv_len (l : List Int) : (iv l).length = l.length := by simp [iv]
@[simp] theorem sv_nil : sv [] = [] := rfl
@[simp] theorem iv_nil : iv [] = [] := rfl
theorem map_at {α : Type} (f : α -> List V) (l : List α) (i : Nat) (h : i < l.length) : List.getD (l.map f) i [] = f l[i] := by
 rw [List.getD_eq_getElem?_getD, List.getElem?_map, List.getElem?_eq_getElem h]; rfl
@[simp] theorem iv_app (a b : List Int) : iv a ++ iv b = iv (a ++ b) := by simp [iv]
@[simp] theorem sv_app (a b : List (List UInt8)) : sv a ++ sv b = sv (a ++ b) := by simp [sv]
theorem in_row {i n : Nat} (h : i < n) : (0 : Int) <= (i : Int) ∧ (i : Int) < ((n : Nat) : Int) := by omega
end Go.Proofs.Px
namespace Go.Proofs.YtennkhdlpbggkaaDoor
open Go Go.Proofs.Ab
namespace lex_letter
theorem eq (a0 : Int) : den Sp id [V.int IntKind.u8 a0] [] none =
  (bif (decide (a0 >= (65 : Int))) then (bif (decide (a0 <= (90 : Int))) then (some ⟨Out.ret (V.bool true), [], none⟩) else (bif (decide (a0 >= (97 : Int))) then (some ⟨Out.ret (V.bool (decide (a0 <= (122 : Int)))), [], none⟩) else (some ⟨Out.ret (V.bool false), [], none⟩))) else (bif (decide (a0 >= (97 : Int))) then (some ⟨Out.ret (V.bool (decide (a0 <= (122 : Int)))), [], none⟩) else (some ⟨Out.ret (V.bool false), [], none⟩))) := (den_eq ..).trans (by kernel_rfl)
end lex_letter
namespace lex_digit
theorem eq (a0 : Int) : den Sp id [V.int IntKind.u8 a0] [] none =
  (bif (decide (a0 >= (48 : Int))) then (some ⟨Out.ret (V.bool (decide (a0 <= (57 : Int)))), [], none⟩) else (some ⟨Out.ret (V.bool false), [], none⟩)) := (den_eq ..).trans (by kernel_rfl)
end lex_digit
namespace lex_inner
theorem eq (a0 : Int) : den Sp id [V.int IntKind.u8 a0] [] none =
  (den Sp lex_letter.id [V.int IntKind.u8 a0] [] none).bind (fun r3 => Res.onRet r3 (fun v4 => V.asBool v4 (fun b5 => bif b5 then (some ⟨Out.ret (V.bool true), [], none⟩) else (den Sp lex_digit.id [V.int IntKind.u8 a0] [] none).bind (fun r6 => Res.onRet r6 (fun v7 => V.asBool v7 (fun b8 => bif b8 then (some ⟨Out.ret (V.bool true), [], none⟩) else (some ⟨Out.ret (V.bool (a0 == (95 : Int))), [], none⟩))))))) := (den_eq ..).trans (by kernel_rfl)
end lex_inner
namespace lex_isKey
noncomputable abbrev e (p : List Nat) := ev Sp (den Sp) id Tryd.f59.ntmps (cAt (bodyOf Tryd.f59) p)
noncomputable abbrev cn (n0 : List Nat) := canon Sp id n0
noncomputable abbrev K : K := kFin Sp (den Sp) (Sp.oo id) Tryd.f59 0
noncomputable def L1_0_1_0 (s0 : ByteArray) (i1 : Int) : Option Res := LP (e [1, 0, 1, 0, 0]) (cn []) (kBlk 0 (kSeq (e [1, 1]) (K))) ([(0, (V.str s0)), (5, (V.agg [V.str (ByteArray.mk #[112, 114, 111, 99]), V.str (ByteArray.mk #[118, 97, 114]), V.str (ByteArray.mk #[105, 102]), V.str (ByteArray.mk #[101, 108, 115, 101]), V.str (ByteArray.mk #[119, 104, 105, 108, 101]), V.str (ByteArray.mk #[114, 101, 116, 117, 114, 110]), V.str (ByteArray.mk #[112, 114, 105, 110, 116]), V.str (ByteArray.mk #[114, 101, 97, 100]), V.str (ByteArray.mk #[97, 115, 115, 101, 114, 116]), V.str (ByteArray.mk #[105, 110, 116]), V.str (ByteArray.mk #[98, 111, 111, 108]), V.str (ByteArray.mk #[116, 114, 117, 101]), V.str (ByteArray.mk #[102, 97, 108, 115, 101])])), (6, (V.int .i64 i1))], ⟨[], [], [], [], none⟩)
theorem L1_0_1_0_eq (s0 : ByteArray) (i1 : Int) : L1_0_1_0 s0 i1 =
  (bif (decide (i1 < (13 : Int))) then (if (((0 : Int) <= i1) ∧ (i1 < ((13 : Nat) : Int))) then (V.asStr (List.getD [V.str (ByteArray.mk #[112, 114, 111, 99]), V.str (ByteArray.mk #[118, 97, 114]), V.str (ByteArray.mk #[105, 102]), V.str (ByteArray.mk #[101, 108, 115, 101]), V.str (ByteArray.mk #[119, 104, 105, 108, 101]), V.str (ByteArray.mk #[114, 101, 116, 117, 114, 110]), V.str (ByteArray.mk #[112, 114, 105, 110, 116]), V.str (ByteArray.mk #[114, 101, 97, 100]), V.str (ByteArray.mk #[97, 115, 115, 101, 114, 116]), V.str (ByteArray.mk #[105, 110, 116]), V.str (ByteArray.mk #[98, 111, 111, 108]), V.str (ByteArray.mk #[116, 114, 117, 101]), V.str (ByteArray.mk #[102, 97, 108, 115, 101])] (((Int.toNat i1) * 1) + 0) V.undef) (fun s7 => bif (decide (s0 = s7)) then (some ⟨Out.ret (V.bool true), [], none⟩) else (L1_0_1_0 s0 (IntKind.wrap .i64 (i1 + (1 : Int)))))) else none) else (some ⟨Out.ret (V.bool false), [], none⟩)) := (LP_eq ..).trans (by kernel_rfl)
theorem eq (a0 : ByteArray) : den Sp id [V.str a0] [] none =
  (L1_0_1_0 a0 (0 : Int)) := (den_eq ..).trans (by kernel_rfl)
end lex_isKey
namespace lex_Scan
noncomputable abbrev e (p : List Nat) := ev Sp (den Sp) id Tryd.f18.ntmps (cAt (bodyOf Tryd.f18) p)
noncomputable abbrev cn (n0 : List Nat) := canon Sp id n0
noncomputable abbrev K : K := kFin Sp (den Sp) (Sp.oo id) Tryd.f18 0
noncomputable def L1_1_1_1_0 (l0 : List (List V)) (s1 : ByteArray) (i2 : Int) : Option Res := LP (e [1, 1, 1, 1, 0, 0]) (cn [1015]) (kBlk 0 (K)) ([(5, (V.ref 1015 0)), (6, (V.sl (Tok.row 0) T_api_Token l0))], ⟨[(1015, (Blk.cells T_lex_reader [V.str s1, V.int .i64 i2] false))], [0], [], [], none⟩)
theorem L1_1_1_1_0_eq (l0 : List (List V)) (s1 : ByteArray) (i2 : Int) : L1_1_1_1_0 l0 s1 i2 =
  (den Sp lex_reader_blank.id [V.ref 0 0] [Blk.cells T_lex_reader [V.str s1, V.int .i64 i2] false] none).bind (fun r9 => Blk.asCells (List.getD (Res.bl r9) 0 (Blk.cells T_n0 [] true)) T_lex_reader 2 (fun rd10 => V.asStr (rd10 0) (fun s11 => V.asInt (rd10 1) .i64 (fun n12 => Res.onRet r9 (fun v13 => V.asTup v13 0 (fun rd14 => (den Sp lex_reader_next.id [V.ref 0 0] [Blk.cells T_lex_reader [V.str s11, V.int .i64 n12] false] none).bind (fun r17 => Blk.asCells (List.getD (Res.bl r17) 0 (Blk.cells T_n0 [] true)) T_lex_reader 2 (fun rd18 => V.asStr (rd18 0) (fun s19 => V.asInt (rd18 1) .i64 (fun n20 => Res.onRet r17 (fun v21 => V.asTup v21 2 (fun rd22 => V.asAgg (rd22 0) 4 (fun rd23 => V.asInt (rd23 0) .i64 (fun n24 => V.asStr (rd23 1) (fun s25 => V.asInt (rd23 2) .i64 (fun n26 => V.asInt (rd23 3) .i64 (fun n27 => V.asBool (rd22 1) (fun b28 => bif (!b28) then (some ⟨Out.ret (V.tup [V.sl .no T_api_Token [], V.int .i64 n12, V.int .i64 (20 : Int)]), [], none⟩) else (bif ((l0.length : Int) == (4000 : Int)) then (some ⟨Out.ret (V.tup [V.sl .no T_api_Token [], V.int .i64 n12, V.int .i64 (2 : Int)]), [], none⟩) else (if (((List.length l0) + (List.length [[V.int .i64 n24, V.str s25, V.int .i64 n26, V.int .i64 n27]])) <= most) then (bif (n24 == (0 : Int)) then (some ⟨Out.ret (V.tup [V.sl .no T_api_Token (l0 ++ [[V.int .i64 n24, V.str s25, V.int .i64 n26, V.int .i64 n27]]), V.int .i64 (0 : Int), V.int .i64 (0 : Int)]), [], none⟩) else (L1_1_1_1_0 (l0 ++ [[V.int .i64 n24, V.str s25, V.int .i64 n26, V.int .i64 n27]]) s19 n20)) else none)))))))))))))))))))) := (LP_eq ..).trans (by kernel_rfl)
theorem eq (a0 : ByteArray) : den Sp id [V.str a0] [] none =
  (bif (decide ((((ByteArray.size a0) : Nat) : Int) > (16384 : Int))) then (some ⟨Out.ret (V.tup [V.sl .no T_api_Token [], V.int .i64 (0 : Int), V.int .i64 (2 : Int)]), [], none⟩) else (L1_1_1_1_0 [] a0 (0 : Int))) := (den_eq ..).trans (by kernel_rfl)
end lex_Scan
namespace lex_reader_blank
noncomputable abbrev e (p : List Nat) := ev Sp (den Sp) id Tryd.f32.ntmps (cAt (bodyOf Tryd.f32) p)
noncomputable abbrev cn (n0 : List Nat) := canon Sp id n0
noncomputable abbrev K : K := kFin Sp (den Sp) (Sp.oo id) Tryd.f32 1
noncomputable def L0 (s0 : ByteArray) (i1 : Int) : Option Res := LP (e [0, 0]) (cn [0]) (kBlk 0 (K)) ([(0, (V.ref 0 0))], ⟨[(0, (Blk.cells T_lex_reader [V.str s0, V.int .i64 i1] false))], [], [], [], none⟩)
noncomputable def L0_0_1_0_1_0_1_1_1_0_0 (s0 : ByteArray) (i1 : Int) : Option Res := LP (e [0, 0, 1, 0, 1, 0, 1, 1, 1, 0, 0, 0]) (cn [0]) (kBlk 3 (kBlk 2 (kBlk 1 (kLp (e [0, 0]) (cn [0]) (kBlk 0 (K)))))) ([(0, (V.ref 0 0))], ⟨[(0, (Blk.cells T_lex_reader [V.str s0, V.int .i64 i1] false))], [], [], [], none⟩)
theorem L0_eq (s0 : ByteArray) (i1 : Int) : L0 s0 i1 =
  (bif (decide (i1 < (((ByteArray.size s0) : Nat) : Int))) then (if (((0 : Int) <= i1) ∧ (i1 < (((ByteArray.size s0) : Nat) : Int))) then (bif ((byteAt s0 (Int.toNat i1)) == (32 : Int)) then (L0 s0 (IntKind.wrap .i64 (i1 + (1 : Int)))) else (bif ((byteAt s0 (Int.toNat i1)) == (10 : Int)) then (L0 s0 (IntKind.wrap .i64 (i1 + (1 : Int)))) else (bif ((byteAt s0 (Int.toNat i1)) == (35 : Int)) then (L0_0_1_0_1_0_1_1_1_0_0 s0 i1) else (some ⟨Out.ret (V.tup []), [Blk.cells T_lex_reader [V.str s0, V.int .i64 i1] false], none⟩)))) else none) else (some ⟨Out.ret (V.tup []), [Blk.cells T_lex_reader [V.str s0, V.int .i64 i1] false], none⟩)) := (LP_eq ..).trans (by kernel_rfl)
theorem L0_0_1_0_1_0_1_1_1_0_0_eq (s0 : ByteArray) (i1 : Int) : L0_0_1_0_1_0_1_1_1_0_0 s0 i1 =
  (bif (decide (i1 < (((ByteArray.size s0) : Nat) : Int))) then (if (((0 : Int) <= i1) ∧ (i1 < (((ByteArray.size s0) : Nat) : Int))) then (bif ((byteAt s0 (Int.toNat i1)) != (10 : Int)) then (L0_0_1_0_1_0_1_1_1_0_0 s0 (IntKind.wrap .i64 (i1 + (1 : Int)))) else (L0 s0 i1)) else none) else (L0 s0 i1)) := (LP_eq ..).trans (by kernel_rfl)
theorem eq (m0_0 : ByteArray) (m0_1 : Int) : den Sp id [V.ref 0 0] [Blk.cells T_lex_reader [V.str m0_0, V.int .i64 m0_1] false] none =
  (L0 m0_0 m0_1) := (den_eq ..).trans (by kernel_rfl)
end lex_reader_blank
namespace lex_reader_next
theorem eq (m0_0 : ByteArray) (m0_1 : Int) : den Sp id [V.ref 0 0] [Blk.cells T_lex_reader [V.str m0_0, V.int .i64 m0_1] false] none =
  (bif (m0_1 == (((ByteArray.size m0_0) : Nat) : Int)) then (some ⟨Out.ret (V.tup [V.agg [V.int .i64 (0 : Int), V.str (ByteArray.mk #[]), V.int .i64 (0 : Int), V.int .i64 m0_1], V.bool true]), [Blk.cells T_lex_reader [V.str m0_0, V.int .i64 m0_1] false], none⟩) else (if (((0 : Int) <= m0_1) ∧ (m0_1 < (((ByteArray.size m0_0) : Nat) : Int))) then (den Sp lex_letter.id [V.int IntKind.u8 (byteAt m0_0 (Int.toNat m0_1))] [] none).bind (fun r7 => Res.onRet r7 (fun v8 => V.asBool v8 (fun b9 => bif b9 then (den Sp lex_reader_word.id [V.ref 0 0] [Blk.cells T_lex_reader [V.str m0_0, V.int .i64 m0_1] false] none).bind (fun r11 => Blk.asCells (List.getD (Res.bl r11) 0 (Blk.cells T_n0 [] true)) T_lex_reader 2 (fun rd12 => V.asStr (rd12 0) (fun s13 => V.asInt (rd12 1) .i64 (fun n14 => Res.onRet r11 (fun v15 => V.asStr v15 (fun s16 => (den Sp lex_isKey.id [V.str s16] [] none).bind (fun r18 => Res.onRet r18 (fun v19 => V.asBool v19 (fun b20 => bif b20 then (some ⟨Out.ret (V.tup [V.agg [V.int .i64 (3 : Int), V.str s16, V.int .i64 (0 : Int), V.int .i64 m0_1], V.bool (decide ((((ByteArray.size s16) : Nat) : Int) <= (40 : Int)))]), [Blk.cells T_lex_reader [V.str s13, V.int .i64 (IntKind.wrap .i64 (n14 + (((ByteArray.size s16) : Nat) : Int)))] false], none⟩) else (some ⟨Out.ret (V.tup [V.agg [V.int .i64 (1 : Int), V.str s16, V.int .i64 (0 : Int), V.int .i64 m0_1], V.bool (decide ((((ByteArray.size s16) : Nat) : Int) <= (40 : Int)))]), [Blk.cells T_lex_reader [V.str s13, V.int .i64 (IntKind.wrap .i64 (n14 + (((ByteArray.size s16) : Nat) : Int)))] false], none⟩)))))))))) else (den Sp lex_digit.id [V.int IntKind.u8 (byteAt m0_0 (Int.toNat m0_1))] [] none).bind (fun r11 => Res.onRet r11 (fun v12 => V.asBool v12 (fun b13 => bif b13 then (den Sp lex_reader_word.id [V.ref 0 0] [Blk.cells T_lex_reader [V.str m0_0, V.int .i64 m0_1] false] none).bind (fun r15 => Blk.asCells (List.getD (Res.bl r15) 0 (Blk.cells T_n0 [] true)) T_lex_reader 2 (fun rd16 => V.asStr (rd16 0) (fun s17 => V.asInt (rd16 1) .i64 (fun n18 => Res.onRet r15 (fun v19 => V.asStr v19 (fun s20 => (den Sp num_Parse.id [V.str s20] [] none).bind (fun r22 => Res.onRet r22 (fun v23 => V.asTup v23 2 (fun rd24 => V.asInt (rd24 0) .i64 (fun n25 => V.asInt (rd24 1) .i64 (fun n26 => some ⟨Out.ret (V.tup [V.agg [V.int .i64 (2 : Int), V.str (ByteArray.mk #[]), V.int .i64 n25, V.int .i64 m0_1], V.bool (n26 == (0 : Int))]), [Blk.cells T_lex_reader [V.str s17, V.int .i64 (IntKind.wrap .i64 (n18 + (((ByteArray.size s20) : Nat) : Int)))] false], none⟩))))))))))) else (if ((0 : Int) <= m0_1) then (if (((Int.toNat m0_1) <= (ByteArray.size m0_0)) ∧ ((ByteArray.size m0_0) <= (ByteArray.size m0_0))) then (den Sp lex_sign.id [V.str (ByteArray.extract m0_0 (Int.toNat m0_1) (ByteArray.size m0_0))] [] none).bind (fun r15 => Res.onRet r15 (fun v16 => V.asStr v16 (fun s17 => some ⟨Out.ret (V.tup [V.agg [V.int .i64 (4 : Int), V.str s17, V.int .i64 (0 : Int), V.int .i64 m0_1], V.bool (!(decide (s17 = (ByteArray.mk #[]))))]), [Blk.cells T_lex_reader [V.str m0_0, V.int .i64 (IntKind.wrap .i64 (m0_1 + (((ByteArray.size s17) : Nat) : Int)))] false], none⟩))) else none) else none))))))) else none)) := (den_eq ..).trans (by kernel_rfl)
end lex_reader_next
namespace lex_reader_word
noncomputable abbrev e (p : List Nat) := ev Sp (den Sp) id Tryd.f58.ntmps (cAt (bodyOf Tryd.f58) p)
noncomputable abbrev cn (n0 : List Nat) := canon Sp id n0
noncomputable abbrev K : K := kFin Sp (den Sp) (Sp.oo id) Tryd.f58 1
noncomputable def L1_1_0_0 (i0 : Int) (s1 : ByteArray) (i2 : Int) : Option Res := LP (e [1, 1, 0, 0, 0]) (cn [0]) (kBlk 0 (kSeq (e [1, 1, 1]) (K))) ([(0, (V.ref 0 0)), (3, (V.int .i64 i0))], ⟨[(0, (Blk.cells T_lex_reader [V.str s1, V.int .i64 i2] false))], [], [], [], none⟩)
theorem L1_1_0_0_eq (i0 : Int) (s1 : ByteArray) (i2 : Int) : L1_1_0_0 i0 s1 i2 =
  (bif (decide (i0 < (((ByteArray.size s1) : Nat) : Int))) then (if (((0 : Int) <= i0) ∧ (i0 < (((ByteArray.size s1) : Nat) : Int))) then (den Sp lex_inner.id [V.int IntKind.u8 (byteAt s1 (Int.toNat i0))] [] none).bind (fun r8 => Res.onRet r8 (fun v9 => V.asBool v9 (fun b10 => bif b10 then (L1_1_0_0 (IntKind.wrap .i64 (i0 + (1 : Int))) s1 i2) else (if ((0 : Int) <= i2) then (if ((0 : Int) <= i0) then (if (((Int.toNat i2) <= (Int.toNat i0)) ∧ ((Int.toNat i0) <= (ByteArray.size s1))) then (some ⟨Out.ret (V.str (ByteArray.extract s1 (Int.toNat i2) (Int.toNat i0))), [Blk.cells T_lex_reader [V.str s1, V.int .i64 i2] false], none⟩) else none) else none) else none)))) else none) else (if ((0 : Int) <= i2) then (if ((0 : Int) <= i0) then (if (((Int.toNat i2) <= (Int.toNat i0)) ∧ ((Int.toNat i0) <= (ByteArray.size s1))) then (some ⟨Out.ret (V.str (ByteArray.extract s1 (Int.toNat i2) (Int.toNat i0))), [Blk.cells T_lex_reader [V.str s1, V.int .i64 i2] false], none⟩) else none) else none) else none)) := (LP_eq ..).trans (by kernel_rfl)
theorem eq (m0_0 : ByteArray) (m0_1 : Int) : den Sp id [V.ref 0 0] [Blk.cells T_lex_reader [V.str m0_0, V.int .i64 m0_1] false] none =
  (L1_1_0_0 m0_1 m0_0 m0_1) := (den_eq ..).trans (by kernel_rfl)
end lex_reader_word
namespace lex_sign
noncomputable abbrev e (p : List Nat) := ev Sp (den Sp) id Tryd.f62.ntmps (cAt (bodyOf Tryd.f62) p)
noncomputable abbrev cn (n0 : List Nat) := canon Sp id n0
noncomputable abbrev K : K := kFin Sp (den Sp) (Sp.oo id) Tryd.f62 0
noncomputable def L1_0_1_1_0_1_0 (s0 : ByteArray) (i1 : Int) : Option Res := LP (e [1, 0, 1, 1, 0, 1, 0, 0]) (cn []) (kBlk 0 (kSeq (e [1, 0, 1, 1, 1]) (K))) ([(0, (V.str s0)), (3, (V.str (ByteArray.mk #[]))), (6, (V.agg [V.str (ByteArray.mk #[61, 61]), V.str (ByteArray.mk #[33, 61]), V.str (ByteArray.mk #[60, 61]), V.str (ByteArray.mk #[38, 38]), V.str (ByteArray.mk #[124, 124]), V.str (ByteArray.mk #[40]), V.str (ByteArray.mk #[41]), V.str (ByteArray.mk #[123]), V.str (ByteArray.mk #[125]), V.str (ByteArray.mk #[91]), V.str (ByteArray.mk #[93]), V.str (ByteArray.mk #[44]), V.str (ByteArray.mk #[59]), V.str (ByteArray.mk #[61]), V.str (ByteArray.mk #[60]), V.str (ByteArray.mk #[33]), V.str (ByteArray.mk #[43]), V.str (ByteArray.mk #[45]), V.str (ByteArray.mk #[42]), V.str (ByteArray.mk #[47]), V.str (ByteArray.mk #[37])])), (7, (V.int .i64 i1))], ⟨[], [], [], [], none⟩)
theorem L1_0_1_1_0_1_0_eq (s0 : ByteArray) (i1 : Int) : L1_0_1_1_0_1_0 s0 i1 =
  (bif (decide (i1 < (21 : Int))) then (if (((0 : Int) <= i1) ∧ (i1 < ((21 : Nat) : Int))) then (V.asStr (List.getD [V.str (ByteArray.mk #[61, 61]), V.str (ByteArray.mk #[33, 61]), V.str (ByteArray.mk #[60, 61]), V.str (ByteArray.mk #[38, 38]), V.str (ByteArray.mk #[124, 124]), V.str (ByteArray.mk #[40]), V.str (ByteArray.mk #[41]), V.str (ByteArray.mk #[123]), V.str (ByteArray.mk #[125]), V.str (ByteArray.mk #[91]), V.str (ByteArray.mk #[93]), V.str (ByteArray.mk #[44]), V.str (ByteArray.mk #[59]), V.str (ByteArray.mk #[61]), V.str (ByteArray.mk #[60]), V.str (ByteArray.mk #[33]), V.str (ByteArray.mk #[43]), V.str (ByteArray.mk #[45]), V.str (ByteArray.mk #[42]), V.str (ByteArray.mk #[47]), V.str (ByteArray.mk #[37])] (((Int.toNat i1) * 1) + 0) V.undef) (fun s8 => bif (decide ((((ByteArray.size s8) : Nat) : Int) <= (((ByteArray.size s0) : Nat) : Int))) then (if ((0 <= (Int.toNat (((ByteArray.size s8) : Nat) : Int))) ∧ ((Int.toNat (((ByteArray.size s8) : Nat) : Int)) <= (ByteArray.size s0))) then (bif (decide ((ByteArray.extract s0 0 (Int.toNat (((ByteArray.size s8) : Nat) : Int))) = s8)) then (some ⟨Out.ret (V.str s8), [], none⟩) else (L1_0_1_1_0_1_0 s0 (IntKind.wrap .i64 (i1 + (1 : Int))))) else none) else (L1_0_1_1_0_1_0 s0 (IntKind.wrap .i64 (i1 + (1 : Int)))))) else none) else (some ⟨Out.ret (V.str (ByteArray.mk #[])), [], none⟩)) := (LP_eq ..).trans (by kernel_rfl)
theorem eq (a0 : ByteArray) : den Sp id [V.str a0] [] none =
  (L1_0_1_1_0_1_0 a0 (0 : Int)) := (den_eq ..).trans (by kernel_rfl)
end lex_sign
namespace num_Parse
noncomputable abbrev e (p : List Nat) := ev Sp (den Sp) id Tryd.f61.ntmps (cAt (bodyOf Tryd.f61) p)
noncomputable abbrev cn (n0 : List Nat) := canon Sp id n0
noncomputable abbrev K : K := kFin Sp (den Sp) (Sp.oo id) Tryd.f61 0
noncomputable def L1_0_1_1_1_1_1_0_1_0 (s0 : ByteArray) (i1 i2 : Int) : Option Res := LP (e [1, 0, 1, 1, 1, 1, 1, 0, 1, 0, 0]) (cn []) (kBlk 0 (kSeq (e [1, 0, 1, 1, 1, 1, 1, 1]) (K))) ([(4, (V.str s0)), (5, (V.bool true)), (6, (V.int IntKind.u64 i1)), (7, (V.bool true)), (8, (V.int .i64 i2))], ⟨[], [], [], [], none⟩)
noncomputable def L1_0_1_1_1_1_1_0_1_0v1 (s0 : ByteArray) (i1 : Int) (b2 : Bool) (i3 : Int) : Option Res := LP (e [1, 0, 1, 1, 1, 1, 1, 0, 1, 0, 0]) (cn []) (kBlk 0 (kSeq (e [1, 0, 1, 1, 1, 1, 1, 1]) (K))) ([(4, (V.str s0)), (5, (V.bool true)), (6, (V.int IntKind.u64 i1)), (7, (V.bool b2)), (8, (V.int .i64 i3))], ⟨[], [], [], [], none⟩)
noncomputable def L1_0_1_1_1_1_1_0_1_0v2 (s0 : ByteArray) (i1 i2 : Int) : Option Res := LP (e [1, 0, 1, 1, 1, 1, 1, 0, 1, 0, 0]) (cn []) (kBlk 0 (kSeq (e [1, 0, 1, 1, 1, 1, 1, 1]) (K))) ([(4, (V.str s0)), (5, (V.bool false)), (6, (V.int IntKind.u64 i1)), (7, (V.bool true)), (8, (V.int .i64 i2))], ⟨[], [], [], [], none⟩)
noncomputable def L1_0_1_1_1_1_1_0_1_0v3 (s0 : ByteArray) (i1 : Int) (b2 : Bool) (i3 : Int) : Option Res := LP (e [1, 0, 1, 1, 1, 1, 1, 0, 1, 0, 0]) (cn []) (kBlk 0 (kSeq (e [1, 0, 1, 1, 1, 1, 1, 1]) (K))) ([(4, (V.str s0)), (5, (V.bool false)), (6, (V.int IntKind.u64 i1)), (7, (V.bool b2)), (8, (V.int .i64 i3))], ⟨[], [], [], [], none⟩)
theorem L1_0_1_1_1_1_1_0_1_0v2_eq (s0 : ByteArray) (i1 i2 : Int) : L1_0_1_1_1_1_1_0_1_0v2 s0 i1 i2 =
  (bif (decide (i2 < (((ByteArray.size s0) : Nat) : Int))) then (if (((0 : Int) <= i2) ∧ (i2 < (((ByteArray.size s0) : Nat) : Int))) then (if (((0 : Int) <= i2) ∧ (i2 < (((ByteArray.size s0) : Nat) : Int))) then (bif (decide ((byteAt s0 (Int.toNat i2)) < (48 : Int))) then (some ⟨Out.ret (V.tup [V.int .i64 (0 : Int), V.int .i64 (10 : Int)]), [], none⟩) else (bif (decide ((IntKind.wrap IntKind.u64 ((IntKind.wrap IntKind.u64 (byteAt s0 (Int.toNat i2))) - (48 : Int))) > (9 : Int))) then (some ⟨Out.ret (V.tup [V.int .i64 (0 : Int), V.int .i64 (10 : Int)]), [], none⟩) else (bif (decide (i1 > (IntKind.wrap IntKind.u64 (Int.tdiv (IntKind.wrap IntKind.u64 ((9223372036854775808 : Int) - (IntKind.wrap IntKind.u64 ((IntKind.wrap IntKind.u64 (byteAt s0 (Int.toNat i2))) - (48 : Int))))) (10 : Int))))) then (some ⟨Out.ret (V.tup [V.int .i64 (0 : Int), V.int .i64 (10 : Int)]), [], none⟩) else (L1_0_1_1_1_1_1_0_1_0v2 s0 (IntKind.wrap IntKind.u64 ((IntKind.wrap IntKind.u64 (i1 * (10 : Int))) + (IntKind.wrap IntKind.u64 ((IntKind.wrap IntKind.u64 (byteAt s0 (Int.toNat i2))) - (48 : Int))))) (IntKind.wrap .i64 (i2 + (1 : Int))))))) else none) else none) else (bif (i1 == (9223372036854775808 : Int)) then (some ⟨Out.ret (V.tup [V.int .i64 (0 : Int), V.int .i64 (10 : Int)]), [], none⟩) else (some ⟨Out.ret (V.tup [V.int .i64 (IntKind.wrap .i64 i1), V.int .i64 (0 : Int)]), [], none⟩))) := (LP_eq ..).trans (by kernel_rfl)
theorem L1_0_1_1_1_1_1_0_1_0v3_eq (s0 : ByteArray) (i1 : Int) (b2 : Bool) (i3 : Int) : L1_0_1_1_1_1_1_0_1_0v3 s0 i1 b2 i3 =
  (bif b2 then (bif (decide (i3 < (((ByteArray.size s0) : Nat) : Int))) then (if (((0 : Int) <= i3) ∧ (i3 < (((ByteArray.size s0) : Nat) : Int))) then (if (((0 : Int) <= i3) ∧ (i3 < (((ByteArray.size s0) : Nat) : Int))) then (bif (decide ((byteAt s0 (Int.toNat i3)) < (48 : Int))) then (some ⟨Out.ret (V.tup [V.int .i64 (0 : Int), V.int .i64 (10 : Int)]), [], none⟩) else (bif (decide ((IntKind.wrap IntKind.u64 ((IntKind.wrap IntKind.u64 (byteAt s0 (Int.toNat i3))) - (48 : Int))) > (9 : Int))) then (some ⟨Out.ret (V.tup [V.int .i64 (0 : Int), V.int .i64 (10 : Int)]), [], none⟩) else (bif (decide (i1 > (IntKind.wrap IntKind.u64 (Int.tdiv (IntKind.wrap IntKind.u64 ((9223372036854775808 : Int) - (IntKind.wrap IntKind.u64 ((IntKind.wrap IntKind.u64 (byteAt s0 (Int.toNat i3))) - (48 : Int))))) (10 : Int))))) then (some ⟨Out.ret (V.tup [V.int .i64 (0 : Int), V.int .i64 (10 : Int)]), [], none⟩) else (L1_0_1_1_1_1_1_0_1_0v3 s0 (IntKind.wrap IntKind.u64 ((IntKind.wrap IntKind.u64 (i1 * (10 : Int))) + (IntKind.wrap IntKind.u64 ((IntKind.wrap IntKind.u64 (byteAt s0 (Int.toNat i3))) - (48 : Int))))) b2 (IntKind.wrap .i64 (i3 + (1 : Int))))))) else none) else none) else (bif (!b2) then (some ⟨Out.ret (V.tup [V.int .i64 (0 : Int), V.int .i64 (10 : Int)]), [], none⟩) else (bif (i1 == (9223372036854775808 : Int)) then (some ⟨Out.ret (V.tup [V.int .i64 (0 : Int), V.int .i64 (10 : Int)]), [], none⟩) else (some ⟨Out.ret (V.tup [V.int .i64 (IntKind.wrap .i64 i1), V.int .i64 (0 : Int)]), [], none⟩)))) else (bif (!b2) then (some ⟨Out.ret (V.tup [V.int .i64 (0 : Int), V.int .i64 (10 : Int)]), [], none⟩) else (bif (i1 == (9223372036854775808 : Int)) then (some ⟨Out.ret (V.tup [V.int .i64 (0 : Int), V.int .i64 (10 : Int)]), [], none⟩) else (some ⟨Out.ret (V.tup [V.int .i64 (IntKind.wrap .i64 i1), V.int .i64 (0 : Int)]), [], none⟩)))) := (LP_eq ..).trans (by kernel_rfl)
theorem eq (a0 : ByteArray) : den Sp id [V.str a0] [] none =
  (bif (!(decide (a0 = (ByteArray.mk #[])))) then (if (((0 : Int) <= (0 : Int)) ∧ ((0 : Int) < (((ByteArray.size a0) : Nat) : Int))) then (bif ((byteAt a0 0) == (45 : Int)) then (if ((1 <= (ByteArray.size a0)) ∧ ((ByteArray.size a0) <= (ByteArray.size a0))) then (bif (!(decide ((ByteArray.extract a0 1 (ByteArray.size a0)) = (ByteArray.mk #[])))) then (if (((0 : Int) <= (0 : Int)) ∧ ((0 : Int) < (((ByteArray.size (ByteArray.extract a0 1 (ByteArray.size a0))) : Nat) : Int))) then (bif ((byteAt (ByteArray.extract a0 1 (ByteArray.size a0)) 0) != (48 : Int)) then (L1_0_1_1_1_1_1_0_1_0 (ByteArray.extract a0 1 (ByteArray.size a0)) (0 : Int) (0 : Int)) else (L1_0_1_1_1_1_1_0_1_0v1 (ByteArray.extract a0 1 (ByteArray.size a0)) (0 : Int) ((((ByteArray.size a0) : Nat) : Int) == (1 : Int)) (0 : Int))) else none) else (L1_0_1_1_1_1_1_0_1_0v1 (ByteArray.extract a0 1 (ByteArray.size a0)) (0 : Int) false (0 : Int))) else none) else (bif (!(decide (a0 = (ByteArray.mk #[])))) then (if (((0 : Int) <= (0 : Int)) ∧ ((0 : Int) < (((ByteArray.size a0) : Nat) : Int))) then (bif ((byteAt a0 0) != (48 : Int)) then (L1_0_1_1_1_1_1_0_1_0v2 a0 (0 : Int) (0 : Int)) else (L1_0_1_1_1_1_1_0_1_0v3 a0 (0 : Int) ((((ByteArray.size a0) : Nat) : Int) == (1 : Int)) (0 : Int))) else none) else (L1_0_1_1_1_1_1_0_1_0v3 a0 (0 : Int) false (0 : Int)))) else none) else (bif (!(decide (a0 = (ByteArray.mk #[])))) then (if (((0 : Int) <= (0 : Int)) ∧ ((0 : Int) < (((ByteArray.size a0) : Nat) : Int))) then (bif ((byteAt a0 0) != (48 : Int)) then (L1_0_1_1_1_1_1_0_1_0v2 a0 (0 : Int) (0 : Int)) else (L1_0_1_1_1_1_1_0_1_0v3 a0 (0 : Int) ((((ByteArray.size a0) : Nat) : Int) == (1 : Int)) (0 : Int))) else none) else (L1_0_1_1_1_1_1_0_1_0v3 a0 (0 : Int) false (0 : Int)))) := (den_eq ..).trans (by kernel_rfl)
end num_Parse
end Go.Proofs.YtennkhdlpbggkaaDoor
namespace Go.Proofs.YtennkhdlpbggkaaDoor
open Go Go.Proofs.Ab Go.Proofs.Px
theorem sz_str : sz (Pg.P Sp) 9 = 1 := by kernel_rfl
theorem lex_letter_is (c : Int) : den Sp lex_letter.id [.int .u8 c] [] none = some ⟨.ret (.bool (letter c)), [], none⟩ := by
 rw [lex_letter.eq]
 unfold letter
 by_cases h1 : 65 <= c <;> by_cases h2 : c <= 90 <;> by_cases h3 : 97 <= c <;> simp [h1, h2, h3]
theorem lex_digit_is (c : Int) : den Sp lex_digit.id [.int .u8 c] [] none = some ⟨.ret (.bool (digit c)), [], none⟩ := by
 rw [lex_digit.eq]
 unfold digit
 by_cases h1 : 48 <= c <;> simp [h1]
theorem lex_inner_is (c : Int) : den Sp lex_inner.id [.int .u8 c] [] none = some ⟨.ret (.bool (inner c)), [], none⟩ := by
 rw [lex_inner.eq, lex_letter_is, lex_digit_is]
 unfold inner
 cases letter c <;> cases digit c <;> simp
theorem lex_isKey_is (s : ByteArray) : den Sp lex_isKey.id [.str s] [] none = some ⟨.ret (.bool (isKey s)), [], none⟩ := by
 rw [lex_isKey.eq]
 have key : ∀ i : Nat, i <= 13 -> lex_isKey.L1_0_1_0 s (i : Int) = some ⟨.ret (.bool (isIn s (keys.drop i))), [], none⟩ := by
  refine down ?_ fun i hi ih => ?_
  ·rw [lex_isKey.L1_0_1_0_eq]; rfl
  ·rw [lex_isKey.L1_0_1_0_eq, wrap_nat (by omega), ih, isIn_step (show i < keys.length from hi)]
   have h1 : ((i : Int) < 13) := by omega
   have h2 : ((0 : Int) <= i ∧ (i : Int) < ((13 : Nat) : Int)) := by omega
   rw [show (decide ((i : Int) < 13)) = true by simp [h1], cond_true, if_pos h2]
   try rw [sz_str]
   have hi' : i < keys.length := hi
   have h3 : (keys.map V.str).getD ((Int.toNat (i : Int)) * 1 + 0) V.undef = V.str (keys[i]'hi') := by
    rw [List.getD_eq_getElem?_getD, List.getElem?_map, show Int.toNat (i : Int) * 1 + 0 = i by simp, List.getElem?_eq_getElem hi']
    rfl
   refine (congrArg (fun v => V.asStr v _) h3).trans ?_
   rw [asStr_str]
   generalize keys[i]'hi' = kk
   by_cases he : s = kk
   ·subst he; simp
   ·have he' : ¬ kk = s := fun h => he h.symm
    simp [he, he']
 exact key 0 (by omega)
theorem lex_sign_is (l : List UInt8) (hl : l.length < 4611686018427387904) : den Sp lex_sign.id [.str (B l)] [] none = some ⟨.ret (.str (B (sign l))), [], none⟩ := by
 rw [lex_sign.eq]
 have key : ∀ i : Nat, i <= 21 -> lex_sign.L1_0_1_1_0_1_0 (B l) (i : Int) = some ⟨.ret (.str (B (signIn l (signs.drop i)))), [], none⟩ := by
  refine down ?_ fun i hi ih => ?_
  ·rw [lex_sign.L1_0_1_1_0_1_0_eq]; rfl
  ·rw [lex_sign.L1_0_1_1_0_1_0_eq, wrap_nat (by omega), ih]
   have hi' : i < signs.length := hi
   have h1 : ((i : Int) < 21) := by omega
   have h2 : ((0 : Int) <= i ∧ (i : Int) < ((21 : Nat) : Int)) := by omega
   rw [show (decide ((i : Int) < 21)) = true by simp [h1], cond_true, if_pos h2]
   try rw [sz_str]
   have h3 : (signs.map fun x => V.str (B x)).getD ((Int.toNat (i : Int)) * 1 + 0) V.undef = V.str (B (signs[i]'hi')) := by
    rw [List.getD_eq_getElem?_getD, List.getElem?_map, show Int.toNat (i : Int) * 1 + 0 = i by simp, List.getElem?_eq_getElem hi']
    rfl
   refine (congrArg (fun v => V.asStr v _) h3).trans ?_
   rw [asStr_str, List.drop_eq_getElem_cons hi']
   generalize signs[i]'hi' = x
   have hs : signIn l (x :: signs.drop (i + 1)) = if l.take x.length = x then x else signIn l (signs.drop (i + 1)) := rfl
   rw [hs]
   simp only [B_size, Int.toNat_natCast, B_extract, List.drop_zero, Nat.sub_zero, B_dec, Nat.zero_le, true_and]
   by_cases hx : x.length <= l.length
   ·have h4 : ((x.length : Nat) : Int) <= ((l.length : Nat) : Int) := by omega
    simp only [h4, decide_true, cond_true, hx, if_true]
    by_cases he : l.take x.length = x
    ·simp [he]
    ·simp [he]
   ·have h4 : ¬ ((x.length : Nat) : Int) <= ((l.length : Nat) : Int) := by omega
    have he : ¬ l.take x.length = x := fun h => by
     have := congrArg List.length h
     simp at this; omega
    simp [h4, he]
 exact key 0 (by omega)
def rd (l : List UInt8) (i : Int) : Blk := .cells T_lex_reader [.str (B l), .int .i64 i] false
theorem blank_T (l : List UInt8) (hl : l.length < 4611686018427387904) (i : Nat) (hi : i < l.length) (c : UInt8) (hc : l.getD i 0 = c) :
  lex_reader_blank.L0_0_1_0_1_0_1_1_1_0_0 (B l) (i : Int) = bif (c == 10) then lex_reader_blank.L0 (B l) (i : Int) else lex_reader_blank.L0_0_1_0_1_0_1_1_1_0_0 (B l) ((i + 1 : Nat) : Int) := by
 have hlt : ((i : Int) < (l.length : Int)) := by omega
 have hcond : (0 : Int) <= (i : Int) ∧ (i : Int) < (l.length : Int) := ⟨by omega, hlt⟩
 rw [lex_reader_blank.L0_0_1_0_1_0_1_1_1_0_0_eq, wrap_nat (by omega), B_size, decide_eq_true hlt, cond_true, if_pos hcond, Int.toNat_natCast, B_byte, hc]
 have hne : ((c.toNat : Int) != (10 : Int)) = !(c == 10) := congrArg not (byte_eq c 10 (by omega))
 rw [hne]
 cases (c == 10) <;> simp only [Bool.not_false, Bool.not_true, cond_true, cond_false]
theorem blank_F (l : List UInt8) (hl : l.length < 4611686018427387904) (i : Nat) (hi : i < l.length) (c : UInt8) (hc : l.getD i 0 = c) :
  lex_reader_blank.L0 (B l) (i : Int) = bif (c == 32) then lex_reader_blank.L0 (B l) ((i + 1 : Nat) : Int) else bif (c == 10) then lex_reader_blank.L0 (B l) ((i + 1 : Nat) : Int) else
   bif (c == 35) then lex_reader_blank.L0_0_1_0_1_0_1_1_1_0_0 (B l) (i : Int) else some ⟨.ret (.tup []), [rd l (i : Int)], none⟩ := by
 have hlt : ((i : Int) < (l.length : Int)) := by omega
 have hcond : (0 : Int) <= (i : Int) ∧ (i : Int) < (l.length : Int) := ⟨by omega, hlt⟩
 rw [lex_reader_blank.L0_eq, wrap_nat (by omega), B_size, decide_eq_true hlt, cond_true, if_pos hcond, Int.toNat_natCast, B_byte, hc]
 have h1 : ((c.toNat : Int) == (32 : Int)) = (c == 32) := byte_eq c 32 (by omega)
 have h2 : ((c.toNat : Int) == (10 : Int)) = (c == 10) := byte_eq c 10 (by omega)
 have h3 : ((c.toNat : Int) == (35 : Int)) = (c == 35) := byte_eq c 35 (by omega)
 rw [h1, h2, h3]
 unfold rd
 cases (c == 32) <;> cases (c == 10) <;> cases (c == 35) <;> simp only [cond_true, cond_false]
theorem lex_blank_is (l : List UInt8) (hl : l.length < 4611686018427387904) (i : Nat) (hi : i <= l.length) :
  den Sp lex_reader_blank.id [.ref 0 0] [rd l i] none = some ⟨.ret (.tup []), [rd l ((l.length - (sk false (l.drop i)).length : Nat) : Int)], none⟩ := by
 show den Sp lex_reader_blank.id [.ref 0 0] [.cells T_lex_reader [.str (B l), .int .i64 i] false] none = _
 rw [lex_reader_blank.eq]
 have key : ∀ i : Nat, i <= l.length -> lex_reader_blank.L0 (B l) (i : Int) = some ⟨.ret (.tup []), [rd l ((l.length - (sk false (l.drop i)).length : Nat) : Int)], none⟩ ∧
   lex_reader_blank.L0_0_1_0_1_0_1_1_1_0_0 (B l) (i : Int) = some ⟨.ret (.tup []), [rd l ((l.length - (sk true (l.drop i)).length : Nat) : Int)], none⟩ := by
  refine down ?_ fun i hi ih => ?_
  ·have hlt : ¬ ((l.length : Int) < (l.length : Int)) := by omega
   have h0 : lex_reader_blank.L0 (B l) (l.length : Int) = some ⟨.ret (.tup []), [rd l ((l.length : Nat) : Int)], none⟩ := by
    rw [lex_reader_blank.L0_eq, B_size, decide_eq_false hlt]; rfl
   have h1 : lex_reader_blank.L0_0_1_0_1_0_1_1_1_0_0 (B l) (l.length : Int) = lex_reader_blank.L0 (B l) (l.length : Int) := by
    rw [lex_reader_blank.L0_0_1_0_1_0_1_1_1_0_0_eq, B_size, decide_eq_false hlt]; rfl
   rw [h1, h0, List.drop_length]
   exact ⟨rfl, rfl⟩
  ·obtain ⟨ih1, ih2⟩ := ih
   obtain ⟨c, hc⟩ : ∃ c, l.getD i 0 = c := ⟨_, rfl⟩
   have hd := drop_cons hi
   rw [hc] at hd
   have hT := blank_T l hl i hi c hc
   have hF := blank_F l hl i hi c hc
   have hn : l.length - (c :: l.drop (i + 1)).length = i := by rw [<- hd, List.length_drop]; omega
   have goF : lex_reader_blank.L0 (B l) (i : Int) = some ⟨.ret (.tup []), [rd l ((l.length - (sk false (l.drop i)).length : Nat) : Int)], none⟩ := by
    rw [hF, hd]
    unfold sk
    by_cases c10 : c = 10
    ·subst c10
     simp only [beq_self_eq_true, cond_true, show ((10 : UInt8) == 32) = false from rfl, cond_false, if_true]
     exact ih1
    ·rw [if_neg c10, if_neg nofun]
     by_cases c32 : c = 32
     ·subst c32
      simp only [beq_self_eq_true, cond_true, if_true]
      exact ih1
     ·rw [if_neg c32]
      by_cases c35 : c = 35
      ·subst c35
       simp only [beq_self_eq_true, cond_true, if_true, show ((35 : UInt8) == 32) = false from rfl, show ((35 : UInt8) == 10) = false from rfl, cond_false]
       rw [hT]
       simp only [show ((35 : UInt8) == 10) = false from rfl, cond_false]
       exact ih2
      ·rw [if_neg c35, beq_eq_false_iff_ne.2 c10, beq_eq_false_iff_ne.2 c32, beq_eq_false_iff_ne.2 c35, cond_false, cond_false, cond_false, hn]
   refine ⟨goF, ?_⟩
   rw [hT]
   by_cases c10 : c = 10
   ·subst c10
    simp only [beq_self_eq_true, cond_true]
    rw [goF, hd]
    have : sk false (10 :: l.drop (i + 1)) = sk true (10 :: l.drop (i + 1)) := by simp [sk]
    rw [this]
   ·rw [beq_eq_false_iff_ne.2 c10, cond_false, ih2, hd]
    have : sk true (c :: l.drop (i + 1)) = sk true (l.drop (i + 1)) := by
     rw [sk, if_neg c10, if_pos rfl]
    rw [this]
 exact (key i hi).1
theorem lex_word_is (l : List UInt8) (hl : l.length < 4611686018427387904) (i : Nat) (hi : i <= l.length) :
  den Sp lex_reader_word.id [.ref 0 0] [rd l i] none = some ⟨.ret (.str (B (word (l.drop i)))), [rd l i], none⟩ := by
 show den Sp lex_reader_word.id [.ref 0 0] [.cells T_lex_reader [.str (B l), .int .i64 i] false] none = _
 rw [lex_reader_word.eq]
 have fin : ∀ k : Nat, i <= k -> k <= l.length -> (if ((0 : Int) <= (i : Int)) then (if ((0 : Int) <= (k : Int)) then (if (((Int.toNat (i : Int)) <= (Int.toNat (k : Int))) ∧ ((Int.toNat (k : Int)) <= (ByteArray.size (B l)))) then (some (Res.mk (Out.ret (V.str (ByteArray.extract (B l) (Int.toNat (i : Int)) (Int.toNat (k : Int))))) [(Blk.cells T_lex_reader [(V.str (B l)), (V.int IntKind.i64 i)] Bool.false)] none)) else none) else none) else none) =
   some ⟨.ret (.str (B ((l.drop i).take (k - i)))), [rd l i], none⟩ := fun k h1 h2 => by
  rw [if_pos (by omega), if_pos (by omega), if_pos (by simp; omega)]
  simp [rd]
 have key : ∀ k : Nat, k <= l.length -> i <= k -> lex_reader_word.L1_1_0_0 (k : Int) (B l) (i : Int) = some ⟨.ret (.str (B ((l.drop i).take (k - i + (word (l.drop k)).length)))), [rd l i], none⟩ := by
  refine down (fun hik => ?_) fun k hk ih hik => ?_
  ·rw [lex_reader_word.L1_1_0_0_eq]
   have := fin l.length hik (Nat.le_refl _)
   simp only [B_size, Int.lt_irrefl, decide_false, cond_false]
   simp only [B_size] at this
   rw [this]; simp [word]
  ·have hlt : ((k : Int) < (l.length : Int)) := by omega
   have hcond : (0 : Int) <= (k : Int) ∧ (k : Int) < (l.length : Int) := ⟨by omega, hlt⟩
   have h2 := fin k hik (by omega)
   rw [B_size] at h2
   obtain ⟨c, hc⟩ : ∃ c, l.getD k 0 = c := ⟨_, rfl⟩
   have hd := drop_cons hk
   rw [hc] at hd
   rw [lex_reader_word.L1_1_0_0_eq, wrap_nat (by omega), ih (by omega), lex_inner_is, B_size, decide_eq_true hlt, cond_true, if_pos hcond, Int.toNat_natCast, B_byte, hc]
   simp only [Option.bind_some, onRet_ret, asBool_bool]
   have hw : word (c :: l.drop (k + 1)) = if inn c then c :: word (l.drop (k + 1)) else [] := by unfold word; rw [List.takeWhile_cons]
   rw [hd, hw]
   show (bif inn c then _ else _) = _
   cases hin : inn c with
   | true =>
    simp only [cond_true, if_true, List.length_cons]
    rw [show k + 1 - i + (word (l.drop (k + 1))).length = k - i + ((word (l.drop (k + 1))).length + 1) by omega]
   | false =>
    simp only [cond_false, List.length_nil, Nat.add_zero]
    simp only [Int.toNat_natCast] at h2
    exact h2
 have := key i hi (Nat.le_refl _)
 rw [this, Nat.sub_self, Nat.zero_add]
 have hw : (l.drop i).take (word (l.drop i)).length = word (l.drop i) := by
  unfold word
  exact (List.prefix_iff_eq_take.1 (List.takeWhile_prefix inn)).symm
 rw [hw]
def pairV (x : Int × Int) : Option Res := some ⟨.ret (.tup [.int .i64 x.1, .int .i64 x.2]), [], none⟩
theorem tdiv10 {n : Int} (h : 0 <= n) : Int.tdiv n 10 = n / 10 := Int.tdiv_eq_ediv_of_nonneg h
theorem parse_round (X Y : Option Res) (u : Nat) (hu : u <= 9223372036854775808) (c : UInt8) (r : List UInt8) (hX : X = pairV (0, 10)) (hY : dg c = true -> u * 10 + (c.toNat - 48) <= 9223372036854775808 -> Y = pairV (parseGo (u * 10 + (c.toNat - 48)) r)) :
  (bif (decide ((c.toNat : Int) < (48 : Int))) then X else (bif (decide ((IntKind.wrap IntKind.u64 ((IntKind.wrap IntKind.u64 (c.toNat : Int)) - (48 : Int))) > (9 : Int))) then X else
   (bif (decide ((u : Int) > (IntKind.wrap IntKind.u64 (Int.tdiv (IntKind.wrap IntKind.u64 ((9223372036854775808 : Int) - (IntKind.wrap IntKind.u64 ((IntKind.wrap IntKind.u64 (c.toNat : Int)) - (48 : Int))))) (10 : Int))))) then X else Y))) = pairV (parseGo u (c :: r)) := by
 have hc : c.toNat < 256 := c.toNat_lt
 unfold parseGo
 by_cases h1 : (c.toNat : Int) < 48
 ·have : ¬ (dg c = true ∧ u * 10 + (c.toNat - 48) <= 9223372036854775808) := by
   rintro ⟨h2, _⟩
   unfold dg digit at h2
   simp only [Bool.and_eq_true, decide_eq_true_eq] at h2
   omega
  rw [decide_eq_true h1, cond_true, if_neg this, hX]
 ·have e1 : IntKind.wrap IntKind.u64 (c.toNat : Int) = (c.toNat : Int) := by rw [IntKind.wrap_u64]; omega
  have e2 : IntKind.wrap IntKind.u64 ((c.toNat : Int) - 48) = (c.toNat : Int) - 48 := by rw [IntKind.wrap_u64]; omega
  rw [e1, e2, decide_eq_false h1, cond_false]
  by_cases h2 : ((c.toNat : Int) - 48) > 9
  ·have : ¬ (dg c = true ∧ u * 10 + (c.toNat - 48) <= 9223372036854775808) := by
    rintro ⟨h3, _⟩
    unfold dg digit at h3
    simp only [Bool.and_eq_true, decide_eq_true_eq] at h3
    omega
   rw [decide_eq_true h2, cond_true, if_neg this, hX]
  ·have e3 : IntKind.wrap IntKind.u64 ((9223372036854775808 : Int) - ((c.toNat : Int) - 48)) = (9223372036854775808 : Int) - ((c.toNat : Int) - 48) := by rw [IntKind.wrap_u64]; omega
   have e4 : IntKind.wrap IntKind.u64 (((9223372036854775808 : Int) - ((c.toNat : Int) - 48)) / 10) = ((9223372036854775808 : Int) - ((c.toNat : Int) - 48)) / 10 := by rw [IntKind.wrap_u64]; omega
   rw [e3, tdiv10 (by omega), e4, decide_eq_false h2, cond_false]
   have hd : dg c = true := by
    unfold dg digit
    simp only [Bool.and_eq_true, decide_eq_true_eq]
    omega
   by_cases h3 : (u : Int) > ((9223372036854775808 : Int) - ((c.toNat : Int) - 48)) / 10
   ·have : ¬ (dg c = true ∧ u * 10 + (c.toNat - 48) <= 9223372036854775808) := by
     rintro ⟨_, h4⟩
     omega
    rw [decide_eq_true h3, cond_true, if_neg this, hX]
   ·have : (dg c = true ∧ u * 10 + (c.toNat - 48) <= 9223372036854775808) := ⟨hd, by omega⟩
    rw [decide_eq_false h3, cond_false, if_pos this, hY this.1 this.2]
theorem parse_next (u : Nat) (hu : u <= 9223372036854775808) (c : UInt8) (h : u * 10 + (c.toNat - 48) <= 9223372036854775808) (hd : dg c = true) :
  (IntKind.wrap IntKind.u64 ((IntKind.wrap IntKind.u64 ((u : Int) * (10 : Int))) + (IntKind.wrap IntKind.u64 ((IntKind.wrap IntKind.u64 (c.toNat : Int)) - (48 : Int))))) = ((u * 10 + (c.toNat - 48) : Nat) : Int) := by
 have hc : c.toNat < 256 := c.toNat_lt
 unfold dg digit at hd
 simp only [Bool.and_eq_true, decide_eq_true_eq] at hd
 have e1 : IntKind.wrap IntKind.u64 (c.toNat : Int) = (c.toNat : Int) := by rw [IntKind.wrap_u64]; omega
 have e2 : IntKind.wrap IntKind.u64 ((c.toNat : Int) - 48) = (c.toNat : Int) - 48 := by rw [IntKind.wrap_u64]; omega
 have e3 : IntKind.wrap IntKind.u64 ((u : Int) * 10) = (u : Int) * 10 := by rw [IntKind.wrap_u64]; omega
 have e4 : IntKind.wrap IntKind.u64 ((u : Int) * 10 + ((c.toNat : Int) - 48)) = (u : Int) * 10 + ((c.toNat : Int) - 48) := by rw [IntKind.wrap_u64]; omega
 rw [e1, e2, e3, e4]; omega
theorem parse_v2 (w : List UInt8) (hw : w.length < 4611686018427387904) : ∀ i, i <= w.length -> ∀ u : Nat, u <= 9223372036854775808 -> num_Parse.L1_0_1_1_1_1_1_0_1_0v2 (B w) (u : Int) (i : Int) = pairV (parseGo u (w.drop i)) := by
 refine down (fun u hu => ?_) fun i hi ih u hu => ?_
 ·have hlt : ¬ ((w.length : Int) < (w.length : Int)) := by omega
  rw [num_Parse.L1_0_1_1_1_1_1_0_1_0v2_eq, B_size, decide_eq_false hlt, cond_false, List.drop_length]
  unfold parseGo
  by_cases h : u = 9223372036854775808
  ·subst h; rfl
  ·have h' : ¬ ((u : Int) = 9223372036854775808) := by omega
   rw [if_neg h, beq_eq_false_iff_ne.2 h', cond_false, wrap_in (by omega) (by omega)]
   rfl
 ·have hlt : ((i : Int) < (w.length : Int)) := by omega
  have hcond : (0 : Int) <= (i : Int) ∧ (i : Int) < (w.length : Int) := ⟨by omega, hlt⟩
  obtain ⟨c, hc⟩ : ∃ c, w.getD i 0 = c := ⟨_, rfl⟩
  have hd := drop_cons hi
  rw [hc] at hd
  rw [num_Parse.L1_0_1_1_1_1_1_0_1_0v2_eq, B_size, decide_eq_true hlt, cond_true, if_pos hcond, if_pos hcond, Int.toNat_natCast, B_byte, hc, wrap_nat (by omega), hd]
  refine parse_round _ _ u hu c _ rfl fun hd2 hok => ?_
  rw [parse_next u hu c hok hd2]
  exact ih _ hok
theorem parse_v3 (w : List UInt8) (hw : w.length < 4611686018427387904) : ∀ i, i <= w.length -> ∀ u : Nat, u <= 9223372036854775808 -> num_Parse.L1_0_1_1_1_1_1_0_1_0v3 (B w) (u : Int) true (i : Int) = pairV (parseGo u (w.drop i)) := by
 refine down (fun u hu => ?_) fun i hi ih u hu => ?_
 ·have hlt : ¬ ((w.length : Int) < (w.length : Int)) := by omega
  rw [num_Parse.L1_0_1_1_1_1_1_0_1_0v3_eq, B_size, decide_eq_false hlt, cond_true, cond_false, List.drop_length]
  unfold parseGo
  by_cases h : u = 9223372036854775808
  ·subst h; rfl
  ·have h' : ¬ ((u : Int) = 9223372036854775808) := by omega
   rw [if_neg h, beq_eq_false_iff_ne.2 h', wrap_in (by omega) (by omega)]
   rfl
 ·have hlt : ((i : Int) < (w.length : Int)) := by omega
  have hcond : (0 : Int) <= (i : Int) ∧ (i : Int) < (w.length : Int) := ⟨by omega, hlt⟩
  obtain ⟨c, hc⟩ : ∃ c, w.getD i 0 = c := ⟨_, rfl⟩
  have hd := drop_cons hi
  rw [hc] at hd
  rw [num_Parse.L1_0_1_1_1_1_1_0_1_0v3_eq, B_size, decide_eq_true hlt, cond_true, cond_true, if_pos hcond, if_pos hcond, Int.toNat_natCast, B_byte, hc, wrap_nat (by omega), hd]
  refine parse_round _ _ u hu c _ rfl fun hd2 hok => ?_
  rw [parse_next u hu c hok hd2]
  exact ih _ hok
theorem num_Parse_dg (c : UInt8) (r : List UInt8) (hc : dg c = true) (hw : (c :: r).length < 4611686018427387904) : den Sp num_Parse.id [.str (B (c :: r))] [] none = pairV (parse (c :: r)) := by
 have hc8 : c.toNat < 256 := c.toNat_lt
 have hb := hc
 unfold dg digit at hb
 simp only [Bool.and_eq_true, decide_eq_true_eq] at hb
 have hne : decide (B (c :: r) = B []) = false := by rw [B_dec]; rfl
 have hcond : (0 : Int) <= 0 ∧ (0 : Int) < (((c :: r).length : Nat) : Int) := ⟨Int.le_refl _, by simp⟩
 have h45 : ((c.toNat : Int) == (45 : Int)) = false := beq_eq_false_iff_ne.2 (by omega)
 have hg : (c :: r).getD 0 0 = c := rfl
 rw [num_Parse.eq, B_nil, hne, B_size, Bool.not_false, cond_true, if_pos hcond, B_byte, hg, h45, cond_false, cond_true, if_pos hcond]
 have p2 := parse_v2 (c :: r) hw 0 (by omega) 0 (by omega)
 have p3 := parse_v3 (c :: r) hw 0 (by omega) 0 (by omega)
 rw [List.drop_zero] at p2 p3
 unfold parse
 rw [hg]
 by_cases h48 : c = 48
 ·subst h48
  have h1 : (((48 : UInt8).toNat : Int) != (48 : Int)) = false := rfl
  rw [h1, cond_false]
  by_cases hr : (48 :: r).length = 1
  ·have h2 : ((((48 :: r).length : Nat) : Int) == (1 : Int)) = true := by rw [hr]; rfl
   rw [h2, if_pos (.inr hr)]
   exact p3
  ·have h2 : ((((48 :: r).length : Nat) : Int) == (1 : Int)) = false := beq_eq_false_iff_ne.2 (by omega)
   have h3 : ¬ ((48 : UInt8) ≠ 48 ∨ (48 :: r).length = 1) := fun h => h.elim (fun h => h rfl) hr
   rw [h2, if_neg h3]
   rw [num_Parse.L1_0_1_1_1_1_1_0_1_0v3_eq]
   rfl
 ·have h1 : ((c.toNat : Int) != (48 : Int)) = true := by
   have := byte_eq c 48 (by omega)
   show (!((c.toNat : Int) == ((48 : Nat) : Int))) = true
   rw [this]
   have h5 : (c == UInt8.ofNat 48) = false := beq_eq_false_iff_ne.2 h48
   rw [h5]; rfl
  rw [h1, cond_true, if_pos (.inl h48)]
  exact p2
theorem word_le (r : List UInt8) : (word r).length <= r.length := by
 unfold word
 exact (List.takeWhile_prefix inn).length_le
theorem signIn_le (r : List UInt8) : ∀ l, (signIn r l).length <= r.length
 | [] => Nat.zero_le _
 | x :: l => by
  unfold signIn
  split
  ·rename_i h
   have := congrArg List.length h
   simp at this; omega
  ·exact signIn_le r l
theorem sign_le (r : List UInt8) : (sign r).length <= r.length := signIn_le r signs
theorem next_le (r : List UInt8) (a : Int) : (next r a).2.1 <= r.length := by
 unfold next
 split
 ·exact Nat.zero_le _
 ·split
  ·exact word_le _
  ·split
   ·exact word_le _
   ·exact sign_le _
theorem dg_inn {c : UInt8} (h : dg c = true) : inn c = true := by
 unfold inn inner
 have : digit (c.toNat : Int) = true := h
 rw [this]; simp
theorem isKey_B' (l : List UInt8) : isKey (B l) = isKeyL l := isKey_B l
theorem dec_len (n m : Nat) : decide ((n : Int) <= (m : Int)) = decide (n <= m) := by
 by_cases h : n <= m
 ·rw [decide_eq_true h, decide_eq_true (by omega)]
 ·rw [decide_eq_false h, decide_eq_false (by omega)]
theorem lex_next_is (l : List UInt8) (hl : l.length < 1099511627776) (i : Nat) (hi : i <= l.length) :
  den Sp lex_reader_next.id [.ref 0 0] [rd l i] none = some ⟨.ret (.tup [.agg (next (l.drop i) i).1.v, .bool (next (l.drop i) i).2.2]), [rd l ((i + (next (l.drop i) i).2.1 : Nat) : Int)], none⟩ := by
 show den Sp lex_reader_next.id [.ref 0 0] [.cells T_lex_reader [.str (B l), .int .i64 i] false] none = _
 rw [lex_reader_next.eq]
 by_cases hend : i = l.length
 ·subst hend
  rw [B_size, beq_self_eq_true, cond_true, List.drop_length]
  rfl
 ·have hlt : i < l.length := by omega
  have hne : (((i : Nat) : Int) == ((l.length : Nat) : Int)) = false := beq_eq_false_iff_ne.2 (by omega)
  have hcond : (0 : Int) <= (i : Int) ∧ (i : Int) < (l.length : Int) := ⟨by omega, by omega⟩
  obtain ⟨c, hc⟩ : ∃ c, l.getD i 0 = c := ⟨_, rfl⟩
  have hd := drop_cons hlt
  rw [hc] at hd
  have hwd := lex_word_is l (by omega) i hi
  have hwl := word_le (l.drop i)
  rw [List.length_drop] at hwl
  have hwr : ∀ n : Nat, n <= l.length - i -> IntKind.wrap IntKind.i64 ((i : Int) + (n : Int)) = ((i + n : Nat) : Int) := fun n hn => by
   rw [wrap_in (by omega) (by omega)]; omega
  have hrd : (Blk.cells T_lex_reader [(V.str (B l)), (V.int IntKind.i64 i)] Bool.false) = rd l i := rfl
  rw [B_size, hne, cond_false, if_pos hcond, Int.toNat_natCast, B_byte, hc, lex_letter_is, lex_digit_is, hrd, hwd]
  simp only [Option.bind_some, onRet_ret, asBool_bool, bl_mk]
  have hcells : ∀ (k : (Nat -> V) -> Option Res), Blk.asCells (List.getD [rd l i] 0 (Blk.cells T_n0 [] Bool.true)) T_lex_reader 2 k = k (fun j => [(V.str (B l)), (V.int IntKind.i64 i)].getD j .undef) := fun k => by
   show Blk.asCells (Blk.cells T_lex_reader [(V.str (B l)), (V.int IntKind.i64 i)] false) T_lex_reader 2 k = _
   exact asCells_cells _ _ _ rfl k
  rw [hcells, hcells]
  have hstr : ∀ (k : ByteArray -> Option Res), V.asStr ([(V.str (B l)), (V.int IntKind.i64 i)].getD 0 .undef) k = k (B l) := fun k => rfl
  have hint : ∀ (k : Int -> Option Res), V.asInt ([(V.str (B l)), (V.int IntKind.i64 i)].getD (0 + 1) .undef) IntKind.i64 k = k (i : Int) := fun k => asInt_int _ _ k
  simp only [hstr, hint, asStr_str, lex_isKey_is, Option.bind_some, onRet_ret, asBool_bool, B_size]
  have hnx : next (l.drop i) i = if lt c then (⟨if isKeyL (word (l.drop i)) then 3 else 1, word (l.drop i), 0, i⟩, (word (l.drop i)).length, decide ((word (l.drop i)).length <= 40))
    else if dg c then (⟨2, [], (parse (word (l.drop i))).1, i⟩, (word (l.drop i)).length, decide ((parse (word (l.drop i))).2 = 0))
    else (⟨4, sign (l.drop i), 0, i⟩, (sign (l.drop i)).length, !decide (sign (l.drop i) = [])) := by
   generalize hr : l.drop i = r at hd
   subst hd
   rfl
  show (bif lt c then _ else _) = _
  cases hlc : lt c with
  | true =>
   rw [hnx, hlc, cond_true, if_pos rfl, isKey_B', hwr _ hwl]
   have h40 := dec_len (word (l.drop i)).length 40
   rw [show ((40 : Nat) : Int) = (40 : Int) from rfl] at h40
   rw [h40]
   cases isKeyL (word (l.drop i)) <;> simp only [cond_true, cond_false, if_true, Bool.false_eq_true, if_false] <;> rfl
  | false =>
   rw [hnx, hlc, cond_false]
   simp only [Bool.false_eq_true, if_false]
   show (bif dg c then _ else _) = _
   cases hdc : dg c with
   | true =>
    rw [cond_true]
    simp only [if_true]
    have hwc : word (l.drop i) = c :: word (l.drop (i + 1)) := by
     rw [hd]; unfold word
     rw [List.takeWhile_cons, dg_inn hdc]; rfl
    have hp := num_Parse_dg c (word (l.drop (i + 1))) hdc (by rw [<- hwc]; omega)
    rw [<- hwc] at hp
    rw [hp, hwr _ hwl]
    unfold pairV
    simp only [Option.bind_some, onRet_ret]
    have htp : ∀ (a b : V) (k : (Nat -> V) -> Option Res), V.asTup (.tup [a, b]) 2 k = k (fun j => [a, b].getD j .undef) := fun a b k => asTup_tup _ _ rfl k
    rw [htp]
    have hi1 : ∀ (a b : Int) (k : Int -> Option Res), V.asInt ([V.int .i64 a, V.int .i64 b].getD 0 .undef) IntKind.i64 k = k a := fun a b k => asInt_int _ _ k
    have hi2 : ∀ (a b : Int) (k : Int -> Option Res), V.asInt ([V.int .i64 a, V.int .i64 b].getD (0 + 1) .undef) IntKind.i64 k = k b := fun a b k => asInt_int _ _ k
    rw [hi1, hi2]
    rfl
   | false =>
    rw [cond_false]
    simp only [Bool.false_eq_true, if_false]
    have h1 : (0 : Int) <= (i : Int) := by omega
    have h2 : i <= l.length ∧ l.length <= l.length := ⟨hi, Nat.le_refl _⟩
    rw [if_pos h1, if_pos h2, B_extract]
    have htake : (l.drop i).take (l.length - i) = l.drop i := List.take_of_length_le (by simp)
    have hsl := sign_le (l.drop i)
    rw [List.length_drop] at hsl
    rw [htake, lex_sign_is _ (by rw [List.length_drop]; omega)]
    simp only [Option.bind_some, onRet_ret, asStr_str, B_size]
    rw [hwr _ hsl, B_nil, B_dec]
    rfl
theorem rd_cells (l : List UInt8) (i : Int) (k : (Nat -> V) -> Option Res) (d : Blk) : Blk.asCells (List.getD [rd l i] 0 d) T_lex_reader 2 k = k (fun j => [(V.str (B l)), (V.int IntKind.i64 i)].getD j .undef) :=
 asCells_cells (R := Res) _ _ _ rfl k
theorem rd_str (l : List UInt8) (i : Int) (k : ByteArray -> Option Res) : V.asStr ([(V.str (B l)), (V.int IntKind.i64 i)].getD 0 .undef) k = k (B l) := rfl
theorem rd_int (l : List UInt8) (i : Int) (k : Int -> Option Res) : V.asInt ([(V.str (B l)), (V.int IntKind.i64 i)].getD (0 + 1) .undef) IntKind.i64 k = k i := asInt_int _ _ k
theorem tup0 (k : (Nat -> V) -> Option Res) : V.asTup (.tup []) 0 k = k (fun j => ([] : List V).getD j .undef) := asTup_tup _ _ rfl k
theorem tup2 (a b : V) (k : (Nat -> V) -> Option Res) : V.asTup (.tup [a, b]) 2 k = k (fun j => [a, b].getD j .undef) := asTup_tup _ _ rfl k
theorem tk_agg (t : Tk) (b : V) (k : (Nat -> V) -> Option Res) : V.asAgg ([V.agg t.v, b].getD 0 .undef) 4 k = k (fun j => t.v.getD j .undef) := asAgg_agg (R := Res) t.v 4 rfl k
theorem tk_0 (t : Tk) (k : Int -> Option Res) : V.asInt (t.v.getD 0 .undef) IntKind.i64 k = k t.kind := asInt_int _ _ k
theorem tk_1 (t : Tk) (k : ByteArray -> Option Res) : V.asStr (t.v.getD 1 .undef) k = k (B t.text) := rfl
theorem tk_2 (t : Tk) (k : Int -> Option Res) : V.asInt (t.v.getD 2 .undef) IntKind.i64 k = k t.num := asInt_int _ _ k
theorem tk_3 (t : Tk) (k : Int -> Option Res) : V.asInt (t.v.getD 3 .undef) IntKind.i64 k = k t.at_ := asInt_int _ _ k
theorem bool_1 (a : V) (b : Bool) (k : Bool -> Option Res) : V.asBool ([a, V.bool b].getD (0 + 1) .undef) k = k b := rfl
theorem next_pos (r : List UInt8) (a : Int) (h1 : (next r a).2.2 = true) (h2 : (next r a).1.kind ≠ 0) : 0 < (next r a).2.1 := by
 cases r with
 | nil => exact absurd rfl h2
 | cons c r =>
  have hw : inn c = true -> 0 < (word (c :: r)).length := fun h => by
   unfold word; rw [List.takeWhile_cons, h]; simp
  have hx : next (c :: r) a = if lt c then (⟨if isKeyL (word (c :: r)) then 3 else 1, word (c :: r), 0, a⟩, (word (c :: r)).length, decide ((word (c :: r)).length <= 40))
    else if dg c then (⟨2, [], (parse (word (c :: r))).1, a⟩, (word (c :: r)).length, decide ((parse (word (c :: r))).2 = 0))
    else (⟨4, sign (c :: r), 0, a⟩, (sign (c :: r)).length, !decide (sign (c :: r) = [])) := rfl
  rw [hx] at h1 ⊢
  cases hl : lt c with
  | true =>
   have : inn c = true := by
    unfold inn inner
    have : letter (c.toNat : Int) = true := hl
    rw [this]; rfl
   simpa using hw this
  | false =>
   rw [hl] at h1
   simp only [Bool.false_eq_true, if_false] at h1 ⊢
   cases hd : dg c with
   | true => simpa using hw (dg_inn hd)
   | false =>
    rw [hd] at h1
    simp only [Bool.false_eq_true, if_false] at h1 ⊢
    rcases Nat.eq_zero_or_pos (sign (c :: r)).length with h | h
    ·rw [List.length_eq_zero_iff.1 h] at h1; simp at h1
    ·exact h
def scanV (x : List Tk × Int × Int) : Option Res := some ⟨.ret (.tup [.sl .no T_api_Token (x.1.map Tk.v), .int .i64 x.2.1, .int .i64 x.2.2]), [], none⟩
theorem scan_loop (l : List UInt8) (hl : l.length < 1099511627776) : ∀ (f i : Nat), i <= l.length -> l.length - i < f -> ∀ out : List Tk, out.length <= 4000 ->
  lex_Scan.L1_1_1_1_0 (out.map Tk.v) (B l) (i : Int) = scanV (scanGo f l.length out (l.drop i))
 | 0, i, hi, hf, out, ho => by omega
 | f + 1, i, hi, hf, out, ho => by
  have hskl := sk_le false (l.drop i)
  have hskd := sk_drop false (l.drop i)
  rw [List.length_drop] at hskl
  generalize hj : l.length - (sk false (l.drop i)).length = j
  have hij : i <= j := by omega
  have hjl : j <= l.length := by omega
  have hdj : sk false (l.drop i) = l.drop j := by
   rw [hskd, List.drop_drop]
   congr 1
   rw [List.length_drop]; omega
  have hbl := lex_blank_is l (by omega) i hi
  rw [hj] at hbl
  have hnx := lex_next_is l hl j hjl
  have hnl := next_le (l.drop j) j
  rw [List.length_drop] at hnl
  have hpos := next_pos (l.drop j) j
  have hrd : (Blk.cells T_lex_reader [(V.str (B l)), (V.int IntKind.i64 i)] Bool.false) = rd l i := rfl
  have hrdj : (Blk.cells T_lex_reader [(V.str (B l)), (V.int IntKind.i64 j)] Bool.false) = rd l j := rfl
  have hgo : scanGo (f + 1) l.length out (l.drop i) = if (next (l.drop j) j).2.2 = false then ([], (j : Int), 20) else if out.length = 4000 then ([], (j : Int), 2) else
    if (next (l.drop j) j).1.kind = 0 then (out ++ [(next (l.drop j) j).1], 0, 0) else scanGo f l.length (out ++ [(next (l.drop j) j).1]) ((l.drop j).drop (next (l.drop j) j).2.1) := by
   rw [scanGo_succ, hdj, List.length_drop]
   have : ((l.length - (l.length - j) : Nat) : Int) = (j : Int) := by omega
   rw [this]
  rw [lex_Scan.L1_1_1_1_0_eq, hrd, hbl]
  simp only [Option.bind_some, bl_mk]
  rw [rd_cells, rd_str, rd_int, onRet_ret, tup0, hrdj, hnx]
  simp only [Option.bind_some, bl_mk]
  rw [rd_cells, rd_str, rd_int, onRet_ret, tup2, tk_agg, tk_0, tk_1, tk_2, tk_3, bool_1, hgo]
  generalize next (l.drop j) j = x at *
  obtain ⟨t, n, ok⟩ := x
  dsimp only at *
  cases ok with
  | false => rfl
  | true =>
   rw [Bool.not_true, cond_false, if_neg (fun h : true = false => Bool.noConfusion h)]
   have hlen : (out.map Tk.v).length = out.length := List.length_map ..
   rw [hlen]
   by_cases h4 : out.length = 4000
   ·rw [if_pos h4, h4]; rfl
   ·have h5 : (((out.length : Nat) : Int) == (4000 : Int)) = false := beq_eq_false_iff_ne.2 (by omega)
    have h6 : out.length + (List.length [[(V.int IntKind.i64 t.kind), (V.str (B t.text)), (V.int IntKind.i64 t.num), (V.int IntKind.i64 t.at_)]]) <= most := by
     show out.length + 1 <= 1099511627776
     omega
    have h7 : out.map Tk.v ++ [[(V.int IntKind.i64 t.kind), (V.str (B t.text)), (V.int IntKind.i64 t.num), (V.int IntKind.i64 t.at_)]] = (out ++ [t]).map Tk.v := by
     rw [List.map_append]; rfl
    rw [h5, cond_false, if_neg h4, if_pos h6, h7]
    by_cases hk : t.kind = 0
    ·rw [if_pos hk, hk]; rfl
    ·rw [if_neg hk, beq_eq_false_iff_ne.2 hk, cond_false]
     have hp := hpos rfl hk
     have hdd : (l.drop j).drop n = l.drop (j + n) := List.drop_drop ..
     rw [hdd]
     exact scan_loop l hl f (j + n) (by omega) (by omega) (out ++ [t]) (by rw [List.length_append, List.length_singleton]; omega)
theorem lex_Scan_is (l : List UInt8) (hl : l.length < 1099511627776) : den Sp lex_Scan.id [.str (B l)] [] none = scanV (scan l) := by
 rw [lex_Scan.eq, B_size]
 unfold scan
 by_cases h : l.length > 16384
 ·have h1 : ((l.length : Nat) : Int) > 16384 := by omega
  rw [if_pos h, decide_eq_true h1]; rfl
 ·have h1 : ¬ ((l.length : Nat) : Int) > 16384 := by omega
  rw [if_neg h, decide_eq_false h1, cond_false]
  have := scan_loop l hl (l.length + 1) 0 (by omega) (by omega) [] (by simp)
  rw [List.drop_zero] at this
  exact this
def SimT (a b : Tk) : Prop := a.kind = b.kind ∧ a.text = b.text ∧ a.num = b.num
def Sim (xs ys : List Tk) : Prop := xs.length = ys.length ∧ ∀ (i : Nat) a b, xs[i]? = some a -> ys[i]? = some b -> SimT a b
theorem Sim.nil : Sim [] [] := ⟨rfl, fun i a b h => by simp at h⟩
theorem Sim.snoc {xs ys : List Tk} {a b : Tk} (h : Sim xs ys) (hab : SimT a b) : Sim (xs ++ [a]) (ys ++ [b]) := by
 refine ⟨by simp [h.1], fun i p q hx hy => ?_⟩
 rcases Nat.lt_or_ge i xs.length with hi | hi
 ·rw [List.getElem?_append_left hi] at hx
  rw [List.getElem?_append_left (by rw [<- h.1]; exact hi)] at hy
  exact h.2 i p q hx hy
 ·rw [List.getElem?_append_right hi] at hx
  rw [List.getElem?_append_right (by rw [<- h.1]; exact hi), <- h.1] at hy
  have h0 : i - xs.length = 0 := by
   rcases Nat.eq_zero_or_pos (i - xs.length) with h0 | h0
   ·exact h0
   ·rw [List.getElem?_eq_none (by simp; omega)] at hx; cases hx
  rw [h0] at hx hy
  simp at hx hy
  subst hx; subst hy; exact hab
theorem next_cons (c : UInt8) (r : List UInt8) (a : Int) : next (c :: r) a = if lt c then (⟨if isKeyL (word (c :: r)) then 3 else 1, word (c :: r), 0, a⟩, (word (c :: r)).length, decide ((word (c :: r)).length <= 40))
  else if dg c then (⟨2, [], (parse (word (c :: r))).1, a⟩, (word (c :: r)).length, decide ((parse (word (c :: r))).2 = 0))
  else (⟨4, sign (c :: r), 0, a⟩, (sign (c :: r)).length, !decide (sign (c :: r) = [])) := rfl
theorem next_shift (r : List UInt8) (a a' : Int) : SimT (next r a).1 (next r a').1 ∧ (next r a).2 = (next r a').2 ∧ (next r a).1.at_ = a := by
 cases r with
 | nil => exact ⟨⟨rfl, rfl, rfl⟩, rfl, rfl⟩
 | cons c r =>
  rw [next_cons, next_cons]
  cases lt c <;> cases dg c <;> exact ⟨⟨rfl, rfl, rfl⟩, rfl, rfl⟩
theorem sk_cases (rm : Bool) (c : UInt8) (r : List UInt8) : (∃ rm', ∀ r2, sk rm (c :: r2) = sk rm' r2) ∨ (rm = false ∧ ∀ r2, sk rm (c :: r2) = c :: r2) := by
 by_cases h10 : c = 10
 ·exact .inl ⟨false, fun r2 => by rw [sk, if_pos h10]⟩
 ·cases rm with
  | true => exact .inl ⟨true, fun r2 => by rw [sk, if_neg h10, if_pos rfl]⟩
  | false =>
   have hf : ¬ (false = true) := fun h => Bool.noConfusion h
   by_cases h32 : c = 32
   ·exact .inl ⟨false, fun r2 => by rw [sk, if_neg h10, if_neg hf, if_pos h32]⟩
   ·by_cases h35 : c = 35
    ·exact .inl ⟨true, fun r2 => by rw [sk, if_neg h10, if_neg hf, if_neg h32, if_pos h35]⟩
    ·exact .inr ⟨rfl, fun r2 => by rw [sk, if_neg h10, if_neg hf, if_neg h32, if_neg h35]⟩
theorem sk_state : ∀ (rm : Bool) (r : List UInt8), ∃ rm', (∀ y, sk rm (r.take (r.length - (sk rm r).length) ++ y) = sk rm' y) ∧ (sk rm r ≠ [] -> rm' = false)
 | rm, [] => ⟨rm, fun y => by simp [sk], fun h => absurd rfl h⟩
 | rm, c :: r => by
  rcases sk_cases rm c r with ⟨rm', h⟩ | ⟨rfl, h⟩
  ·obtain ⟨rm2, h1, h2⟩ := sk_state rm' r
   have hle := sk_le rm' r
   rw [h r]
   refine ⟨rm2, fun y => ?_, h2⟩
   rw [show (c :: r).length - (sk rm' r).length = (r.length - (sk rm' r).length) + 1 by rw [List.length_cons]; omega, List.take_succ_cons, List.cons_append, h]
   exact h1 y
  ·rw [h r]
   exact ⟨false, fun y => by simp, fun _ => rfl⟩
theorem sk_idem : ∀ (rm : Bool) (r : List UInt8), sk false (sk rm r) = sk rm r
 | rm, [] => rfl
 | rm, c :: r => by
  rcases sk_cases rm c r with ⟨rm', h⟩ | ⟨rfl, h⟩
  ·rw [h r]; exact sk_idem rm' r
  ·rw [h r]; exact h r
theorem sk_pre (r : List UInt8) (d : Nat) (z : List UInt8) (h : sk false r ≠ []) (hd : r.length - (sk false r).length < d) :
  sk false (r.take d ++ z) = (sk false r).take (d - (r.length - (sk false r).length)) ++ z := by
 obtain ⟨rm', h1, h2⟩ := sk_state false r
 obtain rfl := h2 h
 have hdr := sk_drop false r
 have hle := sk_le false r
 generalize he : r.length - (sk false r).length = e at *
 have hsplit : r.take d = r.take e ++ (sk false r).take (d - e) := by
  rw [hdr]
  have : r.take d = (r.take e ++ r.drop e).take d := by rw [List.take_append_drop]
  rw [this, List.take_append, List.take_take, List.length_take, Nat.min_eq_right (by omega)]
  congr 2
  omega
 rw [hsplit, List.append_assoc, h1]
 cases hs : sk false r with
 | nil => exact absurd hs h
 | cons c r1 =>
  have hid := sk_idem false r
  rw [hs] at hid
  obtain ⟨m, hm⟩ : ∃ m, d - e = m + 1 := ⟨d - e - 1, by omega⟩
  rw [hm, List.take_succ_cons, List.cons_append]
  rcases sk_cases false c r1 with ⟨rm2, h3⟩ | ⟨_, h3⟩
  ·exfalso
   rw [h3] at hid
   have := sk_le rm2 r1
   rw [hid, List.length_cons] at this
   omega
  ·exact h3 _
structure Blankish (x : List UInt8) : Prop where
 f : ∀ y, sk false (x ++ y) = sk false y
 t : sk true x = []
 hd : ∃ e x', x = e :: x' ∧ inn e = false ∧ lt e = false ∧ ∀ y ∈ signs, e ∉ y
theorem word_stop (q : List UInt8) (e : UInt8) (z : List UInt8) (he : inn e = false) : word (q ++ e :: z) = word q := by
 unfold word
 induction q with
 | nil => rw [List.nil_append, List.takeWhile_cons, he]; simp
 | cons c q ih =>
  rw [List.cons_append, List.takeWhile_cons, List.takeWhile_cons, ih]
theorem signIn_stop (q : List UInt8) (e : UInt8) (z : List UInt8) : ∀ l : List (List UInt8), (∀ y ∈ l, e ∉ y) -> signIn (q ++ e :: z) l = signIn q l
 | [], _ => rfl
 | y :: l, h => by
  unfold signIn
  rw [signIn_stop q e z l fun y hy => h y (List.mem_cons_of_mem _ hy)]
  have : (q ++ e :: z).take y.length = y ↔ q.take y.length = y := by
   rcases Nat.lt_or_ge q.length y.length with hlt | hge
   ·constructor
    ·intro h1
     exfalso
     apply h y (List.mem_cons_self ..)
     rw [<- h1, List.take_append]
     refine List.mem_append_right _ ?_
     obtain ⟨m, hm⟩ : ∃ m, y.length - q.length = m + 1 := ⟨y.length - q.length - 1, by omega⟩
     rw [hm, List.take_succ_cons]
     exact List.mem_cons_self ..
    ·intro h1
     have := congrArg List.length h1
     rw [List.length_take] at this
     omega
   ·rw [List.take_append, show y.length - q.length = 0 by omega]
    simp
  by_cases h1 : q.take y.length = y
  ·rw [if_pos h1, if_pos (this.2 h1)]
  ·rw [if_neg h1, if_neg fun h2 => h1 (this.1 h2)]
theorem next_stop (q : List UInt8) (hq : q ≠ []) (e : UInt8) (z : List UInt8) (a : Int) (he : inn e = false) (hs : ∀ y ∈ signs, e ∉ y) : next (q ++ e :: z) a = next q a := by
 cases q with
 | nil => exact absurd rfl hq
 | cons c q =>
  have h1 := word_stop (c :: q) e z he
  have h2 : sign (c :: q ++ e :: z) = sign (c :: q) := signIn_stop (c :: q) e z signs hs
  rw [List.cons_append] at h1 h2 ⊢
  rw [next_cons, next_cons, h1, h2]
theorem next_zero_cons {c : UInt8} {r : List UInt8} {a : Int} : (next (c :: r) a).1.kind ≠ 0 := by
 rw [next_cons]
 cases lt c <;> cases dg c <;> cases isKeyL (word (c :: r)) <;> simp
end Go.Proofs.YtennkhdlpbggkaaDoor
namespace Go.Proofs.Px
open Go Go.Proofs.Ab
end Go.Proofs.Px
namespace Go.Proofs.YtennkhdlpbggkaaDoor
open Go Go.Proofs.Ab Go.Proofs.Px
end Go.Proofs.YtennkhdlpbggkaaDoor
namespace Go.Proofs.YtennkhdlpbggkaaDoor
open Go Go.Proofs.Ab
end Go.Proofs.YtennkhdlpbggkaaDoor
namespace Go.Proofs.YtennkhdlpbggkaaDoor
open Go Go.Proofs.Ab Go.Proofs.Px
def Tail (r : List UInt8) : Prop := r = [] ∨ ∃ q, r = 32 :: q
theorem word_tail {r : List UInt8} (h : Tail r) : word r = [] := by
 rcases h with rfl | ⟨q, rfl⟩
 ·rfl
 ·unfold word
  rw [List.takeWhile_cons]; rfl
theorem word_app : ∀ {w : List UInt8} (r : List UInt8), (∀ c ∈ w, inn c = true) -> word (w ++ r) = w ++ word r
 | [], r, _ => rfl
 | c :: w, r, h => by
  have := word_app (w := w) r fun d hd => h d (List.mem_cons_of_mem _ hd)
  unfold word at *
  rw [List.cons_append, List.takeWhile_cons, h c List.mem_cons_self, if_pos rfl, this]; rfl
theorem word_inn : ∀ {w : List UInt8} (h : word w = w), ∀ c ∈ w, inn c = true
 | [], _, c, hc => by cases hc
 | d :: w, h, c, hc => by
  unfold word at h
  rw [List.takeWhile_cons] at h
  cases hd : inn d with
  | false => rw [hd] at h; simp at h
  | true =>
   rw [hd] at h
   simp only [if_true, List.cons.injEq, true_and] at h
   rcases List.mem_cons.1 hc with rfl | hc
   ·exact hd
   ·exact word_inn (w := w) h c hc
theorem word_rest {w r : List UInt8} (h : word w = w) (hr : Tail r) : word (w ++ r) = w := by
 rw [word_app r (word_inn h), word_tail hr, List.append_nil]
theorem getD_app {w : List UInt8} (r : List UInt8) (h : w ≠ []) : ∃ c q, w ++ r = c :: q ∧ c = w.getD 0 0 := by
 cases w with
 | nil => exact absurd rfl h
 | cons c w => exact ⟨c, w ++ r, rfl, rfl⟩
theorem signIn_two (l : List UInt8) : ∀ s : List (List UInt8), (∀ x ∈ s, x.length <= 2) -> signIn l s = signIn (l.take 2) s
 | [], _ => rfl
 | x :: s, h => by
  have h1 := signIn_two l s fun y hy => h y (List.mem_cons_of_mem _ hy)
  have h2 := h x List.mem_cons_self
  unfold signIn
  rw [List.take_take, Nat.min_eq_left h2, h1]
theorem sign_two (l : List UInt8) : sign l = sign (l.take 2) := signIn_two l signs (by decide)
theorem sign_rest {w r : List UInt8} (h : isSign w = true) (hr : Tail r) : sign (w ++ r) = w ∧ w ≠ [] ∧ lt (w.getD 0 0) = false ∧ dg (w.getD 0 0) = false := by
 have h1 : signs.all (fun x => decide (sign (x.take 2) = x) && decide (sign ((x ++ [32]).take 2) = x) && decide (x ≠ []) && !lt (x.getD 0 0) && !dg (x.getD 0 0)) = true := by decide
 unfold isSign at h
 have := List.all_eq_true.1 h1 w (List.contains_iff_mem.1 h)
 simp only [Bool.and_eq_true, decide_eq_true_eq, Bool.not_eq_true'] at this
 obtain ⟨⟨⟨⟨h2, h3⟩, h4⟩, h5⟩, h6⟩ := this
 refine ⟨?_, h4, h5, h6⟩
 rcases hr with rfl | ⟨q, rfl⟩
 ·rw [List.append_nil, sign_two, h2]
 ·rw [sign_two]
  have : (w ++ 32 :: q).take 2 = (w ++ [32]).take 2 := by
   rw [show w ++ 32 :: q = (w ++ [32]) ++ q by simp, List.take_append_of_le_length]
   rw [List.length_append, List.length_singleton]
   have := List.length_pos_iff.2 h4
   omega
  rw [this, h3]
theorem worth_mono : ∀ (l : List UInt8) (u : Nat), u <= worth u l
 | [], u => by rw [worth_nil]; exact Nat.le_refl _
 | c :: l, u => by
  have := worth_mono l (u * 10 + (c.toNat - 48))
  rw [worth_cons]; omega
theorem parseGo_worth : ∀ (l : List UInt8) (u : Nat), (∀ c ∈ l, 48 <= c.toNat ∧ c.toNat <= 57) -> worth u l < 9223372036854775808 -> parseGo u l = (((worth u l : Nat) : Int), 0)
 | [], u, _, h => by
  rw [worth_nil] at *
  unfold parseGo
  rw [if_neg (by omega)]
 | c :: l, u, hd, h => by
  have h1 := hd c List.mem_cons_self
  rw [worth_cons] at *
  have h2 := worth_mono l (u * 10 + (c.toNat - 48))
  have h3 : dg c = true := by
   unfold dg digit
   rw [decide_eq_true (by omega), decide_eq_true (by omega)]; rfl
  unfold parseGo
  rw [if_pos ⟨h3, by omega⟩]
  exact parseGo_worth l _ (fun d hd' => hd d (List.mem_cons_of_mem _ hd')) h
theorem parse_dec (n : Nat) (h : n < 9223372036854775808) : parse (dec n) = ((n : Int), 0) := by
 have hp : n < 10 ^ 20 := Nat.lt_trans h (by decide)
 have hw := dec_worth n hp
 have hg := parseGo_worth (dec n) 0 (dec_digits n) (by rw [hw]; exact h)
 unfold parse
 rw [if_pos, hg, hw]
 rcases Nat.eq_zero_or_pos n with rfl | hn
 ·exact .inr rfl
 ·exact .inl (decGo_head 20 n [] hp (by omega) hn)
theorem dec_inn (n : Nat) : word (dec n) = dec n := word_all fun c hc => by
 have := dec_digits n c hc
 unfold inn inner digit
 rw [decide_eq_true (by omega), decide_eq_true (by omega)]; simp
theorem dec_head (n : Nat) : dec n ≠ [] ∧ dg ((dec n).getD 0 0) = true ∧ lt ((dec n).getD 0 0) = false := by
 have h0 : dec n ≠ [] := decGo_ne 20 n [] (by omega)
 obtain ⟨c, q, hc⟩ : ∃ c q, dec n = c :: q := by
  cases h : dec n with
  | nil => exact absurd h h0
  | cons c q => exact ⟨c, q, rfl⟩
 have hd := dec_digits n c (by rw [hc]; exact List.mem_cons_self)
 rw [hc]
 refine ⟨by simp, ?_, ?_⟩
 ·show dg c = true
  unfold dg digit
  rw [decide_eq_true (by omega), decide_eq_true (by omega)]; rfl
 ·show lt c = false
  unfold lt letter
  rw [decide_eq_false (p := 65 <= (c.toNat : Int)) (by omega), decide_eq_false (p := 97 <= (c.toNat : Int)) (by omega)]; rfl
theorem next_back {t : Tk} (hw : wrOk t = true) (hok : TkOk t) {r : List UInt8} (hr : Tail r) (a : Int) :
  next (wrT t ++ r) a = (⟨t.kind, t.text, t.num, a⟩, (wrT t).length, true) ∧ wrT t ≠ [] := by
 have hb := i64_bounds hok.num
 obtain ⟨kind, text, num, at_⟩ := t
 have go : ∀ (w : List UInt8) (c : UInt8) (q : List UInt8), w ++ r = c :: q -> next (w ++ r) a = if lt c then (⟨if isKeyL (word (w ++ r)) then 3 else 1, word (w ++ r), 0, a⟩, (word (w ++ r)).length, decide ((word (w ++ r)).length <= 40))
   else if dg c then (⟨2, [], (parse (word (w ++ r))).1, a⟩, (word (w ++ r)).length, decide ((parse (word (w ++ r))).2 = 0)) else (⟨4, sign (w ++ r), 0, a⟩, (sign (w ++ r)).length, !decide (sign (w ++ r) = [])) := fun w c q h => by
  rw [h]; rfl
 dsimp only at *
 unfold wrOk at hw
 unfold wrT
 dsimp only at *
 by_cases h1 : kind = 1
 ·subst h1
  simp only [if_true, Bool.and_eq_true, decide_eq_true_eq] at hw
  obtain ⟨rfl, hn⟩ := hw
  obtain ⟨f1, f2, f3, f4, f5⟩ := name_facts hn
  obtain ⟨c, q, hc, hcc⟩ := getD_app r f1
  rw [if_neg (by decide), go text c q hc, hcc, f3, word_rest f5 hr, f4]
  simp [f2, f1]
 ·by_cases h3 : kind = 3
  ·subst h3
   simp only [if_true, Bool.and_eq_true, decide_eq_true_eq] at hw
   rw [if_neg h1] at hw
   simp only [Bool.and_eq_true, decide_eq_true_eq] at hw
   obtain ⟨rfl, hn⟩ := hw
   obtain ⟨f1, f2, f3, f5⟩ := key_facts hn
   obtain ⟨c, q, hc, hcc⟩ := getD_app r f1
   rw [if_neg (by decide), go text c q hc, hcc, f3, word_rest f5 hr, hn]
   simp [f2, f1]
  ·rw [if_neg h1, if_neg h3] at hw
   by_cases h4 : kind = 4
   ·subst h4
    simp only [if_true, Bool.and_eq_true, decide_eq_true_eq] at hw
    obtain ⟨rfl, hn⟩ := hw
    obtain ⟨f1, f2, f3, f4⟩ := sign_rest hn hr
    obtain ⟨c, q, hc, hcc⟩ := getD_app r f2
    rw [if_neg (by decide), go text c q hc, hcc, f3, f4, f1]
    simp [f2]
   ·rw [if_neg h4] at hw
    by_cases h2 : kind = 2
    ·subst h2
     simp only [if_true, Bool.and_eq_true, decide_eq_true_eq] at hw
     obtain ⟨rfl, hn⟩ := hw
     have hdec : decs num = dec num.natAbs := by unfold decs; rw [if_neg (by omega)]
     obtain ⟨f1, f2, f3⟩ := dec_head num.natAbs
     obtain ⟨c, q, hc, hcc⟩ := getD_app r f1
     have hp := parse_dec num.natAbs (by omega)
     rw [if_pos rfl, hdec, go (dec num.natAbs) c q hc, hcc, f3, f2, word_rest (dec_inn _) hr, hp]
     have h5 : ((num.natAbs : Nat) : Int) = num := by omega
     simp [f1, h5]
    ·rw [if_neg h2] at hw
     cases hw
inductive Ex where
 | mk (kind : Int) (name : List UInt8) (num : Int) (l : List Ex)
instance : Inhabited Ex := ⟨.mk 0 [] 0 []⟩
def Ex.kind : Ex -> Int | .mk k _ _ _ => k
def Ex.name : Ex -> List UInt8 | .mk _ n _ _ => n
def Ex.num : Ex -> Int | .mk _ _ m _ => m
def Ex.l : Ex -> List Ex | .mk _ _ _ l => l
mutual
def Ex.v : Ex -> List V
 | .mk k n m l => [.int .i64 k, .str (B n), .int .i64 m, .sl .no T_api_Expr (Ex.vs l)]
def Ex.vs : List Ex -> List (List V)
 | [] => []
 | x :: l => Ex.v x :: Ex.vs l
end
theorem Ex.vs_map : ∀ l : List Ex, Ex.vs l = l.map Ex.v
 | [] => by rw [Ex.vs]; rfl
 | x :: l => by rw [Ex.vs, Ex.vs_map l]; rfl
theorem Ex.v_mk (k : Int) (n : List UInt8) (m : Int) (l : List Ex) : Ex.v (.mk k n m l) = [.int .i64 k, .str (B n), .int .i64 m, .sl .no T_api_Expr (l.map Ex.v)] := by rw [Ex.v, Ex.vs_map]
theorem Ex.v_is (x : Ex) : x.v = [.int .i64 x.kind, .str (B x.name), .int .i64 x.num, .sl .no T_api_Expr (x.l.map Ex.v)] := by cases x; exact Ex.v_mk ..
mutual
theorem Ex.ind {p : Ex -> Prop} (h : ∀ k n m l, (∀ x ∈ l, p x) -> p (.mk k n m l)) : ∀ x, p x
 | .mk k n m l => h k n m l (Ex.inds h l)
theorem Ex.inds {p : Ex -> Prop} (h : ∀ k n m l, (∀ x ∈ l, p x) -> p (.mk k n m l)) : ∀ (l : List Ex) (x : Ex), x ∈ l -> p x
 | [] => nofun
 | y :: l => fun x hx => (List.mem_cons.1 hx).elim (fun e => e ▸ Ex.ind h y) (Ex.inds h l x)
end
inductive ExOk : Ex -> Prop where
 | mk {k : Int} {n : List UInt8} {m : Int} {l : List Ex} (hk : (Lit.int .i64 k).wf = true) (hn : n.length <= 140737488351232) (hm : (Lit.int .i64 m).wf = true) (hl : l.length <= 140737488351232) (h : ∀ x ∈ l, ExOk x) : ExOk (.mk k n m l)
theorem ExOk.inv {k : Int} {n : List UInt8} {m : Int} {l : List Ex} (h : ExOk (.mk k n m l)) : (Lit.int .i64 k).wf = true ∧ n.length <= 140737488351232 ∧ (Lit.int .i64 m).wf = true ∧ l.length <= 140737488351232 ∧ ∀ x ∈ l, ExOk x := by
 cases h with
 | mk hk hn hm hl h => exact ⟨hk, hn, hm, hl, h⟩
mutual
def Ex.size : Ex -> Nat
 | .mk _ n _ l => 1 + n.length / 8 + Ex.sizes l
def Ex.sizes : List Ex -> Nat
 | [] => 0
 | x :: l => Ex.size x + Ex.sizes l
end
@[simp] theorem Ex.v_0 (x : Ex) : x.v.getD 0 .undef = .int .i64 x.kind := by rw [Ex.v_is]; rfl
@[simp] theorem Ex.v_1 (x : Ex) : x.v.getD 1 .undef = .str (B x.name) := by rw [Ex.v_is]; rfl
@[simp] theorem Ex.v_2 (x : Ex) : x.v.getD 2 .undef = .int .i64 x.num := by rw [Ex.v_is]; rfl
@[simp] theorem Ex.v_3 (x : Ex) : x.v.getD 3 .undef = .sl .no T_api_Expr (x.l.map Ex.v) := by rw [Ex.v_is]; rfl
@[simp] theorem Ex.kind_mk (k : Int) (s : List UInt8) (m : Int) (l : List Ex) : (Ex.mk k s m l).kind = k := rfl
@[simp] theorem Ex.name_mk (k : Int) (s : List UInt8) (m : Int) (l : List Ex) : (Ex.mk k s m l).name = s := rfl
@[simp] theorem Ex.num_mk (k : Int) (s : List UInt8) (m : Int) (l : List Ex) : (Ex.mk k s m l).num = m := rfl
@[simp] theorem Ex.l_mk (k : Int) (s : List UInt8) (m : Int) (l : List Ex) : (Ex.mk k s m l).l = l := rfl
@[simp] theorem Ex.v_list (x : Ex) : [V.int .i64 x.kind, V.str (B x.name), V.int .i64 x.num, V.sl .no T_api_Expr (x.l.map Ex.v)] = x.v := by rw [Ex.v_is]
@[simp] theorem asAgg_ex (x : Ex) (k : (Nat -> V) -> Option Res) : V.asAgg (.agg x.v) 4 k = k (fun j => x.v.getD j .undef) := asAgg_agg _ _ (by rw [Ex.v_is]; rfl) k
@[simp] theorem Ex.q0 (x : Ex) : x.v[0]?.getD V.undef = .int .i64 x.kind := by rw [Ex.v_is]; rfl
@[simp] theorem Ex.q1 (x : Ex) : x.v[1]?.getD V.undef = .str (B x.name) := by rw [Ex.v_is]; rfl
@[simp] theorem Ex.q2 (x : Ex) : x.v[2]?.getD V.undef = .int .i64 x.num := by rw [Ex.v_is]; rfl
@[simp] theorem Ex.q3 (x : Ex) : x.v[3]?.getD V.undef = .sl .no T_api_Expr (x.l.map Ex.v) := by rw [Ex.v_is]; rfl
def tk (l : List Tk) (k : Nat) : Tk := l.getD k ⟨0, [], 0, 0⟩
def isT (t : Tk) (s : List UInt8) : Bool := (decide (t.kind = 3) || decide (t.kind = 4)) && decide (t.text = s)
def opensT (t : Tk) : Bool := decide (t.kind = 1) || decide (t.kind = 2) || isT t [116, 114, 117, 101] || isT t [102, 97, 108, 115, 101] || isT t [40] || isT t [45] || isT t [33]
def levelT (s : List UInt8) : Int :=
 if s = [124, 124] then 1 else if s = [38, 38] then 2 else if s = [61, 61] then 3 else if s = [33, 61] then 3 else if s = [60] then 3 else if s = [60, 61] then 3
 else if s = [43] then 4 else if s = [45] then 4 else if s = [42] then 5 else if s = [47] then 5 else if s = [37] then 5 else 0
def signT (t : Tk) : Int := if t.kind = 4 then levelT t.text else 0
abbrev Rd := Except (Int × Int) (Ex × Nat)
def partR (l : List Tk) (d : Int) (k : Nat) (r : Rd) : Rd := if opensT (tk l k) = false then .error ((tk l k).at_, 30) else if 60 < d then .error ((tk l k).at_, 31) else r
def wantR (l : List Tk) (s : List UInt8) (r : Rd) (f : Ex -> Ex) : Rd := match r with
 | .error e => .error e
 | .ok (x, k) => if isT (tk l k) s then .ok (f x, k + 1) else .error ((tk l k).at_, 30)
mutual
def oneW (l : List Tk) (d : Int) (k : Nat) : Rd :=
 if hk : k < l.length then
  if isT (tk l k) [45] = true ∨ isT (tk l k) [33] = true then
   partR l (d + 1) (k + 1) (match oneW l (d + 1) (k + 1) with | .error e => .error e | .ok (x, j) => .ok (.mk 5 (tk l k).text 0 [x], j))
  else if isT (tk l k) [40] = true then wantR l [41] (partR l (d + 1) (k + 1) (tightW l 1 (d + 1) (k + 1))) id
  else if isT (tk l k) [116, 114, 117, 101] = true then .ok (.mk 2 [] 1 [], k + 1)
  else if isT (tk l k) [102, 97, 108, 115, 101] = true then .ok (.mk 2 [] 0 [], k + 1)
  else if (tk l k).kind = 2 then .ok (.mk 1 [] (tk l k).num [], k + 1)
  else if (tk l k).kind ≠ 1 then .error ((tk l k).at_, 30)
  else if isT (tk l (k + 1)) [91] = true then wantR l [93] (partR l (d + 1) (k + 2) (tightW l 1 (d + 1) (k + 2))) (fun x => .mk 4 (tk l k).text 0 [x])
  else .ok (.mk 3 (tk l k).text 0 [], k + 1)
 else .error (0, 0)
termination_by (l.length - k, 0)
def tightW (l : List Tk) (n d : Int) (k : Nat) : Rd :=
 match oneW l d k with
 | .error e => .error e
 | .ok (x, j) => if h : k < j ∧ k < l.length then loopW l n d 5 x j else .error (0, 0)
termination_by (l.length - k, 1)
def loopW (l : List Tk) (n d most : Int) (x : Ex) (k : Nat) : Rd :=
 if hk : k < l.length then
  if signT (tk l k) = 0 ∨ signT (tk l k) < n ∨ most < signT (tk l k) then .ok (x, k)
  else match tightW l (signT (tk l k) + 1) d (k + 1) with
   | .error e => .error e
   | .ok (y, j) => if h : k < j then loopW l n d (if signT (tk l k) = 3 then 2 else signT (tk l k)) (.mk 6 (tk l k).text 0 [x, y]) j else .error (0, 0)
 else .error (0, 0)
termination_by (l.length - k, 2)
decreasing_by all_goals (simp_wf; first | omega | (apply Prod.Lex.left; omega) | (apply Prod.Lex.right; omega))
end
structure Ended (l : List Tk) : Prop where
 last : ∀ k, k < l.length -> ((tk l k).kind = 0 ↔ k + 1 = l.length)
theorem isT_kind {t : Tk} {s : List UInt8} (h : isT t s = true) : t.kind = 3 ∨ t.kind = 4 := by
 unfold isT at h
 simp only [Bool.and_eq_true, Bool.or_eq_true, decide_eq_true_eq] at h
 exact h.1
theorem Ended.next {l : List Tk} (hl : Ended l) {k : Nat} (hk : k < l.length) (h : (tk l k).kind ≠ 0) : k + 1 < l.length := by
 have := mt (hl.last k hk).2 h
 omega
theorem Ended.isT {l : List Tk} (hl : Ended l) {k : Nat} {s : List UInt8} (hk : k < l.length) (h : isT (tk l k) s = true) : k + 1 < l.length :=
 hl.next hk (by rcases isT_kind h with h | h <;> omega)
theorem partR_ok {l : List Tk} {d : Int} {k : Nat} {r : Rd} {x : Ex × Nat} (h : partR l d k r = .ok x) : r = .ok x := by
 unfold partR at h
 split at h
 ·cases h
 ·split at h
  ·cases h
  ·exact h
theorem wantR_ok {l : List Tk} {s : List UInt8} {r : Rd} {f : Ex -> Ex} {x : Ex × Nat} (h : wantR l s r f = .ok x) : ∃ y k, r = .ok (y, k) ∧ isT (tk l k) s = true ∧ x = (f y, k + 1) := by
 unfold wantR at h
 split at h
 ·cases h
 ·rename_i y k
  split at h
  ·rename_i c; exact ⟨y, k, rfl, c, (Except.ok.inj h).symm⟩
  ·cases h
theorem goes {l : List Tk} (hl : Ended l) : ∀ m k : Nat, l.length - k <= m -> k < l.length ->
  (∀ d x j, oneW l d k = .ok (x, j) -> k < j ∧ j < l.length) ∧ (∀ n d x j, tightW l n d k = .ok (x, j) -> k < j ∧ j < l.length) ∧ (∀ n d p y x j, loopW l n d p y k = .ok (x, j) -> k <= j ∧ j < l.length) := by
 intro m
 induction m with
 | zero => intro k h1 h2; omega
 | succ m ih =>
  intro k hm hk
  have one : ∀ d x j, oneW l d k = .ok (x, j) -> k < j ∧ j < l.length := by
   intro d x j h
   rw [oneW, dif_pos hk] at h
   split at h
   ·rename_i c
    have hk1 : k + 1 < l.length := by rcases c with c | c <;> exact hl.isT hk c
    have h := partR_ok h
    split at h
    ·cases h
    ·rename_i y i hy
     have := (ih (k + 1) (by omega) hk1).1 _ _ _ hy
     cases h; omega
   split at h
   ·rename_i c
    have hk1 := hl.isT hk c
    obtain ⟨y, i, h1, h2, h3⟩ := wantR_ok h
    have := (ih (k + 1) (by omega) hk1).2.1 _ _ _ _ (partR_ok h1)
    have := hl.isT this.2 h2
    cases h3; omega
   split at h
   ·rename_i c; have := hl.isT hk c; cases h; omega
   split at h
   ·rename_i c; have := hl.isT hk c; cases h; omega
   split at h
   ·rename_i c; have := hl.next hk (by omega); cases h; omega
   split at h
   ·cases h
   have hk1 : k + 1 < l.length := hl.next hk (by omega)
   split at h
   ·rename_i c
    have hk2 := hl.isT hk1 c
    obtain ⟨y, i, h1, h2, h3⟩ := wantR_ok h
    have := (ih (k + 2) (by omega) hk2).2.1 _ _ _ _ (partR_ok h1)
    have := hl.isT this.2 h2
    cases h3; omega
   ·cases h; omega
  have loop : ∀ n d p y x j, loopW l n d p y k = .ok (x, j) -> k <= j ∧ j < l.length := by
   intro n d p y x j h
   rw [loopW, dif_pos hk] at h
   split at h
   ·cases h; omega
   ·rename_i c
    have hk1 : k + 1 < l.length := hl.next hk (by
     intro h0; apply c; left; unfold signT; rw [if_neg (by omega)])
    split at h
    ·cases h
    ·rename_i z i hz
     have h1 := (ih (k + 1) (by omega) hk1).2.1 _ _ _ _ hz
     split at h
     ·have := (ih i (by omega) h1.2).2.2 _ _ _ _ _ _ h
      omega
     ·cases h
  refine ⟨one, fun n d x j h => ?_, loop⟩
  rw [tightW] at h
  split at h
  ·cases h
  ·rename_i y i hy
   have h1 := one _ _ _ hy
   split at h
   ·have := (ih i (by omega) h1.2).2.2 _ _ _ _ _ _ h
    omega
   ·cases h
theorem one_goes {l : List Tk} (hl : Ended l) {k : Nat} (hk : k < l.length) {d : Int} {x : Ex} {j : Nat} (h : oneW l d k = .ok (x, j)) : k < j ∧ j < l.length := (goes hl _ k (Nat.le_refl _) hk).1 _ _ _ h
theorem tight_goes {l : List Tk} (hl : Ended l) {k : Nat} (hk : k < l.length) {n d : Int} {x : Ex} {j : Nat} (h : tightW l n d k = .ok (x, j)) : k < j ∧ j < l.length := (goes hl _ k (Nat.le_refl _) hk).2.1 _ _ _ _ h
def levW (l : List Tk) (n d : Int) (x : Ex) (k : Nat) : Rd :=
 if hk : k < l.length then
  if signT (tk l k) ≠ n then .ok (x, k)
  else match tightW l (n + 1) d (k + 1) with
   | .error e => .error e
   | .ok (y, j) => if n = 3 then .ok (.mk 6 (tk l k).text 0 [x, y], j) else if h : k < j then levW l n d (.mk 6 (tk l k).text 0 [x, y]) j else .error (0, 0)
 else .error (0, 0)
termination_by l.length - k
def thenR (r : Rd) (f : Ex -> Nat -> Rd) : Rd := match r with | .error e => .error e | .ok (x, k) => f x k
theorem loop_lev {l : List Tk} (hl : Ended l) (n d : Int) (hn : 1 <= n) : ∀ m k : Nat, l.length - k <= m -> k < l.length -> ∀ (p : Int) (x : Ex), n <= p -> loopW l n d p x k = thenR (loopW l (n + 1) d p x k) (fun y j => levW l n d y j) := by
 intro m
 induction m with
 | zero => intro k h1 h2; omega
 | succ m ih =>
  intro k hm hk p x hp
  rw [loopW, loopW, dif_pos hk, dif_pos hk]
  by_cases c : signT (tk l k) = 0 ∨ signT (tk l k) < n ∨ p < signT (tk l k)
  ·rw [if_pos c, if_pos (by omega)]
   show _ = levW l n d x k
   rw [levW, dif_pos hk, if_pos (by omega)]
  ·rw [if_neg c]
   have hk1 : k + 1 < l.length := hl.next hk (by
    intro h0; apply c; left; unfold signT; rw [if_neg (by omega)])
   by_cases ct : signT (tk l k) = n
   ·rw [if_pos (show signT (tk l k) = 0 ∨ signT (tk l k) < n + 1 ∨ p < signT (tk l k) by omega)]
    show _ = levW l n d x k
    rw [levW, dif_pos hk, ct, if_neg (show ¬ n ≠ n from fun h => h rfl)]
    cases hy : tightW l (n + 1) d (k + 1) with
    | error e => rfl
    | ok r =>
     obtain ⟨y, j⟩ := r
     have hj := tight_goes hl hk1 hy
     simp only
     rw [dif_pos (show k < j by omega)]
     by_cases h3 : n = 3
     ·rw [if_pos h3, if_pos h3, loopW, dif_pos hj.2, if_pos (by omega)]
     ·rw [if_neg h3, if_neg h3, dif_pos (show k < j by omega), ih j (by omega) hj.2 n _ (Int.le_refl _)]
      rw [loopW, dif_pos hj.2, if_pos (by omega)]; rfl
   ·rw [if_neg (show ¬ (signT (tk l k) = 0 ∨ signT (tk l k) < n + 1 ∨ p < signT (tk l k)) by omega)]
    cases hy : tightW l (signT (tk l k) + 1) d (k + 1) with
    | error e => rfl
    | ok r =>
     obtain ⟨y, j⟩ := r
     have hj := tight_goes hl hk1 hy
     simp only
     rw [dif_pos (show k < j by omega), dif_pos (show k < j by omega)]
     exact ih j (by omega) hj.2 (if signT (tk l k) = 3 then 2 else signT (tk l k)) _ (by split <;> omega)
theorem tight_lev {l : List Tk} (hl : Ended l) {k : Nat} (hk : k < l.length) (n d : Int) (hn : 1 <= n) (hn5 : n <= 5) : tightW l n d k = thenR (tightW l (n + 1) d k) (fun y j => levW l n d y j) := by
 rw [tightW, tightW]
 cases hy : oneW l d k with
 | error e => rfl
 | ok r =>
  obtain ⟨x, j⟩ := r
  have hj := one_goes hl hk hy
  simp only
  rw [dif_pos ⟨hj.1, hk⟩, dif_pos ⟨hj.1, hk⟩]
  exact loop_lev hl n d hn _ j (Nat.le_refl _) hj.2 5 x hn5
theorem level_le (s : List UInt8) : 0 <= levelT s ∧ levelT s <= 5 := by
 unfold levelT
 repeat' (split; · omega)
 omega
theorem signT_le (t : Tk) : 0 <= signT t ∧ signT t <= 5 := by
 unfold signT
 split
 ·exact level_le _
 ·omega
theorem tight_one {l : List Tk} (hl : Ended l) {k : Nat} (hk : k < l.length) (d : Int) : tightW l 6 d k = oneW l d k := by
 rw [tightW]
 cases hy : oneW l d k with
 | error e => rfl
 | ok r =>
  obtain ⟨x, j⟩ := r
  have hj := one_goes hl hk hy
  have := signT_le (tk l j)
  simp only
  rw [dif_pos ⟨hj.1, hk⟩, loopW, dif_pos hj.2, if_pos (by omega)]
abbrev Rf (α : Type) := Except (Int × Int) (α × Nat)
def wrongR {α : Type} (l : List Tk) (k : Nat) : Rf α := .error ((tk l k).at_, 30)
def nameR (l : List Tk) (k : Nat) : Rf (List UInt8) := if (tk l k).kind = 1 then .ok ((tk l k).text, k + 1) else wrongR l k
structure Step (l : List Tk) (k j : Nat) : Prop where
 lt : k < j
 end_ : j < l.length
variable {l : List Tk}
end Go.Proofs.YtennkhdlpbggkaaDoor
namespace Go.Proofs.YtennkhdlpbggkaaDoor
open Go Go.Proofs.Ab Go.Proofs.Px
theorem tok_g {l : List Tk} {k : Nat} (h : k < l.length) : (l.map Tk.v).getD k [] = (tk l k).v := by
 unfold tk
 rw [List.getD_eq_getElem?_getD, List.getD_eq_getElem?_getD, List.getElem?_map, List.getElem?_eq_getElem h]; rfl
theorem tkv_0 (t : Tk) : t.v.getD 0 .undef = .int .i64 t.kind := rfl
theorem tkv_1 (t : Tk) : t.v.getD 1 .undef = .str (B t.text) := rfl
theorem tkv_2 (t : Tk) : t.v.getD 2 .undef = .int .i64 t.num := rfl
theorem tkv_3 (t : Tk) : t.v.getD 3 .undef = .int .i64 t.at_ := rfl
theorem row_in {l : List Tk} {k : Nat} (h : k < l.length) : (0 : Int) <= (k : Int) ∧ (k : Int) < (((l.map Tk.v).length : Nat) : Int) := ⟨by omega, by rw [List.length_map]; omega⟩
theorem wr1 {k : Nat} (h : k < 1099511627776) : IntKind.i64.wrap ((k : Int) + 1) = ((k + 1 : Nat) : Int) := by rw [wrap_in (by omega) (by omega)]; omega
theorem lx : (∀ (x : Ex) (k : (Nat -> V) -> Option Res), V.asAgg (.agg x.v) 4 k = k (fun j => x.v.getD j .undef)) ∧ (∀ x : Ex, x.v.getD 0 .undef = .int .i64 x.kind) ∧ (∀ x : Ex, x.v.getD 1 .undef = .str (B x.name)) ∧ (∀ x : Ex, x.v.getD 2 .undef = .int .i64 x.num) ∧
 (∀ x : Ex, x.v.getD 3 .undef = .sl .no T_api_Expr (x.l.map Ex.v)) ∧ (∀ x : Ex, [V.int .i64 x.kind, V.str (B x.name), V.int .i64 x.num, V.sl .no T_api_Expr (x.l.map Ex.v)] = x.v) := ⟨asAgg_ex, Ex.v_0, Ex.v_1, Ex.v_2, Ex.v_3, Ex.v_list⟩
end Go.Proofs.YtennkhdlpbggkaaDoor
namespace Go.Proofs.Ab
open Go
section
variable {R : Type}
theorem bind_h {α β : Type} {a b : Option α} {f : α -> Option β} (h : a = b) : a.bind f = b.bind f := by rw [h]
theorem asInt_h {v w : V} {kd : IntKind} {k : Int -> Option R} (h : v = w) : v.asInt kd k = w.asInt kd k := by rw [h]
theorem asBool_h {v w : V} {k : Bool -> Option R} (h : v = w) : v.asBool k = w.asBool k := by rw [h]
theorem asStr_h {v w : V} {k : ByteArray -> Option R} (h : v = w) : v.asStr k = w.asStr k := by rw [h]
theorem asSl_h {v w : V} {e : TypeId} {k : List (List V) -> Option R} (h : v = w) : v.asSl e k = w.asSl e k := by rw [h]
theorem asSlR_h {v w : V} {p : Nat} {e : TypeId} {k : List (List V) -> Option R} (h : v = w) : v.asSlR p e k = w.asSlR p e k := by rw [h]
theorem asAgg_h {v w : V} {n : Nat} {k : (Nat -> V) -> Option R} (h : v = w) : v.asAgg n k = w.asAgg n k := by rw [h]
theorem asTup_h {v w : V} {n : Nat} {k : (Nat -> V) -> Option R} (h : v = w) : v.asTup n k = w.asTup n k := by rw [h]
theorem asIface_h {v w : V} {t : TypeId} {k : V -> Option R} (h : v = w) : v.asIface t k = w.asIface t k := by rw [h]
theorem asCells_h {b c : Blk} {t : TypeId} {n : Nat} {k : (Nat -> V) -> Option R} (h : b = c) : b.asCells t n k = c.asCells t n k := by rw [h]
theorem onRet_h {r s : Res} {k : V -> Option R} (h : r = s) : r.onRet k = s.onRet k := by rw [h]
theorem onOut_h {r s : Res} {k kp : V -> Option R} (h : r = s) : r.onOut k kp = s.onOut k kp := by rw [h]
theorem cond_h {α : Type} {b c : Bool} {x y : α} (h : b = c) : cond b x y = cond c x y := by rw [h]
end
theorem lz : (∀ l : List UInt8, ByteArray.mk l.toArray = Px.B l) ∧
 (∀ (r : Res) (f : Res -> Option Res), (some r).bind f = f r) ∧
 (∀ (o : Out) (bl : List Blk) (pn : Option (Option V)), Res.bl ⟨o, bl, pn⟩ = bl) ∧
 (∀ {α : Type} (a : α) (l : List α) (d : α), (a :: l).getD 0 d = a) ∧
 (∀ {α : Type} (a : α) (l : List α) (n : Nat) (d : α), (a :: l).getD (n + 1) d = l.getD n d) ∧
 (∀ (t : TypeId) (x0 : V) (k : (Nat -> V) -> Option Res), Blk.asCells (.cells t [x0] false) t 1 k = k (fun j => List.getD [x0] j .undef)) ∧
 (∀ (t : TypeId) (x0 : V) (x1 : V) (k : (Nat -> V) -> Option Res), Blk.asCells (.cells t [x0, x1] false) t 2 k = k (fun j => List.getD [x0, x1] j .undef)) ∧
 (∀ (t : TypeId) (x0 : V) (x1 : V) (x2 : V) (k : (Nat -> V) -> Option Res), Blk.asCells (.cells t [x0, x1, x2] false) t 3 k = k (fun j => List.getD [x0, x1, x2] j .undef)) ∧
 (∀ (t : TypeId) (x0 : V) (x1 : V) (x2 : V) (x3 : V) (k : (Nat -> V) -> Option Res), Blk.asCells (.cells t [x0, x1, x2, x3] false) t 4 k = k (fun j => List.getD [x0, x1, x2, x3] j .undef)) ∧
 (∀ (t : TypeId) (x0 : V) (x1 : V) (x2 : V) (x3 : V) (x4 : V) (k : (Nat -> V) -> Option Res), Blk.asCells (.cells t [x0, x1, x2, x3, x4] false) t 5 k = k (fun j => List.getD [x0, x1, x2, x3, x4] j .undef)) ∧
 (∀ (t : TypeId) (x0 : V) (x1 : V) (x2 : V) (x3 : V) (x4 : V) (x5 : V) (k : (Nat -> V) -> Option Res), Blk.asCells (.cells t [x0, x1, x2, x3, x4, x5] false) t 6 k = k (fun j => List.getD [x0, x1, x2, x3, x4, x5] j .undef)) ∧
 (∀ (t : TypeId) (x0 : V) (x1 : V) (x2 : V) (x3 : V) (x4 : V) (x5 : V) (x6 : V) (k : (Nat -> V) -> Option Res), Blk.asCells (.cells t [x0, x1, x2, x3, x4, x5, x6] false) t 7 k = k (fun j => List.getD [x0, x1, x2, x3, x4, x5, x6] j .undef)) ∧
 (∀ (t : Tok) (e : TypeId) (es : List (List V)) (k : List (List V) -> Option Res), V.asSl (.sl t e es) e k = k es) ∧
 (∀ (p : Nat) (e : TypeId) (es : List (List V)) (k : List (List V) -> Option Res), V.asSlR (.sl (.row p) e es) p e k = k es) ∧
 (∀ (kd : IntKind) (n : Int) (k : Int -> Option Res), V.asInt (.int kd n) kd k = k n) ∧
 (∀ (s : ByteArray) (k : ByteArray -> Option Res), V.asStr (.str s) k = k s) ∧
 (∀ (b : Bool) (k : Bool -> Option Res), V.asBool (.bool b) k = k b) ∧
 (∀ (v : V) (bl : List Blk) (pn : Option (Option V)) (k : V -> Option Res), Res.onRet ⟨.ret v, bl, pn⟩ k = k v) ∧
 (∀ (v : V) (bl : List Blk) (pn : Option (Option V)) (k kp : V -> Option Res), Res.onOut ⟨.ret v, bl, pn⟩ k kp = k v) ∧
 (∀ (v : V) (bl : List Blk) (pn : Option (Option V)) (k kp : V -> Option Res), Res.onOut ⟨.pan v, bl, pn⟩ k kp = kp v) ∧
 (∀ (t : TypeId) (v : V) (k : V -> Option Res), V.asIface (.iface t v) t k = k v) ∧
 (∀ k : (Nat -> V) -> Option Res, V.asTup (.tup []) 0 k = k (fun j => List.getD [] j .undef)) ∧
 (∀ (x0 : V) (x1 : V) (k : (Nat -> V) -> Option Res), V.asAgg (.agg [x0, x1]) 2 k = k (fun j => List.getD [x0, x1] j .undef)) ∧
 (∀ (x0 : V) (x1 : V) (x2 : V) (x3 : V) (k : (Nat -> V) -> Option Res), V.asAgg (.agg [x0, x1, x2, x3]) 4 k = k (fun j => List.getD [x0, x1, x2, x3] j .undef)) ∧
 (∀ (x0 : V) (x1 : V) (k : (Nat -> V) -> Option Res), V.asTup (.tup [x0, x1]) 2 k = k (fun j => List.getD [x0, x1] j .undef)) ∧
 (∀ (x0 : V) (x1 : V) (x2 : V) (k : (Nat -> V) -> Option Res), V.asTup (.tup [x0, x1, x2]) 3 k = k (fun j => List.getD [x0, x1, x2] j .undef)) ∧
 (∀ (x0 : V) (x1 : V) (x2 : V) (x3 : V) (k : (Nat -> V) -> Option Res), V.asTup (.tup [x0, x1, x2, x3]) 4 k = k (fun j => List.getD [x0, x1, x2, x3] j .undef)) ∧
 (∀ x y : Option Res, cond true x y = x) ∧
 (∀ x y : Option Res, cond false x y = y) ∧
 ((!true) = false) ∧
 ((!false) = true) ∧
 (∀ n : Int, (n != n) = false) ∧
 ((false = true) = False) ∧
 (∀ a : V, beqV a a = true) ∧
 (∀ b : Bool, (b && true) = b) :=
 ⟨Px.mk_B, fun _ _ => rfl, bl_mk, fun _ _ _ => rfl, fun _ _ _ _ => List.getD_cons_succ, fun t x0 k => asCells_1 t x0 k, fun t x0 x1 k => asCells_2 t x0 x1 k, fun t x0 x1 x2 k => asCells_3 t x0 x1 x2 k, fun t x0 x1 x2 x3 k => asCells_4 t x0 x1 x2 x3 k, fun t x0 x1 x2 x3 x4 k => asCells_5 t x0 x1 x2 x3 x4 k, fun t x0 x1 x2 x3 x4 x5 k => asCells_6 t x0 x1 x2 x3 x4 x5 k, fun t x0 x1 x2 x3 x4 x5 x6 k => asCells_7 t x0 x1 x2 x3 x4 x5 x6 k, asSl_sl, asSlR_sl, asInt_int, asStr_str, asBool_bool, onRet_ret, onOut_ret, onOut_pan, asIface_iface, fun _ => rfl, fun x0 x1 k => asAgg_2 x0 x1 k, fun x0 x1 x2 x3 k => asAgg_4 x0 x1 x2 x3 k, fun x0 x1 k => asTup_2 x0 x1 k, fun x0 x1 x2 k => asTup_3 x0 x1 x2 k, fun x0 x1 x2 x3 k => asTup_4 x0 x1 x2 x3 k, fun _ _ => rfl, fun _ _ => rfl, rfl, rfl, fun n => bne_self_eq_false n, by simp, beqV_self, Bool.and_true⟩
end Go.Proofs.Ab
namespace Go.Proofs.YtennkhdlpbggkaaDoor
open Go Go.Proofs.Ab
namespace syntax_tokens_wrong
theorem eq (m0_0 : List (List V)) (m0_1 : Int) : den Sp id [V.ref 0 0] [Blk.cells T_syntax_tokens [V.sl .no T_api_Token m0_0, V.int .i64 m0_1] false] none =
  (if (((0 : Int) <= m0_1) ∧ (m0_1 < (m0_0.length : Int))) then (V.asInt (List.getD (List.getD m0_0 (Int.toNat m0_1) []) 3 V.undef) .i64 (fun n3 => some ⟨Out.pan (V.iface T_syntax_given (V.agg [V.int .i64 n3, V.int .i64 (30 : Int)])), [Blk.cells T_syntax_tokens [V.sl .no T_api_Token m0_0, V.int .i64 m0_1] false], none⟩)) else none) := (den_eq ..).trans (by kernel_rfl)
end syntax_tokens_wrong
namespace syntax_tokens_is
theorem eq (m0_0 : List (List V)) (m0_1 : Int) (a1 : ByteArray) : den Sp id [V.ref 0 0, V.str a1] [Blk.cells T_syntax_tokens [V.sl .no T_api_Token m0_0, V.int .i64 m0_1] false] none =
  (if (((0 : Int) <= m0_1) ∧ (m0_1 < (m0_0.length : Int))) then (V.asInt (List.getD (List.getD m0_0 (Int.toNat m0_1) []) 0 V.undef) .i64 (fun n5 => V.asStr (List.getD (List.getD m0_0 (Int.toNat m0_1) []) 1 V.undef) (fun s6 => V.asInt (List.getD (List.getD m0_0 (Int.toNat m0_1) []) 2 V.undef) .i64 (fun n7 => V.asInt (List.getD (List.getD m0_0 (Int.toNat m0_1) []) 3 V.undef) .i64 (fun n8 => bif (n5 == (3 : Int)) then (some ⟨Out.ret (V.bool (decide (s6 = a1))), [Blk.cells T_syntax_tokens [V.sl .no T_api_Token m0_0, V.int .i64 m0_1] false], none⟩) else (bif (n5 == (4 : Int)) then (some ⟨Out.ret (V.bool (decide (s6 = a1))), [Blk.cells T_syntax_tokens [V.sl .no T_api_Token m0_0, V.int .i64 m0_1] false], none⟩) else (some ⟨Out.ret (V.bool false), [Blk.cells T_syntax_tokens [V.sl .no T_api_Token m0_0, V.int .i64 m0_1] false], none⟩))))))) else none) := (den_eq ..).trans (by kernel_rfl)
end syntax_tokens_is
namespace syntax_tokens_has
theorem eq (m0_0 : List (List V)) (m0_1 : Int) (a1 : ByteArray) : den Sp id [V.ref 0 0, V.str a1] [Blk.cells T_syntax_tokens [V.sl .no T_api_Token m0_0, V.int .i64 m0_1] false] none =
  (den Sp syntax_tokens_is.id [V.ref 0 0, V.str a1] [Blk.cells T_syntax_tokens [V.sl .no T_api_Token m0_0, V.int .i64 m0_1] false] none).bind (fun r5 => Blk.asCells (List.getD (Res.bl r5) 0 (Blk.cells T_n0 [] true)) T_syntax_tokens 2 (fun rd6 => V.asSl (rd6 0) T_api_Token (fun es7 => V.asInt (rd6 1) .i64 (fun n8 => Res.onRet r5 (fun v9 => V.asBool v9 (fun b10 => bif (!b10) then (some ⟨Out.ret (V.bool false), [Blk.cells T_syntax_tokens [V.sl .no T_api_Token es7, V.int .i64 n8] false], none⟩) else (some ⟨Out.ret (V.bool true), [Blk.cells T_syntax_tokens [V.sl .no T_api_Token es7, V.int .i64 (IntKind.wrap .i64 (n8 + (1 : Int)))] false], none⟩))))))) := (den_eq ..).trans (by kernel_rfl)
end syntax_tokens_has
namespace syntax_tokens_need
theorem eq (m0_0 : List (List V)) (m0_1 : Int) (a1 : ByteArray) : den Sp id [V.ref 0 0, V.str a1] [Blk.cells T_syntax_tokens [V.sl .no T_api_Token m0_0, V.int .i64 m0_1] false] none =
  (den Sp syntax_tokens_has.id [V.ref 0 0, V.str a1] [Blk.cells T_syntax_tokens [V.sl .no T_api_Token m0_0, V.int .i64 m0_1] false] none).bind (fun r4 => Blk.asCells (List.getD (Res.bl r4) 0 (Blk.cells T_n0 [] true)) T_syntax_tokens 2 (fun rd5 => V.asSl (rd5 0) T_api_Token (fun es6 => V.asInt (rd5 1) .i64 (fun n7 => Res.onRet r4 (fun v8 => V.asBool v8 (fun b9 => bif (!b9) then (den Sp syntax_tokens_wrong.id [V.ref 0 0] [Blk.cells T_syntax_tokens [V.sl .no T_api_Token es6, V.int .i64 n7] false] none).bind (fun r11 => Blk.asCells (List.getD (Res.bl r11) 0 (Blk.cells T_n0 [] true)) T_syntax_tokens 2 (fun rd12 => V.asSl (rd12 0) T_api_Token (fun es13 => V.asInt (rd12 1) .i64 (fun n14 => Res.onOut r11 (fun v15 => V.asTup v15 0 (fun rd16 => some ⟨Out.ret (V.tup []), [Blk.cells T_syntax_tokens [V.sl .no T_api_Token es13, V.int .i64 n14] false], none⟩)) (fun v15 => V.asIface v15 T_syntax_given (fun w16 => V.asAgg w16 2 (fun rd17 => V.asInt (rd17 0) .i64 (fun n18 => V.asInt (rd17 1) .i64 (fun n19 => some ⟨Out.pan (V.iface T_syntax_given (V.agg [V.int .i64 n18, V.int .i64 n19])), [Blk.cells T_syntax_tokens [V.sl .no T_api_Token es13, V.int .i64 n14] false], none⟩))))))))) else (some ⟨Out.ret (V.tup []), [Blk.cells T_syntax_tokens [V.sl .no T_api_Token es6, V.int .i64 n7] false], none⟩))))))) := (den_eq ..).trans (by kernel_rfl)
end syntax_tokens_need
namespace syntax_tokens_name
theorem eq (m0_0 : List (List V)) (m0_1 : Int) : den Sp id [V.ref 0 0] [Blk.cells T_syntax_tokens [V.sl .no T_api_Token m0_0, V.int .i64 m0_1] false] none =
  (if (((0 : Int) <= m0_1) ∧ (m0_1 < (m0_0.length : Int))) then (V.asInt (List.getD (List.getD m0_0 (Int.toNat m0_1) []) 0 V.undef) .i64 (fun n4 => V.asStr (List.getD (List.getD m0_0 (Int.toNat m0_1) []) 1 V.undef) (fun s5 => V.asInt (List.getD (List.getD m0_0 (Int.toNat m0_1) []) 2 V.undef) .i64 (fun n6 => V.asInt (List.getD (List.getD m0_0 (Int.toNat m0_1) []) 3 V.undef) .i64 (fun n7 => bif (n4 != (1 : Int)) then (den Sp syntax_tokens_wrong.id [V.ref 0 0] [Blk.cells T_syntax_tokens [V.sl .no T_api_Token m0_0, V.int .i64 m0_1] false] none).bind (fun r10 => Blk.asCells (List.getD (Res.bl r10) 0 (Blk.cells T_n0 [] true)) T_syntax_tokens 2 (fun rd11 => V.asSl (rd11 0) T_api_Token (fun es12 => V.asInt (rd11 1) .i64 (fun n13 => Res.onOut r10 (fun v14 => V.asTup v14 0 (fun rd15 => some ⟨Out.ret (V.str s5), [Blk.cells T_syntax_tokens [V.sl .no T_api_Token es12, V.int .i64 (IntKind.wrap .i64 (n13 + (1 : Int)))] false], none⟩)) (fun v14 => V.asIface v14 T_syntax_given (fun w15 => V.asAgg w15 2 (fun rd16 => V.asInt (rd16 0) .i64 (fun n17 => V.asInt (rd16 1) .i64 (fun n18 => some ⟨Out.pan (V.iface T_syntax_given (V.agg [V.int .i64 n17, V.int .i64 n18])), [Blk.cells T_syntax_tokens [V.sl .no T_api_Token es12, V.int .i64 n13] false], none⟩))))))))) else (some ⟨Out.ret (V.str s5), [Blk.cells T_syntax_tokens [V.sl .no T_api_Token m0_0, V.int .i64 (IntKind.wrap .i64 (m0_1 + (1 : Int)))] false], none⟩)))))) else none) := (den_eq ..).trans (by kernel_rfl)
end syntax_tokens_name
namespace syntax_tokens_deep
theorem eq (m0_0 : List (List V)) (m0_1 a1 : Int) (a2 : Bool) : den Sp id [V.ref 0 0, V.int .i64 a1, V.bool a2] [Blk.cells T_syntax_tokens [V.sl .no T_api_Token m0_0, V.int .i64 m0_1] false] none =
  (bif (!a2) then (den Sp syntax_tokens_wrong.id [V.ref 0 0] [Blk.cells T_syntax_tokens [V.sl .no T_api_Token m0_0, V.int .i64 m0_1] false] none).bind (fun r6 => Blk.asCells (List.getD (Res.bl r6) 0 (Blk.cells T_n0 [] true)) T_syntax_tokens 2 (fun rd7 => V.asSl (rd7 0) T_api_Token (fun es8 => V.asInt (rd7 1) .i64 (fun n9 => Res.onOut r6 (fun v10 => V.asTup v10 0 (fun rd11 => bif (decide (a1 > (60 : Int))) then (if (((0 : Int) <= n9) ∧ (n9 < (es8.length : Int))) then (V.asInt (List.getD (List.getD es8 (Int.toNat n9) []) 3 V.undef) .i64 (fun n14 => some ⟨Out.pan (V.iface T_syntax_given (V.agg [V.int .i64 n14, V.int .i64 (31 : Int)])), [Blk.cells T_syntax_tokens [V.sl .no T_api_Token es8, V.int .i64 n9] false], none⟩)) else none) else (some ⟨Out.ret (V.tup []), [Blk.cells T_syntax_tokens [V.sl .no T_api_Token es8, V.int .i64 n9] false], none⟩))) (fun v10 => V.asIface v10 T_syntax_given (fun w11 => V.asAgg w11 2 (fun rd12 => V.asInt (rd12 0) .i64 (fun n13 => V.asInt (rd12 1) .i64 (fun n14 => some ⟨Out.pan (V.iface T_syntax_given (V.agg [V.int .i64 n13, V.int .i64 n14])), [Blk.cells T_syntax_tokens [V.sl .no T_api_Token es8, V.int .i64 n9] false], none⟩))))))))) else (bif (decide (a1 > (60 : Int))) then (if (((0 : Int) <= m0_1) ∧ (m0_1 < (m0_0.length : Int))) then (V.asInt (List.getD (List.getD m0_0 (Int.toNat m0_1) []) 3 V.undef) .i64 (fun n7 => some ⟨Out.pan (V.iface T_syntax_given (V.agg [V.int .i64 n7, V.int .i64 (31 : Int)])), [Blk.cells T_syntax_tokens [V.sl .no T_api_Token m0_0, V.int .i64 m0_1] false], none⟩)) else none) else (some ⟨Out.ret (V.tup []), [Blk.cells T_syntax_tokens [V.sl .no T_api_Token m0_0, V.int .i64 m0_1] false], none⟩))) := (den_eq ..).trans (by kernel_rfl)
end syntax_tokens_deep
namespace syntax_reader_begins
theorem eq (m0_0 : List (List V)) (m0_1 : Int) : den Sp id [V.ref 0 0] [Blk.cells T_syntax_reader [V.sl .no T_api_Token m0_0, V.int .i64 m0_1] false] none =
  (if (((0 : Int) <= m0_1) ∧ (m0_1 < (m0_0.length : Int))) then (V.asInt (List.getD (List.getD m0_0 (Int.toNat m0_1) []) 0 V.undef) .i64 (fun n4 => V.asStr (List.getD (List.getD m0_0 (Int.toNat m0_1) []) 1 V.undef) (fun s5 => V.asInt (List.getD (List.getD m0_0 (Int.toNat m0_1) []) 2 V.undef) .i64 (fun n6 => V.asInt (List.getD (List.getD m0_0 (Int.toNat m0_1) []) 3 V.undef) .i64 (fun n7 => bif (n4 == (1 : Int)) then (some ⟨Out.ret (V.bool true), [Blk.cells T_syntax_reader [V.sl .no T_api_Token m0_0, V.int .i64 m0_1] false], none⟩) else (bif (n4 == (2 : Int)) then (some ⟨Out.ret (V.bool true), [Blk.cells T_syntax_reader [V.sl .no T_api_Token m0_0, V.int .i64 m0_1] false], none⟩) else (den Sp syntax_tokens_is.id [V.ref 0 0, V.str (ByteArray.mk #[116, 114, 117, 101])] [Blk.cells T_syntax_tokens [V.sl .no T_api_Token m0_0, V.int .i64 m0_1] false] none).bind (fun r9 => Blk.asCells (List.getD (Res.bl r9) 0 (Blk.cells T_n0 [] true)) T_syntax_tokens 2 (fun rd10 => V.asSl (rd10 0) T_api_Token (fun es11 => V.asInt (rd10 1) .i64 (fun n12 => Res.onRet r9 (fun v13 => V.asBool v13 (fun b14 => bif b14 then (some ⟨Out.ret (V.bool true), [Blk.cells T_syntax_reader [V.sl .no T_api_Token es11, V.int .i64 n12] false], none⟩) else (den Sp syntax_tokens_is.id [V.ref 0 0, V.str (ByteArray.mk #[102, 97, 108, 115, 101])] [Blk.cells T_syntax_tokens [V.sl .no T_api_Token es11, V.int .i64 n12] false] none).bind (fun r15 => Blk.asCells (List.getD (Res.bl r15) 0 (Blk.cells T_n0 [] true)) T_syntax_tokens 2 (fun rd16 => V.asSl (rd16 0) T_api_Token (fun es17 => V.asInt (rd16 1) .i64 (fun n18 => Res.onRet r15 (fun v19 => V.asBool v19 (fun b20 => bif b20 then (some ⟨Out.ret (V.bool true), [Blk.cells T_syntax_reader [V.sl .no T_api_Token es17, V.int .i64 n18] false], none⟩) else (den Sp syntax_tokens_is.id [V.ref 0 0, V.str (ByteArray.mk #[40])] [Blk.cells T_syntax_tokens [V.sl .no T_api_Token es17, V.int .i64 n18] false] none).bind (fun r21 => Blk.asCells (List.getD (Res.bl r21) 0 (Blk.cells T_n0 [] true)) T_syntax_tokens 2 (fun rd22 => V.asSl (rd22 0) T_api_Token (fun es23 => V.asInt (rd22 1) .i64 (fun n24 => Res.onRet r21 (fun v25 => V.asBool v25 (fun b26 => bif b26 then (some ⟨Out.ret (V.bool true), [Blk.cells T_syntax_reader [V.sl .no T_api_Token es23, V.int .i64 n24] false], none⟩) else (den Sp syntax_tokens_is.id [V.ref 0 0, V.str (ByteArray.mk #[45])] [Blk.cells T_syntax_tokens [V.sl .no T_api_Token es23, V.int .i64 n24] false] none).bind (fun r27 => Blk.asCells (List.getD (Res.bl r27) 0 (Blk.cells T_n0 [] true)) T_syntax_tokens 2 (fun rd28 => V.asSl (rd28 0) T_api_Token (fun es29 => V.asInt (rd28 1) .i64 (fun n30 => Res.onRet r27 (fun v31 => V.asBool v31 (fun b32 => bif b32 then (some ⟨Out.ret (V.bool true), [Blk.cells T_syntax_reader [V.sl .no T_api_Token es29, V.int .i64 n30] false], none⟩) else (den Sp syntax_tokens_is.id [V.ref 0 0, V.str (ByteArray.mk #[33])] [Blk.cells T_syntax_tokens [V.sl .no T_api_Token es29, V.int .i64 n30] false] none).bind (fun r33 => Blk.asCells (List.getD (Res.bl r33) 0 (Blk.cells T_n0 [] true)) T_syntax_tokens 2 (fun rd34 => V.asSl (rd34 0) T_api_Token (fun es35 => V.asInt (rd34 1) .i64 (fun n36 => Res.onRet r33 (fun v37 => V.asBool v37 (fun b38 => some ⟨Out.ret (V.bool b38), [Blk.cells T_syntax_reader [V.sl .no T_api_Token es35, V.int .i64 n36] false], none⟩)))))))))))))))))))))))))))))))))))) else none) := (den_eq ..).trans (by kernel_rfl)
end syntax_reader_begins
namespace syntax_reader_sign
theorem eq (m0_0 : List (List V)) (m0_1 a1 : Int) : den Sp id [V.ref 0 0, V.int .i64 a1] [Blk.cells T_syntax_reader [V.sl .no T_api_Token m0_0, V.int .i64 m0_1] false] none =
  (if (((0 : Int) <= m0_1) ∧ (m0_1 < (m0_0.length : Int))) then (V.asInt (List.getD (List.getD m0_0 (Int.toNat m0_1) []) 0 V.undef) .i64 (fun n5 => V.asStr (List.getD (List.getD m0_0 (Int.toNat m0_1) []) 1 V.undef) (fun s6 => V.asInt (List.getD (List.getD m0_0 (Int.toNat m0_1) []) 2 V.undef) .i64 (fun n7 => V.asInt (List.getD (List.getD m0_0 (Int.toNat m0_1) []) 3 V.undef) .i64 (fun n8 => bif (n5 != (4 : Int)) then (some ⟨Out.ret (V.str (ByteArray.mk #[])), [Blk.cells T_syntax_reader [V.sl .no T_api_Token m0_0, V.int .i64 m0_1] false], none⟩) else (den Sp syntax_level.id [V.str s6] [] none).bind (fun r10 => Res.onRet r10 (fun v11 => V.asInt v11 .i64 (fun n12 => bif (n12 != a1) then (some ⟨Out.ret (V.str (ByteArray.mk #[])), [Blk.cells T_syntax_reader [V.sl .no T_api_Token m0_0, V.int .i64 m0_1] false], none⟩) else (some ⟨Out.ret (V.str s6), [Blk.cells T_syntax_reader [V.sl .no T_api_Token m0_0, V.int .i64 m0_1] false], none⟩))))))))) else none) := (den_eq ..).trans (by kernel_rfl)
end syntax_reader_sign
namespace syntax_level
theorem eq (a0 : ByteArray) : den Sp id [V.str a0] [] none =
  (bif (decide (a0 = (ByteArray.mk #[124, 124]))) then (some ⟨Out.ret (V.int .i64 (1 : Int)), [], none⟩) else (bif (decide (a0 = (ByteArray.mk #[38, 38]))) then (some ⟨Out.ret (V.int .i64 (2 : Int)), [], none⟩) else (bif (decide (a0 = (ByteArray.mk #[61, 61]))) then (some ⟨Out.ret (V.int .i64 (3 : Int)), [], none⟩) else (bif (decide (a0 = (ByteArray.mk #[33, 61]))) then (some ⟨Out.ret (V.int .i64 (3 : Int)), [], none⟩) else (bif (decide (a0 = (ByteArray.mk #[60]))) then (some ⟨Out.ret (V.int .i64 (3 : Int)), [], none⟩) else (bif (decide (a0 = (ByteArray.mk #[60, 61]))) then (some ⟨Out.ret (V.int .i64 (3 : Int)), [], none⟩) else (bif (decide (a0 = (ByteArray.mk #[43]))) then (some ⟨Out.ret (V.int .i64 (4 : Int)), [], none⟩) else (bif (decide (a0 = (ByteArray.mk #[45]))) then (some ⟨Out.ret (V.int .i64 (4 : Int)), [], none⟩) else (bif (decide (a0 = (ByteArray.mk #[42]))) then (some ⟨Out.ret (V.int .i64 (5 : Int)), [], none⟩) else (bif (decide (a0 = (ByteArray.mk #[47]))) then (some ⟨Out.ret (V.int .i64 (5 : Int)), [], none⟩) else (bif (decide (a0 = (ByteArray.mk #[37]))) then (some ⟨Out.ret (V.int .i64 (5 : Int)), [], none⟩) else (some ⟨Out.ret (V.int .i64 (0 : Int)), [], none⟩)))))))))))) := (den_eq ..).trans (by kernel_rfl)
end syntax_level
end Go.Proofs.YtennkhdlpbggkaaDoor
namespace Go.Proofs.YtennkhdlpbggkaaDoor
open Go Go.Proofs.Ab Go.Proofs.Px
attribute [local congr] bind_h asInt_h asBool_h asStr_h asSl_h asSlR_h asAgg_h asTup_h asIface_h asCells_h onRet_h onOut_h cond_h
def tkB (l : List Tk) (k : Nat) : Blk := .cells T_syntax_tokens [.sl .no T_api_Token (l.map Tk.v), .int .i64 k] false
def rsB (l : List Tk) (k : Nat) (ps : List (List V)) : Blk := .cells T_syntax_reader [.sl .no T_api_Token (l.map Tk.v), .int .i64 k] false
def givenS (e : Int × Int) : V := .iface T_syntax_given (.agg [.int .i64 e.1, .int .i64 e.2])
def RsT {α : Type} (l : List Tk) (v : α -> V) (r : Rf α) (o : Option Res) : Prop := match r with
 | .ok (x, j) => o = some ⟨.ret (v x), [tkB l j], none⟩
 | .error e => ∃ j : Nat, o = some ⟨.pan (givenS e), [tkB l j], none⟩
def RsX (l : List Tk) (ps : List (List V)) (r : Rd) (o : Option Res) : Prop := match r with
 | .ok (x, j) => o = some ⟨.ret (.agg x.v), [rsB l j ps], none⟩
 | .error e => ∃ j : Nat, o = some ⟨.pan (givenS e), [rsB l j ps], none⟩
section
variable {l : List Tk} (hn : l.length <= 100000)
include hn
theorem wrong_s {k : Nat} (hk : k < l.length) : den Sp syntax_tokens_wrong.id [.ref 0 0] [tkB l k] none = some ⟨.pan (givenS ((tk l k).at_, 30)), [tkB l k], none⟩ := by
 have r := row_in hk
 unfold tkB givenS
 rw [syntax_tokens_wrong.eq]
 simp only [if_pos r, Int.toNat_natCast, tok_g hk, tkv_0, tkv_1, tkv_2, tkv_3, lz, lx, if_true, if_false]
theorem is_s {k : Nat} (hk : k < l.length) (s : List UInt8) : den Sp syntax_tokens_is.id [.ref 0 0, .str (B s)] [tkB l k] none = some ⟨.ret (.bool (isT (tk l k) s)), [tkB l k], none⟩ := by
 have r := row_in hk
 unfold tkB isT
 rw [syntax_tokens_is.eq]
 simp only [if_pos r, Int.toNat_natCast, tok_g hk, tkv_0, tkv_1, tkv_2, tkv_3, lz, lx, if_true, if_false]
 by_cases c1 : (tk l k).text = s <;> by_cases c2 : (tk l k).kind = 3 <;> by_cases c3 : (tk l k).kind = 4 <;> simp [c1, c2, c3]
theorem has_s {k : Nat} (hk : k < l.length) (s : List UInt8) : den Sp syntax_tokens_has.id [.ref 0 0, .str (B s)] [tkB l k] none = some ⟨.ret (.bool (isT (tk l k) s)), [if isT (tk l k) s = true then tkB l (k + 1) else tkB l k], none⟩ := by
 have h := is_s hn hk s
 have w := wr1 (show k < 1099511627776 by omega)
 unfold tkB at *
 rw [syntax_tokens_has.eq]
 cases c : isT (tk l k) s <;> rw [c] at h <;> simp only [h, w, lz, lx, if_true, if_false]
theorem need_s {k : Nat} (hk : k < l.length) (s : List UInt8) : RsT l (fun _ : Unit => .tup []) (if isT (tk l k) s then .ok ((), k + 1) else .error ((tk l k).at_, 30)) (den Sp syntax_tokens_need.id [.ref 0 0, .str (B s)] [tkB l k] none) := by
 have h := has_s hn hk s
 have h2 := wrong_s hn hk
 unfold RsT
 cases c : isT (tk l k) s with
 | true =>
  rw [c] at h
  simp only [if_true] at h ⊢
  unfold tkB at *
  rw [syntax_tokens_need.eq]
  simp only [h, lz, lx, if_true, if_false]
 | false =>
  rw [c] at h
  simp only [Bool.false_eq_true, if_false] at h ⊢
  refine ⟨k, ?_⟩
  unfold tkB givenS at *
  rw [syntax_tokens_need.eq]
  simp only [h, h2, lz, lx, if_true, if_false]
theorem name_s {k : Nat} (hk : k < l.length) : RsT l (fun s => .str (B s)) (nameR l k) (den Sp syntax_tokens_name.id [.ref 0 0] [tkB l k] none) := by
 have h2 := wrong_s hn hk
 have r := row_in hk
 have w := wr1 (show k < 1099511627776 by omega)
 unfold RsT nameR wrongR
 by_cases c : (tk l k).kind = 1
 ·have c' : ((tk l k).kind != 1) = false := by simpa using c
  rw [if_pos c]
  simp only
  unfold tkB givenS at *
  rw [syntax_tokens_name.eq]
  simp only [if_pos r, Int.toNat_natCast, tok_g hk, tkv_0, tkv_1, tkv_2, tkv_3, c', w, lz, lx, if_true, if_false]
 ·have c' : ((tk l k).kind != 1) = true := by simpa using c
  rw [if_neg c]
  refine ⟨k, ?_⟩
  unfold tkB givenS at *
  rw [syntax_tokens_name.eq]
  simp only [if_pos r, Int.toNat_natCast, tok_g hk, tkv_0, tkv_1, tkv_2, tkv_3, c', h2, w, lz, lx, if_true, if_false]
theorem deep_s {k : Nat} (hk : k < l.length) (d : Int) (b : Bool) : RsT l (fun _ : Unit => .tup []) (if b = false then .error ((tk l k).at_, 30) else if 60 < d then .error ((tk l k).at_, 31) else .ok ((), k)) (den Sp syntax_tokens_deep.id [.ref 0 0, .int .i64 d, .bool b] [tkB l k] none) := by
 have h2 := wrong_s hn hk
 have r := row_in hk
 unfold RsT
 cases b with
 | false =>
  rw [if_pos rfl]
  refine ⟨k, ?_⟩
  unfold tkB givenS at *
  rw [syntax_tokens_deep.eq]
  simp only [if_pos r, Int.toNat_natCast, tok_g hk, tkv_0, tkv_1, tkv_2, tkv_3, h2, lz, lx, if_true, if_false]
 | true =>
  rw [if_neg (by simp)]
  by_cases c : 60 < d
  ·rw [if_pos c]
   refine ⟨k, ?_⟩
   have c' : decide (d > 60) = true := decide_eq_true c
   unfold tkB givenS at *
   rw [syntax_tokens_deep.eq]
   simp only [if_pos r, Int.toNat_natCast, tok_g hk, tkv_0, tkv_1, tkv_2, tkv_3, c', lz, lx, if_true, if_false]
  ·rw [if_neg c]
   have c' : decide (d > 60) = false := decide_eq_false c
   unfold tkB givenS at *
   rw [syntax_tokens_deep.eq]
   simp only [if_pos r, Int.toNat_natCast, tok_g hk, tkv_0, tkv_1, tkv_2, tkv_3, c', lz, lx, if_true, if_false]
theorem begins_s {k : Nat} (hk : k < l.length) (ps : List (List V)) : den Sp syntax_reader_begins.id [.ref 0 0] [rsB l k ps] none = some ⟨.ret (.bool (opensT (tk l k))), [rsB l k ps], none⟩ := by
 have h3 := fun s => is_s hn hk s
 have r := row_in hk
 have g : opensT (tk l k) = (decide ((tk l k).kind = 1) || (decide ((tk l k).kind = 2) || (isT (tk l k) [116, 114, 117, 101] || (isT (tk l k) [102, 97, 108, 115, 101] || (isT (tk l k) [40] || (isT (tk l k) [45] || isT (tk l k) [33])))))) := by
  unfold opensT
  simp [Bool.or_assoc]
 rw [g]
 have e1 : ((tk l k).kind == 1) = decide ((tk l k).kind = 1) := by by_cases c : (tk l k).kind = 1 <;> simp [c]
 have e2 : ((tk l k).kind == 2) = decide ((tk l k).kind = 2) := by by_cases c : (tk l k).kind = 2 <;> simp [c]
 unfold rsB tkB at *
 rw [syntax_reader_begins.eq]
 simp only [if_pos r, Int.toNat_natCast, tok_g hk, tkv_0, tkv_1, tkv_2, tkv_3, e1, e2, lz, lx, if_true, if_false]
 generalize decide ((tk l k).kind = 1) = b1
 cases b1 with
 | true => rfl
 | false =>
 generalize decide ((tk l k).kind = 2) = b2
 cases b2 with
 | true => rfl
 | false =>
 simp only [h3, lz, lx, if_true, if_false]
 cases isT (tk l k) [116, 114, 117, 101] with
 | true => rfl
 | false =>
 simp only [h3, lz, lx, if_true, if_false]
 cases isT (tk l k) [102, 97, 108, 115, 101] with
 | true => rfl
 | false =>
 simp only [h3, lz, lx, if_true, if_false]
 cases isT (tk l k) [40] with
 | true => rfl
 | false =>
 simp only [h3, lz, lx, if_true, if_false]
 cases isT (tk l k) [45] with
 | true => rfl
 | false =>
 simp only [h3, lz, lx, if_true, if_false]
 cases isT (tk l k) [33] <;> rfl
theorem level_s (s : List UInt8) : den Sp syntax_level.id [.str (B s)] [] none = some ⟨.ret (.int .i64 (levelT s)), [], none⟩ := by
 rw [syntax_level.eq]
 unfold levelT
 by_cases h1 : s = [124, 124]
 ·subst h1; rfl
 by_cases h2 : s = [38, 38]
 ·subst h2; rfl
 by_cases h3 : s = [61, 61]
 ·subst h3; rfl
 by_cases h4 : s = [33, 61]
 ·subst h4; rfl
 by_cases h5 : s = [60]
 ·subst h5; rfl
 by_cases h6 : s = [60, 61]
 ·subst h6; rfl
 by_cases h7 : s = [43]
 ·subst h7; rfl
 by_cases h8 : s = [45]
 ·subst h8; rfl
 by_cases h9 : s = [42]
 ·subst h9; rfl
 by_cases h10 : s = [47]
 ·subst h10; rfl
 by_cases h11 : s = [37]
 ·subst h11; rfl
 simp [h1, h2, h3, h4, h5, h6, h7, h8, h9, h10, h11]
theorem sign_s {k : Nat} (hk : k < l.length) (ps : List (List V)) (n : Int) (hn1 : 1 <= n) : den Sp syntax_reader_sign.id [.ref 0 0, .int .i64 n] [rsB l k ps] none = some ⟨.ret (.str (B (if signT (tk l k) = n then (tk l k).text else []))), [rsB l k ps], none⟩ := by
 have r := row_in hk
 have hv := level_s hn (tk l k).text
 unfold rsB signT
 rw [syntax_reader_sign.eq]
 by_cases c : (tk l k).kind = 4
 ·have c' : ((tk l k).kind != 4) = false := by simpa using c
  rw [if_pos c]
  by_cases c2 : levelT (tk l k).text = n
  ·have c2' : (levelT (tk l k).text != n) = false := by simpa using c2
   rw [if_pos c2]
   simp only [if_pos r, Int.toNat_natCast, tok_g hk, tkv_0, tkv_1, tkv_2, tkv_3, c', c2', hv, lz, lx, if_true, if_false]
  ·have c2' : (levelT (tk l k).text != n) = true := by simpa using c2
   rw [if_neg c2]
   simp only [if_pos r, Int.toNat_natCast, tok_g hk, tkv_0, tkv_1, tkv_2, tkv_3, c', c2', hv, lz, lx, if_true, if_false]
 ·have c' : ((tk l k).kind != 4) = true := by simpa using c
  rw [if_neg c, if_neg (show ¬ (0 : Int) = n by omega)]
  simp only [if_pos r, Int.toNat_natCast, tok_g hk, tkv_0, tkv_1, tkv_2, tkv_3, c', lz, lx, if_true, if_false]
end
end Go.Proofs.YtennkhdlpbggkaaDoor
namespace Go.Proofs.YtennkhdlpbggkaaDoor
open Go Go.Proofs.Ab
namespace syntax_reader_expr
theorem eq (m0_0 : List (List V)) (m0_1 a1 : Int) : den Sp id [V.ref 0 0, V.int .i64 a1] [Blk.cells T_syntax_reader [V.sl .no T_api_Token m0_0, V.int .i64 m0_1] false] none =
  (den Sp syntax_reader_begins.id [V.ref 0 0] [Blk.cells T_syntax_reader [V.sl .no T_api_Token m0_0, V.int .i64 m0_1] false] none).bind (fun r5 => Blk.asCells (List.getD (Res.bl r5) 0 (Blk.cells T_n0 [] true)) T_syntax_reader 2 (fun rd6 => V.asSl (rd6 0) T_api_Token (fun es7 => V.asInt (rd6 1) .i64 (fun n8 => Res.onRet r5 (fun v9 => V.asBool v9 (fun b10 => (den Sp syntax_tokens_deep.id [V.ref 0 0, V.int .i64 a1, V.bool b10] [Blk.cells T_syntax_tokens [V.sl .no T_api_Token es7, V.int .i64 n8] false] none).bind (fun r11 => Blk.asCells (List.getD (Res.bl r11) 0 (Blk.cells T_n0 [] true)) T_syntax_tokens 2 (fun rd12 => V.asSl (rd12 0) T_api_Token (fun es13 => V.asInt (rd12 1) .i64 (fun n14 => Res.onOut r11 (fun v15 => V.asTup v15 0 (fun rd16 => (den Sp syntax_reader_bin.id [V.ref 0 0, V.int .i64 (1 : Int), V.int .i64 a1] [Blk.cells T_syntax_reader [V.sl .no T_api_Token es13, V.int .i64 n14] false] none).bind (fun r18 => Blk.asCells (List.getD (Res.bl r18) 0 (Blk.cells T_n0 [] true)) T_syntax_reader 2 (fun rd19 => V.asSl (rd19 0) T_api_Token (fun es20 => V.asInt (rd19 1) .i64 (fun n21 => Res.onOut r18 (fun v22 => V.asAgg v22 4 (fun rd23 => V.asInt (rd23 0) .i64 (fun n24 => V.asStr (rd23 1) (fun s25 => V.asInt (rd23 2) .i64 (fun n26 => V.asSl (rd23 3) T_api_Expr (fun es27 => some ⟨Out.ret (V.agg [V.int .i64 n24, V.str s25, V.int .i64 n26, V.sl .no T_api_Expr es27]), [Blk.cells T_syntax_reader [V.sl .no T_api_Token es20, V.int .i64 n21] false], none⟩)))))) (fun v22 => V.asIface v22 T_syntax_given (fun w23 => V.asAgg w23 2 (fun rd24 => V.asInt (rd24 0) .i64 (fun n25 => V.asInt (rd24 1) .i64 (fun n26 => some ⟨Out.pan (V.iface T_syntax_given (V.agg [V.int .i64 n25, V.int .i64 n26])), [Blk.cells T_syntax_reader [V.sl .no T_api_Token es20, V.int .i64 n21] false], none⟩))))))))))) (fun v15 => V.asIface v15 T_syntax_given (fun w16 => V.asAgg w16 2 (fun rd17 => V.asInt (rd17 0) .i64 (fun n18 => V.asInt (rd17 1) .i64 (fun n19 => some ⟨Out.pan (V.iface T_syntax_given (V.agg [V.int .i64 n18, V.int .i64 n19])), [Blk.cells T_syntax_reader [V.sl .no T_api_Token es13, V.int .i64 n14] false], none⟩))))))))))))))) := (den_eq ..).trans (by kernel_rfl)
end syntax_reader_expr
namespace syntax_reader_bin
noncomputable abbrev e (p : List Nat) := ev Sp (den Sp) id Tryd.f51.ntmps (cAt (bodyOf Tryd.f51) p)
noncomputable abbrev cn (n0 : List Nat) := canon Sp id n0
noncomputable abbrev K : K := kFin Sp (den Sp) (Sp.oo id) Tryd.f51 1
noncomputable def L1_1_1_0_1_0 (i0 i1 : Int) (s2 : ByteArray) (l3 : List (List V)) (i4 i5 : Int) (s6 : ByteArray) (i7 : Int) (l8 : List (List V)) : Option Res := LP (e [1, 1, 1, 0, 1, 0, 0]) (cn [0, 1006, 1007]) (kBlk 0 (kSeq (e [1, 1, 1, 1]) (K))) ([(0, (V.ref 0 0)), (1, (V.int .i64 i0)), (2, (V.int .i64 i1)), (6, (V.ref 1006 0)), (7, (V.ref 1007 0)), (8, (V.str s2))], ⟨[(0, (Blk.cells T_syntax_reader [V.sl .no T_api_Token l3, V.int .i64 i4] false)), (1006, (Blk.cells T_api_Expr [V.int .i64 (0 : Int), V.str (ByteArray.mk #[]), V.int .i64 (0 : Int), V.sl (Tok.row 0) T_api_Expr []] false)), (1007, (Blk.cells T_api_Expr [V.int .i64 i5, V.str s6, V.int .i64 i7, V.sl .no T_api_Expr l8] false))], [0], [], [], none⟩)
theorem L1_1_1_0_1_0_eq (i0 i1 : Int) (s2 : ByteArray) (l3 : List (List V)) (i4 i5 : Int) (s6 : ByteArray) (i7 : Int) (l8 : List (List V)) : L1_1_1_0_1_0 i0 i1 s2 l3 i4 i5 s6 i7 l8 =
  (bif (!(decide (s2 = (ByteArray.mk #[])))) then (den Sp syntax_reader_bin.id [V.ref 0 0, V.int .i64 (IntKind.wrap .i64 (i0 + (1 : Int))), V.int .i64 i1] [Blk.cells T_syntax_reader [V.sl .no T_api_Token l3, V.int .i64 (IntKind.wrap .i64 (i4 + (1 : Int)))] false] none).bind (fun r36 => Blk.asCells (List.getD (Res.bl r36) 0 (Blk.cells T_n0 [] true)) T_syntax_reader 2 (fun rd37 => V.asSl (rd37 0) T_api_Token (fun es38 => V.asInt (rd37 1) .i64 (fun n39 => Res.onOut r36 (fun v40 => V.asAgg v40 4 (fun rd41 => V.asInt (rd41 0) .i64 (fun n42 => V.asStr (rd41 1) (fun s43 => V.asInt (rd41 2) .i64 (fun n44 => V.asSl (rd41 3) T_api_Expr (fun es45 => bif (i0 == (3 : Int)) then (some ⟨Out.ret (V.agg [V.int .i64 (6 : Int), V.str s2, V.int .i64 (0 : Int), V.sl .no T_api_Expr [[V.int .i64 i5, V.str s6, V.int .i64 i7, V.sl .no T_api_Expr l8], [V.int .i64 n42, V.str s43, V.int .i64 n44, V.sl .no T_api_Expr es45]]]), [Blk.cells T_syntax_reader [V.sl .no T_api_Token es38, V.int .i64 n39] false], none⟩) else (den Sp syntax_reader_sign.id [V.ref 0 0, V.int .i64 i0] [Blk.cells T_syntax_reader [V.sl .no T_api_Token es38, V.int .i64 n39] false] none).bind (fun r48 => Blk.asCells (List.getD (Res.bl r48) 0 (Blk.cells T_n0 [] true)) T_syntax_reader 2 (fun rd49 => V.asSl (rd49 0) T_api_Token (fun es50 => V.asInt (rd49 1) .i64 (fun n51 => Res.onRet r48 (fun v52 => V.asStr v52 (fun s53 => L1_1_1_0_1_0 i0 i1 s53 es50 n51 (6 : Int) s2 (0 : Int) [[V.int .i64 i5, V.str s6, V.int .i64 i7, V.sl .no T_api_Expr l8], [V.int .i64 n42, V.str s43, V.int .i64 n44, V.sl .no T_api_Expr es45]])))))))))))) (fun v40 => V.asIface v40 T_syntax_given (fun w41 => V.asAgg w41 2 (fun rd42 => V.asInt (rd42 0) .i64 (fun n43 => V.asInt (rd42 1) .i64 (fun n44 => some ⟨Out.pan (V.iface T_syntax_given (V.agg [V.int .i64 n43, V.int .i64 n44])), [Blk.cells T_syntax_reader [V.sl .no T_api_Token es38, V.int .i64 n39] false], none⟩))))))))) else (some ⟨Out.ret (V.agg [V.int .i64 i5, V.str s6, V.int .i64 i7, V.sl .no T_api_Expr l8]), [Blk.cells T_syntax_reader [V.sl .no T_api_Token l3, V.int .i64 i4] false], none⟩)) := (LP_eq ..).trans (by kernel_rfl)
theorem eq (m0_0 : List (List V)) (m0_1 a1 a2 : Int) : den Sp id [V.ref 0 0, V.int .i64 a1, V.int .i64 a2] [Blk.cells T_syntax_reader [V.sl .no T_api_Token m0_0, V.int .i64 m0_1] false] none =
  (bif (decide (a1 > (5 : Int))) then (den Sp syntax_reader_unary.id [V.ref 0 0, V.int .i64 a2] [Blk.cells T_syntax_reader [V.sl .no T_api_Token m0_0, V.int .i64 m0_1] false] none).bind (fun r7 => Blk.asCells (List.getD (Res.bl r7) 0 (Blk.cells T_n0 [] true)) T_syntax_reader 2 (fun rd8 => V.asSl (rd8 0) T_api_Token (fun es9 => V.asInt (rd8 1) .i64 (fun n10 => Res.onOut r7 (fun v11 => V.asAgg v11 4 (fun rd12 => V.asInt (rd12 0) .i64 (fun n13 => V.asStr (rd12 1) (fun s14 => V.asInt (rd12 2) .i64 (fun n15 => V.asSl (rd12 3) T_api_Expr (fun es16 => some ⟨Out.ret (V.agg [V.int .i64 n13, V.str s14, V.int .i64 n15, V.sl .no T_api_Expr es16]), [Blk.cells T_syntax_reader [V.sl .no T_api_Token es9, V.int .i64 n10] false], none⟩)))))) (fun v11 => V.asIface v11 T_syntax_given (fun w12 => V.asAgg w12 2 (fun rd13 => V.asInt (rd13 0) .i64 (fun n14 => V.asInt (rd13 1) .i64 (fun n15 => some ⟨Out.pan (V.iface T_syntax_given (V.agg [V.int .i64 n14, V.int .i64 n15])), [Blk.cells T_syntax_reader [V.sl .no T_api_Token es9, V.int .i64 n10] false], none⟩))))))))) else (den Sp syntax_reader_bin.id [V.ref 0 0, V.int .i64 (IntKind.wrap .i64 (a1 + (1 : Int))), V.int .i64 a2] [Blk.cells T_syntax_reader [V.sl .no T_api_Token m0_0, V.int .i64 m0_1] false] none).bind (fun r7 => Blk.asCells (List.getD (Res.bl r7) 0 (Blk.cells T_n0 [] true)) T_syntax_reader 2 (fun rd8 => V.asSl (rd8 0) T_api_Token (fun es9 => V.asInt (rd8 1) .i64 (fun n10 => Res.onOut r7 (fun v11 => V.asAgg v11 4 (fun rd12 => V.asInt (rd12 0) .i64 (fun n13 => V.asStr (rd12 1) (fun s14 => V.asInt (rd12 2) .i64 (fun n15 => V.asSl (rd12 3) T_api_Expr (fun es16 => (den Sp syntax_reader_sign.id [V.ref 0 0, V.int .i64 a1] [Blk.cells T_syntax_reader [V.sl .no T_api_Token es9, V.int .i64 n10] false] none).bind (fun r18 => Blk.asCells (List.getD (Res.bl r18) 0 (Blk.cells T_n0 [] true)) T_syntax_reader 2 (fun rd19 => V.asSl (rd19 0) T_api_Token (fun es20 => V.asInt (rd19 1) .i64 (fun n21 => Res.onRet r18 (fun v22 => V.asStr v22 (fun s23 => L1_1_1_0_1_0 a1 a2 s23 es20 n21 n13 s14 n15 es16)))))))))))) (fun v11 => V.asIface v11 T_syntax_given (fun w12 => V.asAgg w12 2 (fun rd13 => V.asInt (rd13 0) .i64 (fun n14 => V.asInt (rd13 1) .i64 (fun n15 => some ⟨Out.pan (V.iface T_syntax_given (V.agg [V.int .i64 n14, V.int .i64 n15])), [Blk.cells T_syntax_reader [V.sl .no T_api_Token es9, V.int .i64 n10] false], none⟩)))))))))) := (den_eq ..).trans (by kernel_rfl)
end syntax_reader_bin
namespace syntax_reader_unary
noncomputable abbrev e (p : List Nat) := ev Sp (den Sp) id Tryd.f77.ntmps (cAt (bodyOf Tryd.f77) p)
noncomputable abbrev cn (n0 : List Nat) := canon Sp id n0
noncomputable abbrev K : K := kFin Sp (den Sp) (Sp.oo id) Tryd.f77 1
noncomputable def L1_0_1_0 (i0 i1 : Int) (l2 : List (List V)) (i3 : Int) : Option Res := LP (e [1, 0, 1, 0, 0]) (cn [0, 1004]) (kBlk 0 (kSeq (e [1, 1]) (K))) ([(0, (V.ref 0 0)), (1, (V.int .i64 i0)), (4, (V.ref 1004 0)), (11, (V.agg [V.str (ByteArray.mk #[45]), V.str (ByteArray.mk #[33])])), (12, (V.int .i64 i1))], ⟨[(0, (Blk.cells T_syntax_reader [V.sl .no T_api_Token l2, V.int .i64 i3] false)), (1004, (Blk.cells T_api_Expr [V.int .i64 (0 : Int), V.str (ByteArray.mk #[]), V.int .i64 (0 : Int), V.sl (Tok.row 0) T_api_Expr []] false))], [0], [], [], none⟩)
theorem L1_0_1_0_eq (i0 i1 : Int) (l2 : List (List V)) (i3 : Int) : L1_0_1_0 i0 i1 l2 i3 =
  (bif (decide (i1 < (2 : Int))) then (if (((0 : Int) <= i1) ∧ (i1 < ((2 : Nat) : Int))) then (V.asStr (List.getD [V.str (ByteArray.mk #[45]), V.str (ByteArray.mk #[33])] (((Int.toNat i1) * 1) + 0) V.undef) (fun s11 => (den Sp syntax_tokens_has.id [V.ref 0 0, V.str s11] [Blk.cells T_syntax_tokens [V.sl .no T_api_Token l2, V.int .i64 i3] false] none).bind (fun r13 => Blk.asCells (List.getD (Res.bl r13) 0 (Blk.cells T_n0 [] true)) T_syntax_tokens 2 (fun rd14 => V.asSl (rd14 0) T_api_Token (fun es15 => V.asInt (rd14 1) .i64 (fun n16 => Res.onRet r13 (fun v17 => V.asBool v17 (fun b18 => bif b18 then (den Sp syntax_reader_begins.id [V.ref 0 0] [Blk.cells T_syntax_reader [V.sl .no T_api_Token es15, V.int .i64 n16] false] none).bind (fun r20 => Blk.asCells (List.getD (Res.bl r20) 0 (Blk.cells T_n0 [] true)) T_syntax_reader 2 (fun rd21 => V.asSl (rd21 0) T_api_Token (fun es22 => V.asInt (rd21 1) .i64 (fun n23 => Res.onRet r20 (fun v24 => V.asBool v24 (fun b25 => (den Sp syntax_tokens_deep.id [V.ref 0 0, V.int .i64 (IntKind.wrap .i64 (i0 + (1 : Int))), V.bool b25] [Blk.cells T_syntax_tokens [V.sl .no T_api_Token es22, V.int .i64 n23] false] none).bind (fun r26 => Blk.asCells (List.getD (Res.bl r26) 0 (Blk.cells T_n0 [] true)) T_syntax_tokens 2 (fun rd27 => V.asSl (rd27 0) T_api_Token (fun es28 => V.asInt (rd27 1) .i64 (fun n29 => Res.onOut r26 (fun v30 => V.asTup v30 0 (fun rd31 => (den Sp syntax_reader_unary.id [V.ref 0 0, V.int .i64 (IntKind.wrap .i64 (i0 + (1 : Int)))] [Blk.cells T_syntax_reader [V.sl .no T_api_Token es28, V.int .i64 n29] false] none).bind (fun r33 => Blk.asCells (List.getD (Res.bl r33) 0 (Blk.cells T_n0 [] true)) T_syntax_reader 2 (fun rd34 => V.asSl (rd34 0) T_api_Token (fun es35 => V.asInt (rd34 1) .i64 (fun n36 => Res.onOut r33 (fun v37 => V.asAgg v37 4 (fun rd38 => V.asInt (rd38 0) .i64 (fun n39 => V.asStr (rd38 1) (fun s40 => V.asInt (rd38 2) .i64 (fun n41 => V.asSl (rd38 3) T_api_Expr (fun es42 => some ⟨Out.ret (V.agg [V.int .i64 (5 : Int), V.str s11, V.int .i64 (0 : Int), V.sl .no T_api_Expr [[V.int .i64 n39, V.str s40, V.int .i64 n41, V.sl .no T_api_Expr es42]]]), [Blk.cells T_syntax_reader [V.sl .no T_api_Token es35, V.int .i64 n36] false], none⟩)))))) (fun v37 => V.asIface v37 T_syntax_given (fun w38 => V.asAgg w38 2 (fun rd39 => V.asInt (rd39 0) .i64 (fun n40 => V.asInt (rd39 1) .i64 (fun n41 => some ⟨Out.pan (V.iface T_syntax_given (V.agg [V.int .i64 n40, V.int .i64 n41])), [Blk.cells T_syntax_reader [V.sl .no T_api_Token es35, V.int .i64 n36] false], none⟩))))))))))) (fun v30 => V.asIface v30 T_syntax_given (fun w31 => V.asAgg w31 2 (fun rd32 => V.asInt (rd32 0) .i64 (fun n33 => V.asInt (rd32 1) .i64 (fun n34 => some ⟨Out.pan (V.iface T_syntax_given (V.agg [V.int .i64 n33, V.int .i64 n34])), [Blk.cells T_syntax_reader [V.sl .no T_api_Token es28, V.int .i64 n29] false], none⟩))))))))))))))) else (L1_0_1_0 i0 (IntKind.wrap .i64 (i1 + (1 : Int))) es15 n16))))))))) else none) else (if (((0 : Int) <= i3) ∧ (i3 < (l2.length : Int))) then (V.asInt (List.getD (List.getD l2 (Int.toNat i3) []) 0 V.undef) .i64 (fun n11 => V.asStr (List.getD (List.getD l2 (Int.toNat i3) []) 1 V.undef) (fun s12 => V.asInt (List.getD (List.getD l2 (Int.toNat i3) []) 2 V.undef) .i64 (fun n13 => V.asInt (List.getD (List.getD l2 (Int.toNat i3) []) 3 V.undef) .i64 (fun n14 => (den Sp syntax_tokens_has.id [V.ref 0 0, V.str (ByteArray.mk #[40])] [Blk.cells T_syntax_tokens [V.sl .no T_api_Token l2, V.int .i64 i3] false] none).bind (fun r16 => Blk.asCells (List.getD (Res.bl r16) 0 (Blk.cells T_n0 [] true)) T_syntax_tokens 2 (fun rd17 => V.asSl (rd17 0) T_api_Token (fun es18 => V.asInt (rd17 1) .i64 (fun n19 => Res.onRet r16 (fun v20 => V.asBool v20 (fun b21 => bif b21 then (den Sp syntax_reader_expr.id [V.ref 0 0, V.int .i64 (IntKind.wrap .i64 (i0 + (1 : Int)))] [Blk.cells T_syntax_reader [V.sl .no T_api_Token es18, V.int .i64 n19] false] none).bind (fun r23 => Blk.asCells (List.getD (Res.bl r23) 0 (Blk.cells T_n0 [] true)) T_syntax_reader 2 (fun rd24 => V.asSl (rd24 0) T_api_Token (fun es25 => V.asInt (rd24 1) .i64 (fun n26 => Res.onOut r23 (fun v27 => V.asAgg v27 4 (fun rd28 => V.asInt (rd28 0) .i64 (fun n29 => V.asStr (rd28 1) (fun s30 => V.asInt (rd28 2) .i64 (fun n31 => V.asSl (rd28 3) T_api_Expr (fun es32 => (den Sp syntax_tokens_need.id [V.ref 0 0, V.str (ByteArray.mk #[41])] [Blk.cells T_syntax_tokens [V.sl .no T_api_Token es25, V.int .i64 n26] false] none).bind (fun r34 => Blk.asCells (List.getD (Res.bl r34) 0 (Blk.cells T_n0 [] true)) T_syntax_tokens 2 (fun rd35 => V.asSl (rd35 0) T_api_Token (fun es36 => V.asInt (rd35 1) .i64 (fun n37 => Res.onOut r34 (fun v38 => V.asTup v38 0 (fun rd39 => some ⟨Out.ret (V.agg [V.int .i64 n29, V.str s30, V.int .i64 n31, V.sl .no T_api_Expr es32]), [Blk.cells T_syntax_reader [V.sl .no T_api_Token es36, V.int .i64 n37] false], none⟩)) (fun v38 => V.asIface v38 T_syntax_given (fun w39 => V.asAgg w39 2 (fun rd40 => V.asInt (rd40 0) .i64 (fun n41 => V.asInt (rd40 1) .i64 (fun n42 => some ⟨Out.pan (V.iface T_syntax_given (V.agg [V.int .i64 n41, V.int .i64 n42])), [Blk.cells T_syntax_reader [V.sl .no T_api_Token es36, V.int .i64 n37] false], none⟩))))))))))))))) (fun v27 => V.asIface v27 T_syntax_given (fun w28 => V.asAgg w28 2 (fun rd29 => V.asInt (rd29 0) .i64 (fun n30 => V.asInt (rd29 1) .i64 (fun n31 => some ⟨Out.pan (V.iface T_syntax_given (V.agg [V.int .i64 n30, V.int .i64 n31])), [Blk.cells T_syntax_reader [V.sl .no T_api_Token es25, V.int .i64 n26] false], none⟩))))))))) else (den Sp syntax_tokens_has.id [V.ref 0 0, V.str (ByteArray.mk #[116, 114, 117, 101])] [Blk.cells T_syntax_tokens [V.sl .no T_api_Token es18, V.int .i64 n19] false] none).bind (fun r23 => Blk.asCells (List.getD (Res.bl r23) 0 (Blk.cells T_n0 [] true)) T_syntax_tokens 2 (fun rd24 => V.asSl (rd24 0) T_api_Token (fun es25 => V.asInt (rd24 1) .i64 (fun n26 => Res.onRet r23 (fun v27 => V.asBool v27 (fun b28 => bif b28 then (some ⟨Out.ret (V.agg [V.int .i64 (2 : Int), V.str (ByteArray.mk #[]), V.int .i64 (1 : Int), V.sl .no T_api_Expr []]), [Blk.cells T_syntax_reader [V.sl .no T_api_Token es25, V.int .i64 n26] false], none⟩) else (den Sp syntax_tokens_has.id [V.ref 0 0, V.str (ByteArray.mk #[102, 97, 108, 115, 101])] [Blk.cells T_syntax_tokens [V.sl .no T_api_Token es25, V.int .i64 n26] false] none).bind (fun r30 => Blk.asCells (List.getD (Res.bl r30) 0 (Blk.cells T_n0 [] true)) T_syntax_tokens 2 (fun rd31 => V.asSl (rd31 0) T_api_Token (fun es32 => V.asInt (rd31 1) .i64 (fun n33 => Res.onRet r30 (fun v34 => V.asBool v34 (fun b35 => bif b35 then (some ⟨Out.ret (V.agg [V.int .i64 (2 : Int), V.str (ByteArray.mk #[]), V.int .i64 (0 : Int), V.sl .no T_api_Expr []]), [Blk.cells T_syntax_reader [V.sl .no T_api_Token es32, V.int .i64 n33] false], none⟩) else (bif (n11 == (2 : Int)) then (some ⟨Out.ret (V.agg [V.int .i64 (1 : Int), V.str (ByteArray.mk #[]), V.int .i64 n13, V.sl .no T_api_Expr []]), [Blk.cells T_syntax_reader [V.sl .no T_api_Token es32, V.int .i64 (IntKind.wrap .i64 (n33 + (1 : Int)))] false], none⟩) else (den Sp syntax_tokens_name.id [V.ref 0 0] [Blk.cells T_syntax_tokens [V.sl .no T_api_Token es32, V.int .i64 n33] false] none).bind (fun r38 => Blk.asCells (List.getD (Res.bl r38) 0 (Blk.cells T_n0 [] true)) T_syntax_tokens 2 (fun rd39 => V.asSl (rd39 0) T_api_Token (fun es40 => V.asInt (rd39 1) .i64 (fun n41 => Res.onOut r38 (fun v42 => V.asStr v42 (fun s43 => (den Sp syntax_tokens_has.id [V.ref 0 0, V.str (ByteArray.mk #[91])] [Blk.cells T_syntax_tokens [V.sl .no T_api_Token es40, V.int .i64 n41] false] none).bind (fun r45 => Blk.asCells (List.getD (Res.bl r45) 0 (Blk.cells T_n0 [] true)) T_syntax_tokens 2 (fun rd46 => V.asSl (rd46 0) T_api_Token (fun es47 => V.asInt (rd46 1) .i64 (fun n48 => Res.onRet r45 (fun v49 => V.asBool v49 (fun b50 => bif b50 then (den Sp syntax_reader_expr.id [V.ref 0 0, V.int .i64 (IntKind.wrap .i64 (i0 + (1 : Int)))] [Blk.cells T_syntax_reader [V.sl .no T_api_Token es47, V.int .i64 n48] false] none).bind (fun r52 => Blk.asCells (List.getD (Res.bl r52) 0 (Blk.cells T_n0 [] true)) T_syntax_reader 2 (fun rd53 => V.asSl (rd53 0) T_api_Token (fun es54 => V.asInt (rd53 1) .i64 (fun n55 => Res.onOut r52 (fun v56 => V.asAgg v56 4 (fun rd57 => V.asInt (rd57 0) .i64 (fun n58 => V.asStr (rd57 1) (fun s59 => V.asInt (rd57 2) .i64 (fun n60 => V.asSl (rd57 3) T_api_Expr (fun es61 => (den Sp syntax_tokens_need.id [V.ref 0 0, V.str (ByteArray.mk #[93])] [Blk.cells T_syntax_tokens [V.sl .no T_api_Token es54, V.int .i64 n55] false] none).bind (fun r63 => Blk.asCells (List.getD (Res.bl r63) 0 (Blk.cells T_n0 [] true)) T_syntax_tokens 2 (fun rd64 => V.asSl (rd64 0) T_api_Token (fun es65 => V.asInt (rd64 1) .i64 (fun n66 => Res.onOut r63 (fun v67 => V.asTup v67 0 (fun rd68 => some ⟨Out.ret (V.agg [V.int .i64 (4 : Int), V.str s43, V.int .i64 (0 : Int), V.sl .no T_api_Expr [[V.int .i64 n58, V.str s59, V.int .i64 n60, V.sl .no T_api_Expr es61]]]), [Blk.cells T_syntax_reader [V.sl .no T_api_Token es65, V.int .i64 n66] false], none⟩)) (fun v67 => V.asIface v67 T_syntax_given (fun w68 => V.asAgg w68 2 (fun rd69 => V.asInt (rd69 0) .i64 (fun n70 => V.asInt (rd69 1) .i64 (fun n71 => some ⟨Out.pan (V.iface T_syntax_given (V.agg [V.int .i64 n70, V.int .i64 n71])), [Blk.cells T_syntax_reader [V.sl .no T_api_Token es65, V.int .i64 n66] false], none⟩))))))))))))))) (fun v56 => V.asIface v56 T_syntax_given (fun w57 => V.asAgg w57 2 (fun rd58 => V.asInt (rd58 0) .i64 (fun n59 => V.asInt (rd58 1) .i64 (fun n60 => some ⟨Out.pan (V.iface T_syntax_given (V.agg [V.int .i64 n59, V.int .i64 n60])), [Blk.cells T_syntax_reader [V.sl .no T_api_Token es54, V.int .i64 n55] false], none⟩))))))))) else (some ⟨Out.ret (V.agg [V.int .i64 (3 : Int), V.str s43, V.int .i64 (0 : Int), V.sl .no T_api_Expr []]), [Blk.cells T_syntax_reader [V.sl .no T_api_Token es47, V.int .i64 n48] false], none⟩))))))))) (fun v42 => V.asIface v42 T_syntax_given (fun w43 => V.asAgg w43 2 (fun rd44 => V.asInt (rd44 0) .i64 (fun n45 => V.asInt (rd44 1) .i64 (fun n46 => some ⟨Out.pan (V.iface T_syntax_given (V.agg [V.int .i64 n45, V.int .i64 n46])), [Blk.cells T_syntax_reader [V.sl .no T_api_Token es40, V.int .i64 n41] false], none⟩))))))))))))))))))))))))))))))))) else none)) := (LP_eq ..).trans (by kernel_rfl)
theorem eq (m0_0 : List (List V)) (m0_1 a1 : Int) : den Sp id [V.ref 0 0, V.int .i64 a1] [Blk.cells T_syntax_reader [V.sl .no T_api_Token m0_0, V.int .i64 m0_1] false] none =
  (L1_0_1_0 a1 (0 : Int) m0_0 m0_1) := (den_eq ..).trans (by kernel_rfl)
end syntax_reader_unary
namespace syntax_caught
theorem eq (a0_0 a0_1 : Int) : den Sp id [V.iface T_syntax_given (V.agg [V.int .i64 a0_0, V.int .i64 a0_1])] [] none =
  (some ⟨Out.ret (V.tup [V.int .i64 a0_0, V.int .i64 a0_1]), [], none⟩) := (den_eq ..).trans (by kernel_rfl)
end syntax_caught
namespace syntax_Expr_1
theorem eq0 (c0_0 : Int) (c0_1 : ByteArray) (c0_2 : Int) (c0_3 : List (List V)) (c1_0 c2_0 : Int) : den Sp id [V.ref 0 0, V.ref 1 0, V.ref 2 0] [Blk.cells T_api_Expr [V.int .i64 c0_0, V.str c0_1, V.int .i64 c0_2, V.sl .no T_api_Expr c0_3] false, Blk.cells T_int [V.int .i64 c1_0] false, Blk.cells T_api_Errno [V.int .i64 c2_0] false] (some none) =
  (some ⟨Out.ret (V.tup []), [Blk.cells T_api_Expr [V.int .i64 c0_0, V.str c0_1, V.int .i64 c0_2, V.sl .no T_api_Expr c0_3] false, Blk.cells T_int [V.int .i64 c1_0] false, Blk.cells T_api_Errno [V.int .i64 c2_0] false], some none⟩) := (den_eq ..).trans (by kernel_rfl)
end syntax_Expr_1
namespace syntax_Expr_1
theorem eq1 (c0_0 : Int) (c0_1 : ByteArray) (c0_2 : Int) (c0_3 : List (List V)) (c1_0 c2_0 w_0 w_1 : Int) : den Sp id [V.ref 0 0, V.ref 1 0, V.ref 2 0] [Blk.cells T_api_Expr [V.int .i64 c0_0, V.str c0_1, V.int .i64 c0_2, V.sl .no T_api_Expr c0_3] false, Blk.cells T_int [V.int .i64 c1_0] false, Blk.cells T_api_Errno [V.int .i64 c2_0] false] (some (some (V.iface T_syntax_given (V.agg [V.int .i64 w_0, V.int .i64 w_1])))) =
  (den Sp syntax_caught.id [V.iface T_syntax_given (V.agg [V.int .i64 w_0, V.int .i64 w_1])] [] none).bind (fun r12 => Res.onRet r12 (fun v13 => V.asTup v13 2 (fun rd14 => V.asInt (rd14 0) .i64 (fun n15 => V.asInt (rd14 1) .i64 (fun n16 => some ⟨Out.ret (V.tup []), [Blk.cells T_api_Expr [V.int .i64 (0 : Int), V.str (ByteArray.mk #[]), V.int .i64 (0 : Int), V.sl .no T_api_Expr []] false, Blk.cells T_int [V.int .i64 n15] false, Blk.cells T_api_Errno [V.int .i64 n16] false], some none⟩))))) := (den_eq ..).trans (by kernel_rfl)
end syntax_Expr_1
namespace syntax_Expr
theorem eq (a0 : ByteArray) : den Sp id [V.str a0] [] none =
  (den Sp lex_Scan.id [V.str a0] [] none).bind (fun r3 => Res.onRet r3 (fun v4 => V.asTup v4 3 (fun rd5 => V.asSl (rd5 0) T_api_Token (fun es6 => V.asInt (rd5 1) .i64 (fun n7 => V.asInt (rd5 2) .i64 (fun n8 => bif (n8 != (0 : Int)) then (some ⟨Out.ret (V.tup [V.agg [V.int .i64 (0 : Int), V.str (ByteArray.mk #[]), V.int .i64 (0 : Int), V.sl .no T_api_Expr []], V.int .i64 n7, V.int .i64 n8]), [], none⟩) else (den Sp syntax_reader_expr.id [V.ref 0 0, V.int .i64 (1 : Int)] [Blk.cells T_syntax_reader [V.sl .no T_api_Token es6, V.int .i64 (0 : Int)] false] none).bind (fun r13 => Blk.asCells (List.getD (Res.bl r13) 0 (Blk.cells T_n0 [] true)) T_syntax_reader 2 (fun rd14 => V.asSl (rd14 0) T_api_Token (fun es15 => V.asInt (rd14 1) .i64 (fun n16 => Res.onOut r13 (fun v17 => V.asAgg v17 4 (fun rd18 => V.asInt (rd18 0) .i64 (fun n19 => V.asStr (rd18 1) (fun s20 => V.asInt (rd18 2) .i64 (fun n21 => V.asSl (rd18 3) T_api_Expr (fun es22 => if (((0 : Int) <= n16) ∧ (n16 < (es15.length : Int))) then (V.asInt (List.getD (List.getD es15 (Int.toNat n16) []) 0 V.undef) .i64 (fun n24 => bif (n24 != (0 : Int)) then (den Sp syntax_tokens_wrong.id [V.ref 0 0] [Blk.cells T_syntax_tokens [V.sl .no T_api_Token es15, V.int .i64 n16] false] none).bind (fun r26 => Blk.asCells (List.getD (Res.bl r26) 0 (Blk.cells T_n0 [] true)) T_syntax_tokens 2 (fun rd27 => V.asSl (rd27 0) T_api_Token (fun es28 => V.asInt (rd27 1) .i64 (fun n29 => Res.onOut r26 (fun v30 => V.asTup v30 0 (fun rd31 => (den Sp syntax_Expr_1.id [V.ref 0 0, V.ref 1 0, V.ref 2 0] [Blk.cells T_api_Expr [V.int .i64 n19, V.str s20, V.int .i64 n21, V.sl .no T_api_Expr es22] false, Blk.cells T_int [V.int .i64 (0 : Int)] false, Blk.cells T_api_Errno [V.int .i64 (0 : Int)] false] (some none)).bind (fun r33 => Blk.asCells (List.getD (Res.bl r33) 0 (Blk.cells T_n0 [] true)) T_api_Expr 4 (fun rd34 => V.asInt (rd34 0) .i64 (fun n35 => V.asStr (rd34 1) (fun s36 => V.asInt (rd34 2) .i64 (fun n37 => V.asSl (rd34 3) T_api_Expr (fun es38 => Blk.asCells (List.getD (Res.bl r33) 1 (Blk.cells T_n0 [] true)) T_int 1 (fun rd39 => V.asInt (rd39 0) .i64 (fun n40 => Blk.asCells (List.getD (Res.bl r33) 2 (Blk.cells T_n0 [] true)) T_api_Errno 1 (fun rd41 => V.asInt (rd41 0) .i64 (fun n42 => Res.onRet r33 (fun v43 => V.asTup v43 0 (fun rd44 => Res.onPn r33 (some ⟨Out.ret (V.tup [V.agg [V.int .i64 n35, V.str s36, V.int .i64 n37, V.sl .no T_api_Expr es38], V.int .i64 n40, V.int .i64 n42]), [], none⟩) (fun v45 => some ⟨Out.ret (V.tup [V.agg [V.int .i64 n35, V.str s36, V.int .i64 n37, V.sl .no T_api_Expr es38], V.int .i64 n40, V.int .i64 n42]), [], none⟩))))))))))))))) (fun v30 => V.asIface v30 T_syntax_given (fun w31 => V.asAgg w31 2 (fun rd32 => V.asInt (rd32 0) .i64 (fun n33 => V.asInt (rd32 1) .i64 (fun n34 => (den Sp syntax_Expr_1.id [V.ref 0 0, V.ref 1 0, V.ref 2 0] [Blk.cells T_api_Expr [V.int .i64 n19, V.str s20, V.int .i64 n21, V.sl .no T_api_Expr es22] false, Blk.cells T_int [V.int .i64 n7] false, Blk.cells T_api_Errno [V.int .i64 n8] false] (some (some (V.iface T_syntax_given (V.agg [V.int .i64 n33, V.int .i64 n34]))))).bind (fun r35 => Blk.asCells (List.getD (Res.bl r35) 0 (Blk.cells T_n0 [] true)) T_api_Expr 4 (fun rd36 => V.asInt (rd36 0) .i64 (fun n37 => V.asStr (rd36 1) (fun s38 => V.asInt (rd36 2) .i64 (fun n39 => V.asSl (rd36 3) T_api_Expr (fun es40 => Blk.asCells (List.getD (Res.bl r35) 1 (Blk.cells T_n0 [] true)) T_int 1 (fun rd41 => V.asInt (rd41 0) .i64 (fun n42 => Blk.asCells (List.getD (Res.bl r35) 2 (Blk.cells T_n0 [] true)) T_api_Errno 1 (fun rd43 => V.asInt (rd43 0) .i64 (fun n44 => Res.onRet r35 (fun v45 => V.asTup v45 0 (fun rd46 => Res.onPn r35 (some ⟨Out.ret (V.tup [V.agg [V.int .i64 n37, V.str s38, V.int .i64 n39, V.sl .no T_api_Expr es40], V.int .i64 n42, V.int .i64 n44]), [], none⟩) (fun v47 => some ⟨Out.pan (V.iface T_syntax_given (V.agg [V.int .i64 n33, V.int .i64 n34])), [], none⟩)))))))))))))))))))))) else (den Sp syntax_Expr_1.id [V.ref 0 0, V.ref 1 0, V.ref 2 0] [Blk.cells T_api_Expr [V.int .i64 n19, V.str s20, V.int .i64 n21, V.sl .no T_api_Expr es22] false, Blk.cells T_int [V.int .i64 (0 : Int)] false, Blk.cells T_api_Errno [V.int .i64 (0 : Int)] false] (some none)).bind (fun r26 => Blk.asCells (List.getD (Res.bl r26) 0 (Blk.cells T_n0 [] true)) T_api_Expr 4 (fun rd27 => V.asInt (rd27 0) .i64 (fun n28 => V.asStr (rd27 1) (fun s29 => V.asInt (rd27 2) .i64 (fun n30 => V.asSl (rd27 3) T_api_Expr (fun es31 => Blk.asCells (List.getD (Res.bl r26) 1 (Blk.cells T_n0 [] true)) T_int 1 (fun rd32 => V.asInt (rd32 0) .i64 (fun n33 => Blk.asCells (List.getD (Res.bl r26) 2 (Blk.cells T_n0 [] true)) T_api_Errno 1 (fun rd34 => V.asInt (rd34 0) .i64 (fun n35 => Res.onRet r26 (fun v36 => V.asTup v36 0 (fun rd37 => Res.onPn r26 (some ⟨Out.ret (V.tup [V.agg [V.int .i64 n28, V.str s29, V.int .i64 n30, V.sl .no T_api_Expr es31], V.int .i64 n33, V.int .i64 n35]), [], none⟩) (fun v38 => some ⟨Out.ret (V.tup [V.agg [V.int .i64 n28, V.str s29, V.int .i64 n30, V.sl .no T_api_Expr es31], V.int .i64 n33, V.int .i64 n35]), [], none⟩))))))))))))))) else none)))))) (fun v17 => V.asIface v17 T_syntax_given (fun w18 => V.asAgg w18 2 (fun rd19 => V.asInt (rd19 0) .i64 (fun n20 => V.asInt (rd19 1) .i64 (fun n21 => (den Sp syntax_Expr_1.id [V.ref 0 0, V.ref 1 0, V.ref 2 0] [Blk.cells T_api_Expr [V.int .i64 (0 : Int), V.str (ByteArray.mk #[]), V.int .i64 (0 : Int), V.sl .no T_api_Expr []] false, Blk.cells T_int [V.int .i64 n7] false, Blk.cells T_api_Errno [V.int .i64 n8] false] (some (some (V.iface T_syntax_given (V.agg [V.int .i64 n20, V.int .i64 n21]))))).bind (fun r22 => Blk.asCells (List.getD (Res.bl r22) 0 (Blk.cells T_n0 [] true)) T_api_Expr 4 (fun rd23 => V.asInt (rd23 0) .i64 (fun n24 => V.asStr (rd23 1) (fun s25 => V.asInt (rd23 2) .i64 (fun n26 => V.asSl (rd23 3) T_api_Expr (fun es27 => Blk.asCells (List.getD (Res.bl r22) 1 (Blk.cells T_n0 [] true)) T_int 1 (fun rd28 => V.asInt (rd28 0) .i64 (fun n29 => Blk.asCells (List.getD (Res.bl r22) 2 (Blk.cells T_n0 [] true)) T_api_Errno 1 (fun rd30 => V.asInt (rd30 0) .i64 (fun n31 => Res.onRet r22 (fun v32 => V.asTup v32 0 (fun rd33 => Res.onPn r22 (some ⟨Out.ret (V.tup [V.agg [V.int .i64 n24, V.str s25, V.int .i64 n26, V.sl .no T_api_Expr es27], V.int .i64 n29, V.int .i64 n31]), [], none⟩) (fun v34 => some ⟨Out.pan (V.iface T_syntax_given (V.agg [V.int .i64 n20, V.int .i64 n21])), [], none⟩)))))))))))))))))))))))))))) := (den_eq ..).trans (by kernel_rfl)
end syntax_Expr
end Go.Proofs.YtennkhdlpbggkaaDoor
namespace Go.Proofs.YtennkhdlpbggkaaDoor
open Go Go.Proofs.Ab Go.Proofs.Px
attribute [local congr] bind_h asInt_h asBool_h asStr_h asSl_h asSlR_h asAgg_h asTup_h asIface_h asCells_h onRet_h onOut_h cond_h
theorem sun_v (m : Int) (s : List UInt8) (x : Ex) : Ex.v (.mk m s 0 [x]) = [.int .i64 m, .str (B s), .int .i64 0, .sl .no T_api_Expr [x.v]] := by rw [Ex.v_mk]; rfl
theorem sbin_v (s : List UInt8) (x y : Ex) : Ex.v (.mk 6 s 0 [x, y]) = [.int .i64 6, .str (B s), .int .i64 0, .sl .no T_api_Expr [x.v, y.v]] := by rw [Ex.v_mk]; rfl
theorem sleaf_v (m : Int) (s : List UInt8) (n : Int) : Ex.v (.mk m s n []) = [.int .i64 m, .str (B s), .int .i64 n, .sl .no T_api_Expr []] := by rw [Ex.v_mk]; rfl
theorem level_ne {s : List UInt8} (h : levelT s ≠ 0) : s ≠ [] := fun e => h (by rw [e]; rfl)
theorem isT_of {t : Tk} {s : List UInt8} (h : isT t s = true) : (t.kind = 3 ∨ t.kind = 4) ∧ t.text = s := by
 unfold isT at h
 simpa only [Bool.and_eq_true, Bool.or_eq_true, decide_eq_true_eq] using h
section
variable {l : List Tk} (hl : Ended l) (hn : l.length <= 100000)
include hl hn
structure FarS (l : List Tk) (k : Nat) : Prop where
 un : ∀ k', k < k' -> k' < l.length -> ∀ (d : Int) ps, 0 <= d -> d <= 60 -> RsX l ps (oneW l d k') (den Sp syntax_reader_unary.id [.ref 0 0, .int .i64 d] [rsB l k' ps] none)
 bin : ∀ k', k < k' -> k' < l.length -> ∀ (n d : Int) ps, 1 <= n -> n <= 6 -> 0 <= d -> d <= 60 -> RsX l ps (tightW l n d k') (den Sp syntax_reader_bin.id [.ref 0 0, .int .i64 n, .int .i64 d] [rsB l k' ps] none)
theorem expr_s {k : Nat} (hk : k < l.length) (d : Int) (ps : List (List V)) (hT : d <= 60 -> RsX l ps (tightW l 1 d k) (den Sp syntax_reader_bin.id [.ref 0 0, .int .i64 1, .int .i64 d] [rsB l k ps] none)) :
  RsX l ps (partR l d k (tightW l 1 d k)) (den Sp syntax_reader_expr.id [.ref 0 0, .int .i64 d] [rsB l k ps] none) := by
 have h1 := begins_s hn hk ps
 have h2 := deep_s hn hk d (opensT (tk l k))
 unfold partR
 unfold RsT at h2
 cases c : opensT (tk l k) with
 | false =>
  rw [c] at h1 h2
  rw [if_pos rfl] at h2 ⊢
  obtain ⟨j, h2⟩ := h2
  refine ⟨j, ?_⟩
  (try unfold rsB at *); (try unfold tkB at *); (try unfold givenS at *)
  rw [syntax_reader_expr.eq]
  simp only [h1, h2, lz, lx, if_true, if_false]
 | true =>
  rw [c] at h1 h2
  rw [if_neg (by simp)] at h2 ⊢
  by_cases c6 : 60 < d
  ·rw [if_pos c6] at h2 ⊢
   obtain ⟨j, h2⟩ := h2
   refine ⟨j, ?_⟩
   (try unfold rsB at *); (try unfold tkB at *); (try unfold givenS at *)
   rw [syntax_reader_expr.eq]
   simp only [h1, h2, lz, lx, if_true, if_false]
  ·rw [if_neg c6] at h2 ⊢
   simp only at h2
   have hT := hT (by omega)
   unfold RsX at *
   cases hq : tightW l 1 d k with
   | error e =>
    rw [hq] at hT
    obtain ⟨j, hT⟩ := hT
    refine ⟨j, ?_⟩
    (try unfold rsB at *); (try unfold tkB at *); (try unfold givenS at *)
    rw [syntax_reader_expr.eq]
    simp only [h1, h2, hT, lz, lx, if_true, if_false]
   | ok q =>
    obtain ⟨x, j⟩ := q
    rw [hq] at hT
    simp only at hT ⊢
    (try unfold rsB at *); (try unfold tkB at *); (try unfold givenS at *)
    rw [syntax_reader_expr.eq]
    simp only [h1, h2, hT, lz, lx, if_true, if_false]
noncomputable def un1 (l : List Tk) (ps : List (List V)) (d : Int) (i : Int) (k : Nat) : Option Res := syntax_reader_unary.L1_0_1_0 d i (l.map Tk.v) (k : Int)
theorem un_at {k : Nat} (hk : k < l.length) (d : Int) (ps : List (List V)) (h0 : 0 <= d) (h6 : d <= 60) (far : FarS l k) (i : Nat) (s : List UInt8) (hi : i < 2) (hs : List.getD [V.str (B [45]), V.str (B [33])] ((Int.toNat (i : Int)) * 1 + 0) .undef = .str (B s)) :
  (isT (tk l k) s = true -> RsX l ps (partR l (d + 1) (k + 1) (match oneW l (d + 1) (k + 1) with | .error e => .error e | .ok (x, j) => .ok (.mk 5 s 0 [x], j))) (un1 l ps d i k)) ∧
  (isT (tk l k) s = false -> un1 l ps d i k = un1 l ps d (i + 1 : Nat) k) := by
 have hh := has_s hn hk s
 have c2 : decide ((i : Int) < 2) = true := decide_eq_true (by omega)
 have hd : IntKind.i64.wrap (d + 1) = d + 1 := wrap_in (by omega) (by omega)
 have wi := wr1 (show i < 1099511627776 by omega)
 have ri : (0 : Int) <= (i : Int) ∧ (i : Int) < ((2 : Nat) : Int) := ⟨by omega, by omega⟩
 refine ⟨fun c => ?_, fun c => ?_⟩
 ·rw [c] at hh
  simp only [if_true] at hh
  have hk1 := hl.isT hk c
  have h1 := begins_s hn hk1 ps
  have h2 := deep_s hn hk1 (d + 1) (opensT (tk l (k + 1)))
  unfold partR
  unfold RsT at h2
  cases co : opensT (tk l (k + 1)) with
  | false =>
   rw [co] at h1 h2
   rw [if_pos rfl] at h2 ⊢
   obtain ⟨j, h2⟩ := h2
   refine ⟨j, ?_⟩
   (try unfold un1 at *); (try unfold rsB at *); (try unfold tkB at *); (try unfold givenS at *)
   rw [syntax_reader_unary.L1_0_1_0_eq]
   simp only [hh, h1, h2, c2, hd, wi, if_pos ri, hs, lz, lx, if_true, if_false]
  | true =>
   rw [co] at h1 h2
   rw [if_neg (by simp)] at h2 ⊢
   by_cases c6 : 60 < d + 1
   ·rw [if_pos c6] at h2 ⊢
    obtain ⟨j, h2⟩ := h2
    refine ⟨j, ?_⟩
    (try unfold un1 at *); (try unfold rsB at *); (try unfold tkB at *); (try unfold givenS at *)
    rw [syntax_reader_unary.L1_0_1_0_eq]
    simp only [hh, h1, h2, c2, hd, wi, if_pos ri, hs, lz, lx, if_true, if_false]
   ·rw [if_neg c6] at h2 ⊢
    simp only at h2
    have ih := far.un (k + 1) (by omega) hk1 (d + 1) ps (by omega) (by omega)
    unfold RsX at *
    cases hq : oneW l (d + 1) (k + 1) with
    | error e =>
     rw [hq] at ih
     obtain ⟨j, ih⟩ := ih
     refine ⟨j, ?_⟩
     (try unfold un1 at *); (try unfold rsB at *); (try unfold tkB at *); (try unfold givenS at *)
     rw [syntax_reader_unary.L1_0_1_0_eq]
     simp only [hh, h1, h2, ih, c2, hd, wi, if_pos ri, hs, lz, lx, if_true, if_false]
    | ok q =>
     obtain ⟨x, j⟩ := q
     rw [hq] at ih
     simp only at ih ⊢
     rw [sun_v]
     (try unfold un1 at *); (try unfold rsB at *); (try unfold tkB at *); (try unfold givenS at *)
     rw [syntax_reader_unary.L1_0_1_0_eq]
     simp only [hh, h1, h2, ih, c2, hd, wi, if_pos ri, hs, lz, lx, if_true, if_false]
 ·rw [c] at hh
  simp only [Bool.false_eq_true, if_false] at hh
  (try unfold un1 at *); (try unfold rsB at *); (try unfold tkB at *); (try unfold givenS at *)
  rw [syntax_reader_unary.L1_0_1_0_eq]
  simp only [hh, c2, hd, wi, if_pos ri, hs, lz, lx, if_true, if_false]
theorem un_s {k : Nat} (hk : k < l.length) (d : Int) (ps : List (List V)) (h0 : 0 <= d) (h6 : d <= 60) (far : FarS l k) : RsX l ps (oneW l d k) (den Sp syntax_reader_unary.id [.ref 0 0, .int .i64 d] [rsB l k ps] none) := by
 have e0 : den Sp syntax_reader_unary.id [.ref 0 0, .int .i64 d] [rsB l k ps] none = un1 l ps d (0 : Nat) k := by
  unfold rsB un1
  rw [syntax_reader_unary.eq]; rfl
 have u0 := un_at hl hn hk d ps h0 h6 far 0 [45] (by decide) rfl
 have u1 := un_at hl hn hk d ps h0 h6 far 1 [33] (by decide) rfl
 rw [e0, oneW, dif_pos hk]
 by_cases c45 : isT (tk l k) [45] = true
 ·rw [if_pos (.inl c45), ((isT_of c45).2 : (tk l k).text = [45])]
  exact u0.1 c45
 have c45' : isT (tk l k) [45] = false := by simpa using c45
 rw [u0.2 c45']
 by_cases c33 : isT (tk l k) [33] = true
 ·rw [if_pos (.inr c33), ((isT_of c33).2 : (tk l k).text = [33])]
  exact u1.1 c33
 have c33' : isT (tk l k) [33] = false := by simpa using c33
 show RsX l ps _ (un1 l ps d (1 : Nat) k)
 rw [u1.2 c33', if_neg (by rw [c45', c33']; simp)]
 clear u0 u1 e0
 have r := row_in hk
 have hh := fun s => has_s hn hk s
 have hd : IntKind.i64.wrap (d + 1) = d + 1 := wrap_in (by omega) (by omega)
 have hw := wr1 (show k < 1099511627776 by omega)
 have c2 : decide ((((1 : Nat) + 1 : Nat) : Int) < 2) = false := rfl
 by_cases c40 : isT (tk l k) [40] = true
 ·have h40 := hh [40]
  rw [if_pos c40] at h40 ⊢
  rw [c40] at h40
  have hk1 := hl.isT hk c40
  have ih := expr_s hl hn hk1 (d + 1) ps fun h => far.bin (k + 1) (by omega) hk1 1 (d + 1) ps (by omega) (by omega) (by omega) h
  unfold wantR
  unfold RsX at *
  cases hq : partR l (d + 1) (k + 1) (tightW l 1 (d + 1) (k + 1)) with
  | error e =>
   rw [hq] at ih
   obtain ⟨j, ih⟩ := ih
   refine ⟨j, ?_⟩
   (try unfold un1 at *); (try unfold rsB at *); (try unfold tkB at *); (try unfold givenS at *)
   rw [syntax_reader_unary.L1_0_1_0_eq]
   simp only [h40, ih, c2, hd, hw, if_pos r, Int.toNat_natCast, tok_g hk, tkv_0, tkv_1, tkv_2, tkv_3, lz, lx, if_true, if_false]
  | ok q =>
   obtain ⟨x, j⟩ := q
   rw [hq] at ih
   have hj := (tight_goes hl hk1 (partR_ok hq)).2
   have hnd := need_s hn hj [41]
   unfold RsT at hnd
   simp only at ih ⊢
   by_cases c41 : isT (tk l j) [41] = true
   ·rw [if_pos c41] at hnd ⊢
    simp only [id] at hnd ⊢
    (try unfold un1 at *); (try unfold rsB at *); (try unfold tkB at *); (try unfold givenS at *)
    rw [syntax_reader_unary.L1_0_1_0_eq]
    simp only [h40, ih, hnd, c2, hd, hw, if_pos r, Int.toNat_natCast, tok_g hk, tkv_0, tkv_1, tkv_2, tkv_3, lz, lx, if_true, if_false]
   ·rw [if_neg c41] at hnd ⊢
    obtain ⟨j2, hnd⟩ := hnd
    refine ⟨j2, ?_⟩
    (try unfold un1 at *); (try unfold rsB at *); (try unfold tkB at *); (try unfold givenS at *)
    rw [syntax_reader_unary.L1_0_1_0_eq]
    simp only [h40, ih, hnd, c2, hd, hw, if_pos r, Int.toNat_natCast, tok_g hk, tkv_0, tkv_1, tkv_2, tkv_3, lz, lx, if_true, if_false]
 have h40 := hh [40]
 rw [if_neg c40] at h40 ⊢
 rw [show isT (tk l k) [40] = false by simpa using c40] at h40
 by_cases ct : isT (tk l k) [116, 114, 117, 101] = true
 ·have ht := hh [116, 114, 117, 101]
  rw [if_pos ct] at ht ⊢
  rw [ct] at ht
  unfold RsX
  simp only
  rw [sleaf_v]
  (try unfold un1 at *); (try unfold rsB at *); (try unfold tkB at *); (try unfold givenS at *)
  rw [syntax_reader_unary.L1_0_1_0_eq]
  simp only [h40, ht, c2, hd, hw, if_pos r, Int.toNat_natCast, tok_g hk, tkv_0, tkv_1, tkv_2, tkv_3, lz, lx, if_true, if_false]
 have ht := hh [116, 114, 117, 101]
 rw [if_neg ct] at ht ⊢
 rw [show isT (tk l k) [116, 114, 117, 101] = false by simpa using ct] at ht
 by_cases cf : isT (tk l k) [102, 97, 108, 115, 101] = true
 ·have hf := hh [102, 97, 108, 115, 101]
  rw [if_pos cf] at hf ⊢
  rw [cf] at hf
  unfold RsX
  simp only
  rw [sleaf_v]
  (try unfold un1 at *); (try unfold rsB at *); (try unfold tkB at *); (try unfold givenS at *)
  rw [syntax_reader_unary.L1_0_1_0_eq]
  simp only [h40, ht, hf, c2, hd, hw, if_pos r, Int.toNat_natCast, tok_g hk, tkv_0, tkv_1, tkv_2, tkv_3, lz, lx, if_true, if_false]
 have hf := hh [102, 97, 108, 115, 101]
 rw [if_neg cf] at hf ⊢
 rw [show isT (tk l k) [102, 97, 108, 115, 101] = false by simpa using cf] at hf
 by_cases c2k : (tk l k).kind = 2
 ·rw [if_pos c2k]
  have c2' : ((tk l k).kind == 2) = true := by simpa using c2k
  unfold RsX
  simp only
  rw [sleaf_v]
  (try unfold un1 at *); (try unfold rsB at *); (try unfold tkB at *); (try unfold givenS at *)
  rw [syntax_reader_unary.L1_0_1_0_eq]
  simp only [h40, ht, hf, c2', c2, hd, hw, if_pos r, Int.toNat_natCast, tok_g hk, tkv_0, tkv_1, tkv_2, tkv_3, lz, lx, if_true, if_false]
 rw [if_neg c2k]
 have c2' : ((tk l k).kind == 2) = false := by simpa using c2k
 have hnm := name_s hn hk
 unfold RsT nameR wrongR at hnm
 by_cases c1 : (tk l k).kind = 1
 ·rw [if_pos c1] at hnm
  simp only at hnm
  rw [if_neg (by omega)]
  have hk1 := hl.next hk (by omega)
  have hg := has_s hn hk1 [91]
  by_cases c91 : isT (tk l (k + 1)) [91] = true
  ·rw [if_pos c91] at hg ⊢
   rw [c91] at hg
   have hk2 := hl.isT hk1 c91
   have ih := expr_s hl hn hk2 (d + 1) ps fun h => far.bin (k + 2) (by omega) hk2 1 (d + 1) ps (by omega) (by omega) (by omega) h
   unfold wantR
   unfold RsX at *
   cases hq : partR l (d + 1) (k + 2) (tightW l 1 (d + 1) (k + 2)) with
   | error e =>
    have q2 : partR l (d + 1) (k + 1 + 1) (tightW l 1 (d + 1) (k + 1 + 1)) = _ := hq
    rw [q2] at ih
    obtain ⟨j, ih⟩ := ih
    refine ⟨j, ?_⟩
    (try unfold un1 at *); (try unfold rsB at *); (try unfold tkB at *); (try unfold givenS at *)
    rw [syntax_reader_unary.L1_0_1_0_eq]
    simp only [h40, ht, hf, c2', hnm, hg, ih, c2, hd, hw, if_pos r, Int.toNat_natCast, tok_g hk, tkv_0, tkv_1, tkv_2, tkv_3, lz, lx, if_true, if_false]
   | ok q =>
    obtain ⟨x, j⟩ := q
    have q2 : partR l (d + 1) (k + 1 + 1) (tightW l 1 (d + 1) (k + 1 + 1)) = _ := hq
    rw [q2] at ih
    have hj := (tight_goes hl hk2 (partR_ok hq)).2
    have hnd := need_s hn hj [93]
    unfold RsT at hnd
    simp only at ih ⊢
    by_cases c93 : isT (tk l j) [93] = true
    ·rw [if_pos c93] at hnd ⊢
     simp only at hnd ⊢
     rw [sun_v]
     (try unfold un1 at *); (try unfold rsB at *); (try unfold tkB at *); (try unfold givenS at *)
     rw [syntax_reader_unary.L1_0_1_0_eq]
     simp only [h40, ht, hf, c2', hnm, hg, ih, hnd, c2, hd, hw, if_pos r, Int.toNat_natCast, tok_g hk, tkv_0, tkv_1, tkv_2, tkv_3, lz, lx, if_true, if_false]
    ·rw [if_neg c93] at hnd ⊢
     obtain ⟨j2, hnd⟩ := hnd
     refine ⟨j2, ?_⟩
     (try unfold un1 at *); (try unfold rsB at *); (try unfold tkB at *); (try unfold givenS at *)
     rw [syntax_reader_unary.L1_0_1_0_eq]
     simp only [h40, ht, hf, c2', hnm, hg, ih, hnd, c2, hd, hw, if_pos r, Int.toNat_natCast, tok_g hk, tkv_0, tkv_1, tkv_2, tkv_3, lz, lx, if_true, if_false]
  ·rw [if_neg c91] at hg ⊢
   rw [show isT (tk l (k + 1)) [91] = false by simpa using c91] at hg
   unfold RsX
   simp only
   rw [sleaf_v]
   (try unfold un1 at *); (try unfold rsB at *); (try unfold tkB at *); (try unfold givenS at *)
   rw [syntax_reader_unary.L1_0_1_0_eq]
   simp only [h40, ht, hf, c2', hnm, hg, c2, hd, hw, if_pos r, Int.toNat_natCast, tok_g hk, tkv_0, tkv_1, tkv_2, tkv_3, lz, lx, if_true, if_false]
 ·rw [if_neg c1] at hnm
  obtain ⟨j, hnm⟩ := hnm
  rw [if_pos c1]
  refine ⟨j, ?_⟩
  (try unfold un1 at *); (try unfold rsB at *); (try unfold tkB at *); (try unfold givenS at *)
  rw [syntax_reader_unary.L1_0_1_0_eq]
  simp only [h40, ht, hf, c2', hnm, c2, hd, hw, if_pos r, Int.toNat_natCast, tok_g hk, tkv_0, tkv_1, tkv_2, tkv_3, lz, lx, if_true, if_false]
noncomputable def lev1 (l : List Tk) (ps : List (List V)) (n d : Int) (s : List UInt8) (x : Ex) (k : Nat) : Option Res := syntax_reader_bin.L1_1_1_0_1_0 n d (B s) (l.map Tk.v) (k : Int) x.kind (B x.name) x.num (x.l.map Ex.v)
def signAt (l : List Tk) (n : Int) (k : Nat) : List UInt8 := if signT (tk l k) = n then (tk l k).text else []
theorem lev_s {k : Nat} (hk : k < l.length) (n d : Int) (ps : List (List V)) (n1 : 1 <= n) (n5 : n <= 5) (h0 : 0 <= d) (h6 : d <= 60) (x : Ex) (far : FarS l k)
  (hnext : ∀ k', k < k' -> k' < l.length -> ∀ x, RsX l ps (levW l n d x k') (lev1 l ps n d (signAt l n k') x k')) : RsX l ps (levW l n d x k) (lev1 l ps n d (signAt l n k) x k) := by
 have hw := wr1 (show k < 1099511627776 by omega)
 have hwn : IntKind.i64.wrap (n + 1) = n + 1 := wrap_in (by omega) (by omega)
 rw [levW, dif_pos hk]
 unfold signAt
 by_cases c : signT (tk l k) = n
 ·rw [if_pos c, if_neg (show ¬ signT (tk l k) ≠ n from fun h => h c)]
  have c4 : (tk l k).kind = 4 ∧ levelT (tk l k).text = n := by
   unfold signT at c
   by_cases c4 : (tk l k).kind = 4
   ·rw [if_pos c4] at c; exact ⟨c4, c⟩
   ·rw [if_neg c4] at c; omega
  have hk1 := hl.next hk (by omega)
  have hne : (tk l k).text ≠ [] := level_ne (by rw [c4.2]; omega)
  have hne' : ∀ i : Decidable (B (tk l k).text = B []), @decide _ i = false := fun i => @decide_eq_false _ i fun h => hne (B_inj.1 h)
  have ih := far.bin (k + 1) (by omega) hk1 (n + 1) d ps (by omega) (by omega) h0 h6
  unfold RsX at ih ⊢
  cases hq : tightW l (n + 1) d (k + 1) with
  | error e =>
   rw [hq] at ih
   obtain ⟨j, ih⟩ := ih
   refine ⟨j, ?_⟩
   (try unfold lev1 at *); (try unfold rsB at *); (try unfold tkB at *); (try unfold givenS at *)
   rw [syntax_reader_bin.L1_1_1_0_1_0_eq]
   simp only [ih, hw, hwn, lz, lx, if_true, if_false]
   simp [hne, B_inj]
  | ok q =>
   obtain ⟨y, j⟩ := q
   rw [hq] at ih
   have hj := tight_goes hl hk1 hq
   simp only at ih ⊢
   by_cases c3 : n = 3
   ·rw [if_pos c3]
    have c3' : (n == 3) = true := by simpa using c3
    simp only
    rw [sbin_v]
    (try unfold lev1 at *); (try unfold rsB at *); (try unfold tkB at *); (try unfold givenS at *)
    rw [syntax_reader_bin.L1_1_1_0_1_0_eq]
    simp only [ih, hw, hwn, c3', lz, lx, if_true, if_false]
    simp [hne, B_inj]
   ·rw [if_neg c3, dif_pos (show k < j by omega)]
    have c3' : (n == 3) = false := by simpa using c3
    have hs := sign_s hn hj.2 ps n n1
    have e : lev1 l ps n d (tk l k).text x k = lev1 l ps n d (signAt l n j) (.mk 6 (tk l k).text 0 [x, y]) j := by
     (try unfold lev1 at *); (try unfold rsB at *); (try unfold tkB at *); (try unfold givenS at *)
     rw [syntax_reader_bin.L1_1_1_0_1_0_eq]
     simp only [ih, hw, hwn, c3', hs, lz, lx, if_true, if_false]
     simp [hne, B_inj, signAt]
    rw [e]
    exact hnext j (by omega) hj.2 _
 ·rw [if_neg c, if_pos c]
  unfold RsX
  simp only
  (try unfold lev1 at *); (try unfold rsB at *); (try unfold tkB at *); (try unfold givenS at *)
  rw [syntax_reader_bin.L1_1_1_0_1_0_eq]
  simp only [decide_true, lz, lx, if_true, if_false]
theorem all_s : ∀ m k : Nat, l.length - k <= m -> k < l.length ->
  (∀ (d : Int) ps, 0 <= d -> d <= 60 -> RsX l ps (oneW l d k) (den Sp syntax_reader_unary.id [.ref 0 0, .int .i64 d] [rsB l k ps] none)) ∧
  (∀ (n d : Int) ps, 1 <= n -> n <= 6 -> 0 <= d -> d <= 60 -> RsX l ps (tightW l n d k) (den Sp syntax_reader_bin.id [.ref 0 0, .int .i64 n, .int .i64 d] [rsB l k ps] none)) ∧
  (∀ (n d : Int) ps x, 1 <= n -> n <= 5 -> 0 <= d -> d <= 60 -> RsX l ps (levW l n d x k) (lev1 l ps n d (signAt l n k) x k)) := by
 intro m
 induction m with
 | zero => intro k h1 h2; omega
 | succ m ih =>
  intro k hm hk
  have far : FarS l k := ⟨fun k' h1 h2 => (ih k' (by omega) h2).1, fun k' h1 h2 => (ih k' (by omega) h2).2.1⟩
  have un := fun d ps h0 h6 => un_s hl hn hk d ps h0 h6 far
  have lev := fun (n d : Int) ps x n1 n5 h0 h6 => lev_s hl hn hk n d ps n1 n5 h0 h6 x far fun k' h1 h2 x => (ih k' (by omega) h2).2.2 n d ps x n1 n5 h0 h6
  refine ⟨un, ?_, lev⟩
  have bin : ∀ (q : Nat) (n d : Int) ps, n + (q : Int) = 6 -> 1 <= n -> 0 <= d -> d <= 60 -> RsX l ps (tightW l n d k) (den Sp syntax_reader_bin.id [.ref 0 0, .int .i64 n, .int .i64 d] [rsB l k ps] none) := by
   intro q
   induction q with
   | zero =>
    intro n d ps hq n1 h0 h6
    obtain rfl : n = 6 := by omega
    rw [tight_one hl hk]
    have h := un d ps h0 h6
    have c : decide ((6 : Int) > 5) = true := by decide
    unfold RsX at *
    cases hq : oneW l d k with
    | error e =>
     rw [hq] at h
     obtain ⟨j, h⟩ := h
     refine ⟨j, ?_⟩
     (try unfold rsB at *); (try unfold tkB at *); (try unfold givenS at *)
     rw [syntax_reader_bin.eq]
     simp only [h, c, lz, lx, if_true, if_false]
    | ok q =>
     obtain ⟨x, j⟩ := q
     rw [hq] at h
     simp only at h ⊢
     (try unfold rsB at *); (try unfold tkB at *); (try unfold givenS at *)
     rw [syntax_reader_bin.eq]
     simp only [h, c, lz, lx, if_true, if_false]
   | succ q ihq =>
    intro n d ps hq n1 h0 h6
    have hwn : IntKind.i64.wrap (n + 1) = n + 1 := wrap_in (by omega) (by omega)
    have c : decide (n > 5) = false := decide_eq_false (by omega)
    have h := ihq (n + 1) d ps (by omega) (by omega) h0 h6
    rw [tight_lev hl hk n d n1 (by omega)]
    unfold thenR
    unfold RsX at h
    cases hq : tightW l (n + 1) d k with
    | error e =>
     rw [hq] at h
     obtain ⟨j, h⟩ := h
     refine ⟨j, ?_⟩
     (try unfold rsB at *); (try unfold tkB at *); (try unfold givenS at *)
     rw [syntax_reader_bin.eq]
     simp only [h, c, hwn, lz, lx, if_true, if_false]
    | ok r =>
     obtain ⟨x, j⟩ := r
     rw [hq] at h
     have hj := tight_goes hl hk hq
     simp only at h ⊢
     have hs := sign_s hn hj.2 ps n n1
     have e : den Sp syntax_reader_bin.id [.ref 0 0, .int .i64 n, .int .i64 d] [rsB l k ps] none = lev1 l ps n d (signAt l n j) x j := by
      (try unfold lev1 at *); (try unfold rsB at *); (try unfold tkB at *); (try unfold givenS at *)
      rw [syntax_reader_bin.eq]
      simp only [h, c, hwn, hs, lz, lx, if_true, if_false]
      rfl
     rw [e]
     exact (ih j (by omega) hj.2).2.2 n d ps x n1 (by omega) h0 h6
  exact fun n d ps n1 n6 h0 h6 => bin (6 - n).toNat n d ps (by omega) n1 h0 h6
theorem expr_s_is {k : Nat} (hk : k < l.length) (d : Int) (ps : List (List V)) (h0 : 0 <= d) : RsX l ps (partR l d k (tightW l 1 d k)) (den Sp syntax_reader_expr.id [.ref 0 0, .int .i64 d] [rsB l k ps] none) :=
 expr_s hl hn hk d ps fun h => (all_s hl hn _ k (Nat.le_refl _) hk).2.1 1 d ps (by decide) (by decide) h0 h
end
end Go.Proofs.YtennkhdlpbggkaaDoor
namespace Go.Proofs.YtennkhdlpbggkaaDoor
open Go Go.Proofs.Ab Go.Proofs.Px
theorem worth_low : ∀ (l : List UInt8) (u : Nat), u * 10 ^ l.length <= worth u l
 | [], u => by rw [worth_nil]; simp
 | c :: l, u => by
  have h := worth_low l (u * 10 + (c.toNat - 48))
  rw [worth_cons]
  refine Nat.le_trans ?_ h
  rw [List.length_cons, Nat.pow_succ, <- Nat.mul_assoc, Nat.mul_right_comm]
  exact Nat.mul_le_mul_right _ (Nat.le_add_right _ _)
theorem worth_snoc (u : Nat) (l : List UInt8) (c : UInt8) : worth u (l ++ [c]) = worth u l * 10 + (c.toNat - 48) := by
 unfold worth
 rw [List.foldl_append, List.foldl_cons, List.foldl_nil]
theorem dgt_of (c : UInt8) (h : 48 <= c.toNat ∧ c.toNat <= 57) (k : Nat) : dgt (k * 10 + (c.toNat - 48)) = c := by
 apply UInt8.toNat_inj.1
 rw [dgt_nat]; omega
theorem decGo_back (f : Nat) : ∀ (w acc : List UInt8), w ≠ [] -> w.length <= f -> (∀ c ∈ w, 48 <= c.toNat ∧ c.toNat <= 57) -> (w.getD 0 0 ≠ 48 ∨ w.length = 1) -> decGo f (worth 0 w) acc = w ++ acc := by
 induction f with
 | zero =>
  intro w acc hw hl
  exact absurd (List.length_eq_zero_iff.1 (Nat.le_zero.1 hl)) hw
 | succ f ih =>
  intro w acc hw hl hd h0
  obtain ⟨v, c, rfl⟩ : ∃ v c, w = v ++ [c] := ⟨w.dropLast, w.getLast hw, (List.dropLast_concat_getLast hw).symm⟩
  have hc := hd c (by simp)
  have hv : ∀ d ∈ v, 48 <= d.toNat ∧ d.toNat <= 57 := fun d hd' => hd d (by simp [hd'])
  rw [worth_snoc]
  unfold decGo
  rw [dgt_of c hc]
  have hdiv : (worth 0 v * 10 + (c.toNat - 48)) / 10 = worth 0 v := by omega
  rw [hdiv]
  by_cases hv0 : v = []
  ·subst hv0
   rw [worth_nil, if_pos rfl]; rfl
  ·obtain ⟨b, q, hq⟩ : ∃ b q, v = b :: q := by
    cases v with
    | nil => exact absurd rfl hv0
    | cons b q => exact ⟨b, q, rfl⟩
   have hb : b.toNat ≠ 48 := by
    rcases h0 with h0 | h0
    ·rw [hq] at h0
     intro h
     exact h0 (UInt8.toNat_inj.1 h)
    ·rw [hq] at h0; simp at h0
   have hbd := hv b (by rw [hq]; simp)
   have hpos : worth 0 v ≠ 0 := by
    rw [hq, worth_cons]
    have h1 := worth_mono q (0 * 10 + (b.toNat - 48))
    omega
   rw [if_neg hpos, ih v (c :: acc) hv0 (by simp at hl; omega) hv (.inl ?_)]
   ·simp
   ·rw [hq]
    intro h
    exact hb (congrArg UInt8.toNat h)
theorem parseGo_ok : ∀ (l : List UInt8) (u : Nat), (parseGo u l).2 = 0 -> (∀ c ∈ l, 48 <= c.toNat ∧ c.toNat <= 57) ∧ worth u l < 9223372036854775808 + (if l = [] then u else 0) ∧ ((parseGo u l).1 = ((worth u l : Nat) : Int))
 | [], u, h => by
  unfold parseGo at h ⊢
  by_cases h1 : u = 9223372036854775808
  ·rw [if_pos h1] at h; cases h
  ·rw [if_neg h1, worth_nil]
   refine ⟨(fun c hc => by cases hc), ?_, rfl⟩
   rw [if_pos rfl]; omega
 | c :: l, u, h => by
  unfold parseGo at h ⊢
  by_cases h1 : dg c = true ∧ u * 10 + (c.toNat - 48) <= 9223372036854775808
  ·rw [if_pos h1] at h ⊢
   have h2 := parseGo_ok l _ h
   have h3 := h1.1
   unfold dg digit at h3
   simp only [Bool.and_eq_true, decide_eq_true_eq] at h3
   rw [worth_cons, if_neg (by simp)]
   refine ⟨fun d hd => ?_, ?_, h2.2.2⟩
   ·rcases List.mem_cons.1 hd with rfl | hd
    ·omega
    ·exact h2.1 d hd
   ·by_cases hl : l = []
    ·subst hl
     rw [worth_nil]
     unfold parseGo at h
     by_cases h4 : u * 10 + (c.toNat - 48) = 9223372036854775808
     ·rw [if_pos h4] at h; cases h
     ·omega
    ·have := h2.2.1
     rw [if_neg hl] at this
     exact this
  ·rw [if_neg h1] at h; cases h
theorem parse_ok {w : List UInt8} (hw : w ≠ []) (h : (parse w).2 = 0) : ∃ n : Nat, (parse w).1 = (n : Int) ∧ n < 9223372036854775808 ∧ dec n = w := by
 unfold parse at h ⊢
 by_cases h0 : w.getD 0 0 ≠ 48 ∨ w.length = 1
 ·rw [if_pos h0] at h ⊢
  obtain ⟨h1, h2, h3⟩ := parseGo_ok w 0 h
  rw [if_neg hw, Nat.add_zero] at h2
  refine ⟨_, h3, h2, ?_⟩
  have hlen : w.length <= 20 := by
   rcases h0 with h0 | h0
   ·cases w with
    | nil => exact absurd rfl hw
    | cons c w =>
     have hc := h1 c List.mem_cons_self
     have hc2 : c.toNat ≠ 48 := fun h => h0 (UInt8.toNat_inj.1 h)
     have h4 := worth_low w (0 * 10 + (c.toNat - 48))
     rw [worth_cons] at h2
     have h5 : 10 ^ w.length <= (0 * 10 + (c.toNat - 48)) * 10 ^ w.length := Nat.le_mul_of_pos_left _ (by omega)
     have h6 : 10 ^ w.length < 10 ^ 19 := Nat.lt_of_le_of_lt (Nat.le_trans h5 h4) (Nat.lt_trans h2 (by decide))
     have h7 : w.length < 19 := (Nat.pow_lt_pow_iff_right (by decide)).1 h6
     rw [List.length_cons]; omega
   ·omega
  have := decGo_back 20 w [] hw hlen h1 h0
  rw [List.append_nil] at this
  exact this
 ·rw [if_neg h0] at h; cases h
theorem name_of {w : List UInt8} (h1 : w ≠ []) (h2 : w.length <= 40) (h3 : lt (w.getD 0 0) = true) (h4 : isKeyL w = false) (h5 : word w = w) : isName (B w) = true := by
 unfold isName
 simp only [Bool.and_eq_true, decide_eq_true_eq, Bool.not_eq_true', B_size, B_byte]
 refine ⟨⟨⟨⟨List.length_pos_iff.2 h1, h2⟩, h3⟩, (isKey_B w).trans h4⟩, allF_iff.2 fun i _ hi => ?_⟩
 have := word_inn h5 (w[i]'hi) (List.getElem_mem hi)
 rw [List.getD_eq_getElem?_getD, List.getElem?_eq_getElem hi]
 exact this
theorem signIn_prefix (r : List UInt8) : ∀ s, r.take (signIn r s).length = signIn r s
 | [] => rfl
 | x :: s => by
  unfold signIn
  split
  ·assumption
  ·exact signIn_prefix r s
theorem word_word : ∀ r : List UInt8, word (word r) = word r
 | [] => rfl
 | c :: r => by
  have ih := word_word r
  unfold word at *
  rw [List.takeWhile_cons]
  cases hc : inn c with
  | false => simp
  | true => simp only [if_true]; rw [List.takeWhile_cons, hc, if_pos rfl, ih]
theorem word_take_self (r : List UInt8) : r.take (word r).length = word r := by
 unfold word
 exact (List.prefix_iff_eq_take.1 (List.takeWhile_prefix inn)).symm
theorem i64_wf {n : Int} (h0 : -9223372036854775808 <= n) (h1 : n <= 9223372036854775807) : (Lit.int .i64 n).wf = true := by
 simp [Lit.wf, IntKind.min, IntKind.max, IntKind.signed, IntKind.bits, h0, h1]
theorem next_placed (c : UInt8) (q : List UInt8) (a : Nat) (ha : a < 4611686018427387904) (hq : (c :: q).length <= 140737488351232) (hok : (next (c :: q) (a : Int)).2.2 = true) :
  wrOk (next (c :: q) (a : Int)).1 = true ∧ TkOk (next (c :: q) (a : Int)).1 ∧ (next (c :: q) (a : Int)).1.at_ = (a : Int) ∧ wrT (next (c :: q) (a : Int)).1 = (c :: q).take (next (c :: q) (a : Int)).2.1 ∧
   (wrT (next (c :: q) (a : Int)).1).length = (next (c :: q) (a : Int)).2.1 := by
 have hx : next (c :: q) (a : Int) = if lt c then (⟨if isKeyL (word (c :: q)) then 3 else 1, word (c :: q), 0, a⟩, (word (c :: q)).length, decide ((word (c :: q)).length <= 40))
   else if dg c then (⟨2, [], (parse (word (c :: q))).1, a⟩, (word (c :: q)).length, decide ((parse (word (c :: q))).2 = 0))
   else (⟨4, sign (c :: q), 0, a⟩, (sign (c :: q)).length, !decide (sign (c :: q) = [])) := rfl
 have hat : (Lit.int .i64 (a : Int)).wf = true := i64_wf (by omega) (by omega)
 have hwl := word_le (c :: q)
 have hww : inn c = true -> word (c :: q) = c :: word q := fun h => by unfold word; rw [List.takeWhile_cons, h]; rfl
 rw [hx] at hok ⊢
 cases hl : lt c with
 | true =>
  rw [hl] at hok
  simp only [if_true, decide_eq_true_eq] at hok ⊢
  have hin : inn c = true := by
   unfold inn inner
   have : letter (c.toNat : Int) = true := hl
   rw [this]; rfl
  have hne : word (c :: q) ≠ [] := by rw [hww hin]; simp
  have hhd : lt ((word (c :: q)).getD 0 0) = true := by rw [hww hin]; exact hl
  cases hk : isKeyL (word (c :: q)) with
  | true =>
   refine ⟨by simp [wrOk, hk], ⟨?_, i64_wf (by simp) (by simp), i64_wf (by simp) (by simp), hat⟩, by simp, ?_, ?_⟩
   ·show (word (c :: q)).length <= _
    omega
   ·unfold wrT
    dsimp only
    rw [if_neg (by decide), word_take_self]
   ·unfold wrT
    dsimp only
    rw [if_neg (by decide)]
  | false =>
   have hn := name_of hne hok hhd hk (word_word _)
   refine ⟨by simp [wrOk, hn], ⟨?_, i64_wf (by simp) (by simp), i64_wf (by simp) (by simp), hat⟩, by simp, ?_, ?_⟩
   ·show (word (c :: q)).length <= _
    omega
   ·unfold wrT
    dsimp only
    rw [if_neg (by decide), word_take_self]
   ·unfold wrT
    dsimp only
    rw [if_neg (by decide)]
 | false =>
  rw [hl] at hok
  simp only [Bool.false_eq_true, if_false] at hok ⊢
  cases hd : dg c with
  | true =>
   rw [hd] at hok
   simp only [if_true, decide_eq_true_eq] at hok ⊢
   have hne : word (c :: q) ≠ [] := by rw [hww (dg_inn hd)]; simp
   obtain ⟨n, h1, h2, h3⟩ := parse_ok hne hok
   have hdec : decs (parse (word (c :: q))).1 = word (c :: q) := by
    rw [h1]
    unfold decs
    rw [if_neg (by omega), Int.natAbs_natCast, h3]
   refine ⟨?_, ⟨Nat.zero_le _, i64_wf (by simp) (by simp), ?_, hat⟩, by simp, ?_, ?_⟩
   ·have : (0 : Int) <= (parse (word (c :: q))).1 := by omega
    simp [wrOk, this]
   ·show (Lit.int .i64 (parse (word (c :: q))).1).wf = true
    rw [h1]
    exact i64_wf (by omega) (by omega)
   ·unfold wrT
    dsimp only
    rw [if_pos rfl, hdec, word_take_self]
   ·unfold wrT
    dsimp only
    rw [if_pos rfl, hdec]
  | false =>
   rw [hd] at hok
   simp only [Bool.false_eq_true, if_false, Bool.not_eq_true', decide_eq_false_iff_not] at hok ⊢
   have hs : isSign (sign (c :: q)) = true := by
    rcases signIn_or (c :: q) signs with h | h
    ·exact absurd h hok
    ·exact List.contains_iff_mem.2 h
   have hsl := sign_le (c :: q)
   refine ⟨by simp [wrOk, hs], ⟨?_, i64_wf (by simp) (by simp), i64_wf (by simp) (by simp), hat⟩, by simp, ?_, ?_⟩
   ·show (sign (c :: q)).length <= _
    omega
   ·unfold wrT
    dsimp only
    rw [if_neg (by decide)]
    exact (signIn_prefix (c :: q) signs).symm
   ·unfold wrT
    dsimp only
    rw [if_neg (by decide)]
def Pl (l : List UInt8) : Nat -> List Tk -> Prop
 | _, [] => True
 | p, t :: ts => ∃ a : Nat, t.at_ = (a : Int) ∧ p <= a ∧ wrOk t = true ∧ TkOk t ∧ a + (wrT t).length <= l.length ∧ (l.drop a).take (wrT t).length = wrT t ∧ Pl l (a + (wrT t).length) ts
def endTk (n : Nat) : Tk := ⟨0, [], 0, n⟩
theorem scan_placed (l : List UInt8) (hl : l.length <= 140737488351232) : ∀ (f i : Nat) (out : List Tk), i <= l.length -> l.length - i < f ->
  (∃ a e : Int, scanGo f l.length out (l.drop i) = ([], a, e) ∧ e ≠ 0 ∧ 0 <= a ∧ a <= l.length) ∨ (∃ ts, scanGo f l.length out (l.drop i) = (out ++ ts ++ [endTk l.length], 0, 0) ∧ Pl l i ts)
 | 0, i, out, hi, hf => by omega
 | f + 1, i, out, hi, hf => by
  have hskl := sk_le false (l.drop i)
  have hskd := sk_drop false (l.drop i)
  rw [List.length_drop] at hskl
  generalize hj : l.length - (sk false (l.drop i)).length = j
  have hij : i <= j := by omega
  have hjl : j <= l.length := by omega
  have hdj : sk false (l.drop i) = l.drop j := by
   rw [hskd, List.drop_drop]
   congr 1
   rw [List.length_drop]; omega
  rw [scanGo_succ, hdj, List.length_drop]
  have hjj : ((l.length - (l.length - j) : Nat) : Int) = (j : Int) := by omega
  rw [hjj]
  by_cases h1 : (next (l.drop j) (j : Int)).2.2 = false
  ·rw [if_pos h1]
   exact .inl ⟨_, _, rfl, by decide, by omega, by omega⟩
  ·rw [if_neg h1]
   by_cases h2 : out.length = 4000
   ·rw [if_pos h2]
    exact .inl ⟨_, _, rfl, by decide, by omega, by omega⟩
   ·rw [if_neg h2]
    have hok : (next (l.drop j) (j : Int)).2.2 = true := by simpa using h1
    rcases Nat.lt_or_ge j l.length with hjlt | hjge
    ·have hc := drop_cons hjlt
     have hpl := next_placed (l.getD j 0) (l.drop (j + 1)) j (by omega) (by rw [<- hc, List.length_drop]; omega) (by rw [<- hc]; exact hok)
     rw [<- hc] at hpl
     obtain ⟨p1, p2, p3, p4, p5⟩ := hpl
     have hk : (next (l.drop j) (j : Int)).1.kind ≠ 0 := fun h => by
      unfold wrOk at p1
      rw [h] at p1
      simp at p1
     have hpos := next_pos (l.drop j) j hok hk
     have hnl := next_le (l.drop j) (j : Int)
     rw [List.length_drop] at hnl
     rw [if_neg hk, List.drop_drop]
     rcases scan_placed l hl f (j + (next (l.drop j) (j : Int)).2.1) (out ++ [(next (l.drop j) (j : Int)).1]) (by omega) (by omega) with h | ⟨ts, h3, h4⟩
     ·exact .inl h
     ·refine .inr ⟨(next (l.drop j) (j : Int)).1 :: ts, ?_, j, p3, hij, p1, p2, by omega, ?_, ?_⟩
      ·rw [h3]; simp
      ·rw [p5]; exact p4.symm
      ·rw [p5]; exact h4
    ·have hj0 : l.drop j = [] := List.drop_eq_nil_of_le hjge
     have hjn : j = l.length := by omega
     rw [hj0]
     refine .inr ⟨[], ?_, trivial⟩
     rw [List.append_nil]
     have : (next [] (j : Int)).1 = endTk l.length := by
      subst hjn; rfl
     rw [this, if_pos (show (endTk l.length).kind = 0 from rfl)]
theorem pl_right {l : List UInt8} : ∀ (ts : List Tk) (p : Nat), Pl l p ts -> rightL (ts ++ [endTk l.length]) = true
 | [], _, _ => rfl
 | t :: ts, p, ⟨a, h1, h2, h3, h4, h5, h6, h7⟩ => by
  have ih := pl_right ts _ h7
  cases hts : ts ++ [endTk l.length] with
  | nil => simp at hts
  | cons u q =>
   rw [hts] at ih
   rw [List.cons_append, hts]
   show (wrOk t && rightL (u :: q)) = true
   rw [h3, ih]; rfl
attribute [local congr] bind_h asInt_h asBool_h asStr_h asSl_h asSlR_h asAgg_h asTup_h asIface_h asCells_h onRet_h onOut_h cond_h
theorem scan_len : ∀ (f n : Nat) (out : List Tk) (r : List UInt8), out.length <= 4000 -> (scanGo f n out r).1.length <= 4001
 | 0, _, _, _, _ => by simp [scanGo]
 | f + 1, n, out, r, h => by
  rw [scanGo_succ]
  split
  ·simp
  split
  ·simp
  split
  ·simp only [List.length_append, List.length_singleton]; omega
  ·exact scan_len f n _ _ (by rw [List.length_append, List.length_singleton]; omega)
theorem pl_mem {l : List UInt8} : ∀ (ts : List Tk) (p : Nat), Pl l p ts -> ∀ t ∈ ts, wrOk t = true ∧ TkOk t
 | t :: ts, p, ⟨a, h1, h2, h3, h4, h5, h6, h7⟩, u, hu => by
  rcases List.mem_cons.1 hu with rfl | hu
  ·exact ⟨h3, h4⟩
  ·exact pl_mem ts _ h7 u hu
theorem wrOk_kind {t : Tk} (h : wrOk t = true) : t.kind ≠ 0 := fun h0 => by
 unfold wrOk at h
 rw [h0] at h
 simp at h
theorem scan_ended {s : List UInt8} (hs : s.length <= 140737488351232) (h : (scan s).2.2 = 0) : Ended (scan s).1 ∧ (scan s).1.length <= 4001 ∧ 0 < (scan s).1.length ∧ (∀ t ∈ (scan s).1, TkOk t) ∧ rightL (scan s).1 = true := by
 unfold scan at *
 by_cases c : s.length > 16384
 ·rw [if_pos c] at h; cases h
 rw [if_neg c] at h ⊢
 have hlen := scan_len (s.length + 1) s.length [] s (by simp)
 have hp := scan_placed s (by omega) (s.length + 1) 0 [] (by omega) (by omega)
 rw [List.drop_zero] at hp
 rcases hp with ⟨a, e, h1, h2, _⟩ | ⟨ts, h1, h2⟩
 ·rw [h1] at h; exact absurd h h2
 ·rw [h1] at hlen ⊢
  rw [List.nil_append] at hlen ⊢
  have hm := pl_mem ts 0 h2
  have hL : (ts ++ [endTk s.length]).length = ts.length + 1 := by simp
  have ha : ∀ (k : Nat) (hk : k < (ts ++ [endTk s.length]).length), tk (ts ++ [endTk s.length]) k = (ts ++ [endTk s.length])[k]'hk := fun k hk => by
   unfold tk
   rw [List.getD_eq_getElem?_getD, List.getElem?_eq_getElem hk]; rfl
  refine ⟨⟨fun k hk => ?_⟩, hlen, by simp, fun t ht => ?_, pl_right ts 0 h2⟩
  ·have hk' : k < ts.length + 1 := by rw [<- hL]; exact hk
   rw [ha k hk, hL]
   by_cases k1 : k < ts.length
   ·rw [List.getElem_append_left k1]
    have := wrOk_kind (hm _ (List.getElem_mem k1)).1
    constructor
    ·intro h0; exact absurd h0 this
    ·intro h0; omega
   ·rw [List.getElem_append_right (by omega)]
    simp only [List.getElem_singleton]
    constructor
    ·intro _; omega
    ·intro _; rfl
  ·rcases List.mem_append.1 ht with ht | ht
   ·exact (hm t ht).2
   ·rw [List.mem_singleton.1 ht]
    exact ⟨by simp [endTk], (by decide : (Lit.int .i64 0).wf = true), (by decide : (Lit.int .i64 0).wf = true), i64_wf (by simp [endTk]) (by simp [endTk]; omega)⟩
theorem lex_Scan_all (l : List UInt8) (hl : l.length <= 140737488351232) : den Sp lex_Scan.id [.str (B l)] [] none = scanV (scan l) := by
 by_cases h : l.length > 16384
 ·rw [lex_Scan.eq, B_size]
  unfold scan
  rw [if_pos h, decide_eq_true (show ((l.length : Nat) : Int) > 16384 by omega)]; rfl
 ·exact lex_Scan_is l (by omega)
def zeroX : Ex := .mk 0 [] 0 []
def exprS (s : List UInt8) : Ex × Int × Int :=
 if (scan s).2.2 ≠ 0 then (zeroX, (scan s).2.1, (scan s).2.2)
 else match partR (scan s).1 1 0 (tightW (scan s).1 1 1 0) with
  | .error e => (zeroX, e.1, e.2)
  | .ok (x, j) => if (tk (scan s).1 j).kind = 0 then (x, 0, 0) else (zeroX, (tk (scan s).1 j).at_, 30)
def exprV (r : Ex × Int × Int) : Option Res := some ⟨.ret (.tup [.agg r.1.v, .int .i64 r.2.1, .int .i64 r.2.2]), [], none⟩
theorem part_goes {l : List Tk} (hl : Ended l) {k : Nat} (hk : k < l.length) {n d : Int} {x : Ex} {j : Nat} (h : partR l d k (tightW l n d k) = .ok (x, j)) : k < j ∧ j < l.length := by
 unfold partR at h
 split at h
 ·cases h
 split at h
 ·cases h
 exact tight_goes hl hk h
theorem scan_at {s : List UInt8} (hs : s.length <= 140737488351232) (h : (scan s).2.2 = 0) : (scan s).2.1 = 0 := by
 unfold scan at *
 by_cases c : s.length > 16384
 ·rw [if_pos c] at h; cases h
 rw [if_neg c] at h ⊢
 have hp := scan_placed s (by omega) (s.length + 1) 0 [] (by omega) (by omega)
 rw [List.drop_zero] at hp
 rcases hp with ⟨a, e, h1, h2, _⟩ | ⟨ts, h1, h2⟩
 ·rw [h1] at h; exact absurd h h2
 ·rw [h1]
theorem lq {R : Type} : (∀ (x0 x1 : V) (k : (Nat -> V) -> Option R), V.asTup (.tup [x0, x1]) 2 k = k (fun j => List.getD [x0, x1] j .undef)) ∧ (∀ (x0 x1 x2 : V) (k : (Nat -> V) -> Option R), V.asTup (.tup [x0, x1, x2]) 3 k = k (fun j => List.getD [x0, x1, x2] j .undef)) ∧
  (∀ (o : Out) (bl : List Blk) (k0 : Option R) (k1 : V -> Option R), Res.onPn ⟨o, bl, some none⟩ k0 k1 = k0) ∧ (∀ (o : Out) (bl : List Blk) (v : V) (k0 : Option R) (k1 : V -> Option R), Res.onPn ⟨o, bl, some (some v)⟩ k0 k1 = k1 v) := ⟨fun _ _ _ => rfl, fun _ _ _ _ => rfl, fun _ _ _ _ => rfl, fun _ _ _ _ _ => rfl⟩
section
variable {s : List UInt8} {l : List Tk} (h1 : den Sp lex_Scan.id [.str (B s)] [] none = some ⟨.ret (.tup [.sl .no T_api_Token (l.map Tk.v), .int .i64 0, .int .i64 0]), [], none⟩)
include h1
theorem expr_bad {e : Int × Int} {j : Nat} (h : den Sp syntax_reader_expr.id [.ref 0 0, .int .i64 1] [.cells T_syntax_reader [.sl .no T_api_Token (l.map Tk.v), .int .i64 0] false] none = some ⟨.pan (.iface T_syntax_given (.agg [.int .i64 e.1, .int .i64 e.2])), [.cells T_syntax_reader [.sl .no T_api_Token (l.map Tk.v), .int .i64 (j : Int)] false], none⟩) :
  den Sp syntax_Expr.id [.str (B s)] [] none = some ⟨.ret (.tup [.agg [.int .i64 0, .str (B []), .int .i64 0, .sl .no T_api_Expr []], .int .i64 e.1, .int .i64 e.2]), [], none⟩ := by
 have c' : ((0 : Int) != 0) = false := by decide
 rw [syntax_Expr.eq]
 simp only [h1, c', h, syntax_Expr_1.eq1, syntax_caught.eq, lq, lz, lx, if_true, if_false]
theorem expr_end {x : Ex} {j : Nat} (h : den Sp syntax_reader_expr.id [.ref 0 0, .int .i64 1] [.cells T_syntax_reader [.sl .no T_api_Token (l.map Tk.v), .int .i64 0] false] none = some ⟨.ret (.agg x.v), [.cells T_syntax_reader [.sl .no T_api_Token (l.map Tk.v), .int .i64 (j : Int)] false], none⟩)
  (hj : j < l.length) (c1 : ((tk l j).kind != 0) = false) : den Sp syntax_Expr.id [.str (B s)] [] none = some ⟨.ret (.tup [.agg x.v, .int .i64 0, .int .i64 0]), [], none⟩ := by
 have c' : ((0 : Int) != 0) = false := by decide
 have r := row_in hj
 rw [syntax_Expr.eq]
 simp only [h1, c', h, c1, if_pos r, Int.toNat_natCast, tok_g hj, tkv_0, tkv_1, tkv_2, tkv_3, syntax_Expr_1.eq0, lq, lz, lx, if_true, if_false]
theorem expr_more {x : Ex} {j : Nat} (h : den Sp syntax_reader_expr.id [.ref 0 0, .int .i64 1] [.cells T_syntax_reader [.sl .no T_api_Token (l.map Tk.v), .int .i64 0] false] none = some ⟨.ret (.agg x.v), [.cells T_syntax_reader [.sl .no T_api_Token (l.map Tk.v), .int .i64 (j : Int)] false], none⟩)
  (hj : j < l.length) (hn : l.length <= 100000) (c1 : ((tk l j).kind != 0) = true) : den Sp syntax_Expr.id [.str (B s)] [] none = some ⟨.ret (.tup [.agg [.int .i64 0, .str (B []), .int .i64 0, .sl .no T_api_Expr []], .int .i64 (tk l j).at_, .int .i64 30]), [], none⟩ := by
 have c' : ((0 : Int) != 0) = false := by decide
 have r := row_in hj
 have hw := wrong_s hn hj
 unfold tkB givenS at hw
 rw [syntax_Expr.eq]
 simp only [h1, c', h, c1, hw, if_pos r, Int.toNat_natCast, tok_g hj, tkv_0, tkv_1, tkv_2, tkv_3, syntax_Expr_1.eq1, syntax_caught.eq, lq, lz, lx, if_true, if_false]
theorem expr_run (hE : Ended l) (hn : l.length <= 100000) (h0 : 0 < l.length) :
  den Sp syntax_Expr.id [.str (B s)] [] none = exprV (match partR l 1 0 (tightW l 1 1 0) with
   | .error e => (zeroX, e.1, e.2)
   | .ok (x, j) => if (tk l j).kind = 0 then (x, 0, 0) else (zeroX, (tk l j).at_, 30)) := by
 have h := expr_s_is hE hn (k := 0) h0 1 [] (by decide)
 unfold RsX at h
 cases hq : partR l 1 0 (tightW l 1 1 0) with
 | error e =>
  rw [hq] at h
  obtain ⟨j, h⟩ := h
  exact expr_bad h1 h
 | ok q =>
  obtain ⟨x, j⟩ := q
  rw [hq] at h
  simp only at h ⊢
  have hj := (part_goes hE h0 hq).2
  by_cases c0 : (tk l j).kind = 0
  ·rw [if_pos c0]
   exact expr_end h1 h hj (by simpa using c0)
  ·rw [if_neg c0]
   exact expr_more h1 h hj hn (by simpa using c0)
end
theorem syntax_Expr_is (s : List UInt8) (hs : s.length <= 140737488351232) : den Sp syntax_Expr.id [.str (B s)] [] none = exprV (exprS s) := by
 have h1 := lex_Scan_all s hs
 unfold scanV at h1
 unfold exprS
 by_cases c : (scan s).2.2 = 0
 ·obtain ⟨g1, g2, g3, g4, g5⟩ := scan_ended hs c
  rw [if_neg (fun h => h c)]
  have ha := scan_at hs c
  rw [c, ha] at h1
  exact expr_run h1 g1 (by omega) g3
 ·have c' : ((scan s).2.2 != 0) = true := by simpa using c
  rw [if_pos c]
  unfold exprV zeroX
  rw [syntax_Expr.eq]
  simp only [h1, c', sleaf_v, lq, List.map_nil, lz, lx, if_true, if_false]
end Go.Proofs.YtennkhdlpbggkaaDoor
namespace Go.Proofs.YtennkhdlpbggkaaDoor
open Go Go.Proofs.Ab Go.Proofs.Px
theorem sk_nl (rm : Bool) (z : List UInt8) : sk rm (10 :: z) = sk false z := by rw [sk, if_pos rfl]
theorem sk_all {r : List UInt8} (h : sk false r = []) (z : List UInt8) : sk false (r ++ 10 :: z) = sk false z := by
 obtain ⟨rm', h1, _⟩ := sk_state false r
 have := h1 (10 :: z)
 rw [h, List.length_nil, Nat.sub_zero, List.take_length, sk_nl] at this
 exact this
theorem sk_some {r : List UInt8} (h : sk false r ≠ []) (z : List UInt8) : sk false (r ++ z) = sk false r ++ z := by
 have hle := sk_le false r
 have hp : 0 < (sk false r).length := List.length_pos_iff.2 h
 have := sk_pre r r.length z h (by omega)
 rw [List.take_length] at this
 rw [this, List.take_of_length_le (by omega)]
theorem nl_inn : inn 10 = false := by decide
theorem nl_signs : ∀ y ∈ signs, (10 : UInt8) ∉ y := by decide
theorem scan_then (z : List UInt8) (n n' : Nat) : ∀ (f : Nat) (pre pre' xs ys : List Tk) (r : List UInt8), Sim xs ys -> r.length < f -> pre.length + xs.length + r.length < 4000 -> pre'.length + ys.length + r.length < 4000 ->
  (∃ a, scanGo f n (pre ++ xs) r = ([], a, 20) ∧ ∀ f', r.length < f' -> ∃ a', scanGo f' n' (pre' ++ ys) (r ++ 10 :: z) = ([], a', 20)) ∨
  ∃ us vs e k, scanGo f n (pre ++ xs) r = (pre ++ us ++ [e], 0, 0) ∧ e.kind = 0 ∧ Sim us vs ∧ us.length <= xs.length + r.length ∧ k <= r.length ∧ ∀ g, scanGo (k + g) n' (pre' ++ ys) (r ++ 10 :: z) = scanGo g n' (pre' ++ vs) (10 :: z) := by
 intro f
 induction f with
 | zero => intro _ _ _ _ r _ h; omega
 | succ f ih =>
  intro pre pre' xs ys r hs hf h1 h2
  have hlen := hs.1
  by_cases hr : sk false r = []
  ·refine .inr ⟨xs, ys, ⟨0, [], 0, ((n - 0 : Nat) : Int)⟩, 0, ?_, rfl, hs, by omega, by omega, fun g => ?_⟩
   ·rw [scanGo_succ, hr]
    have hn : ∀ a : Int, next [] a = (⟨0, [], 0, a⟩, 0, true) := fun a => rfl
    rw [hn]
    dsimp only
    rw [if_neg (fun h => Bool.noConfusion h), if_neg (by rw [List.length_append]; omega), if_pos rfl]
    rfl
   ·rw [Nat.zero_add]
    cases g with
    | zero => rfl
    | succ g => rw [scanGo_succ, scanGo_succ, sk_all hr, sk_nl]
  ·have hsk := sk_some hr (10 :: z)
   have hsl := sk_le false r
   have hpos := next_pos (sk false r) ((n - (sk false r).length : Nat) : Int)
   have hnl := next_le (sk false r) ((n - (sk false r).length : Nat) : Int)
   have hst := next_stop (sk false r) hr 10 z ((n' - (sk false (r ++ 10 :: z)).length : Nat) : Int) nl_inn nl_signs
   obtain ⟨g1, g2, _⟩ := next_shift (sk false r) ((n - (sk false r).length : Nat) : Int) ((n' - (sk false (r ++ 10 :: z)).length : Nat) : Int)
   have hk0 : (next (sk false r) ((n - (sk false r).length : Nat) : Int)).1.kind ≠ 0 := by
    cases hc : sk false r with
    | nil => exact absurd hc hr
    | cons c q => exact next_zero_cons
   rw [scanGo_succ]
   generalize hx : next (sk false r) ((n - (sk false r).length : Nat) : Int) = x at *
   generalize hy : next (sk false r) ((n' - (sk false (r ++ 10 :: z)).length : Nat) : Int) = y at *
   obtain ⟨t, k, b⟩ := x
   obtain ⟨t', k', b'⟩ := y
   dsimp only at *
   cases g2
   have step : ∀ f', scanGo (f' + 1) n' (pre' ++ ys) (r ++ 10 :: z) = if b = false then ([], ((n' - (sk false (r ++ 10 :: z)).length : Nat) : Int), 20) else scanGo f' n' (pre' ++ (ys ++ [t'])) ((sk false r).drop k ++ 10 :: z) := fun f' => by
    rw [scanGo_succ]
    have e : next (sk false (r ++ 10 :: z)) ((n' - (sk false (r ++ 10 :: z)).length : Nat) : Int) = (t', k, b) := by
     rw [<- hst]
     congr 1
    rw [e]
    dsimp only
    cases b with
    | false => rfl
    | true =>
     rw [if_neg (fun h : true = false => Bool.noConfusion h), if_neg (fun h : true = false => Bool.noConfusion h), if_neg (by rw [List.length_append]; omega), if_neg (by rw [<- g1.1]; exact hk0), hsk, List.drop_append_of_le_length hnl, List.append_assoc]
   cases b with
   | false =>
    refine .inl ⟨_, by rw [if_pos rfl], fun f' hf' => ?_⟩
    obtain ⟨f', rfl⟩ : ∃ q, f' = q + 1 := ⟨f' - 1, by omega⟩
    rw [step, if_pos rfl]
    exact ⟨_, rfl⟩
   | true =>
    rw [if_neg (fun h : true = false => Bool.noConfusion h), if_neg (by rw [List.length_append]; omega), if_neg hk0]
    have hp := hpos rfl hk0
    have hdl : ((sk false r).drop k).length + k = (sk false r).length := by rw [List.length_drop]; omega
    have := ih pre pre' (xs ++ [t]) (ys ++ [t']) ((sk false r).drop k) (hs.snoc g1) (by omega) (by rw [List.length_append, List.length_singleton]; omega) (by rw [List.length_append, List.length_singleton]; omega)
    rw [List.append_assoc]
    rcases this with ⟨a, i1, i2⟩ | ⟨us, vs, e, k2, i1, i2, i3, i4, i5, i6⟩
    ·refine .inl ⟨a, i1, fun f' hf' => ?_⟩
     obtain ⟨f', rfl⟩ : ∃ q, f' = q + 1 := ⟨f' - 1, by omega⟩
     rw [step, if_neg (fun h : true = false => Bool.noConfusion h)]
     exact i2 f' (by omega)
    ·refine .inr ⟨us, vs, e, k2 + 1, i1, i2, i3, by rw [List.length_append, List.length_singleton] at i4; omega, by omega, fun g => ?_⟩
     rw [show k2 + 1 + g = (k2 + g) + 1 by omega, step, if_neg (fun h : true = false => Bool.noConfusion h)]
     exact i6 g
theorem sv_app (l : List (List UInt8)) (w : List UInt8) : sv l ++ [[.str (B w)]] = sv (l ++ [w]) := by simp [sv]
def levelP (s : List UInt8) : Int :=
 if s = [124, 124] then 1 else if s = [38, 38] then 2 else if s = [61, 61] then 3 else if s = [33, 61] then 3 else if s = [60] then 3 else if s = [60, 61] then 3
 else if s = [43] then 4 else if s = [45] then 4 else if s = [42] then 5 else if s = [47] then 5 else if s = [37] then 5 else 0
def plainK (k : Int) (n : List UInt8) (m : Int) (c : Nat) : Bool :=
 if k = 1 then decide (n = []) && decide (0 <= m) && decide (c = 0)
 else if k = 2 then decide (n = []) && (decide (m = 0) || decide (m = 1)) && decide (c = 0)
 else if k = 3 then decide (n ≠ []) && decide (m = 0) && decide (c = 0)
 else if k = 4 then decide (n ≠ []) && decide (m = 0) && decide (c = 1)
 else if k = 5 then (decide (n = [45]) || decide (n = [33])) && decide (m = 0) && decide (c = 1)
 else if k = 6 then decide (0 < levelP n) && decide (m = 0) && decide (c = 2)
 else false
def namedK (k : Int) (n : List UInt8) : Bool := if k = 3 then isName (B n) else if k = 4 then isName (B n) else true
mutual
def okX : Ex -> Bool
 | .mk k n m l => plainK k n m l.length && namedK k n && okXs l
def okXs : List Ex -> Bool
 | [] => true
 | x :: l => okX x && okXs l
end
def sideW (k : Int) (w : List (List UInt8)) : List (List UInt8) := if k = 6 then [40] :: (w ++ [[41]]) else w
def wK (k : Int) (n : List UInt8) (m : Int) (ws : List (Int × List (List UInt8))) : List (List UInt8) :=
 if k = 1 then [decs m]
 else if k = 2 then [if m = 1 then [116, 114, 117, 101] else [102, 97, 108, 115, 101]]
 else if k = 4 then n :: [91] :: ((ws.headD (0, [])).2 ++ [[93]])
 else if k = 5 then n :: sideW (ws.headD (0, [])).1 (ws.headD (0, [])).2
 else if k = 6 then sideW (ws.headD (0, [])).1 (ws.headD (0, [])).2 ++ n :: sideW (ws.getLastD (0, [])).1 (ws.getLastD (0, [])).2
 else [n]
mutual
def exW : Ex -> List (List UInt8)
 | .mk k n m l => wK k n m (exWs l)
def exWs : List Ex -> List (Int × List (List UInt8))
 | [] => []
 | x :: l => (x.kind, exW x) :: exWs l
end
def sideH (k h : Int) : Int := if k = 6 then h + 1 else h
def hK (k : Int) (hs : List (Int × Int)) : Int :=
 if k = 4 then (hs.headD (0, 0)).2 + 1
 else if k = 5 then sideH (hs.headD (0, 0)).1 (hs.headD (0, 0)).2 + 1
 else if k = 6 then max (sideH (hs.headD (0, 0)).1 (hs.headD (0, 0)).2) (sideH (hs.getLastD (0, 0)).1 (hs.getLastD (0, 0)).2)
 else 0
mutual
def hX : Ex -> Int
 | .mk k n m l => hK k (hXs l)
def hXs : List Ex -> List (Int × Int)
 | [] => []
 | x :: l => (x.kind, hX x) :: hXs l
end
theorem level_len {n : List UInt8} (h : 0 < levelP n) : 1 <= n.length ∧ n.length <= 2 := by
 unfold levelP at h
 repeat' (split at h; · rename_i e; subst e; decide)
 omega
theorem name_len {n : List UInt8} (h : isName (B n) = true) : n.length <= 40 := by
 unfold isName at h
 simp only [Bool.and_eq_true, decide_eq_true_eq, B_size] at h
 omega
def tS (s : List UInt8) : Tk := ⟨4, s, 0, 0⟩
def tN (s : List UInt8) : Tk := ⟨1, s, 0, 0⟩
def sideTk (k : Int) (w : List Tk) : List Tk := if k = 6 then tS [40] :: (w ++ [tS [41]]) else w
def tkK (k : Int) (n : List UInt8) (m : Int) (ws : List (Int × List Tk)) : List Tk :=
 if k = 1 then [⟨2, [], m, 0⟩]
 else if k = 2 then [⟨3, if m = 1 then [116, 114, 117, 101] else [102, 97, 108, 115, 101], 0, 0⟩]
 else if k = 4 then tN n :: tS [91] :: ((ws.headD (0, [])).2 ++ [tS [93]])
 else if k = 5 then tS n :: sideTk (ws.headD (0, [])).1 (ws.headD (0, [])).2
 else if k = 6 then sideTk (ws.headD (0, [])).1 (ws.headD (0, [])).2 ++ tS n :: sideTk (ws.getLastD (0, [])).1 (ws.getLastD (0, [])).2
 else [tN n]
mutual
def exT : Ex -> List Tk
 | .mk k n m l => tkK k n m (exTs l)
def exTs : List Ex -> List (Int × List Tk)
 | [] => []
 | x :: l => (x.kind, exT x) :: exTs l
end
def Seg (l : List Tk) (k : Nat) (ts : List Tk) : Prop := ∀ (i : Nat) (h : i < ts.length), k + i < l.length ∧ SimT ts[i] (tk l (k + i))
theorem Seg.app {l : List Tk} {k : Nat} {a b : List Tk} (h : Seg l k (a ++ b)) : Seg l k a ∧ Seg l (k + a.length) b := by
 refine ⟨fun i hi => ?_, fun i hi => ?_⟩
 ·have := h i (by rw [List.length_append]; omega)
  rwa [List.getElem_append_left hi] at this
 ·have := h (a.length + i) (by rw [List.length_append]; omega)
  rw [List.getElem_append_right (by omega)] at this
  simpa [Nat.add_assoc, Nat.add_comm, Nat.add_left_comm] using this
theorem Seg.cons {l : List Tk} {k : Nat} {a : Tk} {b : List Tk} (h : Seg l k (a :: b)) : (k < l.length ∧ SimT a (tk l k)) ∧ Seg l (k + 1) b := by
 have h' : Seg l k ([a] ++ b) := h
 exact ⟨h 0 (by simp), h'.app.2⟩
theorem isT_sim {a b : Tk} (h : SimT a b) (s : List UInt8) : isT b s = isT a s := by
 unfold isT; rw [h.1, h.2.1]
theorem signT_sim {a b : Tk} (h : SimT a b) : signT b = signT a := by
 unfold signT; rw [h.1, h.2.1]
theorem opensT_sim {a b : Tk} (h : SimT a b) : opensT b = opensT a := by
 unfold opensT isT; rw [h.1, h.2.1]
theorem isT_S (n s : List UInt8) : isT (tS n) s = decide (n = s) := rfl
theorem part_ok {l : List Tk} {d : Int} {k : Nat} {r : Rd} (ho : opensT (tk l k) = true) (hd : d <= 60) : partR l d k r = r := by
 unfold partR
 rw [ho, if_neg (by simp), if_neg (by omega)]
theorem tight_of_one {l : List Tk} {n d : Int} {k j : Nat} {x : Ex} (h : oneW l d k = .ok (x, j)) (h1 : k < j) (h2 : j < l.length) (h3 : signT (tk l j) = 0) : tightW l n d k = .ok (x, j) := by
 rw [tightW, h]
 simp only
 rw [dif_pos ⟨h1, by omega⟩, loopW, dif_pos h2, if_pos (.inl h3)]
def GoodT (t : Tk) : Prop := wrOk t = true ∧ TkOk t
theorem good_S {s : List UInt8} (h : isSign s = true) (hl : s.length <= 2) : GoodT (tS s) := ⟨by simp [wrOk, tS, h], ⟨by show s.length <= _; omega, (by decide : (Lit.int .i64 4).wf = true), (by decide : (Lit.int .i64 0).wf = true), (by decide : (Lit.int .i64 0).wf = true)⟩⟩
structure Wrap (L0 L1 : List Tk) (m K : Nat) : Prop where
 e0 : Ended L0
 e1 : Ended L1
 len : K + 1 = L0.length
 lt : m + K < L1.length
 sim : ∀ i, i < K -> SimT (tk L0 i) (tk L1 (m + i))
 isT : ∀ s, s ≠ [41] -> isT (tk L1 (m + K)) s = false
 kind : (tk L1 (m + K)).kind ≠ 1 ∧ (tk L1 (m + K)).kind ≠ 2
 sign : signT (tk L1 (m + K)) = 0
section
variable {L0 L1 : List Tk} {m K : Nat} (W : Wrap L0 L1 m K)
include W
theorem Wrap.end0 : (tk L0 K).kind = 0 := by
 have := W.e0.last K (by have := W.len; omega)
 exact this.2 (by have := W.len; omega)
theorem Wrap.isT0 (s : List UInt8) : Go.Proofs.YtennkhdlpbggkaaDoor.isT (tk L0 K) s = false := by
 unfold Go.Proofs.YtennkhdlpbggkaaDoor.isT
 rw [W.end0]; simp
theorem Wrap.before {k : Nat} (hk : k <= K) (h : (tk L0 k).kind ≠ 0) : k < K := by
 rcases Nat.lt_or_ge k K with h1 | h1
 ·exact h1
 ·have : k = K := by omega
  rw [this] at h
  exact absurd W.end0 h
theorem Wrap.isT_w {k : Nat} (hk : k <= K) {s : List UInt8} (hs : s ≠ [41]) : Go.Proofs.YtennkhdlpbggkaaDoor.isT (tk L1 (m + k)) s = Go.Proofs.YtennkhdlpbggkaaDoor.isT (tk L0 k) s := by
 rcases Nat.lt_or_ge k K with h1 | h1
 ·exact isT_sim (W.sim k h1) s
 ·have : k = K := by omega
  rw [this, W.isT s hs, W.isT0]
theorem Wrap.of_isT {k : Nat} (hk : k <= K) {s : List UInt8} (h : Go.Proofs.YtennkhdlpbggkaaDoor.isT (tk L0 k) s = true) : k < K ∧ Go.Proofs.YtennkhdlpbggkaaDoor.isT (tk L1 (m + k)) s = true := by
 have h1 : k < K := W.before hk fun h0 => by
  unfold Go.Proofs.YtennkhdlpbggkaaDoor.isT at h
  rw [h0] at h
  simp at h
 exact ⟨h1, (isT_sim (W.sim k h1) s).trans h⟩
theorem Wrap.kind_w {k : Nat} (hk : k <= K) {n : Int} (hn : n = 1 ∨ n = 2) : (tk L1 (m + k)).kind = n ↔ (tk L0 k).kind = n := by
 rcases Nat.lt_or_ge k K with h1 | h1
 ·rw [(W.sim k h1).1]
 ·have : k = K := by omega
  rw [this]
  have h2 := W.kind
  have h3 := W.end0
  rcases hn with rfl | rfl <;> constructor <;> intro h <;> omega
theorem Wrap.opens_w {k : Nat} (hk : k <= K) : opensT (tk L1 (m + k)) = opensT (tk L0 k) := by
 unfold opensT
 rw [W.isT_w hk (by decide), W.isT_w hk (by decide), W.isT_w hk (by decide), W.isT_w hk (by decide), W.isT_w hk (by decide)]
 have h1 := W.kind_w hk (n := 1) (.inl rfl)
 have h2 := W.kind_w hk (n := 2) (.inr rfl)
 simp only [h1, h2]
theorem Wrap.sign_w {k : Nat} (hk : k <= K) : signT (tk L1 (m + k)) = signT (tk L0 k) := by
 rcases Nat.lt_or_ge k K with h1 | h1
 ·exact signT_sim (W.sim k h1)
 ·have : k = K := by omega
  rw [this, W.sign]
  unfold signT
  rw [W.end0]; simp
omit W in
def Rel (m K : Nat) (r0 r1 : Rd) : Prop := match r0 with
 | .ok (x, j) => j <= K ∧ (r1 = .ok (x, m + j) ∨ ∃ e, r1 = .error e ∧ e.2 = 31)
 | .error e => e.2 = 31 -> ∃ e', r1 = .error e'
theorem rel_part {k : Nat} (hk : k <= K) {d d' : Int} (hd : d <= d') {r0 r1 : Rd} (h : Rel m K r0 r1) : Rel m K (partR L0 d k r0) (partR L1 d' (m + k) r1) := by
 unfold partR
 rw [W.opens_w hk]
 cases opensT (tk L0 k) with
 | false =>
  rw [if_pos (show false = false from rfl), if_pos (show false = false from rfl)]
  intro h; cases h
 | true =>
  rw [if_neg (show ¬ (true = false) by simp), if_neg (show ¬ (true = false) by simp)]
  by_cases c : 60 < d
  ·rw [if_pos c, if_pos (by omega)]
   exact fun _ => ⟨_, rfl⟩
  ·rw [if_neg c]
   by_cases c' : 60 < d'
   ·rw [if_pos c']
    unfold Rel at *
    cases r0 with
    | error e => exact fun _ => ⟨_, rfl⟩
    | ok q => exact ⟨h.1, .inr ⟨_, rfl, rfl⟩⟩
   ·rw [if_neg c']; exact h
theorem rel_want {s : List UInt8} {f : Ex -> Ex} {r0 r1 : Rd} (h : Rel m K r0 r1) : Rel m K (wantR L0 s r0 f) (wantR L1 s r1 f) := by
 unfold Rel at h
 cases r0 with
 | error e =>
  intro he
  obtain ⟨e', rfl⟩ := h he
  exact ⟨e', rfl⟩
 | ok q =>
  obtain ⟨x, j⟩ := q
  obtain ⟨hj, h⟩ := h
  have e : wantR L0 s (.ok (x, j)) f = if isT (tk L0 j) s then .ok (f x, j + 1) else .error ((tk L0 j).at_, 30) := rfl
  rw [e]
  cases c : isT (tk L0 j) s with
  | false =>
   rw [if_neg (by simp)]
   intro h; cases h
  | true =>
   rw [if_pos rfl]
   obtain ⟨g1, g2⟩ := W.of_isT hj c
   refine ⟨by omega, ?_⟩
   rcases h with rfl | ⟨e, rfl, he⟩
   ·left
    show (if isT (tk L1 (m + j)) s then _ else _) = _
    rw [g2, if_pos rfl]; rfl
   ·exact .inr ⟨e, rfl, he⟩
omit W in
def mapR (f : Ex -> Ex) (r : Rd) : Rd := match r with | .error e => .error e | .ok (x, j) => .ok (f x, j)
omit W in
theorem rel_map {f : Ex -> Ex} {r0 r1 : Rd} (h : Rel m K r0 r1) : Rel m K (mapR f r0) (mapR f r1) := by
 unfold Rel at h
 cases r0 with
 | error e =>
  intro he
  obtain ⟨e', rfl⟩ := h he
  exact ⟨e', rfl⟩
 | ok q =>
  obtain ⟨x, j⟩ := q
  refine ⟨h.1, ?_⟩
  rcases h.2 with rfl | ⟨e, rfl, he⟩
  ·exact .inl rfl
  ·exact .inr ⟨e, rfl, he⟩
omit W in
theorem one_eq {l : List Tk} {d : Int} {k : Nat} (hk : k < l.length) : oneW l d k =
  if isT (tk l k) [45] = true ∨ isT (tk l k) [33] = true then
   partR l (d + 1) (k + 1) (mapR (fun x => .mk 5 (tk l k).text 0 [x]) (oneW l (d + 1) (k + 1)))
  else if isT (tk l k) [40] = true then wantR l [41] (partR l (d + 1) (k + 1) (tightW l 1 (d + 1) (k + 1))) id
  else if isT (tk l k) [116, 114, 117, 101] = true then .ok (.mk 2 [] 1 [], k + 1)
  else if isT (tk l k) [102, 97, 108, 115, 101] = true then .ok (.mk 2 [] 0 [], k + 1)
  else if (tk l k).kind = 2 then .ok (.mk 1 [] (tk l k).num [], k + 1)
  else if (tk l k).kind ≠ 1 then .error ((tk l k).at_, 30)
  else if isT (tk l (k + 1)) [91] = true then wantR l [93] (partR l (d + 1) (k + 2) (tightW l 1 (d + 1) (k + 2))) (fun x => .mk 4 (tk l k).text 0 [x])
  else .ok (.mk 3 (tk l k).text 0 [], k + 1) := by
 conv => lhs; rw [oneW]
 rw [dif_pos hk]
 all_goals rfl
omit W in
theorem tight_eq (l : List Tk) (n d : Int) (k : Nat) : tightW l n d k = match oneW l d k with
  | .error e => .error e
  | .ok (x, j) => if h : k < j ∧ k < l.length then loopW l n d 5 x j else .error (0, 0) := by
 conv => lhs; rw [tightW]
 all_goals rfl
omit W in
theorem loop_eq {l : List Tk} {n d most : Int} {x : Ex} {k : Nat} (hk : k < l.length) : loopW l n d most x k =
  if signT (tk l k) = 0 ∨ signT (tk l k) < n ∨ most < signT (tk l k) then .ok (x, k)
  else match tightW l (signT (tk l k) + 1) d (k + 1) with
   | .error e => .error e
   | .ok (y, j) => if h : k < j then loopW l n d (if signT (tk l k) = 3 then 2 else signT (tk l k)) (.mk 6 (tk l k).text 0 [x, y]) j else .error (0, 0) := by
 conv => lhs; rw [loopW]
 rw [dif_pos hk]
 all_goals rfl
theorem rel_all : ∀ N k : Nat, K + 1 - k <= N -> k <= K -> ∀ d d' : Int, d <= d' ->
  Rel m K (oneW L0 d k) (oneW L1 d' (m + k)) ∧ (∀ n, Rel m K (tightW L0 n d k) (tightW L1 n d' (m + k))) ∧ ∀ n most x, Rel m K (loopW L0 n d most x k) (loopW L1 n d' most x (m + k)) := by
 intro N
 induction N with
 | zero => intro k h1 h2; omega
 | succ N ih =>
  intro k hN hk d d' hd
  have hl := W.len
  have hlt := W.lt
  have k0 : k < L0.length := by omega
  have k1 : m + k < L1.length := by omega
  have one : Rel m K (oneW L0 d k) (oneW L1 d' (m + k)) := by
   rw [one_eq k0, one_eq k1, W.isT_w hk (s := [45]) (by decide), W.isT_w hk (s := [33]) (by decide), W.isT_w hk (s := [40]) (by decide), W.isT_w hk (s := [116, 114, 117, 101]) (by decide), W.isT_w hk (s := [102, 97, 108, 115, 101]) (by decide)]
   by_cases c1 : isT (tk L0 k) [45] = true ∨ isT (tk L0 k) [33] = true
   ·rw [if_pos c1, if_pos c1]
    have hb : k < K := by rcases c1 with c | c <;> exact (W.of_isT hk c).1
    rw [<- (W.sim k hb).2.1, Nat.add_assoc]
    exact rel_part W (by omega) (by omega) (rel_map (ih (k + 1) (by omega) (by omega) (d + 1) (d' + 1) (by omega)).1)
   rw [if_neg c1, if_neg c1]
   by_cases c2 : isT (tk L0 k) [40] = true
   ·rw [if_pos c2, if_pos c2]
    have hb := (W.of_isT hk c2).1
    rw [Nat.add_assoc]
    exact rel_want W (rel_part W (by omega) (by omega) ((ih (k + 1) (by omega) (by omega) (d + 1) (d' + 1) (by omega)).2.1 1))
   rw [if_neg c2, if_neg c2]
   by_cases c3 : isT (tk L0 k) [116, 114, 117, 101] = true
   ·rw [if_pos c3, if_pos c3]
    have hb := (W.of_isT hk c3).1
    exact ⟨by omega, .inl rfl⟩
   rw [if_neg c3, if_neg c3]
   by_cases c4 : isT (tk L0 k) [102, 97, 108, 115, 101] = true
   ·rw [if_pos c4, if_pos c4]
    have hb := (W.of_isT hk c4).1
    exact ⟨by omega, .inl rfl⟩
   rw [if_neg c4, if_neg c4]
   have w2 := W.kind_w hk (n := 2) (.inr rfl)
   have w1 := W.kind_w hk (n := 1) (.inl rfl)
   by_cases c5 : (tk L0 k).kind = 2
   ·rw [if_pos c5, if_pos (w2.2 c5)]
    have hb := W.before hk (by omega)
    rw [<- (W.sim k hb).2.2]
    exact ⟨by omega, .inl rfl⟩
   rw [if_neg c5, if_neg (show ¬ (tk L1 (m + k)).kind = 2 from fun h => c5 (w2.1 h))]
   by_cases c6 : (tk L0 k).kind ≠ 1
   ·rw [if_pos c6, if_pos (show (tk L1 (m + k)).kind ≠ 1 from fun h => c6 (w1.1 h))]
    intro h; cases h
   rw [if_neg c6, if_neg (show ¬ (tk L1 (m + k)).kind ≠ 1 from fun h => c6 (fun h' => h (w1.2 h')))]
   have hb := W.before hk (by omega)
   rw [<- (W.sim k hb).2.1, Nat.add_assoc, Nat.add_assoc, W.isT_w (k := k + 1) (by omega) (s := [91]) (by decide)]
   by_cases c7 : isT (tk L0 (k + 1)) [91] = true
   ·rw [if_pos c7, if_pos c7]
    have hb2 := (W.of_isT (k := k + 1) (by omega) c7).1
    exact rel_want W (rel_part W (by omega) (by omega) ((ih (k + 2) (by omega) (by omega) (d + 1) (d' + 1) (by omega)).2.1 1))
   ·rw [if_neg c7, if_neg c7]
    exact ⟨by omega, .inl rfl⟩
  refine ⟨one, fun n => ?_, fun n most x => ?_⟩
  ·rw [tight_eq L0, tight_eq L1]
   cases hq : oneW L0 d k with
   | error e =>
    rw [hq] at one
    intro he
    obtain ⟨e', h⟩ := one he
    rw [h]; exact ⟨_, rfl⟩
   | ok q =>
    obtain ⟨x, j⟩ := q
    rw [hq] at one
    have hg := one_goes W.e0 k0 hq
    obtain ⟨hj, hr⟩ := one
    simp only
    rw [dif_pos ⟨hg.1, k0⟩]
    have hloop := (ih j (by omega) hj d d' hd).2.2 n 5 x
    rcases hr with h | ⟨e, h, he⟩
    ·rw [h]
     simp only
     rw [dif_pos ⟨by omega, k1⟩]
     exact hloop
    ·rw [h]
     simp only
     unfold Rel at hloop ⊢
     cases hz : loopW L0 n d 5 x j with
     | error e => exact fun _ => ⟨_, rfl⟩
     | ok q => rw [hz] at hloop; exact ⟨hloop.1, .inr ⟨_, rfl, he⟩⟩
  ·rw [loop_eq k0, loop_eq k1, W.sign_w hk]
   by_cases c : signT (tk L0 k) = 0 ∨ signT (tk L0 k) < n ∨ most < signT (tk L0 k)
   ·rw [if_pos c, if_pos c]
    exact ⟨hk, .inl rfl⟩
   rw [if_neg c, if_neg c]
   have hb : k < K := W.before hk fun h0 => c (.inl (by unfold signT; rw [h0]; simp))
   rw [<- (W.sim k hb).2.1]
   have hT := (ih (k + 1) (by omega) (by omega) d d' hd).2.1 (signT (tk L0 k) + 1)
   rw [Nat.add_assoc]
   cases hq : tightW L0 (signT (tk L0 k) + 1) d (k + 1) with
   | error e =>
    rw [hq] at hT
    intro he
    obtain ⟨e', h⟩ := hT he
    rw [h]; exact ⟨_, rfl⟩
   | ok q =>
    obtain ⟨y, j⟩ := q
    rw [hq] at hT
    have hg := tight_goes W.e0 (by omega) hq
    obtain ⟨hj, hr⟩ := hT
    simp only
    rw [dif_pos (by omega)]
    have hloop := (ih j (by omega) hj d d' hd).2.2 n (if signT (tk L0 k) = 3 then 2 else signT (tk L0 k)) (.mk 6 (tk L0 k).text 0 [x, y])
    rcases hr with h | ⟨e, h, he⟩
    ·rw [h]
     simp only
     rw [dif_pos (by omega)]
     exact hloop
    ·rw [h]
     simp only
     unfold Rel at hloop ⊢
     cases hz : loopW L0 n d (if signT (tk L0 k) = 3 then 2 else signT (tk L0 k)) (.mk 6 (tk L0 k).text 0 [x, y]) j with
     | error e => exact fun _ => ⟨_, rfl⟩
     | ok q => rw [hz] at hloop; exact ⟨hloop.1, .inr ⟨_, rfl, he⟩⟩
end
end Go.Proofs.YtennkhdlpbggkaaDoor
namespace Go.Proofs.YtennkhdlpbggkaaDoor
open Go Go.Proofs.Ab Go.Proofs.Px
def opB : Nat -> List UInt8
 | 0 => []
 | m + 1 => opB m ++ [40, 32]
def shB : Nat -> List UInt8
 | 0 => []
 | m + 1 => shB m ++ [10, 41]
theorem opB_front : ∀ m, opB (m + 1) = [40, 32] ++ opB m
 | 0 => rfl
 | m + 1 => by
  show opB (m + 1) ++ [40, 32] = [40, 32] ++ (opB m ++ [40, 32])
  rw [opB_front m, List.append_assoc]
theorem shB_front : ∀ m, shB (m + 1) = [10, 41] ++ shB m
 | 0 => rfl
 | m + 1 => by
  show shB (m + 1) ++ [10, 41] = [10, 41] ++ (shB m ++ [10, 41])
  rw [shB_front m, List.append_assoc]
theorem opB_length : ∀ m, (opB m).length = 2 * m
 | 0 => rfl
 | m + 1 => by rw [opB, List.length_append, opB_length m]; simp; omega
theorem shB_length : ∀ m, (shB m).length = 2 * m
 | 0 => rfl
 | m + 1 => by rw [shB, List.length_append, shB_length m]; simp; omega
theorem sk32 (r : List UInt8) : sk false (32 :: r) = sk false r := by rw [sk, if_neg (by decide), if_neg (by simp), if_pos rfl]
theorem skip32 (g n : Nat) (out : List Tk) (r : List UInt8) : scanGo g n out (32 :: r) = scanGo g n out r := by
 cases g with
 | zero => rfl
 | succ g => rw [scanGo_succ, scanGo_succ, sk32]
theorem skip10 (g n : Nat) (out : List Tk) (r : List UInt8) : scanGo g n out (10 :: r) = scanGo g n out r := by
 cases g with
 | zero => rfl
 | succ g => rw [scanGo_succ, scanGo_succ, sk_nl]
theorem good40 : wrOk (tS [40]) = true ∧ TkOk (tS [40]) := good_S (by decide) (by decide)
theorem good41 : wrOk (tS [41]) = true ∧ TkOk (tS [41]) := good_S (by decide) (by decide)
theorem scan_open (n : Nat) : ∀ (m : Nat) (g : Nat) (out : List Tk) (r : List UInt8), out.length + m <= 4000 -> ∃ us, us.length = m ∧ (∀ t ∈ us, SimT (tS [40]) t) ∧ scanGo (m + g) n out (opB m ++ r) = scanGo g n (out ++ us) r
 | 0, g, out, r, h => ⟨[], rfl, by simp, by simp [opB]⟩
 | m + 1, g, out, r, h => by
  have hsk : sk false (opB (m + 1) ++ r) = opB (m + 1) ++ r := by
   rw [opB_front]
   show sk false (40 :: _) = _
   rw [sk, if_neg (by decide), if_neg (by simp), if_neg (by decide), if_neg (by decide)]; rfl
  obtain ⟨us, u1, u2, u3⟩ := scan_open n m g (out ++ [⟨4, [40], 0, ((n - (opB (m + 1) ++ r).length : Nat) : Int)⟩]) r (by rw [List.length_append, List.length_singleton]; omega)
  refine ⟨⟨4, [40], 0, ((n - (opB (m + 1) ++ r).length : Nat) : Int)⟩ :: us, by rw [List.length_cons, u1], fun t ht => ?_, ?_⟩
  ·rcases List.mem_cons.1 ht with rfl | ht
   ·exact ⟨rfl, rfl, rfl⟩
   ·exact u2 t ht
  ·rw [show m + 1 + g = (m + g) + 1 by omega, scanGo_succ, hsk]
   generalize hA : ((n - (opB (m + 1) ++ r).length : Nat) : Int) = a at *
   have hnx := (next_back good40.1 good40.2 (r := 32 :: (opB m ++ r)) (.inr ⟨_, rfl⟩) a).1
   have e : opB (m + 1) ++ r = wrT (tS [40]) ++ 32 :: (opB m ++ r) := by rw [opB_front]; rfl
   rw [e, hnx]
   dsimp only
   rw [if_neg (fun h => Bool.noConfusion h), if_neg (by omega), if_neg (by decide), List.drop_append_of_le_length (Nat.le_refl _), List.drop_length, List.nil_append, skip32]
   rw [show (⟨(tS [40]).kind, (tS [40]).text, (tS [40]).num, a⟩ : Tk) = ⟨4, [40], 0, a⟩ from rfl, u3]
   simp
theorem scan_shut (n : Nat) : ∀ (m : Nat) (g : Nat) (out : List Tk), out.length + m < 4000 -> m < g -> ∃ us e, us.length = m ∧ (∀ t ∈ us, SimT (tS [41]) t) ∧ e.kind = 0 ∧ scanGo g n out (shB m) = (out ++ us ++ [e], 0, 0)
 | 0, g, out, h, hg => by
  obtain ⟨g, rfl⟩ : ∃ q, g = q + 1 := ⟨g - 1, by omega⟩
  refine ⟨[], ⟨0, [], 0, ((n - 0 : Nat) : Int)⟩, rfl, by simp, rfl, ?_⟩
  rw [scanGo_succ]
  have hn : ∀ a : Int, next [] a = (⟨0, [], 0, a⟩, 0, true) := fun a => rfl
  have hs : sk false (shB 0) = [] := rfl
  rw [hs, hn]
  dsimp only
  rw [if_neg (fun h => Bool.noConfusion h), if_neg (by omega), if_pos rfl]
  simp
 | m + 1, g, out, h, hg => by
  obtain ⟨g, rfl⟩ : ∃ q, g = q + 1 := ⟨g - 1, by omega⟩
  rw [shB_front]
  show ∃ us e, _ ∧ _ ∧ _ ∧ scanGo (g + 1) n out (10 :: (41 :: shB m)) = _
  rw [skip10]
  have hsk : sk false (41 :: shB m) = 41 :: shB m := by rw [sk, if_neg (by decide), if_neg (by simp), if_neg (by decide), if_neg (by decide)]
  obtain ⟨us, e, u1, u2, u3, u4⟩ := scan_shut n m g (out ++ [⟨4, [41], 0, ((n - (41 :: shB m).length : Nat) : Int)⟩]) (by rw [List.length_append, List.length_singleton]; omega) (by omega)
  refine ⟨⟨4, [41], 0, ((n - (41 :: shB m).length : Nat) : Int)⟩ :: us, e, by rw [List.length_cons, u1], fun t ht => ?_, u3, ?_⟩
  ·rcases List.mem_cons.1 ht with rfl | ht
   ·exact ⟨rfl, rfl, rfl⟩
   ·exact u2 t ht
  ·rw [scanGo_succ, hsk]
   generalize hA : ((n - (41 :: shB m).length : Nat) : Int) = a at *
   have hb := (next_back good41.1 good41.2 (r := []) (.inl rfl) a).1
   have hnx : next (41 :: shB m) a = (⟨4, [41], 0, a⟩, 1, true) := by
    cases m with
    | zero => exact hb
    | succ m =>
     rw [shB_front]
     exact (next_stop [41] (by simp) 10 (41 :: shB m) a nl_inn nl_signs).trans hb
   rw [hnx]
   dsimp only
   rw [if_neg (fun h => Bool.noConfusion h), if_neg (by omega), if_neg (by decide)]
   show scanGo g n _ (shB m) = _
   rw [u4]; simp
def isN (s : List UInt8) : Bool := isName (B s)
theorem isN_len {s : List UInt8} (h : isN s = true) : s.length <= 40 := name_len h
theorem rds_all {l : List Tk} (hl : Ended l) (P : Int × Int -> Prop) (h30 : ∀ k, P ((tk l k).at_, 30)) (h31 : ∀ k, P ((tk l k).at_, 31)) : ∀ m k : Nat, l.length - k <= m -> k < l.length -> (∀ d e, oneW l d k = .error e -> P e) ∧ (∀ n d e, tightW l n d k = .error e -> P e) ∧ (∀ n d p y e, loopW l n d p y k = .error e -> P e) := by
 intro m
 induction m with
 | zero => intro k h1 h2; omega
 | succ m ih =>
  intro k hm hk
  have part : ∀ {d : Int} {k : Nat} {r : Rd} {e : Int × Int}, (∀ e, r = .error e -> P e) -> partR l d k r = .error e -> P e := fun hr h => by
   unfold partR at h
   split at h
   ·cases h; first | exact h30 _ | exact h31 _
   ·split at h
    ·cases h; first | exact h30 _ | exact h31 _
    ·exact hr _ h
  have want : ∀ {s : List UInt8} {r : Rd} {f : Ex -> Ex} {e : Int × Int}, (∀ e, r = .error e -> P e) -> wantR l s r f = .error e -> P e := fun hr h => by
   unfold wantR at h
   split at h
   ·rename_i e0; cases h; exact hr _ rfl
   ·split at h
    ·cases h
    ·cases h; first | exact h30 _ | exact h31 _
  have one : ∀ d e, oneW l d k = .error e -> P e := by
   intro d e h
   rw [oneW, dif_pos hk] at h
   split at h
   ·rename_i c
    have hk1 : k + 1 < l.length := by rcases c with c | c <;> exact hl.isT hk c
    refine part (fun e h => ?_) h
    split at h
    ·rename_i e1 h1; cases h; exact (ih (k + 1) (by omega) hk1).1 _ _ h1
    ·cases h
   split at h
   ·rename_i c
    have hk1 := hl.isT hk c
    exact want (fun e h => part (fun e h => (ih (k + 1) (by omega) hk1).2.1 _ _ _ h) h) h
   split at h
   ·cases h
   split at h
   ·cases h
   split at h
   ·cases h
   split at h
   ·cases h; first | exact h30 _ | exact h31 _
   have hk1 : k + 1 < l.length := hl.next hk (by omega)
   split at h
   ·rename_i c
    have hk2 := hl.isT hk1 c
    exact want (fun e h => part (fun e h => (ih (k + 2) (by omega) hk2).2.1 _ _ _ h) h) h
   ·cases h
  have loop : ∀ n d p y e, loopW l n d p y k = .error e -> P e := by
   intro n d p y e h
   rw [loopW, dif_pos hk] at h
   split at h
   ·cases h
   ·rename_i c
    have hk1 : k + 1 < l.length := hl.next hk (by
     intro h0; apply c; left; unfold signT; rw [if_neg (by omega)])
    split at h
    ·rename_i e1 h1; cases h; exact (ih (k + 1) (by omega) hk1).2.1 _ _ _ h1
    ·rename_i z i hz
     have h1 := tight_goes hl hk1 hz
     rw [dif_pos (by omega)] at h
     exact (ih i (by omega) h1.2).2.2 _ _ _ _ _ h
  refine ⟨one, fun n d e h => ?_, loop⟩
  rw [tightW] at h
  split at h
  ·rename_i e1 h1; cases h; exact one _ _ h1
  ·rename_i y i hy
   have h1 := one_goes hl hk hy
   rw [dif_pos ⟨h1.1, hk⟩] at h
   exact (ih i (by omega) h1.2).2.2 _ _ _ _ _ h
section
variable {l : List Tk} (hl : Ended l) (hg : ∀ k, k < l.length -> (tk l k).kind ≠ 0 -> wrOk (tk l k) = true ∧ TkOk (tk l k))
include hl hg
theorem nm_of {k : Nat} (hk : k < l.length) (h : (tk l k).kind = 1) : isN (tk l k).text = true := by
 have := (hg k hk (by omega)).1
 unfold wrOk at this
 rw [if_pos h, Bool.and_eq_true] at this
 exact this.2
theorem it_of {k : Nat} (hk : k < l.length) (h : (tk l k).kind = 2) : 0 <= (tk l k).num ∧ (Lit.int .i64 (tk l k).num).wf = true := by
 have := hg k hk (by omega)
 have h1 := this.1
 unfold wrOk at h1
 rw [if_neg (by omega), if_neg (by omega), if_neg (by omega), if_pos h, Bool.and_eq_true, decide_eq_true_eq, decide_eq_true_eq] at h1
 exact ⟨h1.2, this.2.num⟩
def Nice (x : Ex) (k j : Nat) : Prop := ExOk x ∧ x.size + 6 * k <= 6 * j
theorem leaf_nice {m : Int} (hm : (Lit.int .i64 m).wf = true) {s : List UInt8} {n : Int} (hs : s.length <= 40) (hn : (Lit.int .i64 n).wf = true) {k j : Nat} (h : k < j) : Nice (.mk m s n []) k j := by
 refine ⟨.mk hm (by omega) hn (by simp) nofun, ?_⟩
 rw [Ex.size, Ex.sizes]; omega
theorem un_nice {m : Int} (hm : (Lit.int .i64 m).wf = true) {s : List UInt8} (hs : s.length <= 40) {x : Ex} {k i j : Nat} (hx : Nice x i j) (h : k < i) : Nice (.mk m s 0 [x]) k j := by
 refine ⟨.mk hm (by omega) (by decide) (by simp) fun y hy => by rw [List.mem_singleton.1 hy]; exact hx.1, ?_⟩
 have := hx.2
 rw [Ex.size, Ex.sizes, Ex.sizes]; omega
theorem rds_ok : ∀ m k : Nat, l.length - k <= m -> k < l.length -> (∀ d x j, oneW l d k = .ok (x, j) -> Nice x k j) ∧ (∀ n d x j, tightW l n d k = .ok (x, j) -> Nice x k j) ∧ (∀ n d p y i x j, i <= k -> Nice y i k -> loopW l n d p y k = .ok (x, j) -> Nice x i j) := by
 intro m
 induction m with
 | zero => intro k h1 h2; omega
 | succ m ih =>
  intro k hm hk
  have one : ∀ d x j, oneW l d k = .ok (x, j) -> Nice x k j := by
   intro d x j h
   rw [oneW, dif_pos hk] at h
   split at h
   ·rename_i c
    have hk1 : k + 1 < l.length := by rcases c with c | c <;> exact hl.isT hk c
    have h := partR_ok h
    split at h
    ·cases h
    ·rename_i y i hy
     have := (ih (k + 1) (by omega) hk1).1 _ _ _ hy
     have hs : (tk l k).text.length <= 40 := by rcases c with c | c <;> (rw [(isT_of c).2]; decide)
     cases h
     exact un_nice hl hg (by decide) hs this (by omega)
   split at h
   ·rename_i c
    have hk1 := hl.isT hk c
    obtain ⟨y, i, h1, h2, h3⟩ := wantR_ok h
    have := (ih (k + 1) (by omega) hk1).2.1 _ _ _ _ (partR_ok h1)
    cases h3
    exact ⟨this.1, by have := this.2; simp only [id]; omega⟩
   split at h
   ·cases h; exact leaf_nice hl hg (by decide) (by simp) (by decide) (by omega)
   split at h
   ·cases h; exact leaf_nice hl hg (by decide) (by simp) (by decide) (by omega)
   split at h
   ·rename_i c
    cases h; exact leaf_nice hl hg (by decide) (by simp) (it_of hl hg hk c).2 (by omega)
   split at h
   ·cases h
   rename_i c1
   have c1 : (tk l k).kind = 1 := Decidable.not_not.1 c1
   have hk1 : k + 1 < l.length := hl.next hk (by omega)
   have hs := isN_len (nm_of hl hg hk c1)
   split at h
   ·rename_i c
    have hk2 := hl.isT hk1 c
    obtain ⟨y, i, h1, h2, h3⟩ := wantR_ok h
    have := (ih (k + 2) (by omega) hk2).2.1 _ _ _ _ (partR_ok h1)
    cases h3
    exact un_nice hl hg (by decide) hs ⟨this.1, by have := this.2; omega⟩ (by omega : k < k + 2)
   ·cases h; exact leaf_nice hl hg (by decide) hs (by decide) (by omega)
  have loop : ∀ n d p y i x j, i <= k -> Nice y i k -> loopW l n d p y k = .ok (x, j) -> Nice x i j := by
   intro n d p y i x j hi hy h
   rw [loopW, dif_pos hk] at h
   split at h
   ·cases h; exact hy
   ·rename_i c
    have hk1 : k + 1 < l.length := hl.next hk (by
     intro h0; apply c; left; unfold signT; rw [if_neg (by omega)])
    split at h
    ·cases h
    ·rename_i z q hz
     have h1 := tight_goes hl hk1 hz
     rw [dif_pos (by omega)] at h
     have hz' := (ih (k + 1) (by omega) hk1).2.1 _ _ _ _ hz
     have hs : (tk l k).text.length <= 40 := by
      have : 0 < levelP (tk l k).text := by
       have h2 := (level_le (tk l k).text).1
       unfold signT at c
       by_cases c4 : (tk l k).kind = 4
       ·rw [if_pos c4] at c
        show 0 < levelT (tk l k).text
        omega
       ·rw [if_neg c4] at c; omega
      have := level_len this
      omega
     refine (ih q (by omega) h1.2).2.2 _ _ _ _ i _ _ (by omega) ⟨.mk (by decide) (by omega) (by decide) (by simp) fun w hw => ?_, ?_⟩ h
     ·rcases List.mem_cons.1 hw with rfl | hw
      ·exact hy.1
      ·rw [List.mem_singleton.1 hw]; exact hz'.1
     ·have := hy.2
      have := hz'.2
      rw [Ex.size, Ex.sizes, Ex.sizes, Ex.sizes]; omega
  refine ⟨one, fun n d x j h => ?_, loop⟩
  rw [tightW] at h
  split at h
  ·cases h
  ·rename_i y i hy
   have h1 := one_goes hl hk hy
   rw [dif_pos ⟨h1.1, hk⟩] at h
   exact (ih i (by omega) h1.2).2.2 _ _ _ _ k _ _ (by omega) (one _ _ _ hy) h
end
end Go.Proofs.YtennkhdlpbggkaaDoor
namespace Go.Proofs.YtennkhdlpbggkaaDoor
open Go Go.Proofs.Ab Go.Proofs.Px
theorem tk_at {l : List Tk} {i : Nat} {t : Tk} (h : l[i]? = some t) : tk l i = t := by
 unfold tk
 rw [List.getD_eq_getElem?_getD, h]; rfl
structure Wrapped (L0 L1 : List Tk) (m K : Nat) : Prop where
 w : Wrap L0 L1 m K
 o : ∀ i, i < m -> SimT (tS [40]) (tk L1 i)
 c : ∀ i, i < m -> SimT (tS [41]) (tk L1 (m + K + i))
 e : (tk L1 (m + K + m)).kind = 0
 len : m + K + m + 1 = L1.length
theorem scan_wrapped (s : List UInt8) (m : Nat) (hs : s.length <= 2000) (hm : 1 <= m) (hm9 : m < 10) :
  ((scan s).2.2 = 20 ∧ (scan (opB m ++ (s ++ shB m))).2.2 = 20) ∨ ((scan s).2.2 = 0 ∧ (scan (opB m ++ (s ++ shB m))).2.2 = 0 ∧ ∃ K, Wrapped (scan s).1 (scan (opB m ++ (s ++ shB m))).1 m K) := by
 obtain ⟨p, rfl⟩ : ∃ p, m = p + 1 := ⟨m - 1, by omega⟩
 have hT : (opB (p + 1) ++ (s ++ shB (p + 1))).length = s.length + 4 * (p + 1) := by rw [List.length_append, List.length_append, opB_length, shB_length]; omega
 have e0 : scan s = scanGo (s.length + 1) s.length [] s := by unfold scan; rw [if_neg (by omega)]
 have e1 : scan (opB (p + 1) ++ (s ++ shB (p + 1))) = scanGo (s.length + 4 * (p + 1) + 1) (s.length + 4 * (p + 1)) [] (opB (p + 1) ++ (s ++ shB (p + 1))) := by unfold scan; rw [if_neg (by omega), hT]
 generalize hN : s.length + 4 * (p + 1) = N at *
 obtain ⟨us0, u1, u2, u3⟩ := scan_open N (p + 1) (N - p) [] (s ++ shB (p + 1)) (by simp; omega)
 rw [show p + 1 + (N - p) = N + 1 by omega, List.nil_append] at u3
 rw [u3] at e1
 have e1 : scan (opB (p + 1) ++ (s ++ shB (p + 1))) = scanGo (N - p) N (us0 ++ []) (s ++ 10 :: (41 :: shB p)) := by
  refine e1.trans ?_
  rw [List.append_nil, shB_front]; rfl
 rcases scan_then (41 :: shB p) s.length N (s.length + 1) [] us0 [] [] s Sim.nil (by omega) (by simp; omega) (by simp; omega) with ⟨a, i1, i2⟩ | ⟨us, vs, e, k, i1, i2, i3, i4, i5, i6⟩
 ·left
  obtain ⟨a', i3⟩ := i2 (N - p) (by omega)
  rw [e0, e1, i3]
  have i1 : scanGo (s.length + 1) s.length [] s = ([], a, 20) := i1
  rw [i1]
  exact ⟨rfl, rfl⟩
 ·right
  have i1 : scanGo (s.length + 1) s.length [] s = (us ++ [e], 0, 0) := i1
  have hv := i3.1
  rw [List.length_nil, Nat.zero_add] at i4
  have hx : N - p = k + (N - p - k) := by omega
  rw [hx, i6] at e1
  obtain ⟨ws, e', w1, w2, w3, w4⟩ := scan_shut N (p + 1) (N - p - k) (us0 ++ vs) (by rw [List.length_append]; omega) (by omega)
  rw [shB_front] at w4
  have w4 : scanGo (N - p - k) N (us0 ++ vs) (10 :: (41 :: shB p)) = (us0 ++ vs ++ ws ++ [e'], 0, 0) := w4
  rw [w4] at e1
  rw [i1] at e0
  have h0 : (scan s).2.2 = 0 := by rw [e0]
  have h1 : (scan (opB (p + 1) ++ (s ++ shB (p + 1)))).2.2 = 0 := by rw [e1]
  refine ⟨h0, h1, us.length, ?_⟩
  have d0 := (scan_ended (by omega) h0).1
  have d1 := (scan_ended (by rw [hT]; omega) h1).1
  rw [e0] at d0
  rw [e1] at d1
  rw [e0, e1]
  have a0 : ∀ i (h : i < us.length), tk (us ++ [e]) i = us[i] := fun i h => tk_at (by rw [List.getElem?_append_left h]; exact List.getElem?_eq_getElem h)
  have b0 : ∀ i (h : i < us0.length), tk (us0 ++ vs ++ ws ++ [e']) i = us0[i] := fun i h => tk_at (by
   rw [List.append_assoc, List.append_assoc, List.getElem?_append_left h]; exact List.getElem?_eq_getElem h)
  have b1 : ∀ i (h : i < vs.length), tk (us0 ++ vs ++ ws ++ [e']) (p + 1 + i) = vs[i] := fun i h => tk_at (by
   rw [List.append_assoc, List.append_assoc, List.getElem?_append_right (by omega), u1, Nat.add_sub_cancel_left, List.getElem?_append_left h]; exact List.getElem?_eq_getElem h)
  have b2 : ∀ i (h : i < ws.length), tk (us0 ++ vs ++ ws ++ [e']) (p + 1 + us.length + i) = ws[i] := fun i h => tk_at (by
   rw [List.append_assoc, List.getElem?_append_right (by rw [List.length_append]; omega), List.length_append, u1, hv, Nat.add_sub_cancel_left, List.getElem?_append_left h]; exact List.getElem?_eq_getElem h)
  have b3 : tk (us0 ++ vs ++ ws ++ [e']) (p + 1 + us.length + (p + 1)) = e' := tk_at (by
   have hl : (us0 ++ vs ++ ws).length = p + 1 + us.length + (p + 1) := by rw [List.length_append, List.length_append]; omega
   rw [<- hl, List.getElem?_append_right (Nat.le_refl _), Nat.sub_self]; rfl)
  have hL1 : (us0 ++ vs ++ ws ++ [e']).length = p + 1 + us.length + (p + 1) + 1 := by simp only [List.length_append, List.length_singleton]; omega
  have c0 : SimT (tS [41]) (tk (us0 ++ vs ++ ws ++ [e']) (p + 1 + us.length)) := by
   have := b2 0 (by omega)
   rw [Nat.add_zero] at this
   rw [this]; exact w2 _ (List.getElem_mem _)
  refine ⟨⟨d0, d1, by simp, by rw [hL1]; omega, fun i hi => ?_, fun t ht => ?_, ?_, ?_⟩, fun i hi => ?_, fun i hi => ?_, by rw [b3]; exact w3, by rw [hL1]⟩
  ·rw [a0 i hi, b1 i (by omega)]
   exact i3.2 i _ _ (List.getElem?_eq_getElem hi) (List.getElem?_eq_getElem (by omega))
  ·rw [isT_sim c0, isT_S]
   exact decide_eq_false (fun h => ht h.symm)
  ·rw [<- c0.1]; exact ⟨by decide, by decide⟩
  ·rw [signT_sim c0]; rfl
  ·rw [b0 i (by omega)]; exact u2 _ (List.getElem_mem _)
  ·rw [b2 i (by omega)]; exact w2 _ (List.getElem_mem _)
end Go.Proofs.YtennkhdlpbggkaaDoor
