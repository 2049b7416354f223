/- Own texts under the law DeclMany, merged, without what it does not lean on: part 4 of 5 (the abstract machine and its proof; residual forms; contracts; the plain law). -/
import Derived.Test.YtmhnmelaodhemaaDoorDeclManyPackC
import Derived.Test.YtmhnmelaodhemaaDoorProg
import Derived.ProofKit
import Derived.LaidMore
import Derived.OpenShut
import Derived.WalkKit
import Derived.ShutString
import Derived.ChangeOld
import Derived.SizedLaws
import Derived.Shelf.Strings.OnBuilder
import Derived.KernelRfl
import Derived.IntWalk
import Derived.Lib.SmallJoins
import Derived.Laws.Bits64
set_option linter.unusedVariables false
set_option linter.unusedSimpArgs false
set_option linter.unusedSectionVars false
set_option maxRecDepth 100000
namespace Go.Proofs.YtmhnmelaodhemaaDoor
open Go Go.Proofs.Ab
namespace law12_DeclMany
abbrev id : FuncId := 4
end law12_DeclMany
namespace law12_known
abbrev id : FuncId := 6
end law12_known
namespace decl_Parse
abbrev id : FuncId := 7
end decl_Parse
namespace decl_Print
abbrev id : FuncId := 8
end decl_Print
namespace ref01_Among
abbrev id : FuncId := 11
end ref01_Among
namespace decl_Kept
abbrev id : FuncId := 12
end decl_Kept
namespace lex_Scan
abbrev id : FuncId := 13
end lex_Scan
namespace decl_Parse_1
abbrev id : FuncId := 14
end decl_Parse_1
namespace decl_reader_line
abbrev id : FuncId := 15
end decl_reader_line
namespace lex_reader_blank
abbrev id : FuncId := 24
end lex_reader_blank
namespace lex_reader_next
abbrev id : FuncId := 25
end lex_reader_next
namespace decl_reader_word
abbrev id : FuncId := 26
end decl_reader_word
namespace decl_reader_full
abbrev id : FuncId := 27
end decl_reader_full
namespace decl_reader_name
abbrev id : FuncId := 28
end decl_reader_name
namespace decl_reader_same
abbrev id : FuncId := 30
end decl_reader_same
namespace decl_reader_side
abbrev id : FuncId := 31
end decl_reader_side
namespace decl_reader_stop
abbrev id : FuncId := 33
end decl_reader_stop
namespace decl_reader_fail
abbrev id : FuncId := 36
end decl_reader_fail
namespace decl_reader_sign
abbrev id : FuncId := 37
end decl_reader_sign
namespace lex_IsName
abbrev id : FuncId := 38
end lex_IsName
namespace num_Text
abbrev id : FuncId := 39
end num_Text
namespace lex_letter
abbrev id : FuncId := 45
end lex_letter
namespace lex_reader_word
abbrev id : FuncId := 46
end lex_reader_word
namespace lex_isKey
abbrev id : FuncId := 47
end lex_isKey
namespace lex_digit
abbrev id : FuncId := 48
end lex_digit
namespace num_Parse
abbrev id : FuncId := 49
end num_Parse
namespace lex_sign
abbrev id : FuncId := 50
end lex_sign
namespace syntax_ReadExpr
abbrev id : FuncId := 51
end syntax_ReadExpr
namespace lex_inner
abbrev id : FuncId := 52
end lex_inner
namespace lex_Right
abbrev id : FuncId := 57
end lex_Right
namespace syntax_ReadExpr_1
abbrev id : FuncId := 58
end syntax_ReadExpr_1
namespace syntax_caught
abbrev id : FuncId := 59
end syntax_caught
namespace syntax_reader_expr
abbrev id : FuncId := 60
end syntax_reader_expr
namespace lex_written
abbrev id : FuncId := 69
end lex_written
namespace syntax_tokens_deep
abbrev id : FuncId := 70
end syntax_tokens_deep
namespace syntax_reader_begins
abbrev id : FuncId := 71
end syntax_reader_begins
namespace syntax_reader_bin
abbrev id : FuncId := 72
end syntax_reader_bin
namespace syntax_level
abbrev id : FuncId := 73
end syntax_level
namespace syntax_tokens_wrong
abbrev id : FuncId := 74
end syntax_tokens_wrong
namespace syntax_tokens_is
abbrev id : FuncId := 75
end syntax_tokens_is
namespace syntax_reader_unary
abbrev id : FuncId := 76
end syntax_reader_unary
namespace syntax_reader_sign
abbrev id : FuncId := 77
end syntax_reader_sign
namespace syntax_tokens_has
abbrev id : FuncId := 78
end syntax_tokens_has
namespace syntax_tokens_need
abbrev id : FuncId := 79
end syntax_tokens_need
namespace syntax_tokens_name
abbrev id : FuncId := 80
end syntax_tokens_name
abbrev T_n0 : TypeId := 0
abbrev T_int : TypeId := 3
abbrev T_uint8 : TypeId := 5
abbrev T_decl_File : TypeId := 29
abbrev T_api_Errno : TypeId := 30
abbrev T_gen_Keep : TypeId := 48
abbrev T_decl_given : TypeId := 53
abbrev T_decl_reader : TypeId := 57
abbrev T_api_Token : TypeId := 59
abbrev T_api_Pair : TypeId := 64
abbrev T_decl_Keep : TypeId := 68
abbrev T_decl_Break : TypeId := 72
abbrev T_decl_Watch : TypeId := 74
abbrev T_parallaxref12_Keep : TypeId := 76
abbrev T_parallaxref12_Watch : TypeId := 77
abbrev T_parallaxref12_Break : TypeId := 78
abbrev T_lex_reader : TypeId := 83
abbrev T_api_Expr : TypeId := 99
abbrev T_syntax_tokens : TypeId := 134
abbrev T_syntax_reader : TypeId := 137
abbrev T_syntax_given : TypeId := 148
abbrev T_L_int : TypeId := 169
def keepTab : List (List (Nat × Bool)) := [[], [], [], [], [(0, false), (6, false), (7, false), (8, false)], [], [], [(2, false), (3, false), (4, false), (6, false)], [(1, false), (4, false), (18, false), (19, false), (20, false), (61, false), (62, false), (63, false), (102, false), (103, false), (104, false), (142, false), (143, false), (144, false), (167, false), (168, false), (169, false)], [(2, false), (3, false), (5, false), (6, false), (7, false), (8, false), (9, false), (10, false)], [(1, false), (2, false), (3, false), (4, false), (5, false), (7, false)], [], [(1, false), (2, false), (5, false), (6, false), (13, false), (14, false), (15, false), (39, false), (40, false), (41, false)], [(5, false), (6, true)], [], [], [(5, false), (6, false), (7, false)], [(0, false), (1, false), (6, false), (7, false), (8, false)], [], [], [(0, false), (51, false), (52, false), (53, false)], [], [(0, false), (1, false), (5, false)], [(1, false), (2, false), (5, false), (6, false), (7, false)], [(0, false)], [], [], [], [], [], [(0, false), (2, false), (3, false), (12, false), (13, false)], [], [], [], [], [], [], [], [(0, false), (22, false), (23, false)], [(0, false), (3, false), (4, false), (5, false)], [], [], [], [], [], [], [(0, false), (3, false)], [(0, false), (5, false), (6, false)], [], [(4, false), (5, false), (6, false), (7, false), (8, false)], [(0, false), (3, false), (6, false), (7, false)], [(0, false), (1, false), (4, false), (5, false), (6, false), (7, false)], [], [], [], [], [], [(0, false), (7, false), (8, false), (9, false)], [], [], [], [], [], [], [], [], [(3, true), (6, false), (7, false), (8, false)], [], [], [], [], [], [(0, false), (1, false), (2, false), (6, false), (7, false), (8, false)], [], [], [], [(0, false), (1, false), (4, false), (11, false), (12, false)], [], [], [], []]
def glTab (g : Nat) : Option (List V) := match g with | 0 => some [.str ⟨#[112, 114, 111, 99]⟩, .str ⟨#[118, 97, 114]⟩, .str ⟨#[105, 102]⟩, .str ⟨#[101, 108, 115, 101]⟩, .str ⟨#[119, 104, 105, 108, 101]⟩, .str ⟨#[114, 101, 116, 117, 114, 110]⟩, .str ⟨#[112, 114, 105, 110, 116]⟩, .str ⟨#[114, 101, 97, 100]⟩, .str ⟨#[97, 115, 115, 101, 114, 116]⟩, .str ⟨#[105, 110, 116]⟩, .str ⟨#[98, 111, 111, 108]⟩, .str ⟨#[116, 114, 117, 101]⟩, .str ⟨#[102, 97, 108, 115, 101]⟩] | 1 => some [.str ⟨#[61, 61]⟩, .str ⟨#[33, 61]⟩, .str ⟨#[60, 61]⟩, .str ⟨#[38, 38]⟩, .str ⟨#[124, 124]⟩, .str ⟨#[40]⟩, .str ⟨#[41]⟩, .str ⟨#[123]⟩, .str ⟨#[125]⟩, .str ⟨#[91]⟩, .str ⟨#[93]⟩, .str ⟨#[44]⟩, .str ⟨#[59]⟩, .str ⟨#[61]⟩, .str ⟨#[60]⟩, .str ⟨#[33]⟩, .str ⟨#[43]⟩, .str ⟨#[45]⟩, .str ⟨#[42]⟩, .str ⟨#[47]⟩, .str ⟨#[37]⟩] | _ => none
noncomputable def Sp : Pg where
 P := Tryd.prog
 gl := glTab
 pz := fun e => ([2] : List Nat).contains e
 keep := fun f => keepTab.getD f []
 own := fun t => match t with | 45 => [0] | 62 => [0] | 57 => [2, 3, 4, 5, 6] | 123 => [0] | _ => []
 joins := fun f => match f with | 51 => [2, 3] | _ => []
 nat := fun f => match f with | 21 => some (natJoin 9) | _ => none
 pan := fun f => match f with | 15 => some 53 | 27 => some 53 | 28 => some 53 | 29 => some 53 | 30 => some 53 | 31 => some 53 | 32 => some 53 | 33 => some 53 | 34 => some 53 | 35 => some 53 | 36 => some 53 | 37 => some 53 | 60 => some 148 | 70 => some 148 | 72 => some 148 | 74 => some 148 | 76 => some 148 | 79 => some 148 | 80 => some 148 | _ => none
 mutl := fun f => match f with  | _ => []
 dfs := true
 unr := fun f h => match f, h with | 30, 4 => 3 | _, _ => 0
 pre := fun f t => match f, t with | 28, 57 => some 2 | 26, 57 => some 2 | 37, 57 => some 2 | 31, 57 => some 2 | 36, 57 => some 2 | 27, 57 => some 2 | 30, 57 => some 2 | 33, 57 => some 2 | _, _ => none
 nbx := fun f => match f with | 29 => [9] | 32 => [9] | 34 => [9] | 35 => [9] | _ => []
 inl := fun f => match f with | 29 => true | 32 => true | 34 => true | 35 => true | _ => false
end Go.Proofs.YtmhnmelaodhemaaDoor
namespace Go.Proofs.Ab
open Go Go.ChangeShapes Go.WideShapes Go.ChangeAt Go.WideMaps Go.WideElems Go.RowKit
theorem laid_strings {H : Type} {enc : TypeId × Value -> H} {P : Program} {W : World} {base : Nat} {spare : Nat -> Bool} {held : Bool} {name : String} {g t e n fuel : Nat} {cs : Array Value} {ls : List (List UInt8)} {p : List MemPlace} (hg : P.globalNamed name = some g)
  (hu : P.underlying t = some (.array n e)) (he : P.underlying e = some .string) (hc : P.cellsOf e = 1) (hv : W.var? P name = some cs)
  (hd : DataW.trod enc P W base spare held fuel t cs.toList = some (.agg (ls.map fun l => .lit (.string l)), p)) : ∀ j l, ls[j]? = some l -> W.cell? ⟨g, j, none⟩ = some (.string ⟨l.toArray⟩) := by
 intro j l hj
 obtain ⟨xs, m, _, hx, hl, hn, hel⟩ := DataW.trod_array hu hd
 simp only [Prod.mk.injEq, DataW.agg.injEq] at hx
 obtain ⟨hx, _⟩ := hx
 have hlen : ls.length = xs.length := by
  have := congrArg List.length hx
  simpa using this
 have hjl : j < ls.length := (List.getElem?_eq_some_iff.1 hj).1
 have hjx : j < xs.length := by omega
 have h1 := hel j (by omega)
 rw [List.getElem?_eq_getElem hjx, hc] at h1
 obtain ⟨s, h2, h3, _⟩ := DataW.trod_string he h1
 have h4 : (xs.map (·.1))[j]? = some (.lit (.string l)) := by
  rw [<- hx, List.getElem?_map, hj]; rfl
 rw [List.getElem?_map, List.getElem?_eq_getElem hjx, h3] at h4
 have h5 : s.data.toList = l := by simpa using h4
 have h6 : s = ⟨l.toArray⟩ := by
  cases s with
  | mk d => subst h5; simp
 have h7 := World.var?_cell hg hv j
 rw [h7]
 have h8 : cs.toList[j]? = some (.string s) := by
  have h9 : ((cs.toList.drop (j * 1)).take 1)[0]? = some (.string s) := by rw [h2]; rfl
  rw [List.getElem?_take, if_pos (by omega), List.getElem?_drop] at h9
  simpa using h9
 rw [<- h6]
 simpa using h8
theorem gl_strings {P : Program} {W : World} {g : Nat} {ls : List (List UInt8)} (h : ∀ j l, ls[j]? = some l -> W.cell? ⟨g, j, none⟩ = some (.string ⟨l.toArray⟩)) :
  ∀ j, j < (ls.map fun l => V.str ⟨l.toArray⟩).length -> ∃ x, W.cell? ⟨g, j, none⟩ = some x ∧ x.oneCell' = true ∧ PRep P W (Before W) ((ls.map fun l => V.str ⟨l.toArray⟩).getD j .undef) x := by
 intro j hj
 have hj' : j < ls.length := by simpa using hj
 refine ⟨_, h j ls[j] (List.getElem?_eq_getElem hj'), rfl, ?_⟩
 rw [List.getD_eq_getElem?_getD, List.getElem?_map, List.getElem?_eq_getElem hj']
 exact .str _
end Go.Proofs.Ab
namespace Go.Proofs.YtmhnmelaodhemaaDoor
open Go Go.Shelf Go.Proofs Go.Proofs.Ab
def joinRen : Ren := ⟨fun | 156 => 21 | 165 => 41 | 166 => 42 | 169 => 43 | 240 => 55 | 241 => 56 | 276 => 67 | 277 => 68 | n => n, fun | 31 => 43 | 9 => 9 | 3 => 3 | 4 => 4 | 0 => 0 | 20 => 20 | 72 => 104 | 76 => 107 | 70 => 101 | 37 => 102 | 75 => 106 | 127 => 126 | 164 => 142 | 5 => 5 | 80 => 87 | n => n, fun n => n⟩
theorem joinLays : Lays.n156 Tryd.prog joinRen := { mixed := by kernel_rfl, f156 := Tryd.func21.trans (congrArg some (by kernel_rfl)), f165 := Tryd.func41.trans (congrArg some (by kernel_rfl)), f166 := Tryd.func42.trans (congrArg some (by kernel_rfl)), f169 := Tryd.func43.trans (congrArg some (by kernel_rfl)), f240 := Tryd.func55.trans (congrArg some (by kernel_rfl)), f241 := Tryd.func56.trans (congrArg some (by kernel_rfl)), f276 := Tryd.func67.trans (congrArg some (by kernel_rfl)), f277 := Tryd.func68.trans (congrArg some (by kernel_rfl)), t0 := Tryd.underlying0, a0 := Tryd.isAgg0, z0 := Tryd.sizeOf0, v0 := Tryd.zeroValue0, t3 := Tryd.underlying3, a3 := Tryd.isAgg3, z3 := Tryd.sizeOf3, v3 := Tryd.zeroValue3, t4 := Tryd.underlying4, a4 := Tryd.isAgg4, z4 := Tryd.sizeOf4, v4 := Tryd.zeroValue4, t9 := Tryd.underlying9, a9 := Tryd.isAgg9, z9 := Tryd.sizeOf9, v9 := Tryd.zeroValue9, t20 := Tryd.underlying20, a20 := Tryd.isAgg20, z20 := Tryd.sizeOf20, v20 := Tryd.zeroValue20, t31 := Tryd.underlying43, a31 := Tryd.isAgg43, z31 := Tryd.sizeOf43, v31 := Tryd.zeroValue43, t37 := Tryd.underlying102, a37 := Tryd.isAgg102, z37 := Tryd.sizeOf102, v37 := Tryd.zeroValue102, t70 := Tryd.underlying101, a70 := Tryd.isAgg101, z70 := Tryd.sizeOf101, v70 := Tryd.zeroValue101, t72 := Tryd.underlying104, a72 := Tryd.isAgg104, z72 := Tryd.sizeOf104, v72 := Tryd.zeroValue104, t75 := Tryd.underlying106, a75 := Tryd.isAgg106, z75 := Tryd.sizeOf106, v75 := Tryd.zeroValue106, t76 := Tryd.underlying107, a76 := Tryd.isAgg107, z76 := Tryd.sizeOf107, v76 := Tryd.zeroValue107, t127 := Tryd.underlying126, a127 := Tryd.isAgg126, z127 := Tryd.sizeOf126, v127 := Tryd.zeroValue126, t164 := Tryd.underlying142, a164 := Tryd.isAgg142, z164 := Tryd.sizeOf142, v164 := Tryd.zeroValue142 }
theorem joinExtra : Builder.Extra Tryd.prog joinRen := { sizeBuilder := by kernel_rfl, liesBuilder := by kernel_rfl, t5 := Tryd.underlying5, a5 := Tryd.isAgg5, z5 := Tryd.sizeOf5, v5 := Tryd.zeroValue5, infoByte := by kernel_rfl, cellsByte := by kernel_rfl, sizeByte := by kernel_rfl, neB5 := by decide }
theorem natJoin_at : NatOk Sp 21 (natJoin 9) := natJoin_ok (pg := Sp) ⟨_, Tryd.func21, by kernel_rfl, by kernel_rfl⟩ (by kernel_rfl) (fun a c sep w => Any.strings_Join_none joinLays joinExtra a c sep w) (fun bk o c xs sep w h1 h2 h3 h4 h5 => Any.strings_Join joinLays joinExtra bk o c xs sep w h1 h2 h3 h4 h5)
theorem nat_is (f : FuncId) : Sp.nat f = if f = 21 then some (natJoin 9) else none := by
 by_cases hf : f = 21
 ·subst hf; rfl
 ·rw [if_neg hf]
  show (match f with | 21 => some (natJoin 9) | _ => none) = none
  split
  ·exact absurd rfl hf
  ·rfl
theorem nat_ok : ∀ f g, Sp.nat f = some g -> NatOk Sp f g := by
 intro f g h
 rw [nat_is] at h
 split at h
 ·rename_i hf
  subst hf
  cases h; exact natJoin_at
 ·cases h
end Go.Proofs.YtmhnmelaodhemaaDoor
namespace Go.Proofs.YtmhnmelaodhemaaDoor
open Go Go.Proofs.Ab
theorem kd_p1 : den Sp decl_Parse.id [.str ⟨#[112, 97, 105, 114, 32, 102, 32, 103, 32, 59, 32, 115, 97, 109, 101, 32, 102, 32, 40, 32, 120, 32, 41, 32, 103, 32, 40, 32, 121, 32, 41, 32, 59, 32, 98, 114, 101, 97, 107, 32, 108, 101, 102, 116, 32, 102, 32, 50, 32, 119, 104, 101, 110, 32, 120, 32, 60, 32, 51, 32, 59]⟩] [] none = (some ⟨(Out.ret (V.tup [(V.agg [(V.sl Tok.no T_api_Pair [[(V.str (ByteArray.mk #[102])), (V.str (ByteArray.mk #[103])), (V.str (ByteArray.mk #[])), (V.str (ByteArray.mk #[]))]]), (V.sl Tok.no T_api_Pair [[(V.str (ByteArray.mk #[102])), (V.str (ByteArray.mk #[103])), (V.str (ByteArray.mk #[120])), (V.str (ByteArray.mk #[121]))]]), (V.sl Tok.no T_decl_Keep []), (V.sl Tok.no T_decl_Break [[(V.int IntKind.i64 (0 : Int)), (V.str (ByteArray.mk #[102])), (V.int IntKind.i64 (2 : Int)), (V.sl Tok.no T_api_Expr [[(V.int IntKind.i64 (6 : Int)), (V.str (ByteArray.mk #[60])), (V.int IntKind.i64 (0 : Int)), (V.sl Tok.no T_api_Expr [[(V.int IntKind.i64 (3 : Int)), (V.str (ByteArray.mk #[120])), (V.int IntKind.i64 (0 : Int)), (V.sl Tok.no T_api_Expr [])], [(V.int IntKind.i64 (1 : Int)), (V.str (ByteArray.mk #[])), (V.int IntKind.i64 (3 : Int)), (V.sl Tok.no T_api_Expr [])]])]])]]), (V.sl Tok.no T_decl_Watch [])]), (V.int IntKind.i64 (0 : Int)), (V.int IntKind.i64 (0 : Int))])), [], none⟩) :=
 callN_le Sp 90 40 (by kernel_rfl)
theorem kd_p2 : den Sp decl_Parse.id [.str ⟨#[112, 97, 105, 114, 32, 102, 32, 59]⟩] [] none = (some ⟨(Out.ret (V.tup [(V.agg [(V.sl Tok.no T_api_Pair []), (V.sl Tok.no T_api_Pair []), (V.sl Tok.no T_decl_Keep []), (V.sl Tok.no T_decl_Break []), (V.sl Tok.no T_decl_Watch [])]), (V.int IntKind.i64 (7 : Int)), (V.int IntKind.i64 (30 : Int))])), [], none⟩) :=
 callN_le Sp 90 40 (by kernel_rfl)
theorem kd_pr : den Sp decl_Print.id [(V.agg [(V.sl Tok.no T_api_Pair [[(V.str (ByteArray.mk #[102])), (V.str (ByteArray.mk #[103])), (V.str (ByteArray.mk #[])), (V.str (ByteArray.mk #[]))]]), (V.sl Tok.no T_api_Pair [[(V.str (ByteArray.mk #[102])), (V.str (ByteArray.mk #[103])), (V.str (ByteArray.mk #[120])), (V.str (ByteArray.mk #[121]))]]), (V.sl Tok.no T_decl_Keep []), (V.sl Tok.no T_decl_Break [[(V.int IntKind.i64 (0 : Int)), (V.str (ByteArray.mk #[102])), (V.int IntKind.i64 (2 : Int)), (V.sl Tok.no T_api_Expr [[(V.int IntKind.i64 (6 : Int)), (V.str (ByteArray.mk #[60])), (V.int IntKind.i64 (0 : Int)), (V.sl Tok.no T_api_Expr [[(V.int IntKind.i64 (3 : Int)), (V.str (ByteArray.mk #[120])), (V.int IntKind.i64 (0 : Int)), (V.sl Tok.no T_api_Expr [])], [(V.int IntKind.i64 (1 : Int)), (V.str (ByteArray.mk #[])), (V.int IntKind.i64 (3 : Int)), (V.sl Tok.no T_api_Expr [])]])]])]]), (V.sl Tok.no T_decl_Watch [])])] [] none = (some ⟨(Out.ret (V.tup [(V.str (ByteArray.mk #[112, 97, 105, 114, 32, 102, 32, 103, 32, 59, 32, 115, 97, 109, 101, 32, 102, 32, 40, 32, 120, 32, 41, 32, 103, 32, 40, 32, 121, 32, 41, 32, 59, 32, 98, 114, 101, 97, 107, 32, 108, 101, 102, 116, 32, 102, 32, (UInt8.ofBitVec (BitVec.ofFin (Fin.mk 50 (Nat.mod_lt (Int.toNat (IntKind.wrap IntKind.u8 (IntKind.wrap IntKind.u64 ((48 : Int) + (Int.tmod (IntKind.wrap IntKind.u64 (2 : Int)) (10 : Int)))))) (BitVec.ofNat._proof_1 8))))), 32, 119, 104, 101, 110, 32, (UInt8.ofBitVec (BitVec.ofFin (Fin.mk 120 (Nat.mod_lt (Int.toNat (((UInt8.toNat 120) : Nat) : Int)) (BitVec.ofNat._proof_1 8))))), (UInt8.ofBitVec (BitVec.ofFin (Fin.mk 32 (Nat.mod_lt (Int.toNat (32 : Int)) (BitVec.ofNat._proof_1 8))))), (UInt8.ofBitVec (BitVec.ofFin (Fin.mk 60 (Nat.mod_lt (Int.toNat (((UInt8.toNat 60) : Nat) : Int)) (BitVec.ofNat._proof_1 8))))), (UInt8.ofBitVec (BitVec.ofFin (Fin.mk 32 (Nat.mod_lt (Int.toNat (32 : Int)) (BitVec.ofNat._proof_1 8))))), (UInt8.ofBitVec (BitVec.ofFin (Fin.mk 51 (Nat.mod_lt (Int.toNat (((UInt8.toNat (UInt8.ofNat (Int.toNat (IntKind.wrap IntKind.u8 (IntKind.wrap IntKind.u64 ((48 : Int) + (Int.tmod (IntKind.wrap IntKind.u64 (3 : Int)) (10 : Int)))))))) : Nat) : Int)) (BitVec.ofNat._proof_1 8))))), 32, 59])), (V.int IntKind.i64 (0 : Int))])), [], none⟩) :=
 callN_le Sp 90 40 (by kernel_rfl)
theorem kd_k : den Sp decl_Kept.id [(V.agg [(V.sl Tok.no T_api_Pair [[(V.str (ByteArray.mk #[102])), (V.str (ByteArray.mk #[103])), (V.str (ByteArray.mk #[])), (V.str (ByteArray.mk #[]))]]), (V.sl Tok.no T_api_Pair [[(V.str (ByteArray.mk #[102])), (V.str (ByteArray.mk #[103])), (V.str (ByteArray.mk #[120])), (V.str (ByteArray.mk #[121]))]]), (V.sl Tok.no T_decl_Keep []), (V.sl Tok.no T_decl_Break [[(V.int IntKind.i64 (0 : Int)), (V.str (ByteArray.mk #[102])), (V.int IntKind.i64 (2 : Int)), (V.sl Tok.no T_api_Expr [[(V.int IntKind.i64 (6 : Int)), (V.str (ByteArray.mk #[60])), (V.int IntKind.i64 (0 : Int)), (V.sl Tok.no T_api_Expr [[(V.int IntKind.i64 (3 : Int)), (V.str (ByteArray.mk #[120])), (V.int IntKind.i64 (0 : Int)), (V.sl Tok.no T_api_Expr [])], [(V.int IntKind.i64 (1 : Int)), (V.str (ByteArray.mk #[])), (V.int IntKind.i64 (3 : Int)), (V.sl Tok.no T_api_Expr [])]])]])]]), (V.sl Tok.no T_decl_Watch [])]), .int .i64 1] [] none = (some ⟨(Out.ret (V.sl Tok.no T_gen_Keep [[(V.str (ByteArray.mk #[103])), (V.str (ByteArray.mk #[121]))]])), [], none⟩) :=
 callN_le Sp 90 40 (by kernel_rfl)
end Go.Proofs.YtmhnmelaodhemaaDoor
namespace Go.Proofs.Ab
open Go
section
variable {R : Type}
@[simp] theorem onRet_ret (v : V) (bl : List Blk) (pn : Option (Option V)) (k : V -> Option R) : Res.onRet ⟨.ret v, bl, pn⟩ k = k v := rfl
@[simp] theorem bl_mk (o : Out) (bl : List Blk) (pn : Option (Option V)) : Res.bl ⟨o, bl, pn⟩ = bl := rfl
@[simp] theorem onOut_ret (v : V) (bl : List Blk) (pn : Option (Option V)) (k kp : V -> Option R) : Res.onOut ⟨.ret v, bl, pn⟩ k kp = k v := rfl
@[simp] theorem onOut_pan (v : V) (bl : List Blk) (pn : Option (Option V)) (k kp : V -> Option R) : Res.onOut ⟨.pan v, bl, pn⟩ k kp = kp v := rfl
@[simp] theorem onPn_none (o : Out) (bl : List Blk) (k0 : Option R) (k1 : V -> Option R) : Res.onPn ⟨o, bl, some none⟩ k0 k1 = k0 := rfl
@[simp] theorem onPn_some (o : Out) (bl : List Blk) (v : V) (k0 : Option R) (k1 : V -> Option R) : Res.onPn ⟨o, bl, some (some v)⟩ k0 k1 = k1 v := rfl
@[simp] theorem asBool_bool (b : Bool) (k : Bool -> Option R) : V.asBool (.bool b) k = k b := rfl
@[simp] theorem asStr_str (s : ByteArray) (k : ByteArray -> Option R) : V.asStr (.str s) k = k s := rfl
@[simp] theorem asInt_int (kd : IntKind) (n : Int) (k : Int -> Option R) : V.asInt (.int kd n) kd k = k n := by simp [V.asInt]
@[simp] theorem asSl_sl (t : Tok) (e : TypeId) (es : List (List V)) (k : List (List V) -> Option R) : V.asSl (.sl t e es) e k = k es := by simp [V.asSl]
@[simp] theorem asSlR_sl (p : Nat) (e : TypeId) (es : List (List V)) (k : List (List V) -> Option R) : V.asSlR (.sl (.row p) e es) p e k = k es := by simp [V.asSlR]
@[simp] theorem asIface_iface (t : TypeId) (v : V) (k : V -> Option R) : V.asIface (.iface t v) t k = k v := by simp [V.asIface]
@[simp] theorem asTup_tup (vs : List V) (n : Nat) (h : vs.length = n) (k : (Nat -> V) -> Option R) : V.asTup (.tup vs) n k = k (fun j => vs.getD j .undef) := by simp [V.asTup, h]
@[simp] theorem asAgg_agg (vs : List V) (n : Nat) (h : vs.length = n) (k : (Nat -> V) -> Option R) : V.asAgg (.agg vs) n k = k (fun j => vs.getD j .undef) := by simp [V.asAgg, h]
@[simp] theorem asTup_0 (k : (Nat -> V) -> Option R) : V.asTup (.tup []) 0 k = k (fun j => List.getD [] j .undef) := rfl
@[simp] theorem asAgg_0 (k : (Nat -> V) -> Option R) : V.asAgg (.agg []) 0 k = k (fun j => List.getD [] j .undef) := rfl
@[simp] theorem asCells_0 (t : TypeId) (k : (Nat -> V) -> Option R) : Blk.asCells (.cells t [] false) t 0 k = k (fun j => List.getD [] j .undef) := by simp [Blk.asCells]
@[simp] theorem asTup_1 (x0 : V) (k : (Nat -> V) -> Option R) : V.asTup (.tup [x0]) 1 k = k (fun j => List.getD [x0] j .undef) := rfl
@[simp] theorem asAgg_1 (x0 : V) (k : (Nat -> V) -> Option R) : V.asAgg (.agg [x0]) 1 k = k (fun j => List.getD [x0] j .undef) := rfl
@[simp] theorem asCells_1 (t : TypeId) (x0 : V) (k : (Nat -> V) -> Option R) : Blk.asCells (.cells t [x0] false) t 1 k = k (fun j => List.getD [x0] j .undef) := by simp [Blk.asCells]
@[simp] theorem asTup_2 (x0 x1 : V) (k : (Nat -> V) -> Option R) : V.asTup (.tup [x0, x1]) 2 k = k (fun j => List.getD [x0, x1] j .undef) := rfl
@[simp] theorem asAgg_2 (x0 x1 : V) (k : (Nat -> V) -> Option R) : V.asAgg (.agg [x0, x1]) 2 k = k (fun j => List.getD [x0, x1] j .undef) := rfl
@[simp] theorem asCells_2 (t : TypeId) (x0 x1 : V) (k : (Nat -> V) -> Option R) : Blk.asCells (.cells t [x0, x1] false) t 2 k = k (fun j => List.getD [x0, x1] j .undef) := by simp [Blk.asCells]
@[simp] theorem asTup_3 (x0 x1 x2 : V) (k : (Nat -> V) -> Option R) : V.asTup (.tup [x0, x1, x2]) 3 k = k (fun j => List.getD [x0, x1, x2] j .undef) := rfl
@[simp] theorem asAgg_3 (x0 x1 x2 : V) (k : (Nat -> V) -> Option R) : V.asAgg (.agg [x0, x1, x2]) 3 k = k (fun j => List.getD [x0, x1, x2] j .undef) := rfl
@[simp] theorem asCells_3 (t : TypeId) (x0 x1 x2 : V) (k : (Nat -> V) -> Option R) : Blk.asCells (.cells t [x0, x1, x2] false) t 3 k = k (fun j => List.getD [x0, x1, x2] j .undef) := by simp [Blk.asCells]
@[simp] theorem asTup_4 (x0 x1 x2 x3 : V) (k : (Nat -> V) -> Option R) : V.asTup (.tup [x0, x1, x2, x3]) 4 k = k (fun j => List.getD [x0, x1, x2, x3] j .undef) := rfl
@[simp] theorem asAgg_4 (x0 x1 x2 x3 : V) (k : (Nat -> V) -> Option R) : V.asAgg (.agg [x0, x1, x2, x3]) 4 k = k (fun j => List.getD [x0, x1, x2, x3] j .undef) := rfl
@[simp] theorem asCells_4 (t : TypeId) (x0 x1 x2 x3 : V) (k : (Nat -> V) -> Option R) : Blk.asCells (.cells t [x0, x1, x2, x3] false) t 4 k = k (fun j => List.getD [x0, x1, x2, x3] j .undef) := by simp [Blk.asCells]
@[simp] theorem asTup_5 (x0 x1 x2 x3 x4 : V) (k : (Nat -> V) -> Option R) : V.asTup (.tup [x0, x1, x2, x3, x4]) 5 k = k (fun j => List.getD [x0, x1, x2, x3, x4] j .undef) := rfl
@[simp] theorem asAgg_5 (x0 x1 x2 x3 x4 : V) (k : (Nat -> V) -> Option R) : V.asAgg (.agg [x0, x1, x2, x3, x4]) 5 k = k (fun j => List.getD [x0, x1, x2, x3, x4] j .undef) := rfl
@[simp] theorem asCells_5 (t : TypeId) (x0 x1 x2 x3 x4 : V) (k : (Nat -> V) -> Option R) : Blk.asCells (.cells t [x0, x1, x2, x3, x4] false) t 5 k = k (fun j => List.getD [x0, x1, x2, x3, x4] j .undef) := by simp [Blk.asCells]
@[simp] theorem asTup_6 (x0 x1 x2 x3 x4 x5 : V) (k : (Nat -> V) -> Option R) : V.asTup (.tup [x0, x1, x2, x3, x4, x5]) 6 k = k (fun j => List.getD [x0, x1, x2, x3, x4, x5] j .undef) := rfl
@[simp] theorem asAgg_6 (x0 x1 x2 x3 x4 x5 : V) (k : (Nat -> V) -> Option R) : V.asAgg (.agg [x0, x1, x2, x3, x4, x5]) 6 k = k (fun j => List.getD [x0, x1, x2, x3, x4, x5] j .undef) := rfl
@[simp] theorem asCells_6 (t : TypeId) (x0 x1 x2 x3 x4 x5 : V) (k : (Nat -> V) -> Option R) : Blk.asCells (.cells t [x0, x1, x2, x3, x4, x5] false) t 6 k = k (fun j => List.getD [x0, x1, x2, x3, x4, x5] j .undef) := by simp [Blk.asCells]
@[simp] theorem asTup_7 (x0 x1 x2 x3 x4 x5 x6 : V) (k : (Nat -> V) -> Option R) : V.asTup (.tup [x0, x1, x2, x3, x4, x5, x6]) 7 k = k (fun j => List.getD [x0, x1, x2, x3, x4, x5, x6] j .undef) := rfl
@[simp] theorem asAgg_7 (x0 x1 x2 x3 x4 x5 x6 : V) (k : (Nat -> V) -> Option R) : V.asAgg (.agg [x0, x1, x2, x3, x4, x5, x6]) 7 k = k (fun j => List.getD [x0, x1, x2, x3, x4, x5, x6] j .undef) := rfl
@[simp] theorem asCells_7 (t : TypeId) (x0 x1 x2 x3 x4 x5 x6 : V) (k : (Nat -> V) -> Option R) : Blk.asCells (.cells t [x0, x1, x2, x3, x4, x5, x6] false) t 7 k = k (fun j => List.getD [x0, x1, x2, x3, x4, x5, x6] j .undef) := by simp [Blk.asCells]
@[simp] theorem asArr_arr (i : Nat) (e : TypeId) (k : Option R) : V.asArr (.arr i e) i e k = k := by simp [V.asArr]
@[simp] theorem asCells_cells (t : TypeId) (cs : List V) (n : Nat) (h : cs.length = n) (k : (Nat -> V) -> Option R) : Blk.asCells (.cells t cs false) t n k = k (fun j => cs.getD j .undef) := by simp [Blk.asCells, h]
@[simp] theorem asVec_vec (t : TypeId) (es : List (List V)) (n : Nat) (h : es.length = n) (k : List (List V) -> Option R) : Blk.asVec (.vec t es false) t n k = k es := by simp [Blk.asVec, h]
end
theorem wrap_in {n : Int} (h0 : -9223372036854775808 <= n) (h1 : n <= 9223372036854775807) : IntKind.i64.wrap n = n := IntWalk.i64_in n ⟨h0, h1⟩
theorem wrap_nat {i : Nat} (h : i < 4611686018427387904) : IntKind.i64.wrap ((i : Int) + 1) = ((i + 1 : Nat) : Int) := by
 rw [wrap_in (by omega) (by omega)]; omega
theorem down {p : Nat -> Prop} {n : Nat} (h0 : p n) (hs : ∀ i, i < n -> p (i + 1) -> p i) : ∀ i, i <= n -> p i := by
 intro i hi
 obtain ⟨k, rfl⟩ : ∃ k, n = i + k := ⟨n - i, by omega⟩
 induction k generalizing i with
 | zero => exact h0
 | succ k ih =>
  refine hs i (by omega) (ih (i + 1) (by rw [show i + 1 + k = i + (k + 1) by omega]; exact h0) (fun j hj => hs j (by omega)) (by omega))
def allF (f : Nat -> Bool) (n i : Nat) : Bool := (List.range' i (n - i)).all f
theorem allF_end (f : Nat -> Bool) (n : Nat) : allF f n n = true := by simp [allF]
theorem allF_step {f : Nat -> Bool} {n i : Nat} (h : i < n) : allF f n i = (f i && allF f n (i + 1)) := by
 unfold allF
 rw [show n - i = (n - (i + 1)) + 1 by omega, List.range'_succ, List.all_cons]
theorem allF_iff {f : Nat -> Bool} {n i : Nat} : allF f n i = true ↔ ∀ j, i <= j -> j < n -> f j = true := by
 unfold allF
 rw [List.all_eq_true]
 constructor
 ·intro h j h1 h2; exact h j (by rw [List.mem_range'_1]; omega)
 ·intro h j hj; rw [List.mem_range'_1] at hj; exact h j hj.1 (by omega)
end Go.Proofs.Ab
namespace Go.Proofs.Px
open Go Go.Proofs.Ab
def letter (c : Int) : Bool := (decide (65 <= c) && decide (c <= 90)) || (decide (97 <= c) && decide (c <= 122))
def digit (c : Int) : Bool := decide (48 <= c) && decide (c <= 57)
def inner (c : Int) : Bool := letter c || digit c || c == 95
def keys : List ByteArray := [⟨#[112, 114, 111, 99]⟩, ⟨#[118, 97, 114]⟩, ⟨#[105, 102]⟩, ⟨#[101, 108, 115, 101]⟩, ⟨#[119, 104, 105, 108, 101]⟩, ⟨#[114, 101, 116, 117, 114, 110]⟩, ⟨#[112, 114, 105, 110, 116]⟩, ⟨#[114, 101, 97, 100]⟩, ⟨#[97, 115, 115, 101, 114, 116]⟩, ⟨#[105, 110, 116]⟩, ⟨#[98, 111, 111, 108]⟩, ⟨#[116, 114, 117, 101]⟩, ⟨#[102, 97, 108, 115, 101]⟩]
def isIn (s : ByteArray) (l : List ByteArray) : Bool := l.any fun k => decide (k = s)
def isKey (s : ByteArray) : Bool := isIn s keys
def isName (s : ByteArray) : Bool := decide (0 < s.size) && decide (s.size <= 40) && letter (byteAt s 0) && !isKey s && allF (fun i => inner (byteAt s i)) s.size 0
theorem isIn_step {s : ByteArray} {l : List ByteArray} {i : Nat} (h : i < l.length) : isIn s (l.drop i) = (decide (l[i] = s) || isIn s (l.drop (i + 1))) := by
 unfold isIn
 rw [List.drop_eq_getElem_cons h, List.any_cons]
theorem empty_iff (s : ByteArray) : s = ⟨#[]⟩ ↔ s.size = 0 := by
 constructor
 ·rintro rfl; rfl
 ·intro h
  cases s with
  | mk d =>
   have : d = #[] := Array.size_eq_zero_iff.1 h
   rw [this]
end Go.Proofs.Px
namespace Go.Proofs.Px
open Go Go.Proofs.Ab
def B (l : List UInt8) : ByteArray := ⟨l.toArray⟩
@[simp] theorem B_size (l : List UInt8) : (B l).size = l.length := by simp [B, ByteArray.size]
theorem B_inj {a b : List UInt8} : B a = B b ↔ a = b := by
 constructor
 ·intro h
  have : (B a).data.toList = (B b).data.toList := by rw [h]
  simpa [B] using this
 ·rintro rfl; rfl
@[simp] theorem B_dec (a b : List UInt8) : decide (B a = B b) = decide (a = b) := by
 by_cases h : a = b
 ·simp [h]
 ·simp [h, B_inj]
@[simp] theorem B_byte (l : List UInt8) (i : Nat) : byteAt (B l) i = ((l.getD i 0).toNat : Int) := by simp [byteAt, B]
@[simp] theorem B_extract (l : List UInt8) (i j : Nat) : (B l).extract i j = B ((l.drop i).take (j - i)) := by
 have h : ((B l).extract i j).data = (B ((l.drop i).take (j - i))).data := by
  rw [ByteArray.data_extract]
  apply Array.ext'
  simp [B, List.extract]
 cases h1 : (B l).extract i j
 cases h2 : B ((l.drop i).take (j - i))
 rw [h1, h2] at h
 simp at h
 rw [h]
@[simp] theorem B_append (a b : List UInt8) : B a ++ B b = B (a ++ b) := by
 have h : (B a ++ B b).data = (B (a ++ b)).data := by
  rw [ByteArray.data_append]
  simp [B]
 cases h1 : B a ++ B b
 cases h2 : B (a ++ b)
 rw [h1, h2] at h
 simp at h
 rw [h]
@[simp] theorem B_nil : (ByteArray.mk #[]) = B [] := rfl
def bv (l : List UInt8) : List (List V) := l.map fun b => [.int .u8 (b.toNat : Int)]
@[simp] theorem ofBytes_B (l : List UInt8) : ofBytes (B l) = bv l := by simp [ofBytes, B, bv]
@[simp] theorem bytesOk_bv (l : List UInt8) : bytesOk (bv l) = true := by
 induction l with
 | nil => rfl
 | cons a l ih => exact ih
@[simp] theorem toBytes_bv (l : List UInt8) : toBytes (bv l) = l := by
 induction l with
 | nil => rfl
 | cons a l ih =>
  show UInt8.ofNat (Int.toNat (a.toNat : Int)) :: toBytes (bv l) = a :: l
  rw [ih]; simp
@[simp] theorem bv_length (l : List UInt8) : (bv l).length = l.length := by simp [bv]
@[simp] theorem bv_append (a b : List UInt8) : bv a ++ bv b = bv (a ++ b) := by simp [bv]
theorem drop_cons {l : List UInt8} {i : Nat} (h : i < l.length) : l.drop i = l.getD i 0 :: l.drop (i + 1) := by
 rw [List.drop_eq_getElem_cons h, List.getD_eq_getElem?_getD, List.getElem?_eq_getElem h]; rfl
theorem byte_eq (a : UInt8) (n : Nat) (hn : n < 256) : ((a.toNat : Int) == (n : Int)) = (a == UInt8.ofNat n) := by
 have h : a = UInt8.ofNat n ↔ a.toNat = n := by
  constructor
  ·rintro rfl; simp; omega
  ·intro h; apply UInt8.toNat_inj.1; simp; omega
 by_cases h1 : a = UInt8.ofNat n
 ·rw [beq_iff_eq.2 h1]
  have := h.1 h1
  simp [this]
 ·have h2 : ¬ a.toNat = n := fun h3 => h1 (h.2 h3)
  have h3 : ¬ ((a.toNat : Int) = (n : Int)) := by omega
  rw [beq_eq_false_iff_ne.2 h1, beq_eq_false_iff_ne.2 h3]
end Go.Proofs.Px
namespace Go.Proofs.Px
open Go Go.Proofs.Ab Go.ChangeShapes Go.WideShapes Go.ChangeAt Go.WideMaps Go.WideElems Go.RowKit
def ZTok (z : Bool) (tok : Tok) (es : List (List V)) : Prop := if z = true then (tok = .nil ∧ es = []) ∨ tok = .nn else tok = .no
inductive Fits (P : Program) (pz : TypeId -> Bool) : TypeId -> List V -> Prop where
 | int {t : TypeId} {k : IntKind} {n : Int} {cs : List V} (h : P.underlying t = some (.int k)) (hw : (Lit.int k n).wf = true) (e : cs = [.int k n]) : Fits P pz t cs
 | bool {t : TypeId} {b : Bool} {cs : List V} (h : P.underlying t = some .bool) (e : cs = [.bool b]) : Fits P pz t cs
 | str {t : TypeId} {s : ByteArray} {cs : List V} (h : P.underlying t = some .string) (hw : s.size <= 140737488351232) (e : cs = [.str s]) : Fits P pz t cs
 | sl {t el : TypeId} {tok : Tok} {es : List (List V)} {cs : List V} (h : P.underlying t = some (.slice el)) (ht : ZTok (pz el) tok es) (hl : es.length * P.bytesOf el <= 140737488351232) (hm : es.length <= maxLen) (he : ∀ i, i < es.length -> Fits P pz el (es.getD i [])) (e : cs = [.sl tok el es]) : Fits P pz t cs
 | st {t : TypeId} {fs : Array Field} {ps : List (List V)} {cs : List V} (h : P.underlying t = some (.struct fs)) (hl : ps.length = fs.size) (he : ∀ (i : Nat) (f : Field), fs[i]? = some f -> Fits P pz f.type (ps.getD i [])) (e : cs = ps.flatten) : Fits P pz t cs
def Rep (P : Program) (W : World) (vs : List V) (cs : List Value) : Prop :=
 vs.length = cs.length ∧ ∀ j, j < cs.length -> PRep P W (Before W) (vs.getD j .undef) (cs.getD j Go.undef) ∧ (cs.getD j Go.undef).oneCell' = true
theorem Rep.one {P : Program} {W : World} {v : V} {x : Value} (h : PRep P W (Before W) v x) (ho : x.oneCell' = true) : Rep P W [v] [x] := by
 refine ⟨rfl, fun j hj => ?_⟩
 obtain rfl : j = 0 := by simp at hj; exact hj
 exact ⟨h, ho⟩
theorem Rep.app {P : Program} {W : World} {vs us : List V} {cs ds : List Value} (h : Rep P W vs cs) (g : Rep P W us ds) : Rep P W (vs ++ us) (cs ++ ds) := by
 refine ⟨by simp [h.1, g.1], fun j hj => ?_⟩
 rw [List.getD_eq_getElem?_getD, List.getD_eq_getElem?_getD, List.getElem?_append, List.getElem?_append, h.1]
 split
 ·rename_i hlt
  simpa [List.getD_eq_getElem?_getD] using h.2 j hlt
 ·rename_i hge
  have := g.2 (j - cs.length) (by rw [List.length_append] at hj; omega)
  simpa [List.getD_eq_getElem?_getD] using this
theorem Rep.nil {P : Program} {W : World} : Rep P W [] [] := ⟨rfl, fun j hj => by cases hj⟩
end Go.Proofs.Px
namespace Go.Proofs.Px
open Go Go.Proofs.Ab
def dgt (u : Nat) : UInt8 := UInt8.ofNat (48 + u % 10)
theorem dgt_nat (u : Nat) : (dgt u).toNat = 48 + u % 10 := by
 unfold dgt
 rw [UInt8.toNat_ofNat']; omega
def decGo : Nat -> Nat -> List UInt8 -> List UInt8
 | 0, _, acc => acc
 | f + 1, u, acc => if u / 10 = 0 then dgt u :: acc else decGo f (u / 10) (dgt u :: acc)
def dec (u : Nat) : List UInt8 := decGo 20 u []
def decs (n : Int) : List UInt8 := if n < 0 then 45 :: dec n.natAbs else dec n.natAbs
theorem decGo_more (f : Nat) : ∀ (g u : Nat) (acc : List UInt8), u < 10 ^ f -> f <= g -> 0 < f -> decGo g u acc = decGo f u acc := by
 induction f with
 | zero => intro _ _ _ _ _ h; omega
 | succ f ih =>
  intro g u acc h hg _
  obtain ⟨g, rfl⟩ : ∃ k, g = k + 1 := ⟨g - 1, by omega⟩
  unfold decGo
  by_cases h0 : u / 10 = 0
  ·rw [if_pos h0, if_pos h0]
  ·rw [if_neg h0, if_neg h0]
   have h1 : u / 10 < 10 ^ f := by
    rw [Nat.pow_succ] at h
    omega
   refine ih g _ _ h1 (by omega) ?_
   rcases Nat.eq_zero_or_pos f with rfl | h2
   ·simp at h1; omega
   ·exact h2
theorem dec_of (f u : Nat) (h : u < 10 ^ f) (hf : 0 < f) (hf2 : f <= 20) : dec u = decGo f u [] := decGo_more f 20 u [] h hf2 hf
theorem decGo_len : ∀ (f u : Nat) (acc : List UInt8), (decGo f u acc).length <= f + acc.length
 | 0, _, acc => by simp [decGo]
 | f + 1, u, acc => by
  unfold decGo
  split
  ·simp; omega
  ·have := decGo_len f (u / 10) (dgt u :: acc)
   simp at this; omega
theorem dec_len20 (u : Nat) : (dec u).length <= 20 := by
 have := decGo_len 20 u []
 exact this
theorem decs_len (n : Int) : (decs n).length <= 21 := by
 unfold decs
 have := dec_len20 n.natAbs
 split
 ·simp; omega
 ·omega
theorem decGo_digits : ∀ (f u : Nat) (acc : List UInt8), (∀ c ∈ acc, 48 <= c.toNat ∧ c.toNat <= 57) -> ∀ c ∈ decGo f u acc, 48 <= c.toNat ∧ c.toNat <= 57
 | 0, u, acc, h => h
 | f + 1, u, acc, h => by
  have h1 : ∀ c ∈ dgt u :: acc, 48 <= c.toNat ∧ c.toNat <= 57 := by
   intro c hc
   rcases List.mem_cons.1 hc with rfl | hc
   ·rw [dgt_nat]; omega
   ·exact h c hc
  unfold decGo
  split
  ·exact h1
  ·exact decGo_digits f (u / 10) _ h1
theorem dec_digits (u : Nat) : ∀ c ∈ dec u, 48 <= c.toNat ∧ c.toNat <= 57 := decGo_digits 20 u [] (fun c h => by cases h)
def worth (u : Nat) (l : List UInt8) : Nat := l.foldl (fun a c => a * 10 + (c.toNat - 48)) u
theorem worth_cons (u : Nat) (c : UInt8) (l : List UInt8) : worth u (c :: l) = worth (u * 10 + (c.toNat - 48)) l := by
 unfold worth
 exact List.foldl_cons ..
theorem decGo_worth (f : Nat) : ∀ (u : Nat) (acc : List UInt8), u < 10 ^ f -> 0 < f -> worth 0 (decGo f u acc) = worth u acc := by
 induction f with
 | zero => intro _ _ _ h; omega
 | succ f ih =>
  intro u acc h _
  have hd : (dgt u).toNat - 48 = u % 10 := by rw [dgt_nat]; omega
  unfold decGo
  by_cases h0 : u / 10 = 0
  ·rw [if_pos h0, worth_cons, hd, show 0 * 10 + u % 10 = u by omega]
  ·rw [if_neg h0]
   have h1 : u / 10 < 10 ^ f := by
    rw [Nat.pow_succ] at h
    omega
   rw [ih (u / 10) _ h1 (by
    rcases Nat.eq_zero_or_pos f with rfl | h2
    ·simp at h1; omega
    ·exact h2), worth_cons, hd, show u / 10 * 10 + u % 10 = u by omega]
theorem worth_nil (u : Nat) : worth u [] = u := by
 unfold worth
 exact List.foldl_nil
theorem dec_worth (u : Nat) (h : u < 10 ^ 20) : worth 0 (dec u) = u := by
 unfold dec
 rw [decGo_worth 20 u [] h (Nat.zero_lt_succ _), worth_nil]
theorem decGo_ne : ∀ (f u : Nat) (acc : List UInt8), 0 < f -> decGo f u acc ≠ []
 | 0, _, _, h => by omega
 | f + 1, u, acc, _ => by
  unfold decGo
  split
  ·simp
  ·rcases Nat.eq_zero_or_pos f with rfl | h
   ·simp [decGo]
   ·exact decGo_ne f _ _ h
theorem decGo_head (f : Nat) : ∀ (u : Nat) (acc : List UInt8), u < 10 ^ f -> 0 < f -> 0 < u -> (decGo f u acc).getD 0 0 ≠ 48 := by
 induction f with
 | zero => intro _ _ _ h; omega
 | succ f ih =>
  intro u acc h _ hu
  unfold decGo
  by_cases h0 : u / 10 = 0
  ·rw [if_pos h0]
   intro h2
   have h3 : (dgt u).toNat = (48 : UInt8).toNat := congrArg UInt8.toNat h2
   rw [dgt_nat] at h3
   have : (48 : UInt8).toNat = 48 := rfl
   omega
  ·rw [if_neg h0]
   have h1 : u / 10 < 10 ^ f := by
    rw [Nat.pow_succ] at h
    omega
   refine ih (u / 10) _ h1 ?_ (by omega)
   rcases Nat.eq_zero_or_pos f with rfl | h2
   ·simp at h1; omega
   ·exact h2
@[simp] theorem int_beq (a b : Int) : (a == b) = decide (a = b) := by by_cases h : a = b <;> simp [h]
@[simp] theorem int_bne (a b : Int) : (a != b) = !decide (a = b) := by by_cases h : a = b <;> simp [bne, h]
@[simp] theorem nat_neg_not (n : Nat) : (((n : Nat) : Int) < 0) = False := by simp
@[simp] theorem mk_B (l : List UInt8) : ByteArray.mk l.toArray = B l := rfl
@[simp] theorem B_eq (a b : List UInt8) : (B a = B b) = (a = b) := propext B_inj
def tkz (z : Bool) : Tok := if z then .nil else .nn
@[simp] theorem tkz_true : tkz true = .nil := rfl
@[simp] theorem tkz_false : tkz false = .nn := rfl
@[simp] theorem tokOf_tkz (z : Bool) (es : List (List V)) : tokOf true (tkz z) es = tkz z := by cases z <;> rfl
@[simp] theorem tokOf_nil (es : List (List V)) : tokOf true .nil es = .nil := rfl
@[simp] theorem tokOf_nn (es : List (List V)) : tokOf true .nn es = .nn := rfl
@[simp] theorem asSlN_nil {R : Type} (e : TypeId) (es : List (List V)) (k : Bool -> List (List V) -> Option R) : V.asSlN (.sl .nil e es) e k = k true es := by simp [V.asSlN]
@[simp] theorem asSlN_nn {R : Type} (e : TypeId) (es : List (List V)) (k : Bool -> List (List V) -> Option R) : V.asSlN (.sl .nn e es) e k = k false es := by simp [V.asSlN]
@[simp] theorem asSlN_tkz {R : Type} (z : Bool) (e : TypeId) (es : List (List V)) (k : Bool -> List (List V) -> Option R) : V.asSlN (.sl (tkz z) e es) e k = k z es := by cases z <;> simp
def sv (l : List (List UInt8)) : List (List V) := l.map fun s => [.str (B s)]
def iv (l : List Int) : List (List V) := l.map fun n => [.int .i64 n]
@[simp] theorem sv_len (l : List (List UInt8)) : (sv l).length = l.length := by simp [sv]
@[simp] theorem iv_len (l : List Int) : (iv l).length = l.length := by simp [iv]
@[simp] theorem sv_nil : sv [] = [] := rfl
@[simp] theorem iv_nil : iv [] = [] := rfl
@[simp] theorem iv_app (a b : List Int) : iv a ++ iv b = iv (a ++ b) := by simp [iv]
@[simp] theorem sv_app (a b : List (List UInt8)) : sv a ++ sv b = sv (a ++ b) := by simp [sv]
end Go.Proofs.Px
namespace Go.Proofs.YtmhnmelaodhemaaDoor
open Go Go.Proofs.Ab
namespace law12_known
theorem eq : den Sp id [] [] none =
  (den Sp decl_Parse.id [V.str (ByteArray.mk #[112, 97, 105, 114, 32, 102, 32, 103, 32, 59, 32, 115, 97, 109, 101, 32, 102, 32, 40, 32, 120, 32, 41, 32, 103, 32, 40, 32, 121, 32, 41, 32, 59, 32, 98, 114, 101, 97, 107, 32, 108, 101, 102, 116, 32, 102, 32, 50, 32, 119, 104, 101, 110, 32, 120, 32, 60, 32, 51, 32, 59])] [] none).bind (fun r2 => Res.onRet r2 (fun v3 => V.asTup v3 3 (fun rd4 => V.asAgg (rd4 0) 5 (fun rd5 => V.asSl (rd5 0) T_api_Pair (fun es6 => V.asSl (rd5 1) T_api_Pair (fun es7 => V.asSl (rd5 2) T_decl_Keep (fun es8 => V.asSl (rd5 3) T_decl_Break (fun es9 => V.asSl (rd5 4) T_decl_Watch (fun es10 => V.asInt (rd4 1) .i64 (fun n11 => V.asInt (rd4 2) .i64 (fun n12 => (den Sp decl_Parse.id [V.str (ByteArray.mk #[112, 97, 105, 114, 32, 102, 32, 59])] [] none).bind (fun r14 => Res.onRet r14 (fun v15 => V.asTup v15 3 (fun rd16 => V.asAgg (rd16 0) 5 (fun rd17 => V.asSl (rd17 0) T_api_Pair (fun es18 => V.asSl (rd17 1) T_api_Pair (fun es19 => V.asSl (rd17 2) T_decl_Keep (fun es20 => V.asSl (rd17 3) T_decl_Break (fun es21 => V.asSl (rd17 4) T_decl_Watch (fun es22 => V.asInt (rd16 1) .i64 (fun n23 => V.asInt (rd16 2) .i64 (fun n24 => (den Sp decl_Print.id [V.agg [V.sl .no T_api_Pair es6, V.sl .no T_api_Pair es7, V.sl .no T_decl_Keep es8, V.sl .no T_decl_Break es9, V.sl .no T_decl_Watch es10]] [] none).bind (fun r26 => Res.onRet r26 (fun v27 => V.asTup v27 2 (fun rd28 => V.asStr (rd28 0) (fun s29 => V.asInt (rd28 1) .i64 (fun n30 => (den Sp decl_Kept.id [V.agg [V.sl .no T_api_Pair es6, V.sl .no T_api_Pair es7, V.sl .no T_decl_Keep es8, V.sl .no T_decl_Break es9, V.sl .no T_decl_Watch es10], V.int .i64 (1 : Int)] [] none).bind (fun r32 => Res.onRet r32 (fun v33 => V.asSl v33 T_gen_Keep (fun es34 => bif (n12 == (0 : Int)) then (bif ((es6.length : Int) == (1 : Int)) then (bif ((es7.length : Int) == (1 : Int)) then (bif ((es9.length : Int) == (1 : Int)) then (bif (n24 == (30 : Int)) then (bif (n23 == (7 : Int)) then (bif (n30 == (0 : Int)) then (bif (decide (s29 = (ByteArray.mk #[112, 97, 105, 114, 32, 102, 32, 103, 32, 59, 32, 115, 97, 109, 101, 32, 102, 32, 40, 32, 120, 32, 41, 32, 103, 32, 40, 32, 121, 32, 41, 32, 59, 32, 98, 114, 101, 97, 107, 32, 108, 101, 102, 116, 32, 102, 32, 50, 32, 119, 104, 101, 110, 32, 120, 32, 60, 32, 51, 32, 59]))) then (bif ((es34.length : Int) == (1 : Int)) then (if (((0 : Int) <= (0 : Int)) ∧ ((0 : Int) < (es34.length : Int))) then (V.asStr (List.getD (List.getD es34 0 []) 1 V.undef) (fun s36 => some ⟨Out.ret (V.bool (decide (s36 = (ByteArray.mk #[121])))), [], none⟩)) else none) else (some ⟨Out.ret (V.bool false), [], none⟩)) else (some ⟨Out.ret (V.bool false), [], none⟩)) else (some ⟨Out.ret (V.bool false), [], none⟩)) else (some ⟨Out.ret (V.bool false), [], none⟩)) else (some ⟨Out.ret (V.bool false), [], none⟩)) else (some ⟨Out.ret (V.bool false), [], none⟩)) else (some ⟨Out.ret (V.bool false), [], none⟩)) else (some ⟨Out.ret (V.bool false), [], none⟩)) else (some ⟨Out.ret (V.bool false), [], none⟩))))))))))))))))))))))))))))))) := (den_eq ..).trans (by kernel_rfl)
end law12_known
end Go.Proofs.YtmhnmelaodhemaaDoor
namespace Go.Proofs.YtmhnmelaodhemaaDoor
open Go Go.Proofs.Ab Go.Proofs.Px
theorem law12_known_is : den Sp law12_known.id [] [] none = some ⟨.ret (.bool true), [], none⟩ := by
 rw [law12_known.eq]
 simp only [kd_p1, kd_p2, kd_pr, kd_k, Option.bind_some, onRet_ret, asAgg_agg, asTup_tup, List.length_cons, List.length_nil, Nat.zero_add, Nat.reduceAdd, List.getD_cons_zero, List.getD_cons_succ, asInt_int, asStr_str, asSl_sl, asBool_bool, bne_self_eq_false, cond_false]
 rfl
inductive Ex where
 | mk (kind : Int) (name : List UInt8) (num : Int) (l : List Ex)
instance : Inhabited Ex := ⟨.mk 0 [] 0 []⟩
def Ex.kind : Ex -> Int | .mk k _ _ _ => k
def Ex.name : Ex -> List UInt8 | .mk _ n _ _ => n
def Ex.num : Ex -> Int | .mk _ _ m _ => m
def Ex.l : Ex -> List Ex | .mk _ _ _ l => l
mutual
def Ex.v : Ex -> List V
 | .mk k n m l => [.int .i64 k, .str (B n), .int .i64 m, .sl .no T_api_Expr (Ex.vs l)]
def Ex.vs : List Ex -> List (List V)
 | [] => []
 | x :: l => Ex.v x :: Ex.vs l
end
theorem Ex.vs_map : ∀ l : List Ex, Ex.vs l = l.map Ex.v
 | [] => by rw [Ex.vs]; rfl
 | x :: l => by rw [Ex.vs, Ex.vs_map l]; rfl
theorem Ex.v_mk (k : Int) (n : List UInt8) (m : Int) (l : List Ex) : Ex.v (.mk k n m l) = [.int .i64 k, .str (B n), .int .i64 m, .sl .no T_api_Expr (l.map Ex.v)] := by rw [Ex.v, Ex.vs_map]
theorem Ex.v_is (x : Ex) : x.v = [.int .i64 x.kind, .str (B x.name), .int .i64 x.num, .sl .no T_api_Expr (x.l.map Ex.v)] := by cases x; exact Ex.v_mk ..
mutual
theorem Ex.ind {p : Ex -> Prop} (h : ∀ k n m l, (∀ x ∈ l, p x) -> p (.mk k n m l)) : ∀ x, p x
 | .mk k n m l => h k n m l (Ex.inds h l)
theorem Ex.inds {p : Ex -> Prop} (h : ∀ k n m l, (∀ x ∈ l, p x) -> p (.mk k n m l)) : ∀ (l : List Ex) (x : Ex), x ∈ l -> p x
 | [] => nofun
 | y :: l => fun x hx => (List.mem_cons.1 hx).elim (fun e => e ▸ Ex.ind h y) (Ex.inds h l x)
end
inductive ExOk : Ex -> Prop where
 | mk {k : Int} {n : List UInt8} {m : Int} {l : List Ex} (hk : (Lit.int .i64 k).wf = true) (hn : n.length <= 140737488351232) (hm : (Lit.int .i64 m).wf = true) (hl : l.length <= 140737488351232) (h : ∀ x ∈ l, ExOk x) : ExOk (.mk k n m l)
theorem ExOk.inv {k : Int} {n : List UInt8} {m : Int} {l : List Ex} (h : ExOk (.mk k n m l)) : (Lit.int .i64 k).wf = true ∧ n.length <= 140737488351232 ∧ (Lit.int .i64 m).wf = true ∧ l.length <= 140737488351232 ∧ ∀ x ∈ l, ExOk x := by
 cases h with
 | mk hk hn hm hl h => exact ⟨hk, hn, hm, hl, h⟩
mutual
def Ex.size : Ex -> Nat
 | .mk _ n _ l => 1 + n.length / 8 + Ex.sizes l
def Ex.sizes : List Ex -> Nat
 | [] => 0
 | x :: l => Ex.size x + Ex.sizes l
end
@[simp] theorem Ex.v_0 (x : Ex) : x.v.getD 0 .undef = .int .i64 x.kind := by rw [Ex.v_is]; rfl
@[simp] theorem Ex.v_1 (x : Ex) : x.v.getD 1 .undef = .str (B x.name) := by rw [Ex.v_is]; rfl
@[simp] theorem Ex.v_2 (x : Ex) : x.v.getD 2 .undef = .int .i64 x.num := by rw [Ex.v_is]; rfl
@[simp] theorem Ex.v_3 (x : Ex) : x.v.getD 3 .undef = .sl .no T_api_Expr (x.l.map Ex.v) := by rw [Ex.v_is]; rfl
@[simp] theorem Ex.kind_mk (k : Int) (s : List UInt8) (m : Int) (l : List Ex) : (Ex.mk k s m l).kind = k := rfl
@[simp] theorem Ex.name_mk (k : Int) (s : List UInt8) (m : Int) (l : List Ex) : (Ex.mk k s m l).name = s := rfl
@[simp] theorem Ex.num_mk (k : Int) (s : List UInt8) (m : Int) (l : List Ex) : (Ex.mk k s m l).num = m := rfl
@[simp] theorem Ex.l_mk (k : Int) (s : List UInt8) (m : Int) (l : List Ex) : (Ex.mk k s m l).l = l := rfl
@[simp] theorem Ex.v_list (x : Ex) : [V.int .i64 x.kind, V.str (B x.name), V.int .i64 x.num, V.sl .no T_api_Expr (x.l.map Ex.v)] = x.v := by rw [Ex.v_is]
@[simp] theorem asAgg_ex (x : Ex) (k : (Nat -> V) -> Option Res) : V.asAgg (.agg x.v) 4 k = k (fun j => x.v.getD j .undef) := asAgg_agg _ _ (by rw [Ex.v_is]; rfl) k
@[simp] theorem Ex.q0 (x : Ex) : x.v[0]?.getD V.undef = .int .i64 x.kind := by rw [Ex.v_is]; rfl
@[simp] theorem Ex.q1 (x : Ex) : x.v[1]?.getD V.undef = .str (B x.name) := by rw [Ex.v_is]; rfl
@[simp] theorem Ex.q2 (x : Ex) : x.v[2]?.getD V.undef = .int .i64 x.num := by rw [Ex.v_is]; rfl
@[simp] theorem Ex.q3 (x : Ex) : x.v[3]?.getD V.undef = .sl .no T_api_Expr (x.l.map Ex.v) := by rw [Ex.v_is]; rfl
end Go.Proofs.YtmhnmelaodhemaaDoor
namespace Go.Proofs.Px
open Go Go.Proofs.Ab
def lt (c : UInt8) : Bool := letter (c.toNat : Int)
def dg (c : UInt8) : Bool := digit (c.toNat : Int)
def inn (c : UInt8) : Bool := inner (c.toNat : Int)
def sk : Bool -> List UInt8 -> List UInt8
 | _, [] => []
 | rm, c :: r => if c = 10 then sk false r else if rm then sk true r else if c = 32 then sk false r else if c = 35 then sk true r else c :: r
theorem sk_le : ∀ (rm : Bool) (l : List UInt8), (sk rm l).length <= l.length
 | _, [] => Nat.le_refl _
 | rm, c :: r => by
  have h1 := sk_le false r
  have h2 := sk_le true r
  unfold sk
  split
  ·simp; omega
  ·split
   ·simp; omega
   ·split
    ·simp; omega
    ·split
     ·simp; omega
     ·simp
theorem sk_drop : ∀ (rm : Bool) (l : List UInt8), sk rm l = l.drop (l.length - (sk rm l).length)
 | _, [] => rfl
 | rm, c :: r => by
  have key : ∀ rm', sk rm' r = (c :: r).drop ((c :: r).length - (sk rm' r).length) := fun rm' => by
   have h1 := sk_le rm' r
   have h2 := sk_drop rm' r
   rw [show (c :: r).length - (sk rm' r).length = (r.length - (sk rm' r).length) + 1 by simp; omega, List.drop_succ_cons, <- h2]
  unfold sk
  split
  ·exact key false
  ·split
   ·exact key true
   ·split
    ·exact key false
    ·split
     ·exact key true
     ·simp
def word (l : List UInt8) : List UInt8 := l.takeWhile inn
def signs : List (List UInt8) := [[61, 61], [33, 61], [60, 61], [38, 38], [124, 124], [40], [41], [123], [125], [91], [93], [44], [59], [61], [60], [33], [43], [45], [42], [47], [37]]
def signIn (l : List UInt8) : List (List UInt8) -> List UInt8
 | [] => []
 | x :: r => if l.take x.length = x then x else signIn l r
def sign (l : List UInt8) : List UInt8 := signIn l signs
def valF (u : Nat) : List UInt8 -> Nat
 | [] => u
 | c :: r => valF (u * 10 + (c.toNat - 48)) r
def parseGo (u : Nat) : List UInt8 -> Int × Int
 | [] => if u = 9223372036854775808 then (0, 10) else ((u : Int), 0)
 | c :: r => if dg c ∧ u * 10 + (c.toNat - 48) <= 9223372036854775808 then parseGo (u * 10 + (c.toNat - 48)) r else (0, 10)
def parse (w : List UInt8) : Int × Int := if w.getD 0 0 ≠ 48 ∨ w.length = 1 then parseGo 0 w else (0, 10)
structure Tk where
 kind : Int
 text : List UInt8
 num : Int
 at_ : Int
def Tk.v (t : Tk) : List V := [.int .i64 t.kind, .str (B t.text), .int .i64 t.num, .int .i64 t.at_]
def keysL : List (List UInt8) := [[112, 114, 111, 99], [118, 97, 114], [105, 102], [101, 108, 115, 101], [119, 104, 105, 108, 101], [114, 101, 116, 117, 114, 110], [112, 114, 105, 110, 116], [114, 101, 97, 100], [97, 115, 115, 101, 114, 116], [105, 110, 116], [98, 111, 111, 108], [116, 114, 117, 101], [102, 97, 108, 115, 101]]
theorem isKey_B (l : List UInt8) : isKey (B l) = keysL.any fun k => decide (k = l) := by
 have : keys = keysL.map B := rfl
 unfold isKey isIn
 rw [this, List.any_map]
 congr 1
 funext k
 exact B_dec k l
def isKeyL (l : List UInt8) : Bool := keysL.any fun k => decide (k = l)
def next (r : List UInt8) (at_ : Int) : Tk × Nat × Bool :=
 match r with
 | [] => (⟨0, [], 0, at_⟩, 0, true)
 | c :: _ =>
  if lt c then (⟨if isKeyL (word r) then 3 else 1, word r, 0, at_⟩, (word r).length, decide ((word r).length <= 40))
  else if dg c then (⟨2, [], (parse (word r)).1, at_⟩, (word r).length, decide ((parse (word r)).2 = 0))
  else (⟨4, sign r, 0, at_⟩, (sign r).length, !decide (sign r = []))
def scanGo : Nat -> Nat -> List Tk -> List UInt8 -> List Tk × Int × Int
 | 0, _, _, _ => ([], 0, 0)
 | f + 1, n, out, r =>
  let r1 := sk false r
  let a : Int := ((n - r1.length : Nat) : Int)
  let x := next r1 a
  if x.2.2 = false then ([], a, 20) else if out.length = 4000 then ([], a, 2) else if x.1.kind = 0 then (out ++ [x.1], 0, 0) else scanGo f n (out ++ [x.1]) (r1.drop x.2.1)
theorem scanGo_succ (f n : Nat) (out : List Tk) (r : List UInt8) : scanGo (f + 1) n out r =
  if (next (sk false r) ((n - (sk false r).length : Nat) : Int)).2.2 = false then ([], ((n - (sk false r).length : Nat) : Int), 20) else if out.length = 4000 then ([], ((n - (sk false r).length : Nat) : Int), 2) else
   if (next (sk false r) ((n - (sk false r).length : Nat) : Int)).1.kind = 0 then (out ++ [(next (sk false r) ((n - (sk false r).length : Nat) : Int)).1], 0, 0) else
    scanGo f n (out ++ [(next (sk false r) ((n - (sk false r).length : Nat) : Int)).1]) ((sk false r).drop (next (sk false r) ((n - (sk false r).length : Nat) : Int)).2.1) := rfl
def scan (l : List UInt8) : List Tk × Int × Int := if l.length > 16384 then ([], 0, 2) else scanGo (l.length + 1) l.length [] l
theorem i64_bounds {n : Int} (h : (Lit.int .i64 n).wf = true) : -9223372036854775808 <= n ∧ n <= 9223372036854775807 := by
 simpa [Lit.wf, IntKind.min, IntKind.max, IntKind.signed, IntKind.bits] using h
structure TkOk (t : Tk) : Prop where
 text : t.text.length <= 140737488351232
 kind : (Lit.int .i64 t.kind).wf = true
 num : (Lit.int .i64 t.num).wf = true
 at_ : (Lit.int .i64 t.at_).wf = true
def isSign (l : List UInt8) : Bool := signs.contains l
theorem signIn_or (r : List UInt8) : ∀ l, signIn r l = [] ∨ signIn r l ∈ l
 | [] => .inl rfl
 | x :: l => by
  unfold signIn
  split
  ·exact .inr List.mem_cons_self
  ·exact (signIn_or r l).imp id (List.mem_cons_of_mem _)
theorem sign_self (l : List UInt8) : (!decide (l = []) && decide (sign l = l)) = isSign l := by
 have h1 : signs.all (fun x => !decide (x = []) && decide (sign x = x)) = true := by decide
 by_cases h : l ∈ signs
 ·rw [List.all_eq_true.1 h1 l h]
  exact (List.contains_iff_mem.2 h).symm
 ·have h2 : isSign l = false := by
   unfold isSign
   rw [<- Bool.not_eq_true, List.contains_iff_mem]; exact h
  rw [h2]
  by_cases h3 : l = []
  ·rw [decide_eq_true h3]; rfl
  ·by_cases h4 : sign l = l
   ·rcases signIn_or l signs with h5 | h5
    ·exact absurd (h4.symm.trans h5) h3
    ·unfold sign at h4
     rw [h4] at h5
     exact absurd h5 h
   ·rw [decide_eq_false h4, Bool.and_false]
theorem word_all : ∀ {l : List UInt8} (h : ∀ c ∈ l, inn c = true), word l = l
 | [], _ => rfl
 | c :: l, h => by
  have := word_all (l := l) fun d hd => h d (List.mem_cons_of_mem _ hd)
  unfold word at *
  rw [List.takeWhile_cons, h c List.mem_cons_self, if_pos rfl, this]
theorem name_facts {l : List UInt8} (h : isName (B l) = true) : l ≠ [] ∧ l.length <= 40 ∧ lt (l.getD 0 0) = true ∧ isKeyL l = false ∧ word l = l := by
 unfold isName at h
 simp only [Bool.and_eq_true, decide_eq_true_eq, Bool.not_eq_true', B_size, B_byte] at h
 obtain ⟨⟨⟨⟨h1, h2⟩, h3⟩, h4⟩, h5⟩ := h
 refine ⟨fun h0 => (by subst h0; simp at h1), h2, h3, (isKey_B l).symm.trans h4, word_all fun c hc => ?_⟩
 obtain ⟨i, hi, rfl⟩ := List.getElem_of_mem hc
 have := allF_iff.1 h5 i (Nat.zero_le _) hi
 rw [List.getD_eq_getElem?_getD, List.getElem?_eq_getElem hi] at this
 exact this
theorem key_facts {l : List UInt8} (h : isKeyL l = true) : l ≠ [] ∧ l.length <= 40 ∧ lt (l.getD 0 0) = true ∧ word l = l := by
 have h1 : keysL.all (fun x => !decide (x = []) && decide (x.length <= 40) && lt (x.getD 0 0) && decide (word x = x)) = true := by decide
 unfold isKeyL at h
 obtain ⟨k, hk, h2⟩ := List.any_eq_true.1 h
 obtain rfl := of_decide_eq_true h2
 have := List.all_eq_true.1 h1 k hk
 simp only [Bool.and_eq_true, decide_eq_true_eq, Bool.not_eq_true', decide_eq_false_iff_not] at this
 exact ⟨this.1.1.1, this.1.1.2, this.1.2, this.2⟩
def wrOk (t : Tk) : Bool :=
 if t.kind = 1 then decide (t.num = 0) && isName (B t.text) else if t.kind = 3 then decide (t.num = 0) && isKeyL t.text else
  if t.kind = 4 then decide (t.num = 0) && isSign t.text else if t.kind = 2 then decide (t.text = []) && decide (0 <= t.num) else false
def wrT (t : Tk) : List UInt8 := if t.kind = 2 then decs t.num else t.text
def endT (t : Tk) : Bool := decide (t.kind = 0) && decide (t.text = []) && decide (t.num = 0)
def rightL : List Tk -> Bool
 | [] => false
 | [t] => endT t
 | t :: u :: l => wrOk t && rightL (u :: l)
def joinL : List (List UInt8) -> List UInt8
 | [] => []
 | [w] => w
 | w :: v :: l => w ++ (32 :: joinL (v :: l))
end Go.Proofs.Px
namespace Go.Proofs.YtmhnmelaodhemaaDoor
open Go Go.Proofs.Ab Go.Proofs.Px
def tk (l : List Tk) (k : Nat) : Tk := l.getD k ⟨0, [], 0, 0⟩
def isT (t : Tk) (s : List UInt8) : Bool := (decide (t.kind = 3) || decide (t.kind = 4)) && decide (t.text = s)
def opensT (t : Tk) : Bool := decide (t.kind = 1) || decide (t.kind = 2) || isT t [116, 114, 117, 101] || isT t [102, 97, 108, 115, 101] || isT t [40] || isT t [45] || isT t [33]
def levelT (s : List UInt8) : Int :=
 if s = [124, 124] then 1 else if s = [38, 38] then 2 else if s = [61, 61] then 3 else if s = [33, 61] then 3 else if s = [60] then 3 else if s = [60, 61] then 3
 else if s = [43] then 4 else if s = [45] then 4 else if s = [42] then 5 else if s = [47] then 5 else if s = [37] then 5 else 0
def signT (t : Tk) : Int := if t.kind = 4 then levelT t.text else 0
abbrev Rd := Except (Int × Int) (Ex × Nat)
def partR (l : List Tk) (d : Int) (k : Nat) (r : Rd) : Rd := if opensT (tk l k) = false then .error ((tk l k).at_, 30) else if 60 < d then .error ((tk l k).at_, 31) else r
def wantR (l : List Tk) (s : List UInt8) (r : Rd) (f : Ex -> Ex) : Rd := match r with
 | .error e => .error e
 | .ok (x, k) => if isT (tk l k) s then .ok (f x, k + 1) else .error ((tk l k).at_, 30)
mutual
def oneW (l : List Tk) (d : Int) (k : Nat) : Rd :=
 if hk : k < l.length then
  if isT (tk l k) [45] = true ∨ isT (tk l k) [33] = true then
   partR l (d + 1) (k + 1) (match oneW l (d + 1) (k + 1) with | .error e => .error e | .ok (x, j) => .ok (.mk 5 (tk l k).text 0 [x], j))
  else if isT (tk l k) [40] = true then wantR l [41] (partR l (d + 1) (k + 1) (tightW l 1 (d + 1) (k + 1))) id
  else if isT (tk l k) [116, 114, 117, 101] = true then .ok (.mk 2 [] 1 [], k + 1)
  else if isT (tk l k) [102, 97, 108, 115, 101] = true then .ok (.mk 2 [] 0 [], k + 1)
  else if (tk l k).kind = 2 then .ok (.mk 1 [] (tk l k).num [], k + 1)
  else if (tk l k).kind ≠ 1 then .error ((tk l k).at_, 30)
  else if isT (tk l (k + 1)) [91] = true then wantR l [93] (partR l (d + 1) (k + 2) (tightW l 1 (d + 1) (k + 2))) (fun x => .mk 4 (tk l k).text 0 [x])
  else .ok (.mk 3 (tk l k).text 0 [], k + 1)
 else .error (0, 0)
termination_by (l.length - k, 0)
def tightW (l : List Tk) (n d : Int) (k : Nat) : Rd :=
 match oneW l d k with
 | .error e => .error e
 | .ok (x, j) => if h : k < j ∧ k < l.length then loopW l n d 5 x j else .error (0, 0)
termination_by (l.length - k, 1)
def loopW (l : List Tk) (n d most : Int) (x : Ex) (k : Nat) : Rd :=
 if hk : k < l.length then
  if signT (tk l k) = 0 ∨ signT (tk l k) < n ∨ most < signT (tk l k) then .ok (x, k)
  else match tightW l (signT (tk l k) + 1) d (k + 1) with
   | .error e => .error e
   | .ok (y, j) => if h : k < j then loopW l n d (if signT (tk l k) = 3 then 2 else signT (tk l k)) (.mk 6 (tk l k).text 0 [x, y]) j else .error (0, 0)
 else .error (0, 0)
termination_by (l.length - k, 2)
decreasing_by all_goals (simp_wf; first | omega | (apply Prod.Lex.left; omega) | (apply Prod.Lex.right; omega))
end
structure Ended (l : List Tk) : Prop where
 last : ∀ k, k < l.length -> ((tk l k).kind = 0 ↔ k + 1 = l.length)
theorem isT_kind {t : Tk} {s : List UInt8} (h : isT t s = true) : t.kind = 3 ∨ t.kind = 4 := by
 unfold isT at h
 simp only [Bool.and_eq_true, Bool.or_eq_true, decide_eq_true_eq] at h
 exact h.1
theorem Ended.next {l : List Tk} (hl : Ended l) {k : Nat} (hk : k < l.length) (h : (tk l k).kind ≠ 0) : k + 1 < l.length := by
 have := mt (hl.last k hk).2 h
 omega
theorem Ended.isT {l : List Tk} (hl : Ended l) {k : Nat} {s : List UInt8} (hk : k < l.length) (h : isT (tk l k) s = true) : k + 1 < l.length :=
 hl.next hk (by rcases isT_kind h with h | h <;> omega)
theorem partR_ok {l : List Tk} {d : Int} {k : Nat} {r : Rd} {x : Ex × Nat} (h : partR l d k r = .ok x) : r = .ok x := by
 unfold partR at h
 split at h
 ·cases h
 ·split at h
  ·cases h
  ·exact h
theorem wantR_ok {l : List Tk} {s : List UInt8} {r : Rd} {f : Ex -> Ex} {x : Ex × Nat} (h : wantR l s r f = .ok x) : ∃ y k, r = .ok (y, k) ∧ isT (tk l k) s = true ∧ x = (f y, k + 1) := by
 unfold wantR at h
 split at h
 ·cases h
 ·rename_i y k
  split at h
  ·rename_i c; exact ⟨y, k, rfl, c, (Except.ok.inj h).symm⟩
  ·cases h
theorem goes {l : List Tk} (hl : Ended l) : ∀ m k : Nat, l.length - k <= m -> k < l.length ->
  (∀ d x j, oneW l d k = .ok (x, j) -> k < j ∧ j < l.length) ∧ (∀ n d x j, tightW l n d k = .ok (x, j) -> k < j ∧ j < l.length) ∧ (∀ n d p y x j, loopW l n d p y k = .ok (x, j) -> k <= j ∧ j < l.length) := by
 intro m
 induction m with
 | zero => intro k h1 h2; omega
 | succ m ih =>
  intro k hm hk
  have one : ∀ d x j, oneW l d k = .ok (x, j) -> k < j ∧ j < l.length := by
   intro d x j h
   rw [oneW, dif_pos hk] at h
   split at h
   ·rename_i c
    have hk1 : k + 1 < l.length := by rcases c with c | c <;> exact hl.isT hk c
    have h := partR_ok h
    split at h
    ·cases h
    ·rename_i y i hy
     have := (ih (k + 1) (by omega) hk1).1 _ _ _ hy
     cases h; omega
   split at h
   ·rename_i c
    have hk1 := hl.isT hk c
    obtain ⟨y, i, h1, h2, h3⟩ := wantR_ok h
    have := (ih (k + 1) (by omega) hk1).2.1 _ _ _ _ (partR_ok h1)
    have := hl.isT this.2 h2
    cases h3; omega
   split at h
   ·rename_i c; have := hl.isT hk c; cases h; omega
   split at h
   ·rename_i c; have := hl.isT hk c; cases h; omega
   split at h
   ·rename_i c; have := hl.next hk (by omega); cases h; omega
   split at h
   ·cases h
   have hk1 : k + 1 < l.length := hl.next hk (by omega)
   split at h
   ·rename_i c
    have hk2 := hl.isT hk1 c
    obtain ⟨y, i, h1, h2, h3⟩ := wantR_ok h
    have := (ih (k + 2) (by omega) hk2).2.1 _ _ _ _ (partR_ok h1)
    have := hl.isT this.2 h2
    cases h3; omega
   ·cases h; omega
  have loop : ∀ n d p y x j, loopW l n d p y k = .ok (x, j) -> k <= j ∧ j < l.length := by
   intro n d p y x j h
   rw [loopW, dif_pos hk] at h
   split at h
   ·cases h; omega
   ·rename_i c
    have hk1 : k + 1 < l.length := hl.next hk (by
     intro h0; apply c; left; unfold signT; rw [if_neg (by omega)])
    split at h
    ·cases h
    ·rename_i z i hz
     have h1 := (ih (k + 1) (by omega) hk1).2.1 _ _ _ _ hz
     split at h
     ·have := (ih i (by omega) h1.2).2.2 _ _ _ _ _ _ h
      omega
     ·cases h
  refine ⟨one, fun n d x j h => ?_, loop⟩
  rw [tightW] at h
  split at h
  ·cases h
  ·rename_i y i hy
   have h1 := one _ _ _ hy
   split at h
   ·have := (ih i (by omega) h1.2).2.2 _ _ _ _ _ _ h
    omega
   ·cases h
theorem one_goes {l : List Tk} (hl : Ended l) {k : Nat} (hk : k < l.length) {d : Int} {x : Ex} {j : Nat} (h : oneW l d k = .ok (x, j)) : k < j ∧ j < l.length := (goes hl _ k (Nat.le_refl _) hk).1 _ _ _ h
theorem tight_goes {l : List Tk} (hl : Ended l) {k : Nat} (hk : k < l.length) {n d : Int} {x : Ex} {j : Nat} (h : tightW l n d k = .ok (x, j)) : k < j ∧ j < l.length := (goes hl _ k (Nat.le_refl _) hk).2.1 _ _ _ _ h
def levW (l : List Tk) (n d : Int) (x : Ex) (k : Nat) : Rd :=
 if hk : k < l.length then
  if signT (tk l k) ≠ n then .ok (x, k)
  else match tightW l (n + 1) d (k + 1) with
   | .error e => .error e
   | .ok (y, j) => if n = 3 then .ok (.mk 6 (tk l k).text 0 [x, y], j) else if h : k < j then levW l n d (.mk 6 (tk l k).text 0 [x, y]) j else .error (0, 0)
 else .error (0, 0)
termination_by l.length - k
def thenR (r : Rd) (f : Ex -> Nat -> Rd) : Rd := match r with | .error e => .error e | .ok (x, k) => f x k
theorem loop_lev {l : List Tk} (hl : Ended l) (n d : Int) (hn : 1 <= n) : ∀ m k : Nat, l.length - k <= m -> k < l.length -> ∀ (p : Int) (x : Ex), n <= p -> loopW l n d p x k = thenR (loopW l (n + 1) d p x k) (fun y j => levW l n d y j) := by
 intro m
 induction m with
 | zero => intro k h1 h2; omega
 | succ m ih =>
  intro k hm hk p x hp
  rw [loopW, loopW, dif_pos hk, dif_pos hk]
  by_cases c : signT (tk l k) = 0 ∨ signT (tk l k) < n ∨ p < signT (tk l k)
  ·rw [if_pos c, if_pos (by omega)]
   show _ = levW l n d x k
   rw [levW, dif_pos hk, if_pos (by omega)]
  ·rw [if_neg c]
   have hk1 : k + 1 < l.length := hl.next hk (by
    intro h0; apply c; left; unfold signT; rw [if_neg (by omega)])
   by_cases ct : signT (tk l k) = n
   ·rw [if_pos (show signT (tk l k) = 0 ∨ signT (tk l k) < n + 1 ∨ p < signT (tk l k) by omega)]
    show _ = levW l n d x k
    rw [levW, dif_pos hk, ct, if_neg (show ¬ n ≠ n from fun h => h rfl)]
    cases hy : tightW l (n + 1) d (k + 1) with
    | error e => rfl
    | ok r =>
     obtain ⟨y, j⟩ := r
     have hj := tight_goes hl hk1 hy
     simp only
     rw [dif_pos (show k < j by omega)]
     by_cases h3 : n = 3
     ·rw [if_pos h3, if_pos h3, loopW, dif_pos hj.2, if_pos (by omega)]
     ·rw [if_neg h3, if_neg h3, dif_pos (show k < j by omega), ih j (by omega) hj.2 n _ (Int.le_refl _)]
      rw [loopW, dif_pos hj.2, if_pos (by omega)]; rfl
   ·rw [if_neg (show ¬ (signT (tk l k) = 0 ∨ signT (tk l k) < n + 1 ∨ p < signT (tk l k)) by omega)]
    cases hy : tightW l (signT (tk l k) + 1) d (k + 1) with
    | error e => rfl
    | ok r =>
     obtain ⟨y, j⟩ := r
     have hj := tight_goes hl hk1 hy
     simp only
     rw [dif_pos (show k < j by omega), dif_pos (show k < j by omega)]
     exact ih j (by omega) hj.2 (if signT (tk l k) = 3 then 2 else signT (tk l k)) _ (by split <;> omega)
theorem tight_lev {l : List Tk} (hl : Ended l) {k : Nat} (hk : k < l.length) (n d : Int) (hn : 1 <= n) (hn5 : n <= 5) : tightW l n d k = thenR (tightW l (n + 1) d k) (fun y j => levW l n d y j) := by
 rw [tightW, tightW]
 cases hy : oneW l d k with
 | error e => rfl
 | ok r =>
  obtain ⟨x, j⟩ := r
  have hj := one_goes hl hk hy
  simp only
  rw [dif_pos ⟨hj.1, hk⟩, dif_pos ⟨hj.1, hk⟩]
  exact loop_lev hl n d hn _ j (Nat.le_refl _) hj.2 5 x hn5
theorem level_le (s : List UInt8) : 0 <= levelT s ∧ levelT s <= 5 := by
 unfold levelT
 repeat' (split; · omega)
 omega
theorem signT_le (t : Tk) : 0 <= signT t ∧ signT t <= 5 := by
 unfold signT
 split
 ·exact level_le _
 ·omega
theorem tight_one {l : List Tk} (hl : Ended l) {k : Nat} (hk : k < l.length) (d : Int) : tightW l 6 d k = oneW l d k := by
 rw [tightW]
 cases hy : oneW l d k with
 | error e => rfl
 | ok r =>
  obtain ⟨x, j⟩ := r
  have hj := one_goes hl hk hy
  have := signT_le (tk l j)
  simp only
  rw [dif_pos ⟨hj.1, hk⟩, loopW, dif_pos hj.2, if_pos (by omega)]
structure Pai where
 procA : List UInt8
 procB : List UInt8
 varA : List UInt8
 varB : List UInt8
 deriving DecidableEq
def Pai.v (x : Pai) : List V := [.str (B x.procA), .str (B x.procB), .str (B x.varA), .str (B x.varB)]
theorem Pai.v_mk (procA : List UInt8) (procB : List UInt8) (varA : List UInt8) (varB : List UInt8) : Pai.v ⟨procA, procB, varA, varB⟩ = [.str (B procA), .str (B procB), .str (B varA), .str (B varB)] := rfl
@[simp] theorem Pai.asAgg_v (x : Pai) (k : (Nat -> V) -> Option Res) : V.asAgg (.agg x.v) 4 k = k (fun j => x.v.getD j .undef) := asAgg_agg _ _ rfl k
@[simp] theorem Pai.v_0 (x : Pai) : x.v.getD 0 .undef = .str (B x.procA) := rfl
@[simp] theorem Pai.q_0 (x : Pai) : x.v[0]?.getD V.undef = .str (B x.procA) := rfl
@[simp] theorem Pai.v_1 (x : Pai) : x.v.getD 1 .undef = .str (B x.procB) := rfl
@[simp] theorem Pai.q_1 (x : Pai) : x.v[1]?.getD V.undef = .str (B x.procB) := rfl
@[simp] theorem Pai.v_2 (x : Pai) : x.v.getD 2 .undef = .str (B x.varA) := rfl
@[simp] theorem Pai.q_2 (x : Pai) : x.v[2]?.getD V.undef = .str (B x.varA) := rfl
@[simp] theorem Pai.v_3 (x : Pai) : x.v.getD 3 .undef = .str (B x.varB) := rfl
@[simp] theorem Pai.q_3 (x : Pai) : x.v[3]?.getD V.undef = .str (B x.varB) := rfl
structure PaiOk (x : Pai) : Prop where
 procA : x.procA.length <= 140737488351232
 procB : x.procB.length <= 140737488351232
 varA : x.varA.length <= 140737488351232
 varB : x.varB.length <= 140737488351232
structure Kp where
 side : Int
 prc : List UInt8
 vr : List UInt8
 deriving DecidableEq
def Kp.v (x : Kp) : List V := [.int .i64 x.side, .str (B x.prc), .str (B x.vr)]
theorem Kp.v_mk (side : Int) (prc : List UInt8) (vr : List UInt8) : Kp.v ⟨side, prc, vr⟩ = [.int .i64 side, .str (B prc), .str (B vr)] := rfl
@[simp] theorem Kp.asAgg_v (x : Kp) (k : (Nat -> V) -> Option Res) : V.asAgg (.agg x.v) 3 k = k (fun j => x.v.getD j .undef) := asAgg_agg _ _ rfl k
@[simp] theorem Kp.v_0 (x : Kp) : x.v.getD 0 .undef = .int .i64 x.side := rfl
@[simp] theorem Kp.q_0 (x : Kp) : x.v[0]?.getD V.undef = .int .i64 x.side := rfl
@[simp] theorem Kp.v_1 (x : Kp) : x.v.getD 1 .undef = .str (B x.prc) := rfl
@[simp] theorem Kp.q_1 (x : Kp) : x.v[1]?.getD V.undef = .str (B x.prc) := rfl
@[simp] theorem Kp.v_2 (x : Kp) : x.v.getD 2 .undef = .str (B x.vr) := rfl
@[simp] theorem Kp.q_2 (x : Kp) : x.v[2]?.getD V.undef = .str (B x.vr) := rfl
structure KpOk (x : Kp) : Prop where
 side : (Lit.int .i64 x.side).wf = true
 prc : x.prc.length <= 140737488351232
 vr : x.vr.length <= 140737488351232
structure Bk where
 side : Int
 prc : List UInt8
 mark : Int
 whn : List Ex
def Bk.v (x : Bk) : List V := [.int .i64 x.side, .str (B x.prc), .int .i64 x.mark, .sl .no T_api_Expr (x.whn.map Ex.v)]
theorem Bk.v_mk (side : Int) (prc : List UInt8) (mark : Int) (whn : List Ex) : Bk.v ⟨side, prc, mark, whn⟩ = [.int .i64 side, .str (B prc), .int .i64 mark, .sl .no T_api_Expr (whn.map Ex.v)] := rfl
@[simp] theorem Bk.asAgg_v (x : Bk) (k : (Nat -> V) -> Option Res) : V.asAgg (.agg x.v) 4 k = k (fun j => x.v.getD j .undef) := asAgg_agg _ _ rfl k
@[simp] theorem Bk.v_0 (x : Bk) : x.v.getD 0 .undef = .int .i64 x.side := rfl
@[simp] theorem Bk.q_0 (x : Bk) : x.v[0]?.getD V.undef = .int .i64 x.side := rfl
@[simp] theorem Bk.v_1 (x : Bk) : x.v.getD 1 .undef = .str (B x.prc) := rfl
@[simp] theorem Bk.q_1 (x : Bk) : x.v[1]?.getD V.undef = .str (B x.prc) := rfl
@[simp] theorem Bk.v_2 (x : Bk) : x.v.getD 2 .undef = .int .i64 x.mark := rfl
@[simp] theorem Bk.q_2 (x : Bk) : x.v[2]?.getD V.undef = .int .i64 x.mark := rfl
@[simp] theorem Bk.v_3 (x : Bk) : x.v.getD 3 .undef = .sl .no T_api_Expr (x.whn.map Ex.v) := rfl
@[simp] theorem Bk.q_3 (x : Bk) : x.v[3]?.getD V.undef = .sl .no T_api_Expr (x.whn.map Ex.v) := rfl
structure BkOk (x : Bk) : Prop where
 side : (Lit.int .i64 x.side).wf = true
 prc : x.prc.length <= 140737488351232
 mark : (Lit.int .i64 x.mark).wf = true
 whn : x.whn.length <= 140737488351232 ∧ ∀ y ∈ x.whn, ExOk y
structure Wt where
 side : Int
 prc : List UInt8
 vr : List UInt8
 deriving DecidableEq
def Wt.v (x : Wt) : List V := [.int .i64 x.side, .str (B x.prc), .str (B x.vr)]
theorem Wt.v_mk (side : Int) (prc : List UInt8) (vr : List UInt8) : Wt.v ⟨side, prc, vr⟩ = [.int .i64 side, .str (B prc), .str (B vr)] := rfl
@[simp] theorem Wt.asAgg_v (x : Wt) (k : (Nat -> V) -> Option Res) : V.asAgg (.agg x.v) 3 k = k (fun j => x.v.getD j .undef) := asAgg_agg _ _ rfl k
@[simp] theorem Wt.v_0 (x : Wt) : x.v.getD 0 .undef = .int .i64 x.side := rfl
@[simp] theorem Wt.q_0 (x : Wt) : x.v[0]?.getD V.undef = .int .i64 x.side := rfl
@[simp] theorem Wt.v_1 (x : Wt) : x.v.getD 1 .undef = .str (B x.prc) := rfl
@[simp] theorem Wt.q_1 (x : Wt) : x.v[1]?.getD V.undef = .str (B x.prc) := rfl
@[simp] theorem Wt.v_2 (x : Wt) : x.v.getD 2 .undef = .str (B x.vr) := rfl
@[simp] theorem Wt.q_2 (x : Wt) : x.v[2]?.getD V.undef = .str (B x.vr) := rfl
structure WtOk (x : Wt) : Prop where
 side : (Lit.int .i64 x.side).wf = true
 prc : x.prc.length <= 140737488351232
 vr : x.vr.length <= 140737488351232
structure Fl where
 pairs : List Pai
 sames : List Pai
 keeps : List Kp
 breaks : List Bk
 watches : List Wt
def Fl.v (x : Fl) : List V := [.sl .no T_api_Pair (x.pairs.map Pai.v), .sl .no T_api_Pair (x.sames.map Pai.v), .sl .no T_parallaxref12_Keep (x.keeps.map Kp.v), .sl .no T_parallaxref12_Break (x.breaks.map Bk.v), .sl .no T_parallaxref12_Watch (x.watches.map Wt.v)]
theorem Fl.v_mk (pairs : List Pai) (sames : List Pai) (keeps : List Kp) (breaks : List Bk) (watches : List Wt) : Fl.v ⟨pairs, sames, keeps, breaks, watches⟩ = [.sl .no T_api_Pair (pairs.map Pai.v), .sl .no T_api_Pair (sames.map Pai.v), .sl .no T_parallaxref12_Keep (keeps.map Kp.v), .sl .no T_parallaxref12_Break (breaks.map Bk.v), .sl .no T_parallaxref12_Watch (watches.map Wt.v)] := rfl
@[simp] theorem Fl.asAgg_v (x : Fl) (k : (Nat -> V) -> Option Res) : V.asAgg (.agg x.v) 5 k = k (fun j => x.v.getD j .undef) := asAgg_agg _ _ rfl k
@[simp] theorem Fl.v_0 (x : Fl) : x.v.getD 0 .undef = .sl .no T_api_Pair (x.pairs.map Pai.v) := rfl
@[simp] theorem Fl.q_0 (x : Fl) : x.v[0]?.getD V.undef = .sl .no T_api_Pair (x.pairs.map Pai.v) := rfl
@[simp] theorem Fl.v_1 (x : Fl) : x.v.getD 1 .undef = .sl .no T_api_Pair (x.sames.map Pai.v) := rfl
@[simp] theorem Fl.q_1 (x : Fl) : x.v[1]?.getD V.undef = .sl .no T_api_Pair (x.sames.map Pai.v) := rfl
@[simp] theorem Fl.v_2 (x : Fl) : x.v.getD 2 .undef = .sl .no T_parallaxref12_Keep (x.keeps.map Kp.v) := rfl
@[simp] theorem Fl.q_2 (x : Fl) : x.v[2]?.getD V.undef = .sl .no T_parallaxref12_Keep (x.keeps.map Kp.v) := rfl
@[simp] theorem Fl.v_3 (x : Fl) : x.v.getD 3 .undef = .sl .no T_parallaxref12_Break (x.breaks.map Bk.v) := rfl
@[simp] theorem Fl.q_3 (x : Fl) : x.v[3]?.getD V.undef = .sl .no T_parallaxref12_Break (x.breaks.map Bk.v) := rfl
@[simp] theorem Fl.v_4 (x : Fl) : x.v.getD 4 .undef = .sl .no T_parallaxref12_Watch (x.watches.map Wt.v) := rfl
@[simp] theorem Fl.q_4 (x : Fl) : x.v[4]?.getD V.undef = .sl .no T_parallaxref12_Watch (x.watches.map Wt.v) := rfl
structure FlOk (x : Fl) : Prop where
 pairs : x.pairs.length <= 140737488351232 ∧ ∀ y ∈ x.pairs, PaiOk y
 sames : x.sames.length <= 140737488351232 ∧ ∀ y ∈ x.sames, PaiOk y
 keeps : x.keeps.length <= 140737488351232 ∧ ∀ y ∈ x.keeps, KpOk y
 breaks : x.breaks.length <= 140737488351232 ∧ ∀ y ∈ x.breaks, BkOk y
 watches : x.watches.length <= 140737488351232 ∧ ∀ y ∈ x.watches, WtOk y
theorem Pai.bytes : decide (Program.bytesOf Sp.P T_api_Pair >= 1) = true := by kernel_rfl
theorem Kp.bytes : decide (Program.bytesOf Sp.P T_parallaxref12_Keep >= 1) = true := by kernel_rfl
theorem Bk.bytes : decide (Program.bytesOf Sp.P T_parallaxref12_Break >= 1) = true := by kernel_rfl
theorem Wt.bytes : decide (Program.bytesOf Sp.P T_parallaxref12_Watch >= 1) = true := by kernel_rfl
def isW (t : Tk) (s : List UInt8) : Bool := decide (t.kind = 1) && decide (t.text = s)
def isS (t : Tk) (s : List UInt8) : Bool := decide (t.kind = 4) && decide (t.text = s)
abbrev Rf (α : Type) := Except (Int × Int) (α × Nat)
def andR {α β : Type} (r : Rf α) (f : α -> Nat -> Rf β) : Rf β := match r with | .error e => .error e | .ok (x, k) => f x k
def wrongR {α : Type} (l : List Tk) (k : Nat) : Rf α := .error ((tk l k).at_, 30)
def nameR (l : List Tk) (k : Nat) : Rf (List UInt8) := if (tk l k).kind = 1 then .ok ((tk l k).text, k + 1) else wrongR l k
def signR (l : List Tk) (s : List UInt8) (k : Nat) : Rf Unit := if isS (tk l k) s then .ok ((), k + 1) else wrongR l k
def sideR (l : List Tk) (k : Nat) : Rf Int := if isW (tk l k) [108, 101, 102, 116] then .ok (0, k + 1) else if isW (tk l k) [114, 105, 103, 104, 116] then .ok (1, k + 1) else wrongR l k
def intR (l : List Tk) (k : Nat) : Rf Int := if (tk l k).kind = 2 then .ok ((tk l k).num, k + 1) else wrongR l k
def halfR (l : List Tk) (k : Nat) : Rf (List UInt8 × List UInt8) :=
 andR (nameR l k) fun p k => andR (signR l [40] k) fun _ k => andR (nameR l k) fun v k => andR (signR l [41] k) fun _ k => .ok ((p, v), k)
def sameR (l : List Tk) (k : Nat) : Rf Pai := andR (halfR l k) fun x k => andR (halfR l k) fun y k => .ok (⟨x.1, y.1, x.2, y.2⟩, k)
def whenR (l : List Tk) (k : Nat) : Rf (List Ex) :=
 if isW (tk l k) [119, 104, 101, 110] then andR (partR l 1 (k + 1) (tightW l 1 1 (k + 1))) fun x k => .ok ([x], k) else .ok ([], k)
def stopR (l : List Tk) (k : Nat) : Rf Bk := andR (sideR l k) fun s k => andR (nameR l k) fun p k => andR (intR l k) fun n k => andR (whenR l k) fun w k => .ok (⟨s, p, n, w⟩, k)
def keepR (l : List Tk) (k : Nat) : Rf (Int × List UInt8 × List UInt8) := andR (sideR l k) fun s k => andR (nameR l k) fun p k => andR (nameR l k) fun v k => .ok ((s, p, v), k)
def fullR {α : Type} (l : List Tk) (n most k : Nat) (r : Rf α) : Rf α := if most <= n then .error ((tk l k).at_, 2) else r
def itemR (l : List Tk) (f : Fl) (k : Nat) : Rf Fl :=
 if isW (tk l k) [112, 97, 105, 114] then fullR l f.pairs.length 40 k (andR (nameR l (k + 1)) fun a k => andR (nameR l k) fun b k => .ok ({ f with pairs := f.pairs ++ [⟨a, b, [], []⟩] }, k))
 else if isW (tk l k) [115, 97, 109, 101] then fullR l f.sames.length 40 k (andR (sameR l (k + 1)) fun p k => .ok ({ f with sames := f.sames ++ [p] }, k))
 else if isW (tk l k) [107, 101, 101, 112] then fullR l f.keeps.length 40 k (andR (keepR l (k + 1)) fun x k => .ok ({ f with keeps := f.keeps ++ [⟨x.1, x.2.1, x.2.2⟩] }, k))
 else if isW (tk l k) [98, 114, 101, 97, 107] then fullR l f.breaks.length 40 k (andR (stopR l (k + 1)) fun b k => .ok ({ f with breaks := f.breaks ++ [b] }, k))
 else if isW (tk l k) [119, 97, 116, 99, 104] then fullR l f.watches.length 40 k (andR (keepR l (k + 1)) fun x k => .ok ({ f with watches := f.watches ++ [⟨x.1, x.2.1, x.2.2⟩] }, k))
 else wrongR l k
def lineR (l : List Tk) (f : Fl) (k : Nat) : Rf Fl := andR (itemR l f k) fun f k => andR (signR l [59] k) fun _ k => .ok (f, k)
def fileR (l : List Tk) : Nat -> Fl -> Nat -> Except (Int × Int) Fl
 | 0, _, _ => .error (0, 0)
 | n + 1, f, k => if (tk l k).kind = 0 then .ok f else match lineR l f k with | .error e => .error e | .ok (g, j) => fileR l n g j
def emptyF : Fl := ⟨[], [], [], [], []⟩
def toldF (r : Except (Int × Int) Fl) : Fl × Int × Int := match r with | .error e => (emptyF, e.1, e.2) | .ok f => (f, 0, 0)
def parseF (s : List UInt8) : Fl × Int × Int :=
 if (scan s).2.2 ≠ 0 then (emptyF, (scan s).2.1, (scan s).2.2)
 else toldF (fileR (scan s).1 ((scan s).1.length + 1) emptyF 0)
theorem andR_ok {α β : Type} {r : Rf α} {f : α -> Nat -> Rf β} {y : β × Nat} (h : andR r f = .ok y) : ∃ x k, r = .ok (x, k) ∧ f x k = .ok y := by
 unfold andR at h
 split at h
 ·cases h
 ·rename_i x k; exact ⟨x, k, rfl, h⟩
structure Step (l : List Tk) (k j : Nat) : Prop where
 lt : k < j
 end_ : j < l.length
variable {l : List Tk}
theorem nameR_step (hl : Ended l) {k : Nat} (hk : k < l.length) {x : List UInt8} {j : Nat} (h : nameR l k = .ok (x, j)) : Step l k j ∧ (tk l k).kind = 1 ∧ x = (tk l k).text ∧ j = k + 1 := by
 unfold nameR at h
 split at h
 ·rename_i c
  have := hl.next hk (by omega)
  cases h; exact ⟨⟨by omega, this⟩, c, rfl, rfl⟩
 ·cases h
theorem signR_step (hl : Ended l) {k : Nat} (hk : k < l.length) {s : List UInt8} {x : Unit} {j : Nat} (h : signR l s k = .ok (x, j)) : Step l k j ∧ isS (tk l k) s = true ∧ j = k + 1 := by
 unfold signR at h
 split at h
 ·rename_i c
  have hk4 : (tk l k).kind = 4 := by
   unfold isS at c
   simp only [Bool.and_eq_true, decide_eq_true_eq] at c
   exact c.1
  have := hl.next hk (by omega)
  cases h; exact ⟨⟨by omega, this⟩, c, rfl⟩
 ·cases h
theorem isW_kind {t : Tk} {s : List UInt8} (h : isW t s = true) : t.kind = 1 ∧ t.text = s := by
 unfold isW at h
 simpa only [Bool.and_eq_true, decide_eq_true_eq] using h
theorem sideR_step (hl : Ended l) {k : Nat} (hk : k < l.length) {x : Int} {j : Nat} (h : sideR l k = .ok (x, j)) : Step l k j ∧ (tk l k).kind = 1 ∧ (x = 0 ∨ x = 1) ∧ j = k + 1 := by
 unfold sideR at h
 split at h
 ·rename_i c
  have := hl.next hk (by rw [(isW_kind c).1]; decide)
  cases h; exact ⟨⟨by omega, this⟩, (isW_kind c).1, .inl rfl, rfl⟩
 split at h
 ·rename_i c
  have := hl.next hk (by rw [(isW_kind c).1]; decide)
  cases h; exact ⟨⟨by omega, this⟩, (isW_kind c).1, .inr rfl, rfl⟩
 ·cases h
theorem intR_step (hl : Ended l) {k : Nat} (hk : k < l.length) {x : Int} {j : Nat} (h : intR l k = .ok (x, j)) : Step l k j ∧ (tk l k).kind = 2 ∧ x = (tk l k).num ∧ j = k + 1 := by
 unfold intR at h
 split at h
 ·rename_i c
  have := hl.next hk (by omega)
  cases h; exact ⟨⟨by omega, this⟩, c, rfl, rfl⟩
 ·cases h
end Go.Proofs.YtmhnmelaodhemaaDoor
namespace Go.Proofs.YtmhnmelaodhemaaDoor
open Go Go.Proofs.Ab Go.Proofs.Px
theorem tok_g {l : List Tk} {k : Nat} (h : k < l.length) : (l.map Tk.v).getD k [] = (tk l k).v := by
 unfold tk
 rw [List.getD_eq_getElem?_getD, List.getD_eq_getElem?_getD, List.getElem?_map, List.getElem?_eq_getElem h]; rfl
theorem tkv_0 (t : Tk) : t.v.getD 0 .undef = .int .i64 t.kind := rfl
theorem tkv_1 (t : Tk) : t.v.getD 1 .undef = .str (B t.text) := rfl
theorem tkv_2 (t : Tk) : t.v.getD 2 .undef = .int .i64 t.num := rfl
theorem tkv_3 (t : Tk) : t.v.getD 3 .undef = .int .i64 t.at_ := rfl
theorem row_in {l : List Tk} {k : Nat} (h : k < l.length) : (0 : Int) <= (k : Int) ∧ (k : Int) < (((l.map Tk.v).length : Nat) : Int) := ⟨by omega, by rw [List.length_map]; omega⟩
theorem wr1 {k : Nat} (h : k < 1099511627776) : IntKind.i64.wrap ((k : Int) + 1) = ((k + 1 : Nat) : Int) := by rw [wrap_in (by omega) (by omega)]; omega
theorem lx : (∀ (x : Ex) (k : (Nat -> V) -> Option Res), V.asAgg (.agg x.v) 4 k = k (fun j => x.v.getD j .undef)) ∧ (∀ x : Ex, x.v.getD 0 .undef = .int .i64 x.kind) ∧ (∀ x : Ex, x.v.getD 1 .undef = .str (B x.name)) ∧ (∀ x : Ex, x.v.getD 2 .undef = .int .i64 x.num) ∧
 (∀ x : Ex, x.v.getD 3 .undef = .sl .no T_api_Expr (x.l.map Ex.v)) ∧ (∀ x : Ex, [V.int .i64 x.kind, V.str (B x.name), V.int .i64 x.num, V.sl .no T_api_Expr (x.l.map Ex.v)] = x.v) := ⟨asAgg_ex, Ex.v_0, Ex.v_1, Ex.v_2, Ex.v_3, Ex.v_list⟩
end Go.Proofs.YtmhnmelaodhemaaDoor
namespace Go.Proofs.YtmhnmelaodhemaaDoor
open Go Go.Proofs.Ab
namespace decl_reader_fail
theorem eq (m0_0 : List (List V)) (m0_1 a1 : Int) : den Sp id [V.ref 0 0, V.int .i64 a1] [Blk.cells T_decl_reader [V.sl .no T_api_Token m0_0, V.int .i64 m0_1] false] none =
  (if (((0 : Int) <= m0_1) ∧ (m0_1 < (m0_0.length : Int))) then (V.asInt (List.getD (List.getD m0_0 (Int.toNat m0_1) []) 3 V.undef) .i64 (fun n4 => some ⟨Out.pan (V.iface T_decl_given (V.agg [V.int .i64 n4, V.int .i64 a1])), [Blk.cells T_decl_reader [V.sl .no T_api_Token m0_0, V.int .i64 m0_1] false], none⟩)) else none) := (den_eq ..).trans (by kernel_rfl)
end decl_reader_fail
namespace decl_reader_word
theorem eq (m0_0 : List (List V)) (m0_1 : Int) (a1 : ByteArray) : den Sp id [V.ref 0 0, V.str a1] [Blk.cells T_decl_reader [V.sl .no T_api_Token m0_0, V.int .i64 m0_1] false] none =
  (if (((0 : Int) <= m0_1) ∧ (m0_1 < (m0_0.length : Int))) then (V.asInt (List.getD (List.getD m0_0 (Int.toNat m0_1) []) 0 V.undef) .i64 (fun n5 => bif (n5 == (1 : Int)) then (if (((0 : Int) <= m0_1) ∧ (m0_1 < (m0_0.length : Int))) then (V.asStr (List.getD (List.getD m0_0 (Int.toNat m0_1) []) 1 V.undef) (fun s6 => some ⟨Out.ret (V.bool (decide (s6 = a1))), [Blk.cells T_decl_reader [V.sl .no T_api_Token m0_0, V.int .i64 m0_1] false], none⟩)) else none) else (some ⟨Out.ret (V.bool false), [Blk.cells T_decl_reader [V.sl .no T_api_Token m0_0, V.int .i64 m0_1] false], none⟩))) else none) := (den_eq ..).trans (by kernel_rfl)
end decl_reader_word
namespace decl_reader_full
theorem eq (m0_0 : List (List V)) (m0_1 a1 a2 a3 : Int) : den Sp id [V.ref 0 0, V.int .i64 a1, V.int .i64 a2, V.int .i64 a3] [Blk.cells T_decl_reader [V.sl .no T_api_Token m0_0, V.int .i64 m0_1] false] none =
  (bif (decide (a2 >= a3)) then (if (((0 : Int) <= a1) ∧ (a1 < (m0_0.length : Int))) then (V.asInt (List.getD (List.getD m0_0 (Int.toNat a1) []) 3 V.undef) .i64 (fun n7 => some ⟨Out.pan (V.iface T_decl_given (V.agg [V.int .i64 n7, V.int .i64 (2 : Int)])), [Blk.cells T_decl_reader [V.sl .no T_api_Token m0_0, V.int .i64 m0_1] false], none⟩)) else none) else (some ⟨Out.ret (V.tup []), [Blk.cells T_decl_reader [V.sl .no T_api_Token m0_0, V.int .i64 m0_1] false], none⟩)) := (den_eq ..).trans (by kernel_rfl)
end decl_reader_full
namespace decl_reader_name
theorem eq (m0_0 : List (List V)) (m0_1 : Int) : den Sp id [V.ref 0 0] [Blk.cells T_decl_reader [V.sl .no T_api_Token m0_0, V.int .i64 m0_1] false] none =
  (if (((0 : Int) <= m0_1) ∧ (m0_1 < (m0_0.length : Int))) then (V.asInt (List.getD (List.getD m0_0 (Int.toNat m0_1) []) 0 V.undef) .i64 (fun n4 => V.asStr (List.getD (List.getD m0_0 (Int.toNat m0_1) []) 1 V.undef) (fun s5 => V.asInt (List.getD (List.getD m0_0 (Int.toNat m0_1) []) 2 V.undef) .i64 (fun n6 => V.asInt (List.getD (List.getD m0_0 (Int.toNat m0_1) []) 3 V.undef) .i64 (fun n7 => bif (n4 != (1 : Int)) then (den Sp decl_reader_fail.id [V.ref 0 0, V.int .i64 (30 : Int)] [Blk.cells T_decl_reader [V.sl .no T_api_Token m0_0, V.int .i64 m0_1] false] none).bind (fun r10 => Blk.asCells (List.getD (Res.bl r10) 0 (Blk.cells T_n0 [] true)) T_decl_reader 2 (fun rd11 => V.asSl (rd11 0) T_api_Token (fun es12 => V.asInt (rd11 1) .i64 (fun n13 => Res.onOut r10 (fun v14 => V.asTup v14 0 (fun rd15 => some ⟨Out.ret (V.str s5), [Blk.cells T_decl_reader [V.sl .no T_api_Token es12, V.int .i64 (IntKind.wrap .i64 (n13 + (1 : Int)))] false], none⟩)) (fun v14 => V.asIface v14 T_decl_given (fun w15 => V.asAgg w15 2 (fun rd16 => V.asInt (rd16 0) .i64 (fun n17 => V.asInt (rd16 1) .i64 (fun n18 => some ⟨Out.pan (V.iface T_decl_given (V.agg [V.int .i64 n17, V.int .i64 n18])), [Blk.cells T_decl_reader [V.sl .no T_api_Token es12, V.int .i64 n13] false], none⟩))))))))) else (some ⟨Out.ret (V.str s5), [Blk.cells T_decl_reader [V.sl .no T_api_Token m0_0, V.int .i64 (IntKind.wrap .i64 (m0_1 + (1 : Int)))] false], none⟩)))))) else none) := (den_eq ..).trans (by kernel_rfl)
end decl_reader_name
namespace decl_reader_side
theorem eq (m0_0 : List (List V)) (m0_1 : Int) : den Sp id [V.ref 0 0] [Blk.cells T_decl_reader [V.sl .no T_api_Token m0_0, V.int .i64 m0_1] false] none =
  (den Sp decl_reader_word.id [V.ref 0 0, V.str (ByteArray.mk #[108, 101, 102, 116])] [Blk.cells T_decl_reader [V.sl .no T_api_Token m0_0, V.int .i64 m0_1] false] none).bind (fun r5 => Blk.asCells (List.getD (Res.bl r5) 0 (Blk.cells T_n0 [] true)) T_decl_reader 2 (fun rd6 => V.asSl (rd6 0) T_api_Token (fun es7 => V.asInt (rd6 1) .i64 (fun n8 => Res.onRet r5 (fun v9 => V.asBool v9 (fun b10 => bif b10 then (some ⟨Out.ret (V.int .i64 (0 : Int)), [Blk.cells T_decl_reader [V.sl .no T_api_Token es7, V.int .i64 (IntKind.wrap .i64 (n8 + (1 : Int)))] false], none⟩) else (den Sp decl_reader_word.id [V.ref 0 0, V.str (ByteArray.mk #[114, 105, 103, 104, 116])] [Blk.cells T_decl_reader [V.sl .no T_api_Token es7, V.int .i64 n8] false] none).bind (fun r12 => Blk.asCells (List.getD (Res.bl r12) 0 (Blk.cells T_n0 [] true)) T_decl_reader 2 (fun rd13 => V.asSl (rd13 0) T_api_Token (fun es14 => V.asInt (rd13 1) .i64 (fun n15 => Res.onRet r12 (fun v16 => V.asBool v16 (fun b17 => bif b17 then (some ⟨Out.ret (V.int .i64 (1 : Int)), [Blk.cells T_decl_reader [V.sl .no T_api_Token es14, V.int .i64 (IntKind.wrap .i64 (n15 + (1 : Int)))] false], none⟩) else (den Sp decl_reader_fail.id [V.ref 0 0, V.int .i64 (30 : Int)] [Blk.cells T_decl_reader [V.sl .no T_api_Token es14, V.int .i64 n15] false] none).bind (fun r19 => Blk.asCells (List.getD (Res.bl r19) 0 (Blk.cells T_n0 [] true)) T_decl_reader 2 (fun rd20 => V.asSl (rd20 0) T_api_Token (fun es21 => V.asInt (rd20 1) .i64 (fun n22 => Res.onOut r19 (fun v23 => V.asTup v23 0 (fun rd24 => some ⟨Out.ret (V.int .i64 (0 : Int)), [Blk.cells T_decl_reader [V.sl .no T_api_Token es21, V.int .i64 (IntKind.wrap .i64 (n22 + (1 : Int)))] false], none⟩)) (fun v23 => V.asIface v23 T_decl_given (fun w24 => V.asAgg w24 2 (fun rd25 => V.asInt (rd25 0) .i64 (fun n26 => V.asInt (rd25 1) .i64 (fun n27 => some ⟨Out.pan (V.iface T_decl_given (V.agg [V.int .i64 n26, V.int .i64 n27])), [Blk.cells T_decl_reader [V.sl .no T_api_Token es21, V.int .i64 n22] false], none⟩))))))))))))))))))))) := (den_eq ..).trans (by kernel_rfl)
end decl_reader_side
namespace decl_reader_sign
theorem eq (m0_0 : List (List V)) (m0_1 : Int) (a1 : ByteArray) : den Sp id [V.ref 0 0, V.str a1] [Blk.cells T_decl_reader [V.sl .no T_api_Token m0_0, V.int .i64 m0_1] false] none =
  (if (((0 : Int) <= m0_1) ∧ (m0_1 < (m0_0.length : Int))) then (V.asInt (List.getD (List.getD m0_0 (Int.toNat m0_1) []) 0 V.undef) .i64 (fun n4 => V.asStr (List.getD (List.getD m0_0 (Int.toNat m0_1) []) 1 V.undef) (fun s5 => V.asInt (List.getD (List.getD m0_0 (Int.toNat m0_1) []) 2 V.undef) .i64 (fun n6 => V.asInt (List.getD (List.getD m0_0 (Int.toNat m0_1) []) 3 V.undef) .i64 (fun n7 => bif (n4 != (4 : Int)) then (den Sp decl_reader_fail.id [V.ref 0 0, V.int .i64 (30 : Int)] [Blk.cells T_decl_reader [V.sl .no T_api_Token m0_0, V.int .i64 m0_1] false] none).bind (fun r10 => Blk.asCells (List.getD (Res.bl r10) 0 (Blk.cells T_n0 [] true)) T_decl_reader 2 (fun rd11 => V.asSl (rd11 0) T_api_Token (fun es12 => V.asInt (rd11 1) .i64 (fun n13 => Res.onOut r10 (fun v14 => V.asTup v14 0 (fun rd15 => some ⟨Out.ret (V.tup []), [Blk.cells T_decl_reader [V.sl .no T_api_Token es12, V.int .i64 (IntKind.wrap .i64 (n13 + (1 : Int)))] false], none⟩)) (fun v14 => V.asIface v14 T_decl_given (fun w15 => V.asAgg w15 2 (fun rd16 => V.asInt (rd16 0) .i64 (fun n17 => V.asInt (rd16 1) .i64 (fun n18 => some ⟨Out.pan (V.iface T_decl_given (V.agg [V.int .i64 n17, V.int .i64 n18])), [Blk.cells T_decl_reader [V.sl .no T_api_Token es12, V.int .i64 n13] false], none⟩))))))))) else (bif (!(decide (s5 = a1))) then (den Sp decl_reader_fail.id [V.ref 0 0, V.int .i64 (30 : Int)] [Blk.cells T_decl_reader [V.sl .no T_api_Token m0_0, V.int .i64 m0_1] false] none).bind (fun r10 => Blk.asCells (List.getD (Res.bl r10) 0 (Blk.cells T_n0 [] true)) T_decl_reader 2 (fun rd11 => V.asSl (rd11 0) T_api_Token (fun es12 => V.asInt (rd11 1) .i64 (fun n13 => Res.onOut r10 (fun v14 => V.asTup v14 0 (fun rd15 => some ⟨Out.ret (V.tup []), [Blk.cells T_decl_reader [V.sl .no T_api_Token es12, V.int .i64 (IntKind.wrap .i64 (n13 + (1 : Int)))] false], none⟩)) (fun v14 => V.asIface v14 T_decl_given (fun w15 => V.asAgg w15 2 (fun rd16 => V.asInt (rd16 0) .i64 (fun n17 => V.asInt (rd16 1) .i64 (fun n18 => some ⟨Out.pan (V.iface T_decl_given (V.agg [V.int .i64 n17, V.int .i64 n18])), [Blk.cells T_decl_reader [V.sl .no T_api_Token es12, V.int .i64 n13] false], none⟩))))))))) else (some ⟨Out.ret (V.tup []), [Blk.cells T_decl_reader [V.sl .no T_api_Token m0_0, V.int .i64 (IntKind.wrap .i64 (m0_1 + (1 : Int)))] false], none⟩))))))) else none) := (den_eq ..).trans (by kernel_rfl)
end decl_reader_sign
namespace decl_reader_same
theorem eq (m0_0 : List (List V)) (m0_1 : Int) : den Sp id [V.ref 0 0] [Blk.cells T_decl_reader [V.sl .no T_api_Token m0_0, V.int .i64 m0_1] false] none =
  (den Sp decl_reader_name.id [V.ref 0 0] [Blk.cells T_decl_reader [V.sl .no T_api_Token m0_0, V.int .i64 m0_1] false] none).bind (fun r8 => Blk.asCells (List.getD (Res.bl r8) 0 (Blk.cells T_n0 [] true)) T_decl_reader 2 (fun rd9 => V.asSl (rd9 0) T_api_Token (fun es10 => V.asInt (rd9 1) .i64 (fun n11 => Res.onOut r8 (fun v12 => V.asStr v12 (fun s13 => (den Sp decl_reader_sign.id [V.ref 0 0, V.str (ByteArray.mk #[40])] [Blk.cells T_decl_reader [V.sl .no T_api_Token es10, V.int .i64 n11] false] none).bind (fun r15 => Blk.asCells (List.getD (Res.bl r15) 0 (Blk.cells T_n0 [] true)) T_decl_reader 2 (fun rd16 => V.asSl (rd16 0) T_api_Token (fun es17 => V.asInt (rd16 1) .i64 (fun n18 => Res.onOut r15 (fun v19 => V.asTup v19 0 (fun rd20 => (den Sp decl_reader_name.id [V.ref 0 0] [Blk.cells T_decl_reader [V.sl .no T_api_Token es17, V.int .i64 n18] false] none).bind (fun r22 => Blk.asCells (List.getD (Res.bl r22) 0 (Blk.cells T_n0 [] true)) T_decl_reader 2 (fun rd23 => V.asSl (rd23 0) T_api_Token (fun es24 => V.asInt (rd23 1) .i64 (fun n25 => Res.onOut r22 (fun v26 => V.asStr v26 (fun s27 => (den Sp decl_reader_sign.id [V.ref 0 0, V.str (ByteArray.mk #[41])] [Blk.cells T_decl_reader [V.sl .no T_api_Token es24, V.int .i64 n25] false] none).bind (fun r29 => Blk.asCells (List.getD (Res.bl r29) 0 (Blk.cells T_n0 [] true)) T_decl_reader 2 (fun rd30 => V.asSl (rd30 0) T_api_Token (fun es31 => V.asInt (rd30 1) .i64 (fun n32 => Res.onOut r29 (fun v33 => V.asTup v33 0 (fun rd34 => (den Sp decl_reader_name.id [V.ref 0 0] [Blk.cells T_decl_reader [V.sl .no T_api_Token es31, V.int .i64 n32] false] none).bind (fun r39 => Blk.asCells (List.getD (Res.bl r39) 0 (Blk.cells T_n0 [] true)) T_decl_reader 2 (fun rd40 => V.asSl (rd40 0) T_api_Token (fun es41 => V.asInt (rd40 1) .i64 (fun n42 => Res.onOut r39 (fun v43 => V.asStr v43 (fun s44 => (den Sp decl_reader_sign.id [V.ref 0 0, V.str (ByteArray.mk #[40])] [Blk.cells T_decl_reader [V.sl .no T_api_Token es41, V.int .i64 n42] false] none).bind (fun r46 => Blk.asCells (List.getD (Res.bl r46) 0 (Blk.cells T_n0 [] true)) T_decl_reader 2 (fun rd47 => V.asSl (rd47 0) T_api_Token (fun es48 => V.asInt (rd47 1) .i64 (fun n49 => Res.onOut r46 (fun v50 => V.asTup v50 0 (fun rd51 => (den Sp decl_reader_name.id [V.ref 0 0] [Blk.cells T_decl_reader [V.sl .no T_api_Token es48, V.int .i64 n49] false] none).bind (fun r53 => Blk.asCells (List.getD (Res.bl r53) 0 (Blk.cells T_n0 [] true)) T_decl_reader 2 (fun rd54 => V.asSl (rd54 0) T_api_Token (fun es55 => V.asInt (rd54 1) .i64 (fun n56 => Res.onOut r53 (fun v57 => V.asStr v57 (fun s58 => (den Sp decl_reader_sign.id [V.ref 0 0, V.str (ByteArray.mk #[41])] [Blk.cells T_decl_reader [V.sl .no T_api_Token es55, V.int .i64 n56] false] none).bind (fun r60 => Blk.asCells (List.getD (Res.bl r60) 0 (Blk.cells T_n0 [] true)) T_decl_reader 2 (fun rd61 => V.asSl (rd61 0) T_api_Token (fun es62 => V.asInt (rd61 1) .i64 (fun n63 => Res.onOut r60 (fun v64 => V.asTup v64 0 (fun rd65 => some ⟨Out.ret (V.agg [V.str s13, V.str s44, V.str s27, V.str s58]), [Blk.cells T_decl_reader [V.sl .no T_api_Token es62, V.int .i64 n63] false], none⟩)) (fun v64 => V.asIface v64 T_decl_given (fun w65 => V.asAgg w65 2 (fun rd66 => V.asInt (rd66 0) .i64 (fun n67 => V.asInt (rd66 1) .i64 (fun n68 => some ⟨Out.pan (V.iface T_decl_given (V.agg [V.int .i64 n67, V.int .i64 n68])), [Blk.cells T_decl_reader [V.sl .no T_api_Token es62, V.int .i64 n63] false], none⟩))))))))))) (fun v57 => V.asIface v57 T_decl_given (fun w58 => V.asAgg w58 2 (fun rd59 => V.asInt (rd59 0) .i64 (fun n60 => V.asInt (rd59 1) .i64 (fun n61 => some ⟨Out.pan (V.iface T_decl_given (V.agg [V.int .i64 n60, V.int .i64 n61])), [Blk.cells T_decl_reader [V.sl .no T_api_Token es55, V.int .i64 n56] false], none⟩))))))))))) (fun v50 => V.asIface v50 T_decl_given (fun w51 => V.asAgg w51 2 (fun rd52 => V.asInt (rd52 0) .i64 (fun n53 => V.asInt (rd52 1) .i64 (fun n54 => some ⟨Out.pan (V.iface T_decl_given (V.agg [V.int .i64 n53, V.int .i64 n54])), [Blk.cells T_decl_reader [V.sl .no T_api_Token es48, V.int .i64 n49] false], none⟩))))))))))) (fun v43 => V.asIface v43 T_decl_given (fun w44 => V.asAgg w44 2 (fun rd45 => V.asInt (rd45 0) .i64 (fun n46 => V.asInt (rd45 1) .i64 (fun n47 => some ⟨Out.pan (V.iface T_decl_given (V.agg [V.int .i64 n46, V.int .i64 n47])), [Blk.cells T_decl_reader [V.sl .no T_api_Token es41, V.int .i64 n42] false], none⟩))))))))))) (fun v33 => V.asIface v33 T_decl_given (fun w34 => V.asAgg w34 2 (fun rd35 => V.asInt (rd35 0) .i64 (fun n36 => V.asInt (rd35 1) .i64 (fun n37 => some ⟨Out.pan (V.iface T_decl_given (V.agg [V.int .i64 n36, V.int .i64 n37])), [Blk.cells T_decl_reader [V.sl .no T_api_Token es31, V.int .i64 n32] false], none⟩))))))))))) (fun v26 => V.asIface v26 T_decl_given (fun w27 => V.asAgg w27 2 (fun rd28 => V.asInt (rd28 0) .i64 (fun n29 => V.asInt (rd28 1) .i64 (fun n30 => some ⟨Out.pan (V.iface T_decl_given (V.agg [V.int .i64 n29, V.int .i64 n30])), [Blk.cells T_decl_reader [V.sl .no T_api_Token es24, V.int .i64 n25] false], none⟩))))))))))) (fun v19 => V.asIface v19 T_decl_given (fun w20 => V.asAgg w20 2 (fun rd21 => V.asInt (rd21 0) .i64 (fun n22 => V.asInt (rd21 1) .i64 (fun n23 => some ⟨Out.pan (V.iface T_decl_given (V.agg [V.int .i64 n22, V.int .i64 n23])), [Blk.cells T_decl_reader [V.sl .no T_api_Token es17, V.int .i64 n18] false], none⟩))))))))))) (fun v12 => V.asIface v12 T_decl_given (fun w13 => V.asAgg w13 2 (fun rd14 => V.asInt (rd14 0) .i64 (fun n15 => V.asInt (rd14 1) .i64 (fun n16 => some ⟨Out.pan (V.iface T_decl_given (V.agg [V.int .i64 n15, V.int .i64 n16])), [Blk.cells T_decl_reader [V.sl .no T_api_Token es10, V.int .i64 n11] false], none⟩))))))))) := (den_eq ..).trans (by kernel_rfl)
end decl_reader_same
namespace decl_reader_stop
theorem eq (m0_0 : List (List V)) (m0_1 : Int) : den Sp id [V.ref 0 0] [Blk.cells T_decl_reader [V.sl .no T_api_Token m0_0, V.int .i64 m0_1] false] none =
  (den Sp decl_reader_side.id [V.ref 0 0] [Blk.cells T_decl_reader [V.sl .no T_api_Token m0_0, V.int .i64 m0_1] false] none).bind (fun r4 => Blk.asCells (List.getD (Res.bl r4) 0 (Blk.cells T_n0 [] true)) T_decl_reader 2 (fun rd5 => V.asSl (rd5 0) T_api_Token (fun es6 => V.asInt (rd5 1) .i64 (fun n7 => Res.onOut r4 (fun v8 => V.asInt v8 .i64 (fun n9 => (den Sp decl_reader_name.id [V.ref 0 0] [Blk.cells T_decl_reader [V.sl .no T_api_Token es6, V.int .i64 n7] false] none).bind (fun r10 => Blk.asCells (List.getD (Res.bl r10) 0 (Blk.cells T_n0 [] true)) T_decl_reader 2 (fun rd11 => V.asSl (rd11 0) T_api_Token (fun es12 => V.asInt (rd11 1) .i64 (fun n13 => Res.onOut r10 (fun v14 => V.asStr v14 (fun s15 => if (((0 : Int) <= n13) ∧ (n13 < (es12.length : Int))) then (V.asInt (List.getD (List.getD es12 (Int.toNat n13) []) 0 V.undef) .i64 (fun n17 => V.asStr (List.getD (List.getD es12 (Int.toNat n13) []) 1 V.undef) (fun s18 => V.asInt (List.getD (List.getD es12 (Int.toNat n13) []) 2 V.undef) .i64 (fun n19 => V.asInt (List.getD (List.getD es12 (Int.toNat n13) []) 3 V.undef) .i64 (fun n20 => bif (n17 != (2 : Int)) then (den Sp decl_reader_fail.id [V.ref 0 0, V.int .i64 (30 : Int)] [Blk.cells T_decl_reader [V.sl .no T_api_Token es12, V.int .i64 n13] false] none).bind (fun r23 => Blk.asCells (List.getD (Res.bl r23) 0 (Blk.cells T_n0 [] true)) T_decl_reader 2 (fun rd24 => V.asSl (rd24 0) T_api_Token (fun es25 => V.asInt (rd24 1) .i64 (fun n26 => Res.onOut r23 (fun v27 => V.asTup v27 0 (fun rd28 => (den Sp decl_reader_word.id [V.ref 0 0, V.str (ByteArray.mk #[119, 104, 101, 110])] [Blk.cells T_decl_reader [V.sl .no T_api_Token es25, V.int .i64 (IntKind.wrap .i64 (n26 + (1 : Int)))] false] none).bind (fun r32 => Blk.asCells (List.getD (Res.bl r32) 0 (Blk.cells T_n0 [] true)) T_decl_reader 2 (fun rd33 => V.asSl (rd33 0) T_api_Token (fun es34 => V.asInt (rd33 1) .i64 (fun n35 => Res.onRet r32 (fun v36 => V.asBool v36 (fun b37 => bif b37 then (den Sp syntax_ReadExpr.id [V.sl .no T_api_Token es34, V.int .i64 (IntKind.wrap .i64 (n35 + (1 : Int)))] [] none).bind (fun r40 => Res.onRet r40 (fun v41 => V.asTup v41 4 (fun rd42 => V.asAgg (rd42 0) 4 (fun rd43 => V.asInt (rd43 0) .i64 (fun n44 => V.asStr (rd43 1) (fun s45 => V.asInt (rd43 2) .i64 (fun n46 => V.asSl (rd43 3) T_api_Expr (fun es47 => V.asInt (rd42 1) .i64 (fun n48 => V.asInt (rd42 2) .i64 (fun n49 => V.asInt (rd42 3) .i64 (fun n50 => bif (n50 != (0 : Int)) then (some ⟨Out.pan (V.iface T_decl_given (V.agg [V.int .i64 n49, V.int .i64 n50])), [Blk.cells T_decl_reader [V.sl .no T_api_Token es34, V.int .i64 (IntKind.wrap .i64 (n35 + (1 : Int)))] false], none⟩) else (some ⟨Out.ret (V.agg [V.int .i64 n9, V.str s15, V.int .i64 n19, V.sl .no T_api_Expr [[V.int .i64 n44, V.str s45, V.int .i64 n46, V.sl .no T_api_Expr es47]]]), [Blk.cells T_decl_reader [V.sl .no T_api_Token es34, V.int .i64 n48] false], none⟩)))))))))))) else (some ⟨Out.ret (V.agg [V.int .i64 n9, V.str s15, V.int .i64 n19, V.sl .no T_api_Expr []]), [Blk.cells T_decl_reader [V.sl .no T_api_Token es34, V.int .i64 n35] false], none⟩))))))))) (fun v27 => V.asIface v27 T_decl_given (fun w28 => V.asAgg w28 2 (fun rd29 => V.asInt (rd29 0) .i64 (fun n30 => V.asInt (rd29 1) .i64 (fun n31 => some ⟨Out.pan (V.iface T_decl_given (V.agg [V.int .i64 n30, V.int .i64 n31])), [Blk.cells T_decl_reader [V.sl .no T_api_Token es25, V.int .i64 n26] false], none⟩))))))))) else (den Sp decl_reader_word.id [V.ref 0 0, V.str (ByteArray.mk #[119, 104, 101, 110])] [Blk.cells T_decl_reader [V.sl .no T_api_Token es12, V.int .i64 (IntKind.wrap .i64 (n13 + (1 : Int)))] false] none).bind (fun r25 => Blk.asCells (List.getD (Res.bl r25) 0 (Blk.cells T_n0 [] true)) T_decl_reader 2 (fun rd26 => V.asSl (rd26 0) T_api_Token (fun es27 => V.asInt (rd26 1) .i64 (fun n28 => Res.onRet r25 (fun v29 => V.asBool v29 (fun b30 => bif b30 then (den Sp syntax_ReadExpr.id [V.sl .no T_api_Token es27, V.int .i64 (IntKind.wrap .i64 (n28 + (1 : Int)))] [] none).bind (fun r33 => Res.onRet r33 (fun v34 => V.asTup v34 4 (fun rd35 => V.asAgg (rd35 0) 4 (fun rd36 => V.asInt (rd36 0) .i64 (fun n37 => V.asStr (rd36 1) (fun s38 => V.asInt (rd36 2) .i64 (fun n39 => V.asSl (rd36 3) T_api_Expr (fun es40 => V.asInt (rd35 1) .i64 (fun n41 => V.asInt (rd35 2) .i64 (fun n42 => V.asInt (rd35 3) .i64 (fun n43 => bif (n43 != (0 : Int)) then (some ⟨Out.pan (V.iface T_decl_given (V.agg [V.int .i64 n42, V.int .i64 n43])), [Blk.cells T_decl_reader [V.sl .no T_api_Token es27, V.int .i64 (IntKind.wrap .i64 (n28 + (1 : Int)))] false], none⟩) else (some ⟨Out.ret (V.agg [V.int .i64 n9, V.str s15, V.int .i64 n19, V.sl .no T_api_Expr [[V.int .i64 n37, V.str s38, V.int .i64 n39, V.sl .no T_api_Expr es40]]]), [Blk.cells T_decl_reader [V.sl .no T_api_Token es27, V.int .i64 n41] false], none⟩)))))))))))) else (some ⟨Out.ret (V.agg [V.int .i64 n9, V.str s15, V.int .i64 n19, V.sl .no T_api_Expr []]), [Blk.cells T_decl_reader [V.sl .no T_api_Token es27, V.int .i64 n28] false], none⟩)))))))))))) else none)) (fun v14 => V.asIface v14 T_decl_given (fun w15 => V.asAgg w15 2 (fun rd16 => V.asInt (rd16 0) .i64 (fun n17 => V.asInt (rd16 1) .i64 (fun n18 => some ⟨Out.pan (V.iface T_decl_given (V.agg [V.int .i64 n17, V.int .i64 n18])), [Blk.cells T_decl_reader [V.sl .no T_api_Token es12, V.int .i64 n13] false], none⟩))))))))))) (fun v8 => V.asIface v8 T_decl_given (fun w9 => V.asAgg w9 2 (fun rd10 => V.asInt (rd10 0) .i64 (fun n11 => V.asInt (rd10 1) .i64 (fun n12 => some ⟨Out.pan (V.iface T_decl_given (V.agg [V.int .i64 n11, V.int .i64 n12])), [Blk.cells T_decl_reader [V.sl .no T_api_Token es6, V.int .i64 n7] false], none⟩))))))))) := (den_eq ..).trans (by kernel_rfl)
end decl_reader_stop
end Go.Proofs.YtmhnmelaodhemaaDoor
namespace Go.Proofs.YtmhnmelaodhemaaDoor
open Go Go.Proofs.Ab Go.Proofs.Px
def rd2 (l : List Tk) (k : Nat) : Blk := .cells T_decl_reader [.sl .no T_api_Token (l.map Tk.v), .int .i64 k] false
def givenD (e : Int × Int) : V := .iface T_decl_given (.agg [.int .i64 e.1, .int .i64 e.2])
def RdD {α : Type} (l : List Tk) (v : α -> V) (r : Rf α) (o : Option Res) : Prop := match r with
 | .ok (x, j) => o = some ⟨.ret (v x), [rd2 l j], none⟩
 | .error e => ∃ j : Nat, o = some ⟨.pan (givenD e), [rd2 l j], none⟩
section
variable {l : List Tk} (hl : Ended l) (hn : l.length <= 100000)
include hl hn
theorem fail_d {k : Nat} (hk : k < l.length) (e : Int) : den Sp decl_reader_fail.id [.ref 0 0, .int .i64 e] [rd2 l k] none = some ⟨.pan (givenD ((tk l k).at_, e)), [rd2 l k], none⟩ := by
 unfold rd2 givenD
 rw [decl_reader_fail.eq, if_pos (row_in hk), Int.toNat_natCast, tok_g hk, tkv_3, asInt_int]
theorem word_d {k : Nat} (hk : k < l.length) (s : List UInt8) : den Sp decl_reader_word.id [.ref 0 0, .str (B s)] [rd2 l k] none = some ⟨.ret (.bool (isW (tk l k) s)), [rd2 l k], none⟩ := by
 unfold rd2 isW
 rw [decl_reader_word.eq]
 simp only [if_pos (row_in hk), Int.toNat_natCast, tok_g hk, tkv_0, tkv_1, asInt_int, asStr_str]
 by_cases c : (tk l k).kind = 1
 ·rw [c]; simp
 ·have : ((tk l k).kind == 1) = false := beq_eq_false_iff_ne.2 c
  rw [this]; simp [c]
theorem full_d {k : Nat} (j : Nat) (hk : j < l.length) (n most : Nat) : RdD l (fun _ : Unit => .tup []) (if most <= n then .error ((tk l j).at_, 2) else .ok ((), k)) (den Sp decl_reader_full.id [.ref 0 0, .int .i64 j, .int .i64 n, .int .i64 most] [rd2 l k] none) := by
 unfold RdD rd2 givenD
 rw [decl_reader_full.eq]
 by_cases c : most <= n
 ·have : decide ((n : Int) >= (most : Int)) = true := decide_eq_true (by omega)
  rw [if_pos c, this, cond_true]
  simp only
  refine ⟨k, ?_⟩
  simp only [if_pos (row_in hk), Int.toNat_natCast, tok_g hk, tkv_3, asInt_int]
 ·have : decide ((n : Int) >= (most : Int)) = false := decide_eq_false (by omega)
  rw [if_neg c, this, cond_false]
theorem name_d {k : Nat} (hk : k < l.length) : RdD l (fun s => .str (B s)) (nameR l k) (den Sp decl_reader_name.id [.ref 0 0] [rd2 l k] none) := by
 have hf := fail_d hl hn hk 30
 unfold RdD nameR wrongR rd2 givenD at *
 rw [decl_reader_name.eq]
 simp only [if_pos (row_in hk), Int.toNat_natCast, tok_g hk, tkv_0, tkv_1, tkv_2, tkv_3, asInt_int, asStr_str, wr1 (show k < 1099511627776 by omega)]
 by_cases c : (tk l k).kind = 1
 ·rw [c]; simp
 ·have : ((tk l k).kind != 1) = true := by simpa using c
  rw [this, if_neg c]
  refine ⟨k, ?_⟩
  simp [hf]
theorem sign_d {k : Nat} (hk : k < l.length) (s : List UInt8) : RdD l (fun _ => .tup []) (signR l s k) (den Sp decl_reader_sign.id [.ref 0 0, .str (B s)] [rd2 l k] none) := by
 have hf := fail_d hl hn hk 30
 unfold RdD signR wrongR rd2 givenD isS at *
 rw [decl_reader_sign.eq]
 simp only [if_pos (row_in hk), Int.toNat_natCast, tok_g hk, tkv_0, tkv_1, tkv_2, tkv_3, asInt_int, asStr_str, wr1 (show k < 1099511627776 by omega)]
 by_cases c : (tk l k).kind = 4
 ·by_cases c2 : (tk l k).text = s
  ·rw [c, c2]; simp
  ·have h1 : (decide ((tk l k).kind = 4) && decide ((tk l k).text = s)) = false := by simp [c2]
   rw [h1, c, if_neg (by simp)]
   refine ⟨k, ?_⟩
   simp [hf, c2]
 ·have h1 : (decide ((tk l k).kind = 4) && decide ((tk l k).text = s)) = false := by simp [c]
  have : ((tk l k).kind != 4) = true := by simpa using c
  rw [h1, this, if_neg (by simp)]
  refine ⟨k, ?_⟩
  simp [hf]
theorem side_d {k : Nat} (hk : k < l.length) : RdD l (fun n => .int .i64 n) (sideR l k) (den Sp decl_reader_side.id [.ref 0 0] [rd2 l k] none) := by
 have hf := fail_d hl hn hk 30
 have h1 := word_d hl hn hk [108, 101, 102, 116]
 have h2 := word_d hl hn hk [114, 105, 103, 104, 116]
 unfold RdD sideR wrongR rd2 givenD at *
 rw [decl_reader_side.eq]
 have w := wr1 (show k < 1099511627776 by omega)
 cases c1 : isW (tk l k) [108, 101, 102, 116] with
 | true =>
  rw [c1] at h1
  simp [h1, w]
 | false =>
  rw [c1] at h1
  cases c2 : isW (tk l k) [114, 105, 103, 104, 116] with
  | true =>
   rw [c2] at h2
   simp [h1, h2, w]
  | false =>
   rw [c2] at h2
   refine ⟨k, ?_⟩
   simp [h1, h2, hf]
theorem same_d {k : Nat} (hk : k < l.length) : RdD l (fun p : Pai => .agg p.v) (sameR l k) (den Sp decl_reader_same.id [.ref 0 0] [rd2 l k] none) := by
 have hN := fun (k : Nat) (hk : k < l.length) => name_d hl hn hk
 have hS1 := fun (k : Nat) (hk : k < l.length) => sign_d hl hn hk [40]
 have hS2 := fun (k : Nat) (hk : k < l.length) => sign_d hl hn hk [41]
 unfold sameR halfR
 unfold RdD rd2 givenD at *
 rw [decl_reader_same.eq]
 have h1 := hN k hk
 cases c1 : nameR l k with
 | error e => rw [c1] at h1; obtain ⟨j, h1⟩ := h1; exact ⟨j, by simp [h1]⟩
 | ok r1 =>
 obtain ⟨x1, k1⟩ := r1
 rw [c1] at h1
 have s1 := (nameR_step hl hk c1).1.end_
 have h2 := hS1 k1 s1
 simp only [andR]
 cases c2 : signR l [40] k1 with
 | error e => rw [c2] at h2; obtain ⟨j, h2⟩ := h2; exact ⟨j, by simp [h1, h2]⟩
 | ok r2 =>
 obtain ⟨_, k2⟩ := r2
 rw [c2] at h2
 have s2 := (signR_step hl s1 c2).1.end_
 have h3 := hN k2 s2
 simp only [andR]
 cases c3 : nameR l k2 with
 | error e => rw [c3] at h3; obtain ⟨j, h3⟩ := h3; exact ⟨j, by simp [h1, h2, h3]⟩
 | ok r3 =>
 obtain ⟨x3, k3⟩ := r3
 rw [c3] at h3
 have s3 := (nameR_step hl s2 c3).1.end_
 have h4 := hS2 k3 s3
 simp only [andR]
 cases c4 : signR l [41] k3 with
 | error e => rw [c4] at h4; obtain ⟨j, h4⟩ := h4; exact ⟨j, by simp [h1, h2, h3, h4]⟩
 | ok r4 =>
 obtain ⟨_, k4⟩ := r4
 rw [c4] at h4
 have s4 := (signR_step hl s3 c4).1.end_
 have h5 := hN k4 s4
 simp only [andR]
 cases c5 : nameR l k4 with
 | error e => rw [c5] at h5; obtain ⟨j, h5⟩ := h5; exact ⟨j, by simp [h1, h2, h3, h4, h5]⟩
 | ok r5 =>
 obtain ⟨x5, k5⟩ := r5
 rw [c5] at h5
 have s5 := (nameR_step hl s4 c5).1.end_
 have h6 := hS1 k5 s5
 simp only [andR]
 cases c6 : signR l [40] k5 with
 | error e => rw [c6] at h6; obtain ⟨j, h6⟩ := h6; exact ⟨j, by simp [h1, h2, h3, h4, h5, h6]⟩
 | ok r6 =>
 obtain ⟨_, k6⟩ := r6
 rw [c6] at h6
 have s6 := (signR_step hl s5 c6).1.end_
 have h7 := hN k6 s6
 simp only [andR]
 cases c7 : nameR l k6 with
 | error e => rw [c7] at h7; obtain ⟨j, h7⟩ := h7; exact ⟨j, by simp [h1, h2, h3, h4, h5, h6, h7]⟩
 | ok r7 =>
 obtain ⟨x7, k7⟩ := r7
 rw [c7] at h7
 have s7 := (nameR_step hl s6 c7).1.end_
 have h8 := hS2 k7 s7
 simp only [andR]
 cases c8 : signR l [41] k7 with
 | error e => rw [c8] at h8; obtain ⟨j, h8⟩ := h8; exact ⟨j, by simp [h1, h2, h3, h4, h5, h6, h7, h8]⟩
 | ok r8 =>
 obtain ⟨_, k8⟩ := r8
 rw [c8] at h8
 simp [h1, h2, h3, h4, h5, h6, h7, h8, Pai.v]
end
def readE (l : List Tk) (k : Nat) : Option Res := match partR l 1 k (tightW l 1 1 k) with
 | .ok (x, j) => some ⟨.ret (.tup [.agg x.v, .int .i64 j, .int .i64 0, .int .i64 0]), [], none⟩
 | .error e => some ⟨.ret (.tup [.agg (Ex.v (.mk 0 [] 0 [])), .int .i64 0, .int .i64 e.1, .int .i64 e.2]), [], none⟩
def ReadsE (f : Nat) (l : List Tk) : Prop := ∀ k, k < l.length -> den Sp f [.sl .no T_api_Token (l.map Tk.v), .int .i64 (k : Int)] [] none = readE l k
end Go.Proofs.YtmhnmelaodhemaaDoor
namespace Go.Proofs.Ab
open Go
section
variable {R : Type}
theorem bind_h {α β : Type} {a b : Option α} {f : α -> Option β} (h : a = b) : a.bind f = b.bind f := by rw [h]
theorem asInt_h {v w : V} {kd : IntKind} {k : Int -> Option R} (h : v = w) : v.asInt kd k = w.asInt kd k := by rw [h]
theorem asBool_h {v w : V} {k : Bool -> Option R} (h : v = w) : v.asBool k = w.asBool k := by rw [h]
theorem asStr_h {v w : V} {k : ByteArray -> Option R} (h : v = w) : v.asStr k = w.asStr k := by rw [h]
theorem asSl_h {v w : V} {e : TypeId} {k : List (List V) -> Option R} (h : v = w) : v.asSl e k = w.asSl e k := by rw [h]
theorem asSlR_h {v w : V} {p : Nat} {e : TypeId} {k : List (List V) -> Option R} (h : v = w) : v.asSlR p e k = w.asSlR p e k := by rw [h]
theorem asAgg_h {v w : V} {n : Nat} {k : (Nat -> V) -> Option R} (h : v = w) : v.asAgg n k = w.asAgg n k := by rw [h]
theorem asTup_h {v w : V} {n : Nat} {k : (Nat -> V) -> Option R} (h : v = w) : v.asTup n k = w.asTup n k := by rw [h]
theorem asIface_h {v w : V} {t : TypeId} {k : V -> Option R} (h : v = w) : v.asIface t k = w.asIface t k := by rw [h]
theorem asCells_h {b c : Blk} {t : TypeId} {n : Nat} {k : (Nat -> V) -> Option R} (h : b = c) : b.asCells t n k = c.asCells t n k := by rw [h]
theorem onRet_h {r s : Res} {k : V -> Option R} (h : r = s) : r.onRet k = s.onRet k := by rw [h]
theorem onOut_h {r s : Res} {k kp : V -> Option R} (h : r = s) : r.onOut k kp = s.onOut k kp := by rw [h]
theorem cond_h {α : Type} {b c : Bool} {x y : α} (h : b = c) : cond b x y = cond c x y := by rw [h]
end
theorem lz : (∀ l : List UInt8, ByteArray.mk l.toArray = Px.B l) ∧
 (∀ (r : Res) (f : Res -> Option Res), (some r).bind f = f r) ∧
 (∀ (o : Out) (bl : List Blk) (pn : Option (Option V)), Res.bl ⟨o, bl, pn⟩ = bl) ∧
 (∀ {α : Type} (a : α) (l : List α) (d : α), (a :: l).getD 0 d = a) ∧
 (∀ {α : Type} (a : α) (l : List α) (n : Nat) (d : α), (a :: l).getD (n + 1) d = l.getD n d) ∧
 (∀ (t : TypeId) (x0 : V) (k : (Nat -> V) -> Option Res), Blk.asCells (.cells t [x0] false) t 1 k = k (fun j => List.getD [x0] j .undef)) ∧
 (∀ (t : TypeId) (x0 : V) (x1 : V) (k : (Nat -> V) -> Option Res), Blk.asCells (.cells t [x0, x1] false) t 2 k = k (fun j => List.getD [x0, x1] j .undef)) ∧
 (∀ (t : TypeId) (x0 : V) (x1 : V) (x2 : V) (k : (Nat -> V) -> Option Res), Blk.asCells (.cells t [x0, x1, x2] false) t 3 k = k (fun j => List.getD [x0, x1, x2] j .undef)) ∧
 (∀ (t : TypeId) (x0 : V) (x1 : V) (x2 : V) (x3 : V) (k : (Nat -> V) -> Option Res), Blk.asCells (.cells t [x0, x1, x2, x3] false) t 4 k = k (fun j => List.getD [x0, x1, x2, x3] j .undef)) ∧
 (∀ (t : TypeId) (x0 : V) (x1 : V) (x2 : V) (x3 : V) (x4 : V) (k : (Nat -> V) -> Option Res), Blk.asCells (.cells t [x0, x1, x2, x3, x4] false) t 5 k = k (fun j => List.getD [x0, x1, x2, x3, x4] j .undef)) ∧
 (∀ (t : TypeId) (x0 : V) (x1 : V) (x2 : V) (x3 : V) (x4 : V) (x5 : V) (k : (Nat -> V) -> Option Res), Blk.asCells (.cells t [x0, x1, x2, x3, x4, x5] false) t 6 k = k (fun j => List.getD [x0, x1, x2, x3, x4, x5] j .undef)) ∧
 (∀ (t : TypeId) (x0 : V) (x1 : V) (x2 : V) (x3 : V) (x4 : V) (x5 : V) (x6 : V) (k : (Nat -> V) -> Option Res), Blk.asCells (.cells t [x0, x1, x2, x3, x4, x5, x6] false) t 7 k = k (fun j => List.getD [x0, x1, x2, x3, x4, x5, x6] j .undef)) ∧
 (∀ (t : Tok) (e : TypeId) (es : List (List V)) (k : List (List V) -> Option Res), V.asSl (.sl t e es) e k = k es) ∧
 (∀ (p : Nat) (e : TypeId) (es : List (List V)) (k : List (List V) -> Option Res), V.asSlR (.sl (.row p) e es) p e k = k es) ∧
 (∀ (kd : IntKind) (n : Int) (k : Int -> Option Res), V.asInt (.int kd n) kd k = k n) ∧
 (∀ (s : ByteArray) (k : ByteArray -> Option Res), V.asStr (.str s) k = k s) ∧
 (∀ (b : Bool) (k : Bool -> Option Res), V.asBool (.bool b) k = k b) ∧
 (∀ (v : V) (bl : List Blk) (pn : Option (Option V)) (k : V -> Option Res), Res.onRet ⟨.ret v, bl, pn⟩ k = k v) ∧
 (∀ (v : V) (bl : List Blk) (pn : Option (Option V)) (k kp : V -> Option Res), Res.onOut ⟨.ret v, bl, pn⟩ k kp = k v) ∧
 (∀ (v : V) (bl : List Blk) (pn : Option (Option V)) (k kp : V -> Option Res), Res.onOut ⟨.pan v, bl, pn⟩ k kp = kp v) ∧
 (∀ (t : TypeId) (v : V) (k : V -> Option Res), V.asIface (.iface t v) t k = k v) ∧
 (∀ k : (Nat -> V) -> Option Res, V.asTup (.tup []) 0 k = k (fun j => List.getD [] j .undef)) ∧
 (∀ (x0 : V) (x1 : V) (k : (Nat -> V) -> Option Res), V.asAgg (.agg [x0, x1]) 2 k = k (fun j => List.getD [x0, x1] j .undef)) ∧
 (∀ (x0 : V) (x1 : V) (x2 : V) (x3 : V) (k : (Nat -> V) -> Option Res), V.asAgg (.agg [x0, x1, x2, x3]) 4 k = k (fun j => List.getD [x0, x1, x2, x3] j .undef)) ∧
 (∀ (x0 : V) (x1 : V) (k : (Nat -> V) -> Option Res), V.asTup (.tup [x0, x1]) 2 k = k (fun j => List.getD [x0, x1] j .undef)) ∧
 (∀ (x0 : V) (x1 : V) (x2 : V) (k : (Nat -> V) -> Option Res), V.asTup (.tup [x0, x1, x2]) 3 k = k (fun j => List.getD [x0, x1, x2] j .undef)) ∧
 (∀ (x0 : V) (x1 : V) (x2 : V) (x3 : V) (k : (Nat -> V) -> Option Res), V.asTup (.tup [x0, x1, x2, x3]) 4 k = k (fun j => List.getD [x0, x1, x2, x3] j .undef)) ∧
 (∀ x y : Option Res, cond true x y = x) ∧
 (∀ x y : Option Res, cond false x y = y) ∧
 ((!true) = false) ∧
 ((!false) = true) ∧
 (∀ n : Int, (n != n) = false) ∧
 ((false = true) = False) ∧
 (∀ a : V, beqV a a = true) ∧
 (∀ b : Bool, (b && true) = b) :=
 ⟨Px.mk_B, fun _ _ => rfl, bl_mk, fun _ _ _ => rfl, fun _ _ _ _ => List.getD_cons_succ, fun t x0 k => asCells_1 t x0 k, fun t x0 x1 k => asCells_2 t x0 x1 k, fun t x0 x1 x2 k => asCells_3 t x0 x1 x2 k, fun t x0 x1 x2 x3 k => asCells_4 t x0 x1 x2 x3 k, fun t x0 x1 x2 x3 x4 k => asCells_5 t x0 x1 x2 x3 x4 k, fun t x0 x1 x2 x3 x4 x5 k => asCells_6 t x0 x1 x2 x3 x4 x5 k, fun t x0 x1 x2 x3 x4 x5 x6 k => asCells_7 t x0 x1 x2 x3 x4 x5 x6 k, asSl_sl, asSlR_sl, asInt_int, asStr_str, asBool_bool, onRet_ret, onOut_ret, onOut_pan, asIface_iface, fun _ => rfl, fun x0 x1 k => asAgg_2 x0 x1 k, fun x0 x1 x2 x3 k => asAgg_4 x0 x1 x2 x3 k, fun x0 x1 k => asTup_2 x0 x1 k, fun x0 x1 x2 k => asTup_3 x0 x1 x2 k, fun x0 x1 x2 x3 k => asTup_4 x0 x1 x2 x3 k, fun _ _ => rfl, fun _ _ => rfl, rfl, rfl, fun n => bne_self_eq_false n, by simp, beqV_self, Bool.and_true⟩
end Go.Proofs.Ab
namespace Go.Proofs.YtmhnmelaodhemaaDoor
open Go Go.Proofs.Ab
namespace decl_reader_line
theorem eq (m0_0 : List (List V)) (m0_1 : Int) (m0_2 m0_3 m0_4 m0_5 m0_6 : List (List V)) : den Sp id [V.ref 0 0] [Blk.cells T_decl_reader [V.sl .no T_api_Token m0_0, V.int .i64 m0_1, V.sl (Tok.row 0) T_api_Pair m0_2, V.sl (Tok.row 1) T_api_Pair m0_3, V.sl (Tok.row 2) T_decl_Keep m0_4, V.sl (Tok.row 3) T_decl_Break m0_5, V.sl (Tok.row 4) T_decl_Watch m0_6] false] none =
  (den Sp decl_reader_word.id [V.ref 0 0, V.str (ByteArray.mk #[112, 97, 105, 114])] [Blk.cells T_decl_reader [V.sl .no T_api_Token m0_0, V.int .i64 m0_1] false] none).bind (fun r9 => Blk.asCells (List.getD (Res.bl r9) 0 (Blk.cells T_n0 [] true)) T_decl_reader 2 (fun rd10 => V.asSl (rd10 0) T_api_Token (fun es11 => V.asInt (rd10 1) .i64 (fun n12 => Res.onRet r9 (fun v13 => V.asBool v13 (fun b14 => bif b14 then (den Sp decl_reader_full.id [V.ref 0 0, V.int .i64 m0_1, V.int .i64 (m0_2.length : Int), V.int .i64 (40 : Int)] [Blk.cells T_decl_reader [V.sl .no T_api_Token es11, V.int .i64 n12] false] none).bind (fun r16 => Blk.asCells (List.getD (Res.bl r16) 0 (Blk.cells T_n0 [] true)) T_decl_reader 2 (fun rd17 => V.asSl (rd17 0) T_api_Token (fun es18 => V.asInt (rd17 1) .i64 (fun n19 => Res.onOut r16 (fun v20 => V.asTup v20 0 (fun rd21 => (den Sp decl_reader_name.id [V.ref 0 0] [Blk.cells T_decl_reader [V.sl .no T_api_Token es18, V.int .i64 (IntKind.wrap .i64 (n19 + (1 : Int)))] false] none).bind (fun r24 => Blk.asCells (List.getD (Res.bl r24) 0 (Blk.cells T_n0 [] true)) T_decl_reader 2 (fun rd25 => V.asSl (rd25 0) T_api_Token (fun es26 => V.asInt (rd25 1) .i64 (fun n27 => Res.onOut r24 (fun v28 => V.asStr v28 (fun s29 => (den Sp decl_reader_name.id [V.ref 0 0] [Blk.cells T_decl_reader [V.sl .no T_api_Token es26, V.int .i64 n27] false] none).bind (fun r31 => Blk.asCells (List.getD (Res.bl r31) 0 (Blk.cells T_n0 [] true)) T_decl_reader 2 (fun rd32 => V.asSl (rd32 0) T_api_Token (fun es33 => V.asInt (rd32 1) .i64 (fun n34 => Res.onOut r31 (fun v35 => V.asStr v35 (fun s36 => bif ((beqV (V.sl (Tok.row 0) T_api_Pair m0_2) (V.sl (Tok.row 0) T_api_Pair m0_2)) && true) then (bif (decide ((m0_2.length : Int) >= (40 : Int))) then (if (((0 : Int) <= m0_1) ∧ (m0_1 < (es33.length : Int))) then (V.asInt (List.getD (List.getD es33 (Int.toNat m0_1) []) 3 V.undef) .i64 (fun n37 => some ⟨Out.pan (V.iface T_decl_given (V.agg [V.int .i64 n37, V.int .i64 (2 : Int)])), [Blk.cells T_decl_reader [V.sl .no T_api_Token es33, V.int .i64 n34, V.sl (Tok.row 0) T_api_Pair m0_2, V.sl (Tok.row 1) T_api_Pair m0_3, V.sl (Tok.row 2) T_decl_Keep m0_4, V.sl (Tok.row 3) T_decl_Break m0_5, V.sl (Tok.row 4) T_decl_Watch m0_6] false], none⟩)) else none) else (if (((List.length m0_2) + (List.length [[V.str s29, V.str s36, V.str (ByteArray.mk #[]), V.str (ByteArray.mk #[])]])) <= most) then (den Sp decl_reader_sign.id [V.ref 0 0, V.str (ByteArray.mk #[59])] [Blk.cells T_decl_reader [V.sl .no T_api_Token es33, V.int .i64 n34] false] none).bind (fun r38 => Blk.asCells (List.getD (Res.bl r38) 0 (Blk.cells T_n0 [] true)) T_decl_reader 2 (fun rd39 => V.asSl (rd39 0) T_api_Token (fun es40 => V.asInt (rd39 1) .i64 (fun n41 => Res.onOut r38 (fun v42 => V.asTup v42 0 (fun rd43 => some ⟨Out.ret (V.tup []), [Blk.cells T_decl_reader [V.sl .no T_api_Token es40, V.int .i64 n41, V.sl (Tok.row 0) T_api_Pair (m0_2 ++ [[V.str s29, V.str s36, V.str (ByteArray.mk #[]), V.str (ByteArray.mk #[])]]), V.sl (Tok.row 1) T_api_Pair m0_3, V.sl (Tok.row 2) T_decl_Keep m0_4, V.sl (Tok.row 3) T_decl_Break m0_5, V.sl (Tok.row 4) T_decl_Watch m0_6] false], none⟩)) (fun v42 => V.asIface v42 T_decl_given (fun w43 => V.asAgg w43 2 (fun rd44 => V.asInt (rd44 0) .i64 (fun n45 => V.asInt (rd44 1) .i64 (fun n46 => some ⟨Out.pan (V.iface T_decl_given (V.agg [V.int .i64 n45, V.int .i64 n46])), [Blk.cells T_decl_reader [V.sl .no T_api_Token es40, V.int .i64 n41, V.sl (Tok.row 0) T_api_Pair (m0_2 ++ [[V.str s29, V.str s36, V.str (ByteArray.mk #[]), V.str (ByteArray.mk #[])]]), V.sl (Tok.row 1) T_api_Pair m0_3, V.sl (Tok.row 2) T_decl_Keep m0_4, V.sl (Tok.row 3) T_decl_Break m0_5, V.sl (Tok.row 4) T_decl_Watch m0_6] false], none⟩))))))))) else none)) else none)) (fun v35 => V.asIface v35 T_decl_given (fun w36 => V.asAgg w36 2 (fun rd37 => V.asInt (rd37 0) .i64 (fun n38 => V.asInt (rd37 1) .i64 (fun n39 => some ⟨Out.pan (V.iface T_decl_given (V.agg [V.int .i64 n38, V.int .i64 n39])), [Blk.cells T_decl_reader [V.sl .no T_api_Token es33, V.int .i64 n34, V.sl (Tok.row 0) T_api_Pair m0_2, V.sl (Tok.row 1) T_api_Pair m0_3, V.sl (Tok.row 2) T_decl_Keep m0_4, V.sl (Tok.row 3) T_decl_Break m0_5, V.sl (Tok.row 4) T_decl_Watch m0_6] false], none⟩))))))))))) (fun v28 => V.asIface v28 T_decl_given (fun w29 => V.asAgg w29 2 (fun rd30 => V.asInt (rd30 0) .i64 (fun n31 => V.asInt (rd30 1) .i64 (fun n32 => some ⟨Out.pan (V.iface T_decl_given (V.agg [V.int .i64 n31, V.int .i64 n32])), [Blk.cells T_decl_reader [V.sl .no T_api_Token es26, V.int .i64 n27, V.sl (Tok.row 0) T_api_Pair m0_2, V.sl (Tok.row 1) T_api_Pair m0_3, V.sl (Tok.row 2) T_decl_Keep m0_4, V.sl (Tok.row 3) T_decl_Break m0_5, V.sl (Tok.row 4) T_decl_Watch m0_6] false], none⟩))))))))))) (fun v20 => V.asIface v20 T_decl_given (fun w21 => V.asAgg w21 2 (fun rd22 => V.asInt (rd22 0) .i64 (fun n23 => V.asInt (rd22 1) .i64 (fun n24 => some ⟨Out.pan (V.iface T_decl_given (V.agg [V.int .i64 n23, V.int .i64 n24])), [Blk.cells T_decl_reader [V.sl .no T_api_Token es18, V.int .i64 n19, V.sl (Tok.row 0) T_api_Pair m0_2, V.sl (Tok.row 1) T_api_Pair m0_3, V.sl (Tok.row 2) T_decl_Keep m0_4, V.sl (Tok.row 3) T_decl_Break m0_5, V.sl (Tok.row 4) T_decl_Watch m0_6] false], none⟩))))))))) else (den Sp decl_reader_word.id [V.ref 0 0, V.str (ByteArray.mk #[115, 97, 109, 101])] [Blk.cells T_decl_reader [V.sl .no T_api_Token es11, V.int .i64 n12] false] none).bind (fun r16 => Blk.asCells (List.getD (Res.bl r16) 0 (Blk.cells T_n0 [] true)) T_decl_reader 2 (fun rd17 => V.asSl (rd17 0) T_api_Token (fun es18 => V.asInt (rd17 1) .i64 (fun n19 => Res.onRet r16 (fun v20 => V.asBool v20 (fun b21 => bif b21 then (den Sp decl_reader_full.id [V.ref 0 0, V.int .i64 m0_1, V.int .i64 (m0_3.length : Int), V.int .i64 (40 : Int)] [Blk.cells T_decl_reader [V.sl .no T_api_Token es18, V.int .i64 n19] false] none).bind (fun r23 => Blk.asCells (List.getD (Res.bl r23) 0 (Blk.cells T_n0 [] true)) T_decl_reader 2 (fun rd24 => V.asSl (rd24 0) T_api_Token (fun es25 => V.asInt (rd24 1) .i64 (fun n26 => Res.onOut r23 (fun v27 => V.asTup v27 0 (fun rd28 => (den Sp decl_reader_same.id [V.ref 0 0] [Blk.cells T_decl_reader [V.sl .no T_api_Token es25, V.int .i64 (IntKind.wrap .i64 (n26 + (1 : Int)))] false] none).bind (fun r31 => Blk.asCells (List.getD (Res.bl r31) 0 (Blk.cells T_n0 [] true)) T_decl_reader 2 (fun rd32 => V.asSl (rd32 0) T_api_Token (fun es33 => V.asInt (rd32 1) .i64 (fun n34 => Res.onOut r31 (fun v35 => V.asAgg v35 4 (fun rd36 => V.asStr (rd36 0) (fun s37 => V.asStr (rd36 1) (fun s38 => V.asStr (rd36 2) (fun s39 => V.asStr (rd36 3) (fun s40 => bif (decide ((m0_3.length : Int) >= (40 : Int))) then (if (((0 : Int) <= m0_1) ∧ (m0_1 < (es33.length : Int))) then (V.asInt (List.getD (List.getD es33 (Int.toNat m0_1) []) 3 V.undef) .i64 (fun n42 => some ⟨Out.pan (V.iface T_decl_given (V.agg [V.int .i64 n42, V.int .i64 (2 : Int)])), [Blk.cells T_decl_reader [V.sl .no T_api_Token es33, V.int .i64 n34, V.sl (Tok.row 0) T_api_Pair m0_2, V.sl (Tok.row 1) T_api_Pair m0_3, V.sl (Tok.row 2) T_decl_Keep m0_4, V.sl (Tok.row 3) T_decl_Break m0_5, V.sl (Tok.row 4) T_decl_Watch m0_6] false], none⟩)) else none) else (if (((List.length m0_3) + (List.length [[V.str s37, V.str s38, V.str s39, V.str s40]])) <= most) then (den Sp decl_reader_sign.id [V.ref 0 0, V.str (ByteArray.mk #[59])] [Blk.cells T_decl_reader [V.sl .no T_api_Token es33, V.int .i64 n34] false] none).bind (fun r43 => Blk.asCells (List.getD (Res.bl r43) 0 (Blk.cells T_n0 [] true)) T_decl_reader 2 (fun rd44 => V.asSl (rd44 0) T_api_Token (fun es45 => V.asInt (rd44 1) .i64 (fun n46 => Res.onOut r43 (fun v47 => V.asTup v47 0 (fun rd48 => some ⟨Out.ret (V.tup []), [Blk.cells T_decl_reader [V.sl .no T_api_Token es45, V.int .i64 n46, V.sl (Tok.row 0) T_api_Pair m0_2, V.sl (Tok.row 1) T_api_Pair (m0_3 ++ [[V.str s37, V.str s38, V.str s39, V.str s40]]), V.sl (Tok.row 2) T_decl_Keep m0_4, V.sl (Tok.row 3) T_decl_Break m0_5, V.sl (Tok.row 4) T_decl_Watch m0_6] false], none⟩)) (fun v47 => V.asIface v47 T_decl_given (fun w48 => V.asAgg w48 2 (fun rd49 => V.asInt (rd49 0) .i64 (fun n50 => V.asInt (rd49 1) .i64 (fun n51 => some ⟨Out.pan (V.iface T_decl_given (V.agg [V.int .i64 n50, V.int .i64 n51])), [Blk.cells T_decl_reader [V.sl .no T_api_Token es45, V.int .i64 n46, V.sl (Tok.row 0) T_api_Pair m0_2, V.sl (Tok.row 1) T_api_Pair (m0_3 ++ [[V.str s37, V.str s38, V.str s39, V.str s40]]), V.sl (Tok.row 2) T_decl_Keep m0_4, V.sl (Tok.row 3) T_decl_Break m0_5, V.sl (Tok.row 4) T_decl_Watch m0_6] false], none⟩))))))))) else none))))))) (fun v35 => V.asIface v35 T_decl_given (fun w36 => V.asAgg w36 2 (fun rd37 => V.asInt (rd37 0) .i64 (fun n38 => V.asInt (rd37 1) .i64 (fun n39 => some ⟨Out.pan (V.iface T_decl_given (V.agg [V.int .i64 n38, V.int .i64 n39])), [Blk.cells T_decl_reader [V.sl .no T_api_Token es33, V.int .i64 n34, V.sl (Tok.row 0) T_api_Pair m0_2, V.sl (Tok.row 1) T_api_Pair m0_3, V.sl (Tok.row 2) T_decl_Keep m0_4, V.sl (Tok.row 3) T_decl_Break m0_5, V.sl (Tok.row 4) T_decl_Watch m0_6] false], none⟩))))))))))) (fun v27 => V.asIface v27 T_decl_given (fun w28 => V.asAgg w28 2 (fun rd29 => V.asInt (rd29 0) .i64 (fun n30 => V.asInt (rd29 1) .i64 (fun n31 => some ⟨Out.pan (V.iface T_decl_given (V.agg [V.int .i64 n30, V.int .i64 n31])), [Blk.cells T_decl_reader [V.sl .no T_api_Token es25, V.int .i64 n26, V.sl (Tok.row 0) T_api_Pair m0_2, V.sl (Tok.row 1) T_api_Pair m0_3, V.sl (Tok.row 2) T_decl_Keep m0_4, V.sl (Tok.row 3) T_decl_Break m0_5, V.sl (Tok.row 4) T_decl_Watch m0_6] false], none⟩))))))))) else (den Sp decl_reader_word.id [V.ref 0 0, V.str (ByteArray.mk #[107, 101, 101, 112])] [Blk.cells T_decl_reader [V.sl .no T_api_Token es18, V.int .i64 n19] false] none).bind (fun r23 => Blk.asCells (List.getD (Res.bl r23) 0 (Blk.cells T_n0 [] true)) T_decl_reader 2 (fun rd24 => V.asSl (rd24 0) T_api_Token (fun es25 => V.asInt (rd24 1) .i64 (fun n26 => Res.onRet r23 (fun v27 => V.asBool v27 (fun b28 => bif b28 then (den Sp decl_reader_full.id [V.ref 0 0, V.int .i64 m0_1, V.int .i64 (m0_4.length : Int), V.int .i64 (40 : Int)] [Blk.cells T_decl_reader [V.sl .no T_api_Token es25, V.int .i64 n26] false] none).bind (fun r30 => Blk.asCells (List.getD (Res.bl r30) 0 (Blk.cells T_n0 [] true)) T_decl_reader 2 (fun rd31 => V.asSl (rd31 0) T_api_Token (fun es32 => V.asInt (rd31 1) .i64 (fun n33 => Res.onOut r30 (fun v34 => V.asTup v34 0 (fun rd35 => (den Sp decl_reader_side.id [V.ref 0 0] [Blk.cells T_decl_reader [V.sl .no T_api_Token es32, V.int .i64 (IntKind.wrap .i64 (n33 + (1 : Int)))] false] none).bind (fun r38 => Blk.asCells (List.getD (Res.bl r38) 0 (Blk.cells T_n0 [] true)) T_decl_reader 2 (fun rd39 => V.asSl (rd39 0) T_api_Token (fun es40 => V.asInt (rd39 1) .i64 (fun n41 => Res.onOut r38 (fun v42 => V.asInt v42 .i64 (fun n43 => (den Sp decl_reader_name.id [V.ref 0 0] [Blk.cells T_decl_reader [V.sl .no T_api_Token es40, V.int .i64 n41] false] none).bind (fun r45 => Blk.asCells (List.getD (Res.bl r45) 0 (Blk.cells T_n0 [] true)) T_decl_reader 2 (fun rd46 => V.asSl (rd46 0) T_api_Token (fun es47 => V.asInt (rd46 1) .i64 (fun n48 => Res.onOut r45 (fun v49 => V.asStr v49 (fun s50 => (den Sp decl_reader_name.id [V.ref 0 0] [Blk.cells T_decl_reader [V.sl .no T_api_Token es47, V.int .i64 n48] false] none).bind (fun r52 => Blk.asCells (List.getD (Res.bl r52) 0 (Blk.cells T_n0 [] true)) T_decl_reader 2 (fun rd53 => V.asSl (rd53 0) T_api_Token (fun es54 => V.asInt (rd53 1) .i64 (fun n55 => Res.onOut r52 (fun v56 => V.asStr v56 (fun s57 => bif ((beqV (V.sl (Tok.row 2) T_decl_Keep m0_4) (V.sl (Tok.row 2) T_decl_Keep m0_4)) && true) then (bif (decide ((m0_4.length : Int) >= (40 : Int))) then (if (((0 : Int) <= m0_1) ∧ (m0_1 < (es54.length : Int))) then (V.asInt (List.getD (List.getD es54 (Int.toNat m0_1) []) 3 V.undef) .i64 (fun n58 => some ⟨Out.pan (V.iface T_decl_given (V.agg [V.int .i64 n58, V.int .i64 (2 : Int)])), [Blk.cells T_decl_reader [V.sl .no T_api_Token es54, V.int .i64 n55, V.sl (Tok.row 0) T_api_Pair m0_2, V.sl (Tok.row 1) T_api_Pair m0_3, V.sl (Tok.row 2) T_decl_Keep m0_4, V.sl (Tok.row 3) T_decl_Break m0_5, V.sl (Tok.row 4) T_decl_Watch m0_6] false], none⟩)) else none) else (if (((List.length m0_4) + (List.length [[V.int .i64 n43, V.str s50, V.str s57]])) <= most) then (den Sp decl_reader_sign.id [V.ref 0 0, V.str (ByteArray.mk #[59])] [Blk.cells T_decl_reader [V.sl .no T_api_Token es54, V.int .i64 n55] false] none).bind (fun r59 => Blk.asCells (List.getD (Res.bl r59) 0 (Blk.cells T_n0 [] true)) T_decl_reader 2 (fun rd60 => V.asSl (rd60 0) T_api_Token (fun es61 => V.asInt (rd60 1) .i64 (fun n62 => Res.onOut r59 (fun v63 => V.asTup v63 0 (fun rd64 => some ⟨Out.ret (V.tup []), [Blk.cells T_decl_reader [V.sl .no T_api_Token es61, V.int .i64 n62, V.sl (Tok.row 0) T_api_Pair m0_2, V.sl (Tok.row 1) T_api_Pair m0_3, V.sl (Tok.row 2) T_decl_Keep (m0_4 ++ [[V.int .i64 n43, V.str s50, V.str s57]]), V.sl (Tok.row 3) T_decl_Break m0_5, V.sl (Tok.row 4) T_decl_Watch m0_6] false], none⟩)) (fun v63 => V.asIface v63 T_decl_given (fun w64 => V.asAgg w64 2 (fun rd65 => V.asInt (rd65 0) .i64 (fun n66 => V.asInt (rd65 1) .i64 (fun n67 => some ⟨Out.pan (V.iface T_decl_given (V.agg [V.int .i64 n66, V.int .i64 n67])), [Blk.cells T_decl_reader [V.sl .no T_api_Token es61, V.int .i64 n62, V.sl (Tok.row 0) T_api_Pair m0_2, V.sl (Tok.row 1) T_api_Pair m0_3, V.sl (Tok.row 2) T_decl_Keep (m0_4 ++ [[V.int .i64 n43, V.str s50, V.str s57]]), V.sl (Tok.row 3) T_decl_Break m0_5, V.sl (Tok.row 4) T_decl_Watch m0_6] false], none⟩))))))))) else none)) else none)) (fun v56 => V.asIface v56 T_decl_given (fun w57 => V.asAgg w57 2 (fun rd58 => V.asInt (rd58 0) .i64 (fun n59 => V.asInt (rd58 1) .i64 (fun n60 => some ⟨Out.pan (V.iface T_decl_given (V.agg [V.int .i64 n59, V.int .i64 n60])), [Blk.cells T_decl_reader [V.sl .no T_api_Token es54, V.int .i64 n55, V.sl (Tok.row 0) T_api_Pair m0_2, V.sl (Tok.row 1) T_api_Pair m0_3, V.sl (Tok.row 2) T_decl_Keep m0_4, V.sl (Tok.row 3) T_decl_Break m0_5, V.sl (Tok.row 4) T_decl_Watch m0_6] false], none⟩))))))))))) (fun v49 => V.asIface v49 T_decl_given (fun w50 => V.asAgg w50 2 (fun rd51 => V.asInt (rd51 0) .i64 (fun n52 => V.asInt (rd51 1) .i64 (fun n53 => some ⟨Out.pan (V.iface T_decl_given (V.agg [V.int .i64 n52, V.int .i64 n53])), [Blk.cells T_decl_reader [V.sl .no T_api_Token es47, V.int .i64 n48, V.sl (Tok.row 0) T_api_Pair m0_2, V.sl (Tok.row 1) T_api_Pair m0_3, V.sl (Tok.row 2) T_decl_Keep m0_4, V.sl (Tok.row 3) T_decl_Break m0_5, V.sl (Tok.row 4) T_decl_Watch m0_6] false], none⟩))))))))))) (fun v42 => V.asIface v42 T_decl_given (fun w43 => V.asAgg w43 2 (fun rd44 => V.asInt (rd44 0) .i64 (fun n45 => V.asInt (rd44 1) .i64 (fun n46 => some ⟨Out.pan (V.iface T_decl_given (V.agg [V.int .i64 n45, V.int .i64 n46])), [Blk.cells T_decl_reader [V.sl .no T_api_Token es40, V.int .i64 n41, V.sl (Tok.row 0) T_api_Pair m0_2, V.sl (Tok.row 1) T_api_Pair m0_3, V.sl (Tok.row 2) T_decl_Keep m0_4, V.sl (Tok.row 3) T_decl_Break m0_5, V.sl (Tok.row 4) T_decl_Watch m0_6] false], none⟩))))))))))) (fun v34 => V.asIface v34 T_decl_given (fun w35 => V.asAgg w35 2 (fun rd36 => V.asInt (rd36 0) .i64 (fun n37 => V.asInt (rd36 1) .i64 (fun n38 => some ⟨Out.pan (V.iface T_decl_given (V.agg [V.int .i64 n37, V.int .i64 n38])), [Blk.cells T_decl_reader [V.sl .no T_api_Token es32, V.int .i64 n33, V.sl (Tok.row 0) T_api_Pair m0_2, V.sl (Tok.row 1) T_api_Pair m0_3, V.sl (Tok.row 2) T_decl_Keep m0_4, V.sl (Tok.row 3) T_decl_Break m0_5, V.sl (Tok.row 4) T_decl_Watch m0_6] false], none⟩))))))))) else (den Sp decl_reader_word.id [V.ref 0 0, V.str (ByteArray.mk #[98, 114, 101, 97, 107])] [Blk.cells T_decl_reader [V.sl .no T_api_Token es25, V.int .i64 n26] false] none).bind (fun r30 => Blk.asCells (List.getD (Res.bl r30) 0 (Blk.cells T_n0 [] true)) T_decl_reader 2 (fun rd31 => V.asSl (rd31 0) T_api_Token (fun es32 => V.asInt (rd31 1) .i64 (fun n33 => Res.onRet r30 (fun v34 => V.asBool v34 (fun b35 => bif b35 then (den Sp decl_reader_full.id [V.ref 0 0, V.int .i64 m0_1, V.int .i64 (m0_5.length : Int), V.int .i64 (40 : Int)] [Blk.cells T_decl_reader [V.sl .no T_api_Token es32, V.int .i64 n33] false] none).bind (fun r37 => Blk.asCells (List.getD (Res.bl r37) 0 (Blk.cells T_n0 [] true)) T_decl_reader 2 (fun rd38 => V.asSl (rd38 0) T_api_Token (fun es39 => V.asInt (rd38 1) .i64 (fun n40 => Res.onOut r37 (fun v41 => V.asTup v41 0 (fun rd42 => (den Sp decl_reader_stop.id [V.ref 0 0] [Blk.cells T_decl_reader [V.sl .no T_api_Token es39, V.int .i64 (IntKind.wrap .i64 (n40 + (1 : Int)))] false] none).bind (fun r45 => Blk.asCells (List.getD (Res.bl r45) 0 (Blk.cells T_n0 [] true)) T_decl_reader 2 (fun rd46 => V.asSl (rd46 0) T_api_Token (fun es47 => V.asInt (rd46 1) .i64 (fun n48 => Res.onOut r45 (fun v49 => V.asAgg v49 4 (fun rd50 => V.asInt (rd50 0) .i64 (fun n51 => V.asStr (rd50 1) (fun s52 => V.asInt (rd50 2) .i64 (fun n53 => V.asSl (rd50 3) T_api_Expr (fun es54 => bif (decide ((m0_5.length : Int) >= (40 : Int))) then (if (((0 : Int) <= m0_1) ∧ (m0_1 < (es47.length : Int))) then (V.asInt (List.getD (List.getD es47 (Int.toNat m0_1) []) 3 V.undef) .i64 (fun n56 => some ⟨Out.pan (V.iface T_decl_given (V.agg [V.int .i64 n56, V.int .i64 (2 : Int)])), [Blk.cells T_decl_reader [V.sl .no T_api_Token es47, V.int .i64 n48, V.sl (Tok.row 0) T_api_Pair m0_2, V.sl (Tok.row 1) T_api_Pair m0_3, V.sl (Tok.row 2) T_decl_Keep m0_4, V.sl (Tok.row 3) T_decl_Break m0_5, V.sl (Tok.row 4) T_decl_Watch m0_6] false], none⟩)) else none) else (if (((List.length m0_5) + (List.length [[V.int .i64 n51, V.str s52, V.int .i64 n53, V.sl .no T_api_Expr es54]])) <= most) then (den Sp decl_reader_sign.id [V.ref 0 0, V.str (ByteArray.mk #[59])] [Blk.cells T_decl_reader [V.sl .no T_api_Token es47, V.int .i64 n48] false] none).bind (fun r57 => Blk.asCells (List.getD (Res.bl r57) 0 (Blk.cells T_n0 [] true)) T_decl_reader 2 (fun rd58 => V.asSl (rd58 0) T_api_Token (fun es59 => V.asInt (rd58 1) .i64 (fun n60 => Res.onOut r57 (fun v61 => V.asTup v61 0 (fun rd62 => some ⟨Out.ret (V.tup []), [Blk.cells T_decl_reader [V.sl .no T_api_Token es59, V.int .i64 n60, V.sl (Tok.row 0) T_api_Pair m0_2, V.sl (Tok.row 1) T_api_Pair m0_3, V.sl (Tok.row 2) T_decl_Keep m0_4, V.sl (Tok.row 3) T_decl_Break (m0_5 ++ [[V.int .i64 n51, V.str s52, V.int .i64 n53, V.sl .no T_api_Expr es54]]), V.sl (Tok.row 4) T_decl_Watch m0_6] false], none⟩)) (fun v61 => V.asIface v61 T_decl_given (fun w62 => V.asAgg w62 2 (fun rd63 => V.asInt (rd63 0) .i64 (fun n64 => V.asInt (rd63 1) .i64 (fun n65 => some ⟨Out.pan (V.iface T_decl_given (V.agg [V.int .i64 n64, V.int .i64 n65])), [Blk.cells T_decl_reader [V.sl .no T_api_Token es59, V.int .i64 n60, V.sl (Tok.row 0) T_api_Pair m0_2, V.sl (Tok.row 1) T_api_Pair m0_3, V.sl (Tok.row 2) T_decl_Keep m0_4, V.sl (Tok.row 3) T_decl_Break (m0_5 ++ [[V.int .i64 n51, V.str s52, V.int .i64 n53, V.sl .no T_api_Expr es54]]), V.sl (Tok.row 4) T_decl_Watch m0_6] false], none⟩))))))))) else none))))))) (fun v49 => V.asIface v49 T_decl_given (fun w50 => V.asAgg w50 2 (fun rd51 => V.asInt (rd51 0) .i64 (fun n52 => V.asInt (rd51 1) .i64 (fun n53 => some ⟨Out.pan (V.iface T_decl_given (V.agg [V.int .i64 n52, V.int .i64 n53])), [Blk.cells T_decl_reader [V.sl .no T_api_Token es47, V.int .i64 n48, V.sl (Tok.row 0) T_api_Pair m0_2, V.sl (Tok.row 1) T_api_Pair m0_3, V.sl (Tok.row 2) T_decl_Keep m0_4, V.sl (Tok.row 3) T_decl_Break m0_5, V.sl (Tok.row 4) T_decl_Watch m0_6] false], none⟩))))))))))) (fun v41 => V.asIface v41 T_decl_given (fun w42 => V.asAgg w42 2 (fun rd43 => V.asInt (rd43 0) .i64 (fun n44 => V.asInt (rd43 1) .i64 (fun n45 => some ⟨Out.pan (V.iface T_decl_given (V.agg [V.int .i64 n44, V.int .i64 n45])), [Blk.cells T_decl_reader [V.sl .no T_api_Token es39, V.int .i64 n40, V.sl (Tok.row 0) T_api_Pair m0_2, V.sl (Tok.row 1) T_api_Pair m0_3, V.sl (Tok.row 2) T_decl_Keep m0_4, V.sl (Tok.row 3) T_decl_Break m0_5, V.sl (Tok.row 4) T_decl_Watch m0_6] false], none⟩))))))))) else (den Sp decl_reader_word.id [V.ref 0 0, V.str (ByteArray.mk #[119, 97, 116, 99, 104])] [Blk.cells T_decl_reader [V.sl .no T_api_Token es32, V.int .i64 n33] false] none).bind (fun r37 => Blk.asCells (List.getD (Res.bl r37) 0 (Blk.cells T_n0 [] true)) T_decl_reader 2 (fun rd38 => V.asSl (rd38 0) T_api_Token (fun es39 => V.asInt (rd38 1) .i64 (fun n40 => Res.onRet r37 (fun v41 => V.asBool v41 (fun b42 => bif b42 then (den Sp decl_reader_full.id [V.ref 0 0, V.int .i64 m0_1, V.int .i64 (m0_6.length : Int), V.int .i64 (40 : Int)] [Blk.cells T_decl_reader [V.sl .no T_api_Token es39, V.int .i64 n40] false] none).bind (fun r44 => Blk.asCells (List.getD (Res.bl r44) 0 (Blk.cells T_n0 [] true)) T_decl_reader 2 (fun rd45 => V.asSl (rd45 0) T_api_Token (fun es46 => V.asInt (rd45 1) .i64 (fun n47 => Res.onOut r44 (fun v48 => V.asTup v48 0 (fun rd49 => (den Sp decl_reader_side.id [V.ref 0 0] [Blk.cells T_decl_reader [V.sl .no T_api_Token es46, V.int .i64 (IntKind.wrap .i64 (n47 + (1 : Int)))] false] none).bind (fun r52 => Blk.asCells (List.getD (Res.bl r52) 0 (Blk.cells T_n0 [] true)) T_decl_reader 2 (fun rd53 => V.asSl (rd53 0) T_api_Token (fun es54 => V.asInt (rd53 1) .i64 (fun n55 => Res.onOut r52 (fun v56 => V.asInt v56 .i64 (fun n57 => (den Sp decl_reader_name.id [V.ref 0 0] [Blk.cells T_decl_reader [V.sl .no T_api_Token es54, V.int .i64 n55] false] none).bind (fun r59 => Blk.asCells (List.getD (Res.bl r59) 0 (Blk.cells T_n0 [] true)) T_decl_reader 2 (fun rd60 => V.asSl (rd60 0) T_api_Token (fun es61 => V.asInt (rd60 1) .i64 (fun n62 => Res.onOut r59 (fun v63 => V.asStr v63 (fun s64 => (den Sp decl_reader_name.id [V.ref 0 0] [Blk.cells T_decl_reader [V.sl .no T_api_Token es61, V.int .i64 n62] false] none).bind (fun r66 => Blk.asCells (List.getD (Res.bl r66) 0 (Blk.cells T_n0 [] true)) T_decl_reader 2 (fun rd67 => V.asSl (rd67 0) T_api_Token (fun es68 => V.asInt (rd67 1) .i64 (fun n69 => Res.onOut r66 (fun v70 => V.asStr v70 (fun s71 => bif ((beqV (V.sl (Tok.row 4) T_decl_Watch m0_6) (V.sl (Tok.row 4) T_decl_Watch m0_6)) && true) then (bif (decide ((m0_6.length : Int) >= (40 : Int))) then (if (((0 : Int) <= m0_1) ∧ (m0_1 < (es68.length : Int))) then (V.asInt (List.getD (List.getD es68 (Int.toNat m0_1) []) 3 V.undef) .i64 (fun n72 => some ⟨Out.pan (V.iface T_decl_given (V.agg [V.int .i64 n72, V.int .i64 (2 : Int)])), [Blk.cells T_decl_reader [V.sl .no T_api_Token es68, V.int .i64 n69, V.sl (Tok.row 0) T_api_Pair m0_2, V.sl (Tok.row 1) T_api_Pair m0_3, V.sl (Tok.row 2) T_decl_Keep m0_4, V.sl (Tok.row 3) T_decl_Break m0_5, V.sl (Tok.row 4) T_decl_Watch m0_6] false], none⟩)) else none) else (if (((List.length m0_6) + (List.length [[V.int .i64 n57, V.str s64, V.str s71]])) <= most) then (den Sp decl_reader_sign.id [V.ref 0 0, V.str (ByteArray.mk #[59])] [Blk.cells T_decl_reader [V.sl .no T_api_Token es68, V.int .i64 n69] false] none).bind (fun r73 => Blk.asCells (List.getD (Res.bl r73) 0 (Blk.cells T_n0 [] true)) T_decl_reader 2 (fun rd74 => V.asSl (rd74 0) T_api_Token (fun es75 => V.asInt (rd74 1) .i64 (fun n76 => Res.onOut r73 (fun v77 => V.asTup v77 0 (fun rd78 => some ⟨Out.ret (V.tup []), [Blk.cells T_decl_reader [V.sl .no T_api_Token es75, V.int .i64 n76, V.sl (Tok.row 0) T_api_Pair m0_2, V.sl (Tok.row 1) T_api_Pair m0_3, V.sl (Tok.row 2) T_decl_Keep m0_4, V.sl (Tok.row 3) T_decl_Break m0_5, V.sl (Tok.row 4) T_decl_Watch (m0_6 ++ [[V.int .i64 n57, V.str s64, V.str s71]])] false], none⟩)) (fun v77 => V.asIface v77 T_decl_given (fun w78 => V.asAgg w78 2 (fun rd79 => V.asInt (rd79 0) .i64 (fun n80 => V.asInt (rd79 1) .i64 (fun n81 => some ⟨Out.pan (V.iface T_decl_given (V.agg [V.int .i64 n80, V.int .i64 n81])), [Blk.cells T_decl_reader [V.sl .no T_api_Token es75, V.int .i64 n76, V.sl (Tok.row 0) T_api_Pair m0_2, V.sl (Tok.row 1) T_api_Pair m0_3, V.sl (Tok.row 2) T_decl_Keep m0_4, V.sl (Tok.row 3) T_decl_Break m0_5, V.sl (Tok.row 4) T_decl_Watch (m0_6 ++ [[V.int .i64 n57, V.str s64, V.str s71]])] false], none⟩))))))))) else none)) else none)) (fun v70 => V.asIface v70 T_decl_given (fun w71 => V.asAgg w71 2 (fun rd72 => V.asInt (rd72 0) .i64 (fun n73 => V.asInt (rd72 1) .i64 (fun n74 => some ⟨Out.pan (V.iface T_decl_given (V.agg [V.int .i64 n73, V.int .i64 n74])), [Blk.cells T_decl_reader [V.sl .no T_api_Token es68, V.int .i64 n69, V.sl (Tok.row 0) T_api_Pair m0_2, V.sl (Tok.row 1) T_api_Pair m0_3, V.sl (Tok.row 2) T_decl_Keep m0_4, V.sl (Tok.row 3) T_decl_Break m0_5, V.sl (Tok.row 4) T_decl_Watch m0_6] false], none⟩))))))))))) (fun v63 => V.asIface v63 T_decl_given (fun w64 => V.asAgg w64 2 (fun rd65 => V.asInt (rd65 0) .i64 (fun n66 => V.asInt (rd65 1) .i64 (fun n67 => some ⟨Out.pan (V.iface T_decl_given (V.agg [V.int .i64 n66, V.int .i64 n67])), [Blk.cells T_decl_reader [V.sl .no T_api_Token es61, V.int .i64 n62, V.sl (Tok.row 0) T_api_Pair m0_2, V.sl (Tok.row 1) T_api_Pair m0_3, V.sl (Tok.row 2) T_decl_Keep m0_4, V.sl (Tok.row 3) T_decl_Break m0_5, V.sl (Tok.row 4) T_decl_Watch m0_6] false], none⟩))))))))))) (fun v56 => V.asIface v56 T_decl_given (fun w57 => V.asAgg w57 2 (fun rd58 => V.asInt (rd58 0) .i64 (fun n59 => V.asInt (rd58 1) .i64 (fun n60 => some ⟨Out.pan (V.iface T_decl_given (V.agg [V.int .i64 n59, V.int .i64 n60])), [Blk.cells T_decl_reader [V.sl .no T_api_Token es54, V.int .i64 n55, V.sl (Tok.row 0) T_api_Pair m0_2, V.sl (Tok.row 1) T_api_Pair m0_3, V.sl (Tok.row 2) T_decl_Keep m0_4, V.sl (Tok.row 3) T_decl_Break m0_5, V.sl (Tok.row 4) T_decl_Watch m0_6] false], none⟩))))))))))) (fun v48 => V.asIface v48 T_decl_given (fun w49 => V.asAgg w49 2 (fun rd50 => V.asInt (rd50 0) .i64 (fun n51 => V.asInt (rd50 1) .i64 (fun n52 => some ⟨Out.pan (V.iface T_decl_given (V.agg [V.int .i64 n51, V.int .i64 n52])), [Blk.cells T_decl_reader [V.sl .no T_api_Token es46, V.int .i64 n47, V.sl (Tok.row 0) T_api_Pair m0_2, V.sl (Tok.row 1) T_api_Pair m0_3, V.sl (Tok.row 2) T_decl_Keep m0_4, V.sl (Tok.row 3) T_decl_Break m0_5, V.sl (Tok.row 4) T_decl_Watch m0_6] false], none⟩))))))))) else (den Sp decl_reader_fail.id [V.ref 0 0, V.int .i64 (30 : Int)] [Blk.cells T_decl_reader [V.sl .no T_api_Token es39, V.int .i64 n40] false] none).bind (fun r44 => Blk.asCells (List.getD (Res.bl r44) 0 (Blk.cells T_n0 [] true)) T_decl_reader 2 (fun rd45 => V.asSl (rd45 0) T_api_Token (fun es46 => V.asInt (rd45 1) .i64 (fun n47 => Res.onOut r44 (fun v48 => V.asTup v48 0 (fun rd49 => (den Sp decl_reader_sign.id [V.ref 0 0, V.str (ByteArray.mk #[59])] [Blk.cells T_decl_reader [V.sl .no T_api_Token es46, V.int .i64 n47] false] none).bind (fun r51 => Blk.asCells (List.getD (Res.bl r51) 0 (Blk.cells T_n0 [] true)) T_decl_reader 2 (fun rd52 => V.asSl (rd52 0) T_api_Token (fun es53 => V.asInt (rd52 1) .i64 (fun n54 => Res.onOut r51 (fun v55 => V.asTup v55 0 (fun rd56 => some ⟨Out.ret (V.tup []), [Blk.cells T_decl_reader [V.sl .no T_api_Token es53, V.int .i64 n54, V.sl (Tok.row 0) T_api_Pair m0_2, V.sl (Tok.row 1) T_api_Pair m0_3, V.sl (Tok.row 2) T_decl_Keep m0_4, V.sl (Tok.row 3) T_decl_Break m0_5, V.sl (Tok.row 4) T_decl_Watch m0_6] false], none⟩)) (fun v55 => V.asIface v55 T_decl_given (fun w56 => V.asAgg w56 2 (fun rd57 => V.asInt (rd57 0) .i64 (fun n58 => V.asInt (rd57 1) .i64 (fun n59 => some ⟨Out.pan (V.iface T_decl_given (V.agg [V.int .i64 n58, V.int .i64 n59])), [Blk.cells T_decl_reader [V.sl .no T_api_Token es53, V.int .i64 n54, V.sl (Tok.row 0) T_api_Pair m0_2, V.sl (Tok.row 1) T_api_Pair m0_3, V.sl (Tok.row 2) T_decl_Keep m0_4, V.sl (Tok.row 3) T_decl_Break m0_5, V.sl (Tok.row 4) T_decl_Watch m0_6] false], none⟩))))))))))) (fun v48 => V.asIface v48 T_decl_given (fun w49 => V.asAgg w49 2 (fun rd50 => V.asInt (rd50 0) .i64 (fun n51 => V.asInt (rd50 1) .i64 (fun n52 => some ⟨Out.pan (V.iface T_decl_given (V.agg [V.int .i64 n51, V.int .i64 n52])), [Blk.cells T_decl_reader [V.sl .no T_api_Token es46, V.int .i64 n47, V.sl (Tok.row 0) T_api_Pair m0_2, V.sl (Tok.row 1) T_api_Pair m0_3, V.sl (Tok.row 2) T_decl_Keep m0_4, V.sl (Tok.row 3) T_decl_Break m0_5, V.sl (Tok.row 4) T_decl_Watch m0_6] false], none⟩))))))))))))))))))))))))))))))))))))))) := (den_eq ..).trans (by kernel_rfl)
end decl_reader_line
end Go.Proofs.YtmhnmelaodhemaaDoor
namespace Go.Proofs.YtmhnmelaodhemaaDoor
open Go Go.Proofs.Ab
namespace decl_Parse_1
theorem eq0 (c0_0 c0_1 c0_2 c0_3 c0_4 : List (List V)) (c1_0 c2_0 : Int) : den Sp id [V.ref 0 0, V.ref 1 0, V.ref 2 0] [Blk.cells T_decl_File [V.sl .no T_api_Pair c0_0, V.sl .no T_api_Pair c0_1, V.sl .no T_decl_Keep c0_2, V.sl .no T_decl_Break c0_3, V.sl .no T_decl_Watch c0_4] false, Blk.cells T_int [V.int .i64 c1_0] false, Blk.cells T_api_Errno [V.int .i64 c2_0] false] (some none) =
  (some ⟨Out.ret (V.tup []), [Blk.cells T_decl_File [V.sl .no T_api_Pair c0_0, V.sl .no T_api_Pair c0_1, V.sl .no T_decl_Keep c0_2, V.sl .no T_decl_Break c0_3, V.sl .no T_decl_Watch c0_4] false, Blk.cells T_int [V.int .i64 c1_0] false, Blk.cells T_api_Errno [V.int .i64 c2_0] false], some none⟩) := (den_eq ..).trans (by kernel_rfl)
end decl_Parse_1
namespace decl_Parse_1
theorem eq1 (c0_0 c0_1 c0_2 c0_3 c0_4 : List (List V)) (c1_0 c2_0 w_0 w_1 : Int) : den Sp id [V.ref 0 0, V.ref 1 0, V.ref 2 0] [Blk.cells T_decl_File [V.sl .no T_api_Pair c0_0, V.sl .no T_api_Pair c0_1, V.sl .no T_decl_Keep c0_2, V.sl .no T_decl_Break c0_3, V.sl .no T_decl_Watch c0_4] false, Blk.cells T_int [V.int .i64 c1_0] false, Blk.cells T_api_Errno [V.int .i64 c2_0] false] (some (some (V.iface T_decl_given (V.agg [V.int .i64 w_0, V.int .i64 w_1])))) =
  (some ⟨Out.ret (V.tup []), [Blk.cells T_decl_File [V.sl .no T_api_Pair [], V.sl .no T_api_Pair [], V.sl .no T_decl_Keep [], V.sl .no T_decl_Break [], V.sl .no T_decl_Watch []] false, Blk.cells T_int [V.int .i64 w_0] false, Blk.cells T_api_Errno [V.int .i64 w_1] false], some none⟩) := (den_eq ..).trans (by kernel_rfl)
end decl_Parse_1
namespace decl_Parse
noncomputable abbrev e (p : List Nat) := ev Sp (den Sp) id Tryd.f7.ntmps (cAt (bodyOf Tryd.f7) p)
noncomputable abbrev cn (n0 : List Nat) := canon Sp id n0
noncomputable abbrev K : K := kFin Sp (den Sp) Tryd.f7 0
noncomputable def L1_1_1_1_1_0_0 (i0 i1 : Int) (l2 : List (List V)) (i3 : Int) (l4 l5 l6 l7 l8 : List (List V)) : Option Res := LP (e [1, 1, 1, 1, 1, 0, 0, 0]) (cn [1002, 1003, 1004, 1021]) (kBlk 0 (kSeq (e [1, 1, 1, 1, 1, 1]) (K))) ([(2, (V.ref 1002 0)), (3, (V.ref 1003 0)), (4, (V.ref 1004 0)), (6, (V.ref 1021 0))], ⟨[(1002, (Blk.cells T_decl_File [V.sl (Tok.row 0) T_api_Pair [], V.sl (Tok.row 1) T_api_Pair [], V.sl (Tok.row 2) T_decl_Keep [], V.sl (Tok.row 3) T_decl_Break [], V.sl (Tok.row 4) T_decl_Watch []] false)), (1003, (Blk.cells T_int [V.int .i64 i0] false)), (1004, (Blk.cells T_api_Errno [V.int .i64 i1] false)), (1021, (Blk.cells T_decl_reader [V.sl .no T_api_Token l2, V.int .i64 i3, V.sl (Tok.row 5) T_api_Pair l4, V.sl (Tok.row 6) T_api_Pair l5, V.sl (Tok.row 7) T_decl_Keep l6, V.sl (Tok.row 8) T_decl_Break l7, V.sl (Tok.row 9) T_decl_Watch l8] false))], [0, 1, 2, 3, 4, 5, 6, 7, 8, 9], [], [(14, [V.ref 1002 0, V.ref 1003 0, V.ref 1004 0])], none⟩)
theorem L1_1_1_1_1_0_0_eq (i0 i1 : Int) (l2 : List (List V)) (i3 : Int) (l4 l5 l6 l7 l8 : List (List V)) : L1_1_1_1_1_0_0 i0 i1 l2 i3 l4 l5 l6 l7 l8 =
  (if (((0 : Int) <= i3) ∧ (i3 < (l2.length : Int))) then (V.asInt (List.getD (List.getD l2 (Int.toNat i3) []) 0 V.undef) .i64 (fun n22 => bif (n22 != (0 : Int)) then (den Sp decl_reader_line.id [V.ref 0 0] [Blk.cells T_decl_reader [V.sl .no T_api_Token l2, V.int .i64 i3, V.sl (Tok.row 0) T_api_Pair l4, V.sl (Tok.row 1) T_api_Pair l5, V.sl (Tok.row 2) T_decl_Keep l6, V.sl (Tok.row 3) T_decl_Break l7, V.sl (Tok.row 4) T_decl_Watch l8] false] none).bind (fun r24 => Blk.asCells (List.getD (Res.bl r24) 0 (Blk.cells T_n0 [] true)) T_decl_reader 7 (fun rd25 => V.asSl (rd25 0) T_api_Token (fun es26 => V.asInt (rd25 1) .i64 (fun n27 => V.asSlR (rd25 2) 0 T_api_Pair (fun es28 => V.asSlR (rd25 3) 1 T_api_Pair (fun es29 => V.asSlR (rd25 4) 2 T_decl_Keep (fun es30 => V.asSlR (rd25 5) 3 T_decl_Break (fun es31 => V.asSlR (rd25 6) 4 T_decl_Watch (fun es32 => Res.onOut r24 (fun v33 => V.asTup v33 0 (fun rd34 => L1_1_1_1_1_0_0 i0 i1 es26 n27 es28 es29 es30 es31 es32)) (fun v33 => V.asIface v33 T_decl_given (fun w34 => V.asAgg w34 2 (fun rd35 => V.asInt (rd35 0) .i64 (fun n36 => V.asInt (rd35 1) .i64 (fun n37 => (den Sp decl_Parse_1.id [V.ref 0 0, V.ref 1 0, V.ref 2 0] [Blk.cells T_decl_File [V.sl .no T_api_Pair [], V.sl .no T_api_Pair [], V.sl .no T_decl_Keep [], V.sl .no T_decl_Break [], V.sl .no T_decl_Watch []] false, Blk.cells T_int [V.int .i64 i0] false, Blk.cells T_api_Errno [V.int .i64 i1] false] (some (some (V.iface T_decl_given (V.agg [V.int .i64 n36, V.int .i64 n37]))))).bind (fun r38 => Blk.asCells (List.getD (Res.bl r38) 0 (Blk.cells T_n0 [] true)) T_decl_File 5 (fun rd39 => V.asSl (rd39 0) T_api_Pair (fun es40 => V.asSl (rd39 1) T_api_Pair (fun es41 => V.asSl (rd39 2) T_decl_Keep (fun es42 => V.asSl (rd39 3) T_decl_Break (fun es43 => V.asSl (rd39 4) T_decl_Watch (fun es44 => Blk.asCells (List.getD (Res.bl r38) 1 (Blk.cells T_n0 [] true)) T_int 1 (fun rd45 => V.asInt (rd45 0) .i64 (fun n46 => Blk.asCells (List.getD (Res.bl r38) 2 (Blk.cells T_n0 [] true)) T_api_Errno 1 (fun rd47 => V.asInt (rd47 0) .i64 (fun n48 => Res.onRet r38 (fun v49 => V.asTup v49 0 (fun rd50 => Res.onPn r38 (some ⟨Out.ret (V.tup [V.agg [V.sl .no T_api_Pair es40, V.sl .no T_api_Pair es41, V.sl .no T_decl_Keep es42, V.sl .no T_decl_Break es43, V.sl .no T_decl_Watch es44], V.int .i64 n46, V.int .i64 n48]), [], none⟩) (fun v51 => some ⟨Out.pan (V.iface T_decl_given (V.agg [V.int .i64 n36, V.int .i64 n37])), [], none⟩)))))))))))))))))))))))))))) else (den Sp decl_Parse_1.id [V.ref 0 0, V.ref 1 0, V.ref 2 0] [Blk.cells T_decl_File [V.sl .no T_api_Pair l4, V.sl .no T_api_Pair l5, V.sl .no T_decl_Keep l6, V.sl .no T_decl_Break l7, V.sl .no T_decl_Watch l8] false, Blk.cells T_int [V.int .i64 (0 : Int)] false, Blk.cells T_api_Errno [V.int .i64 (0 : Int)] false] (some none)).bind (fun r24 => Blk.asCells (List.getD (Res.bl r24) 0 (Blk.cells T_n0 [] true)) T_decl_File 5 (fun rd25 => V.asSl (rd25 0) T_api_Pair (fun es26 => V.asSl (rd25 1) T_api_Pair (fun es27 => V.asSl (rd25 2) T_decl_Keep (fun es28 => V.asSl (rd25 3) T_decl_Break (fun es29 => V.asSl (rd25 4) T_decl_Watch (fun es30 => Blk.asCells (List.getD (Res.bl r24) 1 (Blk.cells T_n0 [] true)) T_int 1 (fun rd31 => V.asInt (rd31 0) .i64 (fun n32 => Blk.asCells (List.getD (Res.bl r24) 2 (Blk.cells T_n0 [] true)) T_api_Errno 1 (fun rd33 => V.asInt (rd33 0) .i64 (fun n34 => Res.onRet r24 (fun v35 => V.asTup v35 0 (fun rd36 => Res.onPn r24 (some ⟨Out.ret (V.tup [V.agg [V.sl .no T_api_Pair es26, V.sl .no T_api_Pair es27, V.sl .no T_decl_Keep es28, V.sl .no T_decl_Break es29, V.sl .no T_decl_Watch es30], V.int .i64 n32, V.int .i64 n34]), [], none⟩) (fun v37 => some ⟨Out.ret (V.tup [V.agg [V.sl .no T_api_Pair es26, V.sl .no T_api_Pair es27, V.sl .no T_decl_Keep es28, V.sl .no T_decl_Break es29, V.sl .no T_decl_Watch es30], V.int .i64 n32, V.int .i64 n34]), [], none⟩)))))))))))))))) else none) := (LP_eq ..).trans (by kernel_rfl)
theorem eq (a0 : ByteArray) : den Sp id [V.str a0] [] none =
  (den Sp lex_Scan.id [V.str a0] [] none).bind (fun r3 => Res.onRet r3 (fun v4 => V.asTup v4 3 (fun rd5 => V.asSl (rd5 0) T_api_Token (fun es6 => V.asInt (rd5 1) .i64 (fun n7 => V.asInt (rd5 2) .i64 (fun n8 => bif (n8 != (0 : Int)) then (some ⟨Out.ret (V.tup [V.agg [V.sl .no T_api_Pair [], V.sl .no T_api_Pair [], V.sl .no T_decl_Keep [], V.sl .no T_decl_Break [], V.sl .no T_decl_Watch []], V.int .i64 n7, V.int .i64 n8]), [], none⟩) else (L1_1_1_1_1_0_0 n7 n8 es6 (0 : Int) [] [] [] [] []))))))) := (den_eq ..).trans (by kernel_rfl)
end decl_Parse
end Go.Proofs.YtmhnmelaodhemaaDoor
namespace Go.Proofs.YtmhnmelaodhemaaDoor
open Go Go.Proofs.Ab Go.Proofs.Px
attribute [local congr] bind_h asInt_h asBool_h asStr_h asSl_h asSlR_h asAgg_h asTup_h asIface_h asCells_h onRet_h onOut_h cond_h
theorem stopR_mk (l : List Tk) (k : Nat) : stopR l k = andR (sideR l k) fun s k => andR (nameR l k) fun p k => andR (intR l k) fun n k => andR (whenR l k) fun w k => .ok (⟨s, p, n, w⟩, k) := rfl
theorem Pai_list (x : Pai) : [V.str (B x.procA), V.str (B x.procB), V.str (B x.varA), V.str (B x.varB)] = x.v := rfl
theorem Bk_list (x : Bk) : [V.int .i64 x.side, V.str (B x.prc), V.int .i64 x.mark, V.sl .no T_api_Expr (x.whn.map Ex.v)] = x.v := rfl
theorem lb : (∀ (x : Bk) (k : (Nat -> V) -> Option Res), V.asAgg (.agg x.v) 4 k = k (fun j => x.v.getD j .undef)) ∧ (∀ (x : Pai) (k : (Nat -> V) -> Option Res), V.asAgg (.agg x.v) 4 k = k (fun j => x.v.getD j .undef)) ∧
 (∀ x : Pai, x.v.getD 0 .undef = .str (B x.procA)) ∧ (∀ x : Pai, x.v.getD 1 .undef = .str (B x.procB)) ∧ (∀ x : Pai, x.v.getD 2 .undef = .str (B x.varA)) ∧ (∀ x : Pai, x.v.getD 3 .undef = .str (B x.varB)) ∧
 (∀ x : Bk, x.v.getD 0 .undef = .int .i64 x.side) ∧ (∀ x : Bk, x.v.getD 1 .undef = .str (B x.prc)) ∧ (∀ x : Bk, x.v.getD 2 .undef = .int .i64 x.mark) ∧ (∀ x : Bk, x.v.getD 3 .undef = .sl .no T_api_Expr (x.whn.map Ex.v)) :=
 ⟨Bk.asAgg_v, Pai.asAgg_v, Pai.v_0, Pai.v_1, Pai.v_2, Pai.v_3, Bk.v_0, Bk.v_1, Bk.v_2, Bk.v_3⟩
theorem rds_err {l : List Tk} (hl : Ended l) : ∀ m k : Nat, l.length - k <= m -> k < l.length -> (∀ d e, oneW l d k = .error e -> e.2 ≠ 0) ∧ (∀ n d e, tightW l n d k = .error e -> e.2 ≠ 0) ∧ (∀ n d p y e, loopW l n d p y k = .error e -> e.2 ≠ 0) := by
 intro m
 induction m with
 | zero => intro k h1 h2; omega
 | succ m ih =>
  intro k hm hk
  have part : ∀ {d : Int} {k : Nat} {r : Rd} {e : Int × Int}, (∀ e, r = .error e -> e.2 ≠ 0) -> partR l d k r = .error e -> e.2 ≠ 0 := fun hr h => by
   unfold partR at h
   split at h
   ·cases h; simp
   ·split at h
    ·cases h; simp
    ·exact hr _ h
  have want : ∀ {s : List UInt8} {r : Rd} {f : Ex -> Ex} {e : Int × Int}, (∀ e, r = .error e -> e.2 ≠ 0) -> wantR l s r f = .error e -> e.2 ≠ 0 := fun hr h => by
   unfold wantR at h
   split at h
   ·rename_i e0; cases h; exact hr _ rfl
   ·split at h
    ·cases h
    ·cases h; simp
  have one : ∀ d e, oneW l d k = .error e -> e.2 ≠ 0 := by
   intro d e h
   rw [oneW, dif_pos hk] at h
   split at h
   ·rename_i c
    have hk1 : k + 1 < l.length := by rcases c with c | c <;> exact hl.isT hk c
    refine part (fun e h => ?_) h
    split at h
    ·rename_i e1 h1; cases h; exact (ih (k + 1) (by omega) hk1).1 _ _ h1
    ·cases h
   split at h
   ·rename_i c
    have hk1 := hl.isT hk c
    exact want (fun e h => part (fun e h => (ih (k + 1) (by omega) hk1).2.1 _ _ _ h) h) h
   split at h
   ·cases h
   split at h
   ·cases h
   split at h
   ·cases h
   split at h
   ·cases h; simp
   have hk1 : k + 1 < l.length := hl.next hk (by omega)
   split at h
   ·rename_i c
    have hk2 := hl.isT hk1 c
    exact want (fun e h => part (fun e h => (ih (k + 2) (by omega) hk2).2.1 _ _ _ h) h) h
   ·cases h
  have loop : ∀ n d p y e, loopW l n d p y k = .error e -> e.2 ≠ 0 := by
   intro n d p y e h
   rw [loopW, dif_pos hk] at h
   split at h
   ·cases h
   ·rename_i c
    have hk1 : k + 1 < l.length := hl.next hk (by
     intro h0; apply c; left; unfold signT; rw [if_neg (by omega)])
    split at h
    ·rename_i e1 h1; cases h; exact (ih (k + 1) (by omega) hk1).2.1 _ _ _ h1
    ·rename_i z i hz
     have h1 := tight_goes hl hk1 hz
     rw [dif_pos (by omega)] at h
     exact (ih i (by omega) h1.2).2.2 _ _ _ _ _ h
  refine ⟨one, fun n d e h => ?_, loop⟩
  rw [tightW] at h
  split at h
  ·rename_i e1 h1; cases h; exact one _ _ h1
  ·rename_i y i hy
   have h1 := one_goes hl hk hy
   rw [dif_pos ⟨h1.1, hk⟩] at h
   exact (ih i (by omega) h1.2).2.2 _ _ _ _ _ h
theorem rd_err {l : List Tk} (hl : Ended l) {k : Nat} (hk : k < l.length) {e : Int × Int} (h : partR l 1 k (tightW l 1 1 k) = .error e) : e.2 ≠ 0 := by
 unfold partR at h
 split at h
 ·cases h; simp
 ·split at h
  ·cases h; simp
  ·exact (rds_err hl _ k (Nat.le_refl _) hk).2.1 _ _ _ h
section
variable {l : List Tk} (hl : Ended l) (hn : l.length <= 100000)
include hl hn
theorem whenR_step {k : Nat} (hk : k < l.length) {x : List Ex} {j : Nat} (h : whenR l k = .ok (x, j)) : k <= j ∧ j < l.length := by
 unfold whenR at h
 split at h
 ·rename_i c
  have hk1 := hl.next hk (by rw [(isW_kind c).1]; decide)
  obtain ⟨y, i, h1, h2⟩ := andR_ok h
  have := tight_goes hl hk1 (partR_ok h1)
  cases h2; omega
 ·cases h; omega
theorem stopR_step {k : Nat} (hk : k < l.length) {x : Bk} {j : Nat} (h : stopR l k = .ok (x, j)) : Step l k j := by
 rw [stopR_mk] at h
 obtain ⟨_, _, h1, h⟩ := andR_ok h
 have s1 := (sideR_step hl hk h1).1
 obtain ⟨_, _, h1, h⟩ := andR_ok h
 have s2 := (nameR_step hl s1.end_ h1).1
 obtain ⟨_, _, h1, h⟩ := andR_ok h
 have s3 := (intR_step hl s2.end_ h1).1
 obtain ⟨_, _, h1, h⟩ := andR_ok h
 have s4 := whenR_step hl hn s3.end_ h1
 have := s1.lt
 have := s2.lt
 have := s3.lt
 cases h
 exact ⟨by omega, s4.2⟩
theorem sameR_step {k : Nat} (hk : k < l.length) {x : Pai} {j : Nat} (h : sameR l k = .ok (x, j)) : Step l k j := by
 have hh : ∀ {k : Nat}, k < l.length -> ∀ {x : List UInt8 × List UInt8} {j : Nat}, halfR l k = .ok (x, j) -> Step l k j := by
  intro k hk x j h
  unfold halfR at h
  obtain ⟨_, _, h1, h⟩ := andR_ok h
  have s1 := (nameR_step hl hk h1).1
  obtain ⟨_, _, h1, h⟩ := andR_ok h
  have s2 := (signR_step hl s1.end_ h1).1
  obtain ⟨_, _, h1, h⟩ := andR_ok h
  have s3 := (nameR_step hl s2.end_ h1).1
  obtain ⟨_, _, h1, h⟩ := andR_ok h
  have s4 := (signR_step hl s3.end_ h1).1
  have := s1.lt
  have := s2.lt
  have := s3.lt
  have := s4.lt
  cases h
  exact ⟨by omega, s4.end_⟩
 unfold sameR at h
 obtain ⟨_, _, h1, h⟩ := andR_ok h
 have s1 := hh hk h1
 obtain ⟨_, _, h1, h⟩ := andR_ok h
 have s2 := hh s1.end_ h1
 have := s1.lt
 have := s2.lt
 cases h
 exact ⟨by omega, s2.end_⟩
theorem stop_d (hE : ReadsE syntax_ReadExpr.id l) {k : Nat} (hk : k < l.length) : RdD l (fun b : Bk => .agg b.v) (stopR l k) (den Sp decl_reader_stop.id [.ref 0 0] [rd2 l k] none) := by
 have h1 := side_d hl hn hk
 rw [stopR_mk]
 unfold RdD at *
 cases c1 : sideR l k with
 | error e => rw [c1] at h1; obtain ⟨j, h1⟩ := h1; refine ⟨j, ?_⟩; unfold rd2 givenD at *; rw [decl_reader_stop.eq]; simp only [h1, lz, lx, if_true, if_false, lb]
 | ok r1 =>
 obtain ⟨x1, k1⟩ := r1
 rw [c1] at h1
 have s1 := (sideR_step hl hk c1).1.end_
 have h2 := name_d hl hn s1
 unfold RdD at h2
 simp only [andR] at h1 ⊢
 cases c2 : nameR l k1 with
 | error e => rw [c2] at h2; obtain ⟨j, h2⟩ := h2; refine ⟨j, ?_⟩; unfold rd2 givenD at *; rw [decl_reader_stop.eq]; simp only [h1, h2, lz, lx, if_true, if_false, lb]
 | ok r2 =>
 obtain ⟨x2, k2⟩ := r2
 rw [c2] at h2
 have s2 := (nameR_step hl s1 c2).1.end_
 have hf := fail_d hl hn s2 30
 have r := row_in s2
 have w2 := wr1 (show k2 < 1099511627776 by omega)
 simp only [andR] at h2 ⊢
 unfold intR wrongR
 by_cases c3 : (tk l k2).kind = 2
 ·rw [if_pos c3]
  have c3' : ((tk l k2).kind != 2) = false := by simpa using c3
  simp only [andR]
  have s3 := hl.next s2 (by omega)
  have hw := word_d hl hn s3 [119, 104, 101, 110]
  have w3 := wr1 (show k2 + 1 < 1099511627776 by omega)
  unfold whenR
  by_cases c4 : isW (tk l (k2 + 1)) [119, 104, 101, 110] = true
  ·rw [if_pos c4]
   rw [c4] at hw
   have s4 := hl.next s3 (by rw [(isW_kind c4).1]; decide)
   have hr := hE (k2 + 1 + 1) s4
   unfold readE at hr
   cases c5 : partR l 1 (k2 + 1 + 1) (tightW l 1 1 (k2 + 1 + 1)) with
   | error e =>
    rw [c5] at hr
    have e0 : (e.2 != 0) = true := by
     have := rd_err hl s4 c5
     simpa using this
    refine ⟨k2 + 1 + 1, ?_⟩
    unfold rd2 givenD at *
    rw [decl_reader_stop.eq]
    simp only [h1, h2, hf, hw, hr, c3', e0, w2, w3, if_pos r, Int.toNat_natCast, tok_g s2, tkv_0, tkv_1, tkv_2, tkv_3, lz, lx, if_true, if_false, lb]
   | ok q =>
    obtain ⟨x, j⟩ := q
    rw [c5] at hr
    simp only [andR] at hr ⊢
    unfold rd2 givenD at *
    rw [decl_reader_stop.eq]
    simp only [h1, h2, hf, hw, hr, c3', w2, w3, if_pos r, Int.toNat_natCast, tok_g s2, tkv_0, tkv_1, tkv_2, tkv_3, lz, lx, if_true, if_false, lb]
    rw [Bk.v_mk]; rfl
  ·rw [if_neg c4]
   rw [show isW (tk l (k2 + 1)) [119, 104, 101, 110] = false by simpa using c4] at hw
   simp only [andR]
   unfold rd2 givenD at *
   rw [decl_reader_stop.eq]
   simp only [h1, h2, hf, hw, c3', w2, w3, if_pos r, Int.toNat_natCast, tok_g s2, tkv_0, tkv_1, tkv_2, tkv_3, lz, lx, if_true, if_false, lb]
   rw [Bk.v_mk]; rfl
 ·rw [if_neg c3]
  have c3' : ((tk l k2).kind != 2) = true := by simpa using c3
  refine ⟨k2, ?_⟩
  unfold rd2 givenD at *
  rw [decl_reader_stop.eq]
  simp only [h1, h2, hf, c3', w2, if_pos r, Int.toNat_natCast, tok_g s2, tkv_0, tkv_1, tkv_2, tkv_3, lz, lx, if_true, if_false, lb]
def rd7 (l : List Tk) (k : Nat) (f : Fl) : Blk := .cells T_decl_reader [.sl .no T_api_Token (l.map Tk.v), .int .i64 k, .sl (.row 0) T_api_Pair (f.pairs.map Pai.v), .sl (.row 1) T_api_Pair (f.sames.map Pai.v), .sl (.row 2) T_decl_Keep (f.keeps.map Kp.v), .sl (.row 3) T_decl_Break (f.breaks.map Bk.v), .sl (.row 4) T_decl_Watch (f.watches.map Wt.v)] false
def RdL (l : List Tk) (r : Rf Fl) (o : Option Res) : Prop := match r with
 | .ok (g, j) => o = some ⟨.ret (.tup []), [rd7 l j g], none⟩
 | .error e => ∃ (j : Nat) (g : Fl), o = some ⟨.pan (givenD e), [rd7 l j g], none⟩
theorem app_one {α : Type} (v : α -> List V) (xs : List α) (x : α) : xs.map v ++ [v x] = (xs ++ [x]).map v := by rw [List.map_append]; rfl
theorem line_pair_d (hE : ReadsE syntax_ReadExpr.id l) {k : Nat} (hk : k < l.length) (f : Fl)  (c : isW (tk l k) [112, 97, 105, 114] = true) : RdL l (lineR l f k) (den Sp decl_reader_line.id [.ref 0 0] [rd7 l k f] none) := by
 have hw0 := word_d hl hn hk [112, 97, 105, 114]
 rw [c] at hw0
 unfold lineR itemR
 rw [c, if_pos rfl]
 unfold fullR
 have hf : RdD l (fun _ : Unit => .tup []) (if 40 <= (f.pairs.map Pai.v).length then .error ((tk l k).at_, 2) else .ok ((), k)) (den Sp decl_reader_full.id [.ref 0 0, .int .i64 k, .int .i64 (((f.pairs.map Pai.v).length : Nat) : Int), .int .i64 40] [rd2 l k] none) := full_d hl hn (k := k) k hk (f.pairs.map Pai.v).length 40
 unfold RdD at hf
 have ln : (f.pairs.map Pai.v).length = f.pairs.length := List.length_map ..
 by_cases c4 : 40 <= f.pairs.length
 ·rw [if_pos c4]
  rw [if_pos (by omega)] at hf
  obtain ⟨j, hf⟩ := hf
  refine ⟨j, f, ?_⟩
  (try unfold rd7 at *); (try unfold rd2 at *); (try unfold givenD at *); rw [decl_reader_line.eq]
  simp only [hw0, hf, lz, lx, if_true, if_false, lb, Int.cast_ofNat_Int]
 rw [if_neg c4]
 rw [if_neg (by omega)] at hf
 simp only at hf
 have hF : decide ((((f.pairs.map Pai.v).length : Nat) : Int) >= 40) = false := decide_eq_false (by omega)
 have hM : ∀ (x : List V) (a b : Option Res), (if (f.pairs.map Pai.v).length + List.length [x] <= most then a else b) = a := fun x a b => if_pos (by show _ + 1 <= 1099511627776; omega)
 have w1 := wr1 (show k < 1099511627776 by omega)
 have s0 : k + 1 < l.length := hl.next hk (by rw [(isW_kind c).1]; decide)
 have h1 := name_d hl hn s0
 unfold RdD at h1
 simp only [andR]
 cases c_1 : nameR l (k + 1) with
 | error e => rw [c_1] at h1; obtain ⟨j, h1⟩ := h1; refine ⟨j, f, ?_⟩; (try unfold rd7 at *); (try unfold rd2 at *); (try unfold givenD at *); rw [decl_reader_line.eq]; simp only [hw0, hf, w1, hF, hM, h1, lz, lx, if_true, if_false, lb, Int.cast_ofNat_Int]
 | ok r1 =>
 obtain ⟨x1, k1⟩ := r1
 rw [c_1] at h1
 simp only at h1
 have s1 := (nameR_step hl s0 c_1).1.end_
 have h2 := name_d hl hn s1
 unfold RdD at h2
 simp only [andR]
 cases c_2 : nameR l k1 with
 | error e => rw [c_2] at h2; obtain ⟨j, h2⟩ := h2; refine ⟨j, f, ?_⟩; (try unfold rd7 at *); (try unfold rd2 at *); (try unfold givenD at *); rw [decl_reader_line.eq]; simp only [hw0, hf, w1, hF, hM, h1, h2, lz, lx, if_true, if_false, lb, Int.cast_ofNat_Int]
 | ok r2 =>
 obtain ⟨x2, k2⟩ := r2
 rw [c_2] at h2
 simp only at h2
 have s2 := (nameR_step hl s1 c_2).1.end_
 have hs := sign_d hl hn s2 [59]
 unfold RdD at hs
 simp only [andR]
 have ap := app_one (l := l) hl hn Pai.v f.pairs ⟨x1, x2, [], []⟩
 rw [Pai.v_mk] at ap
 cases c_s : signR l [59] k2 with
 | error e => rw [c_s] at hs; obtain ⟨j, hs⟩ := hs; refine ⟨j, { f with pairs := f.pairs ++ [⟨x1, x2, [], []⟩] }, ?_⟩; (try unfold rd7 at *); (try unfold rd2 at *); (try unfold givenD at *); rw [decl_reader_line.eq]; simp only [hw0, hf, w1, hF, hM, h1, h2, hs, ap, lz, lx, if_true, if_false, lb, Int.cast_ofNat_Int]
 | ok rs =>
 obtain ⟨xs, ks⟩ := rs
 rw [c_s] at hs
 simp only at hs
 unfold RdL
 simp only [andR]
 (try unfold rd7 at *); (try unfold rd2 at *); (try unfold givenD at *); rw [decl_reader_line.eq]
 simp only [hw0, hf, w1, hF, hM, h1, h2, hs, ap, lz, lx, if_true, if_false, lb, Int.cast_ofNat_Int]
theorem line_same_d (hE : ReadsE syntax_ReadExpr.id l) {k : Nat} (hk : k < l.length) (f : Fl) (n0 : isW (tk l k) [112, 97, 105, 114] = false) (c : isW (tk l k) [115, 97, 109, 101] = true) : RdL l (lineR l f k) (den Sp decl_reader_line.id [.ref 0 0] [rd7 l k f] none) := by
 have hw0 := word_d hl hn hk [112, 97, 105, 114]
 rw [n0] at hw0
 have hw1 := word_d hl hn hk [115, 97, 109, 101]
 rw [c] at hw1
 unfold lineR itemR
 rw [n0, if_neg (fun h => Bool.noConfusion h)]
 rw [c, if_pos rfl]
 unfold fullR
 have hf : RdD l (fun _ : Unit => .tup []) (if 40 <= (f.sames.map Pai.v).length then .error ((tk l k).at_, 2) else .ok ((), k)) (den Sp decl_reader_full.id [.ref 0 0, .int .i64 k, .int .i64 (((f.sames.map Pai.v).length : Nat) : Int), .int .i64 40] [rd2 l k] none) := full_d hl hn (k := k) k hk (f.sames.map Pai.v).length 40
 unfold RdD at hf
 have ln : (f.sames.map Pai.v).length = f.sames.length := List.length_map ..
 by_cases c4 : 40 <= f.sames.length
 ·rw [if_pos c4]
  rw [if_pos (by omega)] at hf
  obtain ⟨j, hf⟩ := hf
  refine ⟨j, f, ?_⟩
  (try unfold rd7 at *); (try unfold rd2 at *); (try unfold givenD at *); rw [decl_reader_line.eq]
  simp only [hw0, hw1, hf, lz, lx, if_true, if_false, lb, Int.cast_ofNat_Int]
 rw [if_neg c4]
 rw [if_neg (by omega)] at hf
 simp only at hf
 have hF : decide ((((f.sames.map Pai.v).length : Nat) : Int) >= 40) = false := decide_eq_false (by omega)
 have hM : ∀ (x : List V) (a b : Option Res), (if (f.sames.map Pai.v).length + List.length [x] <= most then a else b) = a := fun x a b => if_pos (by show _ + 1 <= 1099511627776; omega)
 have w1 := wr1 (show k < 1099511627776 by omega)
 have s0 : k + 1 < l.length := hl.next hk (by rw [(isW_kind c).1]; decide)
 have h1 := same_d hl hn s0
 unfold RdD at h1
 simp only [andR]
 cases c_1 : sameR l (k + 1) with
 | error e => rw [c_1] at h1; obtain ⟨j, h1⟩ := h1; refine ⟨j, f, ?_⟩; (try unfold rd7 at *); (try unfold rd2 at *); (try unfold givenD at *); rw [decl_reader_line.eq]; simp only [hw0, hw1, hf, w1, hF, hM, h1, lz, lx, if_true, if_false, lb, Int.cast_ofNat_Int]
 | ok r1 =>
 obtain ⟨x1, k1⟩ := r1
 rw [c_1] at h1
 simp only at h1
 have s1 := (sameR_step hl hn s0 c_1).end_
 have hs := sign_d hl hn s1 [59]
 unfold RdD at hs
 simp only [andR]
 have ap := app_one (l := l) hl hn Pai.v f.sames x1
 have vv := Pai_list x1
 cases c_s : signR l [59] k1 with
 | error e => rw [c_s] at hs; obtain ⟨j, hs⟩ := hs; refine ⟨j, { f with sames := f.sames ++ [x1] }, ?_⟩; (try unfold rd7 at *); (try unfold rd2 at *); (try unfold givenD at *); rw [decl_reader_line.eq]; simp only [hw0, hw1, hf, w1, hF, hM, h1, hs, vv, ap, lz, lx, if_true, if_false, lb, Int.cast_ofNat_Int]
 | ok rs =>
 obtain ⟨xs, ks⟩ := rs
 rw [c_s] at hs
 simp only at hs
 unfold RdL
 simp only [andR]
 (try unfold rd7 at *); (try unfold rd2 at *); (try unfold givenD at *); rw [decl_reader_line.eq]
 simp only [hw0, hw1, hf, w1, hF, hM, h1, hs, vv, ap, lz, lx, if_true, if_false, lb, Int.cast_ofNat_Int]
theorem line_keep_d (hE : ReadsE syntax_ReadExpr.id l) {k : Nat} (hk : k < l.length) (f : Fl) (n0 : isW (tk l k) [112, 97, 105, 114] = false) (n1 : isW (tk l k) [115, 97, 109, 101] = false) (c : isW (tk l k) [107, 101, 101, 112] = true) : RdL l (lineR l f k) (den Sp decl_reader_line.id [.ref 0 0] [rd7 l k f] none) := by
 have hw0 := word_d hl hn hk [112, 97, 105, 114]
 rw [n0] at hw0
 have hw1 := word_d hl hn hk [115, 97, 109, 101]
 rw [n1] at hw1
 have hw2 := word_d hl hn hk [107, 101, 101, 112]
 rw [c] at hw2
 unfold lineR itemR
 rw [n0, if_neg (fun h => Bool.noConfusion h)]
 rw [n1, if_neg (fun h => Bool.noConfusion h)]
 rw [c, if_pos rfl]
 unfold fullR
 have hf : RdD l (fun _ : Unit => .tup []) (if 40 <= (f.keeps.map Kp.v).length then .error ((tk l k).at_, 2) else .ok ((), k)) (den Sp decl_reader_full.id [.ref 0 0, .int .i64 k, .int .i64 (((f.keeps.map Kp.v).length : Nat) : Int), .int .i64 40] [rd2 l k] none) := full_d hl hn (k := k) k hk (f.keeps.map Kp.v).length 40
 unfold RdD at hf
 have ln : (f.keeps.map Kp.v).length = f.keeps.length := List.length_map ..
 by_cases c4 : 40 <= f.keeps.length
 ·rw [if_pos c4]
  rw [if_pos (by omega)] at hf
  obtain ⟨j, hf⟩ := hf
  refine ⟨j, f, ?_⟩
  (try unfold rd7 at *); (try unfold rd2 at *); (try unfold givenD at *); rw [decl_reader_line.eq]
  simp only [hw0, hw1, hw2, hf, lz, lx, if_true, if_false, lb, Int.cast_ofNat_Int]
 rw [if_neg c4]
 rw [if_neg (by omega)] at hf
 simp only at hf
 have hF : decide ((((f.keeps.map Kp.v).length : Nat) : Int) >= 40) = false := decide_eq_false (by omega)
 have hM : ∀ (x : List V) (a b : Option Res), (if (f.keeps.map Kp.v).length + List.length [x] <= most then a else b) = a := fun x a b => if_pos (by show _ + 1 <= 1099511627776; omega)
 have w1 := wr1 (show k < 1099511627776 by omega)
 have s0 : k + 1 < l.length := hl.next hk (by rw [(isW_kind c).1]; decide)
 have h1 := side_d hl hn s0
 unfold RdD at h1
 simp only [keepR, andR]
 cases c_1 : sideR l (k + 1) with
 | error e => rw [c_1] at h1; obtain ⟨j, h1⟩ := h1; refine ⟨j, f, ?_⟩; (try unfold rd7 at *); (try unfold rd2 at *); (try unfold givenD at *); rw [decl_reader_line.eq]; simp only [hw0, hw1, hw2, hf, w1, hF, hM, h1, lz, lx, if_true, if_false, lb, Int.cast_ofNat_Int]
 | ok r1 =>
 obtain ⟨x1, k1⟩ := r1
 rw [c_1] at h1
 simp only at h1
 have s1 := (sideR_step hl s0 c_1).1.end_
 have h2 := name_d hl hn s1
 unfold RdD at h2
 simp only [andR]
 cases c_2 : nameR l k1 with
 | error e => rw [c_2] at h2; obtain ⟨j, h2⟩ := h2; refine ⟨j, f, ?_⟩; (try unfold rd7 at *); (try unfold rd2 at *); (try unfold givenD at *); rw [decl_reader_line.eq]; simp only [hw0, hw1, hw2, hf, w1, hF, hM, h1, h2, lz, lx, if_true, if_false, lb, Int.cast_ofNat_Int]
 | ok r2 =>
 obtain ⟨x2, k2⟩ := r2
 rw [c_2] at h2
 simp only at h2
 have s2 := (nameR_step hl s1 c_2).1.end_
 have h3 := name_d hl hn s2
 unfold RdD at h3
 simp only [andR]
 cases c_3 : nameR l k2 with
 | error e => rw [c_3] at h3; obtain ⟨j, h3⟩ := h3; refine ⟨j, f, ?_⟩; (try unfold rd7 at *); (try unfold rd2 at *); (try unfold givenD at *); rw [decl_reader_line.eq]; simp only [hw0, hw1, hw2, hf, w1, hF, hM, h1, h2, h3, lz, lx, if_true, if_false, lb, Int.cast_ofNat_Int]
 | ok r3 =>
 obtain ⟨x3, k3⟩ := r3
 rw [c_3] at h3
 simp only at h3
 have s3 := (nameR_step hl s2 c_3).1.end_
 have hs := sign_d hl hn s3 [59]
 unfold RdD at hs
 simp only [andR]
 have ap := app_one (l := l) hl hn Kp.v f.keeps ⟨x1, x2, x3⟩
 rw [Kp.v_mk] at ap
 cases c_s : signR l [59] k3 with
 | error e => rw [c_s] at hs; obtain ⟨j, hs⟩ := hs; refine ⟨j, { f with keeps := f.keeps ++ [⟨x1, x2, x3⟩] }, ?_⟩; (try unfold rd7 at *); (try unfold rd2 at *); (try unfold givenD at *); rw [decl_reader_line.eq]; simp only [hw0, hw1, hw2, hf, w1, hF, hM, h1, h2, h3, hs, ap, lz, lx, if_true, if_false, lb, Int.cast_ofNat_Int]
 | ok rs =>
 obtain ⟨xs, ks⟩ := rs
 rw [c_s] at hs
 simp only at hs
 unfold RdL
 simp only [andR]
 (try unfold rd7 at *); (try unfold rd2 at *); (try unfold givenD at *); rw [decl_reader_line.eq]
 simp only [hw0, hw1, hw2, hf, w1, hF, hM, h1, h2, h3, hs, ap, lz, lx, if_true, if_false, lb, Int.cast_ofNat_Int]
theorem line_break_d (hE : ReadsE syntax_ReadExpr.id l) {k : Nat} (hk : k < l.length) (f : Fl) (n0 : isW (tk l k) [112, 97, 105, 114] = false) (n1 : isW (tk l k) [115, 97, 109, 101] = false) (n2 : isW (tk l k) [107, 101, 101, 112] = false) (c : isW (tk l k) [98, 114, 101, 97, 107] = true) : RdL l (lineR l f k) (den Sp decl_reader_line.id [.ref 0 0] [rd7 l k f] none) := by
 have hw0 := word_d hl hn hk [112, 97, 105, 114]
 rw [n0] at hw0
 have hw1 := word_d hl hn hk [115, 97, 109, 101]
 rw [n1] at hw1
 have hw2 := word_d hl hn hk [107, 101, 101, 112]
 rw [n2] at hw2
 have hw3 := word_d hl hn hk [98, 114, 101, 97, 107]
 rw [c] at hw3
 unfold lineR itemR
 rw [n0, if_neg (fun h => Bool.noConfusion h)]
 rw [n1, if_neg (fun h => Bool.noConfusion h)]
 rw [n2, if_neg (fun h => Bool.noConfusion h)]
 rw [c, if_pos rfl]
 unfold fullR
 have hf : RdD l (fun _ : Unit => .tup []) (if 40 <= (f.breaks.map Bk.v).length then .error ((tk l k).at_, 2) else .ok ((), k)) (den Sp decl_reader_full.id [.ref 0 0, .int .i64 k, .int .i64 (((f.breaks.map Bk.v).length : Nat) : Int), .int .i64 40] [rd2 l k] none) := full_d hl hn (k := k) k hk (f.breaks.map Bk.v).length 40
 unfold RdD at hf
 have ln : (f.breaks.map Bk.v).length = f.breaks.length := List.length_map ..
 by_cases c4 : 40 <= f.breaks.length
 ·rw [if_pos c4]
  rw [if_pos (by omega)] at hf
  obtain ⟨j, hf⟩ := hf
  refine ⟨j, f, ?_⟩
  (try unfold rd7 at *); (try unfold rd2 at *); (try unfold givenD at *); rw [decl_reader_line.eq]
  simp only [hw0, hw1, hw2, hw3, hf, lz, lx, if_true, if_false, lb, Int.cast_ofNat_Int]
 rw [if_neg c4]
 rw [if_neg (by omega)] at hf
 simp only at hf
 have hF : decide ((((f.breaks.map Bk.v).length : Nat) : Int) >= 40) = false := decide_eq_false (by omega)
 have hM : ∀ (x : List V) (a b : Option Res), (if (f.breaks.map Bk.v).length + List.length [x] <= most then a else b) = a := fun x a b => if_pos (by show _ + 1 <= 1099511627776; omega)
 have w1 := wr1 (show k < 1099511627776 by omega)
 have s0 : k + 1 < l.length := hl.next hk (by rw [(isW_kind c).1]; decide)
 have h1 := stop_d hl hn hE s0
 unfold RdD at h1
 simp only [andR]
 cases c_1 : stopR l (k + 1) with
 | error e => rw [c_1] at h1; obtain ⟨j, h1⟩ := h1; refine ⟨j, f, ?_⟩; (try unfold rd7 at *); (try unfold rd2 at *); (try unfold givenD at *); rw [decl_reader_line.eq]; simp only [hw0, hw1, hw2, hw3, hf, w1, hF, hM, h1, lz, lx, if_true, if_false, lb, Int.cast_ofNat_Int]
 | ok r1 =>
 obtain ⟨x1, k1⟩ := r1
 rw [c_1] at h1
 simp only at h1
 have s1 := (stopR_step hl hn s0 c_1).end_
 have hs := sign_d hl hn s1 [59]
 unfold RdD at hs
 simp only [andR]
 have ap := app_one (l := l) hl hn Bk.v f.breaks x1
 have vv := Bk_list x1
 cases c_s : signR l [59] k1 with
 | error e => rw [c_s] at hs; obtain ⟨j, hs⟩ := hs; refine ⟨j, { f with breaks := f.breaks ++ [x1] }, ?_⟩; (try unfold rd7 at *); (try unfold rd2 at *); (try unfold givenD at *); rw [decl_reader_line.eq]; simp only [hw0, hw1, hw2, hw3, hf, w1, hF, hM, h1, hs, vv, ap, lz, lx, if_true, if_false, lb, Int.cast_ofNat_Int]
 | ok rs =>
 obtain ⟨xs, ks⟩ := rs
 rw [c_s] at hs
 simp only at hs
 unfold RdL
 simp only [andR]
 (try unfold rd7 at *); (try unfold rd2 at *); (try unfold givenD at *); rw [decl_reader_line.eq]
 simp only [hw0, hw1, hw2, hw3, hf, w1, hF, hM, h1, hs, vv, ap, lz, lx, if_true, if_false, lb, Int.cast_ofNat_Int]
theorem line_watch_d (hE : ReadsE syntax_ReadExpr.id l) {k : Nat} (hk : k < l.length) (f : Fl) (n0 : isW (tk l k) [112, 97, 105, 114] = false) (n1 : isW (tk l k) [115, 97, 109, 101] = false) (n2 : isW (tk l k) [107, 101, 101, 112] = false) (n3 : isW (tk l k) [98, 114, 101, 97, 107] = false) (c : isW (tk l k) [119, 97, 116, 99, 104] = true) : RdL l (lineR l f k) (den Sp decl_reader_line.id [.ref 0 0] [rd7 l k f] none) := by
 have hw0 := word_d hl hn hk [112, 97, 105, 114]
 rw [n0] at hw0
 have hw1 := word_d hl hn hk [115, 97, 109, 101]
 rw [n1] at hw1
 have hw2 := word_d hl hn hk [107, 101, 101, 112]
 rw [n2] at hw2
 have hw3 := word_d hl hn hk [98, 114, 101, 97, 107]
 rw [n3] at hw3
 have hw4 := word_d hl hn hk [119, 97, 116, 99, 104]
 rw [c] at hw4
 unfold lineR itemR
 rw [n0, if_neg (fun h => Bool.noConfusion h)]
 rw [n1, if_neg (fun h => Bool.noConfusion h)]
 rw [n2, if_neg (fun h => Bool.noConfusion h)]
 rw [n3, if_neg (fun h => Bool.noConfusion h)]
 rw [c, if_pos rfl]
 unfold fullR
 have hf : RdD l (fun _ : Unit => .tup []) (if 40 <= (f.watches.map Wt.v).length then .error ((tk l k).at_, 2) else .ok ((), k)) (den Sp decl_reader_full.id [.ref 0 0, .int .i64 k, .int .i64 (((f.watches.map Wt.v).length : Nat) : Int), .int .i64 40] [rd2 l k] none) := full_d hl hn (k := k) k hk (f.watches.map Wt.v).length 40
 unfold RdD at hf
 have ln : (f.watches.map Wt.v).length = f.watches.length := List.length_map ..
 by_cases c4 : 40 <= f.watches.length
 ·rw [if_pos c4]
  rw [if_pos (by omega)] at hf
  obtain ⟨j, hf⟩ := hf
  refine ⟨j, f, ?_⟩
  (try unfold rd7 at *); (try unfold rd2 at *); (try unfold givenD at *); rw [decl_reader_line.eq]
  simp only [hw0, hw1, hw2, hw3, hw4, hf, lz, lx, if_true, if_false, lb, Int.cast_ofNat_Int]
 rw [if_neg c4]
 rw [if_neg (by omega)] at hf
 simp only at hf
 have hF : decide ((((f.watches.map Wt.v).length : Nat) : Int) >= 40) = false := decide_eq_false (by omega)
 have hM : ∀ (x : List V) (a b : Option Res), (if (f.watches.map Wt.v).length + List.length [x] <= most then a else b) = a := fun x a b => if_pos (by show _ + 1 <= 1099511627776; omega)
 have w1 := wr1 (show k < 1099511627776 by omega)
 have s0 : k + 1 < l.length := hl.next hk (by rw [(isW_kind c).1]; decide)
 have h1 := side_d hl hn s0
 unfold RdD at h1
 simp only [keepR, andR]
 cases c_1 : sideR l (k + 1) with
 | error e => rw [c_1] at h1; obtain ⟨j, h1⟩ := h1; refine ⟨j, f, ?_⟩; (try unfold rd7 at *); (try unfold rd2 at *); (try unfold givenD at *); rw [decl_reader_line.eq]; simp only [hw0, hw1, hw2, hw3, hw4, hf, w1, hF, hM, h1, lz, lx, if_true, if_false, lb, Int.cast_ofNat_Int]
 | ok r1 =>
 obtain ⟨x1, k1⟩ := r1
 rw [c_1] at h1
 simp only at h1
 have s1 := (sideR_step hl s0 c_1).1.end_
 have h2 := name_d hl hn s1
 unfold RdD at h2
 simp only [andR]
 cases c_2 : nameR l k1 with
 | error e => rw [c_2] at h2; obtain ⟨j, h2⟩ := h2; refine ⟨j, f, ?_⟩; (try unfold rd7 at *); (try unfold rd2 at *); (try unfold givenD at *); rw [decl_reader_line.eq]; simp only [hw0, hw1, hw2, hw3, hw4, hf, w1, hF, hM, h1, h2, lz, lx, if_true, if_false, lb, Int.cast_ofNat_Int]
 | ok r2 =>
 obtain ⟨x2, k2⟩ := r2
 rw [c_2] at h2
 simp only at h2
 have s2 := (nameR_step hl s1 c_2).1.end_
 have h3 := name_d hl hn s2
 unfold RdD at h3
 simp only [andR]
 cases c_3 : nameR l k2 with
 | error e => rw [c_3] at h3; obtain ⟨j, h3⟩ := h3; refine ⟨j, f, ?_⟩; (try unfold rd7 at *); (try unfold rd2 at *); (try unfold givenD at *); rw [decl_reader_line.eq]; simp only [hw0, hw1, hw2, hw3, hw4, hf, w1, hF, hM, h1, h2, h3, lz, lx, if_true, if_false, lb, Int.cast_ofNat_Int]
 | ok r3 =>
 obtain ⟨x3, k3⟩ := r3
 rw [c_3] at h3
 simp only at h3
 have s3 := (nameR_step hl s2 c_3).1.end_
 have hs := sign_d hl hn s3 [59]
 unfold RdD at hs
 simp only [andR]
 have ap := app_one (l := l) hl hn Wt.v f.watches ⟨x1, x2, x3⟩
 rw [Wt.v_mk] at ap
 cases c_s : signR l [59] k3 with
 | error e => rw [c_s] at hs; obtain ⟨j, hs⟩ := hs; refine ⟨j, { f with watches := f.watches ++ [⟨x1, x2, x3⟩] }, ?_⟩; (try unfold rd7 at *); (try unfold rd2 at *); (try unfold givenD at *); rw [decl_reader_line.eq]; simp only [hw0, hw1, hw2, hw3, hw4, hf, w1, hF, hM, h1, h2, h3, hs, ap, lz, lx, if_true, if_false, lb, Int.cast_ofNat_Int]
 | ok rs =>
 obtain ⟨xs, ks⟩ := rs
 rw [c_s] at hs
 simp only at hs
 unfold RdL
 simp only [andR]
 (try unfold rd7 at *); (try unfold rd2 at *); (try unfold givenD at *); rw [decl_reader_line.eq]
 simp only [hw0, hw1, hw2, hw3, hw4, hf, w1, hF, hM, h1, h2, h3, hs, ap, lz, lx, if_true, if_false, lb, Int.cast_ofNat_Int]
theorem line_d (hE : ReadsE syntax_ReadExpr.id l) {k : Nat} (hk : k < l.length) (f : Fl) : RdL l (lineR l f k) (den Sp decl_reader_line.id [.ref 0 0] [rd7 l k f] none) := by
 cases n0 : isW (tk l k) [112, 97, 105, 114] with
 | true => exact line_pair_d hl hn hE hk f  n0
 | false =>
 cases n1 : isW (tk l k) [115, 97, 109, 101] with
 | true => exact line_same_d hl hn hE hk f n0 n1
 | false =>
 cases n2 : isW (tk l k) [107, 101, 101, 112] with
 | true => exact line_keep_d hl hn hE hk f n0 n1 n2
 | false =>
 cases n3 : isW (tk l k) [98, 114, 101, 97, 107] with
 | true => exact line_break_d hl hn hE hk f n0 n1 n2 n3
 | false =>
 cases n4 : isW (tk l k) [119, 97, 116, 99, 104] with
 | true => exact line_watch_d hl hn hE hk f n0 n1 n2 n3 n4
 | false =>
 have hw0 := word_d hl hn hk [112, 97, 105, 114]
 rw [n0] at hw0
 have hw1 := word_d hl hn hk [115, 97, 109, 101]
 rw [n1] at hw1
 have hw2 := word_d hl hn hk [107, 101, 101, 112]
 rw [n2] at hw2
 have hw3 := word_d hl hn hk [98, 114, 101, 97, 107]
 rw [n3] at hw3
 have hw4 := word_d hl hn hk [119, 97, 116, 99, 104]
 rw [n4] at hw4
 have hf := fail_d hl hn hk 30
 unfold lineR itemR
 rw [n0, n1, n2, n3, n4]
 refine ⟨k, f, ?_⟩
 (try unfold rd7 at *); (try unfold rd2 at *); (try unfold givenD at *); rw [decl_reader_line.eq]
 simp only [hw0, hw1, hw2, hw3, hw4, hf, lz, lx, if_true, if_false, lb]
end
end Go.Proofs.YtmhnmelaodhemaaDoor
namespace Go.Proofs.YtmhnmelaodhemaaDoor
open Go Go.Proofs.Ab
namespace syntax_tokens_wrong
theorem eq (m0_0 : List (List V)) (m0_1 : Int) : den Sp id [V.ref 0 0] [Blk.cells T_syntax_tokens [V.sl .no T_api_Token m0_0, V.int .i64 m0_1] false] none =
  (if (((0 : Int) <= m0_1) ∧ (m0_1 < (m0_0.length : Int))) then (V.asInt (List.getD (List.getD m0_0 (Int.toNat m0_1) []) 3 V.undef) .i64 (fun n3 => some ⟨Out.pan (V.iface T_syntax_given (V.agg [V.int .i64 n3, V.int .i64 (30 : Int)])), [Blk.cells T_syntax_tokens [V.sl .no T_api_Token m0_0, V.int .i64 m0_1] false], none⟩)) else none) := (den_eq ..).trans (by kernel_rfl)
end syntax_tokens_wrong
namespace syntax_tokens_is
theorem eq (m0_0 : List (List V)) (m0_1 : Int) (a1 : ByteArray) : den Sp id [V.ref 0 0, V.str a1] [Blk.cells T_syntax_tokens [V.sl .no T_api_Token m0_0, V.int .i64 m0_1] false] none =
  (if (((0 : Int) <= m0_1) ∧ (m0_1 < (m0_0.length : Int))) then (V.asInt (List.getD (List.getD m0_0 (Int.toNat m0_1) []) 0 V.undef) .i64 (fun n5 => V.asStr (List.getD (List.getD m0_0 (Int.toNat m0_1) []) 1 V.undef) (fun s6 => V.asInt (List.getD (List.getD m0_0 (Int.toNat m0_1) []) 2 V.undef) .i64 (fun n7 => V.asInt (List.getD (List.getD m0_0 (Int.toNat m0_1) []) 3 V.undef) .i64 (fun n8 => bif (n5 == (3 : Int)) then (some ⟨Out.ret (V.bool (decide (s6 = a1))), [Blk.cells T_syntax_tokens [V.sl .no T_api_Token m0_0, V.int .i64 m0_1] false], none⟩) else (bif (n5 == (4 : Int)) then (some ⟨Out.ret (V.bool (decide (s6 = a1))), [Blk.cells T_syntax_tokens [V.sl .no T_api_Token m0_0, V.int .i64 m0_1] false], none⟩) else (some ⟨Out.ret (V.bool false), [Blk.cells T_syntax_tokens [V.sl .no T_api_Token m0_0, V.int .i64 m0_1] false], none⟩))))))) else none) := (den_eq ..).trans (by kernel_rfl)
end syntax_tokens_is
namespace syntax_tokens_has
theorem eq (m0_0 : List (List V)) (m0_1 : Int) (a1 : ByteArray) : den Sp id [V.ref 0 0, V.str a1] [Blk.cells T_syntax_tokens [V.sl .no T_api_Token m0_0, V.int .i64 m0_1] false] none =
  (den Sp syntax_tokens_is.id [V.ref 0 0, V.str a1] [Blk.cells T_syntax_tokens [V.sl .no T_api_Token m0_0, V.int .i64 m0_1] false] none).bind (fun r5 => Blk.asCells (List.getD (Res.bl r5) 0 (Blk.cells T_n0 [] true)) T_syntax_tokens 2 (fun rd6 => V.asSl (rd6 0) T_api_Token (fun es7 => V.asInt (rd6 1) .i64 (fun n8 => Res.onRet r5 (fun v9 => V.asBool v9 (fun b10 => bif (!b10) then (some ⟨Out.ret (V.bool false), [Blk.cells T_syntax_tokens [V.sl .no T_api_Token es7, V.int .i64 n8] false], none⟩) else (some ⟨Out.ret (V.bool true), [Blk.cells T_syntax_tokens [V.sl .no T_api_Token es7, V.int .i64 (IntKind.wrap .i64 (n8 + (1 : Int)))] false], none⟩))))))) := (den_eq ..).trans (by kernel_rfl)
end syntax_tokens_has
namespace syntax_tokens_need
theorem eq (m0_0 : List (List V)) (m0_1 : Int) (a1 : ByteArray) : den Sp id [V.ref 0 0, V.str a1] [Blk.cells T_syntax_tokens [V.sl .no T_api_Token m0_0, V.int .i64 m0_1] false] none =
  (den Sp syntax_tokens_has.id [V.ref 0 0, V.str a1] [Blk.cells T_syntax_tokens [V.sl .no T_api_Token m0_0, V.int .i64 m0_1] false] none).bind (fun r4 => Blk.asCells (List.getD (Res.bl r4) 0 (Blk.cells T_n0 [] true)) T_syntax_tokens 2 (fun rd5 => V.asSl (rd5 0) T_api_Token (fun es6 => V.asInt (rd5 1) .i64 (fun n7 => Res.onRet r4 (fun v8 => V.asBool v8 (fun b9 => bif (!b9) then (den Sp syntax_tokens_wrong.id [V.ref 0 0] [Blk.cells T_syntax_tokens [V.sl .no T_api_Token es6, V.int .i64 n7] false] none).bind (fun r11 => Blk.asCells (List.getD (Res.bl r11) 0 (Blk.cells T_n0 [] true)) T_syntax_tokens 2 (fun rd12 => V.asSl (rd12 0) T_api_Token (fun es13 => V.asInt (rd12 1) .i64 (fun n14 => Res.onOut r11 (fun v15 => V.asTup v15 0 (fun rd16 => some ⟨Out.ret (V.tup []), [Blk.cells T_syntax_tokens [V.sl .no T_api_Token es13, V.int .i64 n14] false], none⟩)) (fun v15 => V.asIface v15 T_syntax_given (fun w16 => V.asAgg w16 2 (fun rd17 => V.asInt (rd17 0) .i64 (fun n18 => V.asInt (rd17 1) .i64 (fun n19 => some ⟨Out.pan (V.iface T_syntax_given (V.agg [V.int .i64 n18, V.int .i64 n19])), [Blk.cells T_syntax_tokens [V.sl .no T_api_Token es13, V.int .i64 n14] false], none⟩))))))))) else (some ⟨Out.ret (V.tup []), [Blk.cells T_syntax_tokens [V.sl .no T_api_Token es6, V.int .i64 n7] false], none⟩))))))) := (den_eq ..).trans (by kernel_rfl)
end syntax_tokens_need
namespace syntax_tokens_name
theorem eq (m0_0 : List (List V)) (m0_1 : Int) : den Sp id [V.ref 0 0] [Blk.cells T_syntax_tokens [V.sl .no T_api_Token m0_0, V.int .i64 m0_1] false] none =
  (if (((0 : Int) <= m0_1) ∧ (m0_1 < (m0_0.length : Int))) then (V.asInt (List.getD (List.getD m0_0 (Int.toNat m0_1) []) 0 V.undef) .i64 (fun n4 => V.asStr (List.getD (List.getD m0_0 (Int.toNat m0_1) []) 1 V.undef) (fun s5 => V.asInt (List.getD (List.getD m0_0 (Int.toNat m0_1) []) 2 V.undef) .i64 (fun n6 => V.asInt (List.getD (List.getD m0_0 (Int.toNat m0_1) []) 3 V.undef) .i64 (fun n7 => bif (n4 != (1 : Int)) then (den Sp syntax_tokens_wrong.id [V.ref 0 0] [Blk.cells T_syntax_tokens [V.sl .no T_api_Token m0_0, V.int .i64 m0_1] false] none).bind (fun r10 => Blk.asCells (List.getD (Res.bl r10) 0 (Blk.cells T_n0 [] true)) T_syntax_tokens 2 (fun rd11 => V.asSl (rd11 0) T_api_Token (fun es12 => V.asInt (rd11 1) .i64 (fun n13 => Res.onOut r10 (fun v14 => V.asTup v14 0 (fun rd15 => some ⟨Out.ret (V.str s5), [Blk.cells T_syntax_tokens [V.sl .no T_api_Token es12, V.int .i64 (IntKind.wrap .i64 (n13 + (1 : Int)))] false], none⟩)) (fun v14 => V.asIface v14 T_syntax_given (fun w15 => V.asAgg w15 2 (fun rd16 => V.asInt (rd16 0) .i64 (fun n17 => V.asInt (rd16 1) .i64 (fun n18 => some ⟨Out.pan (V.iface T_syntax_given (V.agg [V.int .i64 n17, V.int .i64 n18])), [Blk.cells T_syntax_tokens [V.sl .no T_api_Token es12, V.int .i64 n13] false], none⟩))))))))) else (some ⟨Out.ret (V.str s5), [Blk.cells T_syntax_tokens [V.sl .no T_api_Token m0_0, V.int .i64 (IntKind.wrap .i64 (m0_1 + (1 : Int)))] false], none⟩)))))) else none) := (den_eq ..).trans (by kernel_rfl)
end syntax_tokens_name
namespace syntax_tokens_deep
theorem eq (m0_0 : List (List V)) (m0_1 a1 : Int) (a2 : Bool) : den Sp id [V.ref 0 0, V.int .i64 a1, V.bool a2] [Blk.cells T_syntax_tokens [V.sl .no T_api_Token m0_0, V.int .i64 m0_1] false] none =
  (bif (!a2) then (den Sp syntax_tokens_wrong.id [V.ref 0 0] [Blk.cells T_syntax_tokens [V.sl .no T_api_Token m0_0, V.int .i64 m0_1] false] none).bind (fun r6 => Blk.asCells (List.getD (Res.bl r6) 0 (Blk.cells T_n0 [] true)) T_syntax_tokens 2 (fun rd7 => V.asSl (rd7 0) T_api_Token (fun es8 => V.asInt (rd7 1) .i64 (fun n9 => Res.onOut r6 (fun v10 => V.asTup v10 0 (fun rd11 => bif (decide (a1 > (60 : Int))) then (if (((0 : Int) <= n9) ∧ (n9 < (es8.length : Int))) then (V.asInt (List.getD (List.getD es8 (Int.toNat n9) []) 3 V.undef) .i64 (fun n14 => some ⟨Out.pan (V.iface T_syntax_given (V.agg [V.int .i64 n14, V.int .i64 (31 : Int)])), [Blk.cells T_syntax_tokens [V.sl .no T_api_Token es8, V.int .i64 n9] false], none⟩)) else none) else (some ⟨Out.ret (V.tup []), [Blk.cells T_syntax_tokens [V.sl .no T_api_Token es8, V.int .i64 n9] false], none⟩))) (fun v10 => V.asIface v10 T_syntax_given (fun w11 => V.asAgg w11 2 (fun rd12 => V.asInt (rd12 0) .i64 (fun n13 => V.asInt (rd12 1) .i64 (fun n14 => some ⟨Out.pan (V.iface T_syntax_given (V.agg [V.int .i64 n13, V.int .i64 n14])), [Blk.cells T_syntax_tokens [V.sl .no T_api_Token es8, V.int .i64 n9] false], none⟩))))))))) else (bif (decide (a1 > (60 : Int))) then (if (((0 : Int) <= m0_1) ∧ (m0_1 < (m0_0.length : Int))) then (V.asInt (List.getD (List.getD m0_0 (Int.toNat m0_1) []) 3 V.undef) .i64 (fun n7 => some ⟨Out.pan (V.iface T_syntax_given (V.agg [V.int .i64 n7, V.int .i64 (31 : Int)])), [Blk.cells T_syntax_tokens [V.sl .no T_api_Token m0_0, V.int .i64 m0_1] false], none⟩)) else none) else (some ⟨Out.ret (V.tup []), [Blk.cells T_syntax_tokens [V.sl .no T_api_Token m0_0, V.int .i64 m0_1] false], none⟩))) := (den_eq ..).trans (by kernel_rfl)
end syntax_tokens_deep
namespace syntax_reader_begins
theorem eq (m0_0 : List (List V)) (m0_1 : Int) (m0_2 : List (List V)) : den Sp id [V.ref 0 0] [Blk.cells T_syntax_reader [V.sl .no T_api_Token m0_0, V.int .i64 m0_1, V.sl .no T_L_int m0_2] false] none =
  (if (((0 : Int) <= m0_1) ∧ (m0_1 < (m0_0.length : Int))) then (V.asInt (List.getD (List.getD m0_0 (Int.toNat m0_1) []) 0 V.undef) .i64 (fun n5 => V.asStr (List.getD (List.getD m0_0 (Int.toNat m0_1) []) 1 V.undef) (fun s6 => V.asInt (List.getD (List.getD m0_0 (Int.toNat m0_1) []) 2 V.undef) .i64 (fun n7 => V.asInt (List.getD (List.getD m0_0 (Int.toNat m0_1) []) 3 V.undef) .i64 (fun n8 => bif (n5 == (1 : Int)) then (some ⟨Out.ret (V.bool true), [Blk.cells T_syntax_reader [V.sl .no T_api_Token m0_0, V.int .i64 m0_1, V.sl .no T_L_int m0_2] false], none⟩) else (bif (n5 == (2 : Int)) then (some ⟨Out.ret (V.bool true), [Blk.cells T_syntax_reader [V.sl .no T_api_Token m0_0, V.int .i64 m0_1, V.sl .no T_L_int m0_2] false], none⟩) else (den Sp syntax_tokens_is.id [V.ref 0 0, V.str (ByteArray.mk #[116, 114, 117, 101])] [Blk.cells T_syntax_tokens [V.sl .no T_api_Token m0_0, V.int .i64 m0_1] false] none).bind (fun r10 => Blk.asCells (List.getD (Res.bl r10) 0 (Blk.cells T_n0 [] true)) T_syntax_tokens 2 (fun rd11 => V.asSl (rd11 0) T_api_Token (fun es12 => V.asInt (rd11 1) .i64 (fun n13 => Res.onRet r10 (fun v14 => V.asBool v14 (fun b15 => bif b15 then (some ⟨Out.ret (V.bool true), [Blk.cells T_syntax_reader [V.sl .no T_api_Token es12, V.int .i64 n13, V.sl .no T_L_int m0_2] false], none⟩) else (den Sp syntax_tokens_is.id [V.ref 0 0, V.str (ByteArray.mk #[102, 97, 108, 115, 101])] [Blk.cells T_syntax_tokens [V.sl .no T_api_Token es12, V.int .i64 n13] false] none).bind (fun r16 => Blk.asCells (List.getD (Res.bl r16) 0 (Blk.cells T_n0 [] true)) T_syntax_tokens 2 (fun rd17 => V.asSl (rd17 0) T_api_Token (fun es18 => V.asInt (rd17 1) .i64 (fun n19 => Res.onRet r16 (fun v20 => V.asBool v20 (fun b21 => bif b21 then (some ⟨Out.ret (V.bool true), [Blk.cells T_syntax_reader [V.sl .no T_api_Token es18, V.int .i64 n19, V.sl .no T_L_int m0_2] false], none⟩) else (den Sp syntax_tokens_is.id [V.ref 0 0, V.str (ByteArray.mk #[40])] [Blk.cells T_syntax_tokens [V.sl .no T_api_Token es18, V.int .i64 n19] false] none).bind (fun r22 => Blk.asCells (List.getD (Res.bl r22) 0 (Blk.cells T_n0 [] true)) T_syntax_tokens 2 (fun rd23 => V.asSl (rd23 0) T_api_Token (fun es24 => V.asInt (rd23 1) .i64 (fun n25 => Res.onRet r22 (fun v26 => V.asBool v26 (fun b27 => bif b27 then (some ⟨Out.ret (V.bool true), [Blk.cells T_syntax_reader [V.sl .no T_api_Token es24, V.int .i64 n25, V.sl .no T_L_int m0_2] false], none⟩) else (den Sp syntax_tokens_is.id [V.ref 0 0, V.str (ByteArray.mk #[45])] [Blk.cells T_syntax_tokens [V.sl .no T_api_Token es24, V.int .i64 n25] false] none).bind (fun r28 => Blk.asCells (List.getD (Res.bl r28) 0 (Blk.cells T_n0 [] true)) T_syntax_tokens 2 (fun rd29 => V.asSl (rd29 0) T_api_Token (fun es30 => V.asInt (rd29 1) .i64 (fun n31 => Res.onRet r28 (fun v32 => V.asBool v32 (fun b33 => bif b33 then (some ⟨Out.ret (V.bool true), [Blk.cells T_syntax_reader [V.sl .no T_api_Token es30, V.int .i64 n31, V.sl .no T_L_int m0_2] false], none⟩) else (den Sp syntax_tokens_is.id [V.ref 0 0, V.str (ByteArray.mk #[33])] [Blk.cells T_syntax_tokens [V.sl .no T_api_Token es30, V.int .i64 n31] false] none).bind (fun r34 => Blk.asCells (List.getD (Res.bl r34) 0 (Blk.cells T_n0 [] true)) T_syntax_tokens 2 (fun rd35 => V.asSl (rd35 0) T_api_Token (fun es36 => V.asInt (rd35 1) .i64 (fun n37 => Res.onRet r34 (fun v38 => V.asBool v38 (fun b39 => some ⟨Out.ret (V.bool b39), [Blk.cells T_syntax_reader [V.sl .no T_api_Token es36, V.int .i64 n37, V.sl .no T_L_int m0_2] false], none⟩)))))))))))))))))))))))))))))))))))) else none) := (den_eq ..).trans (by kernel_rfl)
end syntax_reader_begins
namespace syntax_reader_sign
theorem eq (m0_0 : List (List V)) (m0_1 : Int) (m0_2 : List (List V)) (a1 : Int) : den Sp id [V.ref 0 0, V.int .i64 a1] [Blk.cells T_syntax_reader [V.sl .no T_api_Token m0_0, V.int .i64 m0_1, V.sl .no T_L_int m0_2] false] none =
  (if (((0 : Int) <= m0_1) ∧ (m0_1 < (m0_0.length : Int))) then (V.asInt (List.getD (List.getD m0_0 (Int.toNat m0_1) []) 0 V.undef) .i64 (fun n6 => V.asStr (List.getD (List.getD m0_0 (Int.toNat m0_1) []) 1 V.undef) (fun s7 => V.asInt (List.getD (List.getD m0_0 (Int.toNat m0_1) []) 2 V.undef) .i64 (fun n8 => V.asInt (List.getD (List.getD m0_0 (Int.toNat m0_1) []) 3 V.undef) .i64 (fun n9 => bif (n6 != (4 : Int)) then (some ⟨Out.ret (V.str (ByteArray.mk #[])), [Blk.cells T_syntax_reader [V.sl .no T_api_Token m0_0, V.int .i64 m0_1, V.sl .no T_L_int m0_2] false], none⟩) else (den Sp syntax_level.id [V.str s7] [] none).bind (fun r11 => Res.onRet r11 (fun v12 => V.asInt v12 .i64 (fun n13 => bif (n13 != a1) then (some ⟨Out.ret (V.str (ByteArray.mk #[])), [Blk.cells T_syntax_reader [V.sl .no T_api_Token m0_0, V.int .i64 m0_1, V.sl .no T_L_int m0_2] false], none⟩) else (some ⟨Out.ret (V.str s7), [Blk.cells T_syntax_reader [V.sl .no T_api_Token m0_0, V.int .i64 m0_1, V.sl .no T_L_int m0_2] false], none⟩))))))))) else none) := (den_eq ..).trans (by kernel_rfl)
end syntax_reader_sign
namespace syntax_level
theorem eq (a0 : ByteArray) : den Sp id [V.str a0] [] none =
  (bif (decide (a0 = (ByteArray.mk #[124, 124]))) then (some ⟨Out.ret (V.int .i64 (1 : Int)), [], none⟩) else (bif (decide (a0 = (ByteArray.mk #[38, 38]))) then (some ⟨Out.ret (V.int .i64 (2 : Int)), [], none⟩) else (bif (decide (a0 = (ByteArray.mk #[61, 61]))) then (some ⟨Out.ret (V.int .i64 (3 : Int)), [], none⟩) else (bif (decide (a0 = (ByteArray.mk #[33, 61]))) then (some ⟨Out.ret (V.int .i64 (3 : Int)), [], none⟩) else (bif (decide (a0 = (ByteArray.mk #[60]))) then (some ⟨Out.ret (V.int .i64 (3 : Int)), [], none⟩) else (bif (decide (a0 = (ByteArray.mk #[60, 61]))) then (some ⟨Out.ret (V.int .i64 (3 : Int)), [], none⟩) else (bif (decide (a0 = (ByteArray.mk #[43]))) then (some ⟨Out.ret (V.int .i64 (4 : Int)), [], none⟩) else (bif (decide (a0 = (ByteArray.mk #[45]))) then (some ⟨Out.ret (V.int .i64 (4 : Int)), [], none⟩) else (bif (decide (a0 = (ByteArray.mk #[42]))) then (some ⟨Out.ret (V.int .i64 (5 : Int)), [], none⟩) else (bif (decide (a0 = (ByteArray.mk #[47]))) then (some ⟨Out.ret (V.int .i64 (5 : Int)), [], none⟩) else (bif (decide (a0 = (ByteArray.mk #[37]))) then (some ⟨Out.ret (V.int .i64 (5 : Int)), [], none⟩) else (some ⟨Out.ret (V.int .i64 (0 : Int)), [], none⟩)))))))))))) := (den_eq ..).trans (by kernel_rfl)
end syntax_level
end Go.Proofs.YtmhnmelaodhemaaDoor
namespace Go.Proofs.YtmhnmelaodhemaaDoor
open Go Go.Proofs.Ab Go.Proofs.Px
attribute [local congr] bind_h asInt_h asBool_h asStr_h asSl_h asSlR_h asAgg_h asTup_h asIface_h asCells_h onRet_h onOut_h cond_h
def tkB (l : List Tk) (k : Nat) : Blk := .cells T_syntax_tokens [.sl .no T_api_Token (l.map Tk.v), .int .i64 k] false
def rsB (l : List Tk) (k : Nat) (ps : List (List V)) : Blk := .cells T_syntax_reader [.sl .no T_api_Token (l.map Tk.v), .int .i64 k, .sl .no T_L_int ps] false
def givenS (e : Int × Int) : V := .iface T_syntax_given (.agg [.int .i64 e.1, .int .i64 e.2])
def RsT {α : Type} (l : List Tk) (v : α -> V) (r : Rf α) (o : Option Res) : Prop := match r with
 | .ok (x, j) => o = some ⟨.ret (v x), [tkB l j], none⟩
 | .error e => ∃ j : Nat, o = some ⟨.pan (givenS e), [tkB l j], none⟩
def RsX (l : List Tk) (ps : List (List V)) (r : Rd) (o : Option Res) : Prop := match r with
 | .ok (x, j) => o = some ⟨.ret (.agg x.v), [rsB l j ps], none⟩
 | .error e => ∃ j : Nat, o = some ⟨.pan (givenS e), [rsB l j ps], none⟩
section
variable {l : List Tk} (hn : l.length <= 100000)
include hn
theorem wrong_s {k : Nat} (hk : k < l.length) : den Sp syntax_tokens_wrong.id [.ref 0 0] [tkB l k] none = some ⟨.pan (givenS ((tk l k).at_, 30)), [tkB l k], none⟩ := by
 have r := row_in hk
 unfold tkB givenS
 rw [syntax_tokens_wrong.eq]
 simp only [if_pos r, Int.toNat_natCast, tok_g hk, tkv_0, tkv_1, tkv_2, tkv_3, lz, lx, if_true, if_false]
theorem is_s {k : Nat} (hk : k < l.length) (s : List UInt8) : den Sp syntax_tokens_is.id [.ref 0 0, .str (B s)] [tkB l k] none = some ⟨.ret (.bool (isT (tk l k) s)), [tkB l k], none⟩ := by
 have r := row_in hk
 unfold tkB isT
 rw [syntax_tokens_is.eq]
 simp only [if_pos r, Int.toNat_natCast, tok_g hk, tkv_0, tkv_1, tkv_2, tkv_3, lz, lx, if_true, if_false]
 by_cases c1 : (tk l k).text = s <;> by_cases c2 : (tk l k).kind = 3 <;> by_cases c3 : (tk l k).kind = 4 <;> simp [c1, c2, c3]
theorem has_s {k : Nat} (hk : k < l.length) (s : List UInt8) : den Sp syntax_tokens_has.id [.ref 0 0, .str (B s)] [tkB l k] none = some ⟨.ret (.bool (isT (tk l k) s)), [if isT (tk l k) s = true then tkB l (k + 1) else tkB l k], none⟩ := by
 have h := is_s hn hk s
 have w := wr1 (show k < 1099511627776 by omega)
 unfold tkB at *
 rw [syntax_tokens_has.eq]
 cases c : isT (tk l k) s <;> rw [c] at h <;> simp only [h, w, lz, lx, if_true, if_false]
theorem need_s {k : Nat} (hk : k < l.length) (s : List UInt8) : RsT l (fun _ : Unit => .tup []) (if isT (tk l k) s then .ok ((), k + 1) else .error ((tk l k).at_, 30)) (den Sp syntax_tokens_need.id [.ref 0 0, .str (B s)] [tkB l k] none) := by
 have h := has_s hn hk s
 have h2 := wrong_s hn hk
 unfold RsT
 cases c : isT (tk l k) s with
 | true =>
  rw [c] at h
  simp only [if_true] at h ⊢
  unfold tkB at *
  rw [syntax_tokens_need.eq]
  simp only [h, lz, lx, if_true, if_false]
 | false =>
  rw [c] at h
  simp only [Bool.false_eq_true, if_false] at h ⊢
  refine ⟨k, ?_⟩
  unfold tkB givenS at *
  rw [syntax_tokens_need.eq]
  simp only [h, h2, lz, lx, if_true, if_false]
theorem name_s {k : Nat} (hk : k < l.length) : RsT l (fun s => .str (B s)) (nameR l k) (den Sp syntax_tokens_name.id [.ref 0 0] [tkB l k] none) := by
 have h2 := wrong_s hn hk
 have r := row_in hk
 have w := wr1 (show k < 1099511627776 by omega)
 unfold RsT nameR wrongR
 by_cases c : (tk l k).kind = 1
 ·have c' : ((tk l k).kind != 1) = false := by simpa using c
  rw [if_pos c]
  simp only
  unfold tkB givenS at *
  rw [syntax_tokens_name.eq]
  simp only [if_pos r, Int.toNat_natCast, tok_g hk, tkv_0, tkv_1, tkv_2, tkv_3, c', w, lz, lx, if_true, if_false]
 ·have c' : ((tk l k).kind != 1) = true := by simpa using c
  rw [if_neg c]
  refine ⟨k, ?_⟩
  unfold tkB givenS at *
  rw [syntax_tokens_name.eq]
  simp only [if_pos r, Int.toNat_natCast, tok_g hk, tkv_0, tkv_1, tkv_2, tkv_3, c', h2, w, lz, lx, if_true, if_false]
theorem deep_s {k : Nat} (hk : k < l.length) (d : Int) (b : Bool) : RsT l (fun _ : Unit => .tup []) (if b = false then .error ((tk l k).at_, 30) else if 60 < d then .error ((tk l k).at_, 31) else .ok ((), k)) (den Sp syntax_tokens_deep.id [.ref 0 0, .int .i64 d, .bool b] [tkB l k] none) := by
 have h2 := wrong_s hn hk
 have r := row_in hk
 unfold RsT
 cases b with
 | false =>
  rw [if_pos rfl]
  refine ⟨k, ?_⟩
  unfold tkB givenS at *
  rw [syntax_tokens_deep.eq]
  simp only [if_pos r, Int.toNat_natCast, tok_g hk, tkv_0, tkv_1, tkv_2, tkv_3, h2, lz, lx, if_true, if_false]
 | true =>
  rw [if_neg (by simp)]
  by_cases c : 60 < d
  ·rw [if_pos c]
   refine ⟨k, ?_⟩
   have c' : decide (d > 60) = true := decide_eq_true c
   unfold tkB givenS at *
   rw [syntax_tokens_deep.eq]
   simp only [if_pos r, Int.toNat_natCast, tok_g hk, tkv_0, tkv_1, tkv_2, tkv_3, c', lz, lx, if_true, if_false]
  ·rw [if_neg c]
   have c' : decide (d > 60) = false := decide_eq_false c
   unfold tkB givenS at *
   rw [syntax_tokens_deep.eq]
   simp only [if_pos r, Int.toNat_natCast, tok_g hk, tkv_0, tkv_1, tkv_2, tkv_3, c', lz, lx, if_true, if_false]
theorem begins_s {k : Nat} (hk : k < l.length) (ps : List (List V)) : den Sp syntax_reader_begins.id [.ref 0 0] [rsB l k ps] none = some ⟨.ret (.bool (opensT (tk l k))), [rsB l k ps], none⟩ := by
 have h3 := fun s => is_s hn hk s
 have r := row_in hk
 have g : opensT (tk l k) = (decide ((tk l k).kind = 1) || (decide ((tk l k).kind = 2) || (isT (tk l k) [116, 114, 117, 101] || (isT (tk l k) [102, 97, 108, 115, 101] || (isT (tk l k) [40] || (isT (tk l k) [45] || isT (tk l k) [33])))))) := by
  unfold opensT
  simp [Bool.or_assoc]
 rw [g]
 have e1 : ((tk l k).kind == 1) = decide ((tk l k).kind = 1) := by by_cases c : (tk l k).kind = 1 <;> simp [c]
 have e2 : ((tk l k).kind == 2) = decide ((tk l k).kind = 2) := by by_cases c : (tk l k).kind = 2 <;> simp [c]
 unfold rsB tkB at *
 rw [syntax_reader_begins.eq]
 simp only [if_pos r, Int.toNat_natCast, tok_g hk, tkv_0, tkv_1, tkv_2, tkv_3, e1, e2, lz, lx, if_true, if_false]
 generalize decide ((tk l k).kind = 1) = b1
 cases b1 with
 | true => rfl
 | false =>
 generalize decide ((tk l k).kind = 2) = b2
 cases b2 with
 | true => rfl
 | false =>
 simp only [h3, lz, lx, if_true, if_false]
 cases isT (tk l k) [116, 114, 117, 101] with
 | true => rfl
 | false =>
 simp only [h3, lz, lx, if_true, if_false]
 cases isT (tk l k) [102, 97, 108, 115, 101] with
 | true => rfl
 | false =>
 simp only [h3, lz, lx, if_true, if_false]
 cases isT (tk l k) [40] with
 | true => rfl
 | false =>
 simp only [h3, lz, lx, if_true, if_false]
 cases isT (tk l k) [45] with
 | true => rfl
 | false =>
 simp only [h3, lz, lx, if_true, if_false]
 cases isT (tk l k) [33] <;> rfl
theorem level_s (s : List UInt8) : den Sp syntax_level.id [.str (B s)] [] none = some ⟨.ret (.int .i64 (levelT s)), [], none⟩ := by
 rw [syntax_level.eq]
 unfold levelT
 by_cases h1 : s = [124, 124]
 ·subst h1; rfl
 by_cases h2 : s = [38, 38]
 ·subst h2; rfl
 by_cases h3 : s = [61, 61]
 ·subst h3; rfl
 by_cases h4 : s = [33, 61]
 ·subst h4; rfl
 by_cases h5 : s = [60]
 ·subst h5; rfl
 by_cases h6 : s = [60, 61]
 ·subst h6; rfl
 by_cases h7 : s = [43]
 ·subst h7; rfl
 by_cases h8 : s = [45]
 ·subst h8; rfl
 by_cases h9 : s = [42]
 ·subst h9; rfl
 by_cases h10 : s = [47]
 ·subst h10; rfl
 by_cases h11 : s = [37]
 ·subst h11; rfl
 simp [h1, h2, h3, h4, h5, h6, h7, h8, h9, h10, h11]
theorem sign_s {k : Nat} (hk : k < l.length) (ps : List (List V)) (n : Int) (hn1 : 1 <= n) : den Sp syntax_reader_sign.id [.ref 0 0, .int .i64 n] [rsB l k ps] none = some ⟨.ret (.str (B (if signT (tk l k) = n then (tk l k).text else []))), [rsB l k ps], none⟩ := by
 have r := row_in hk
 have hv := level_s hn (tk l k).text
 unfold rsB signT
 rw [syntax_reader_sign.eq]
 by_cases c : (tk l k).kind = 4
 ·have c' : ((tk l k).kind != 4) = false := by simpa using c
  rw [if_pos c]
  by_cases c2 : levelT (tk l k).text = n
  ·have c2' : (levelT (tk l k).text != n) = false := by simpa using c2
   rw [if_pos c2]
   simp only [if_pos r, Int.toNat_natCast, tok_g hk, tkv_0, tkv_1, tkv_2, tkv_3, c', c2', hv, lz, lx, if_true, if_false]
  ·have c2' : (levelT (tk l k).text != n) = true := by simpa using c2
   rw [if_neg c2]
   simp only [if_pos r, Int.toNat_natCast, tok_g hk, tkv_0, tkv_1, tkv_2, tkv_3, c', c2', hv, lz, lx, if_true, if_false]
 ·have c' : ((tk l k).kind != 4) = true := by simpa using c
  rw [if_neg c, if_neg (show ¬ (0 : Int) = n by omega)]
  simp only [if_pos r, Int.toNat_natCast, tok_g hk, tkv_0, tkv_1, tkv_2, tkv_3, c', lz, lx, if_true, if_false]
end
end Go.Proofs.YtmhnmelaodhemaaDoor
namespace Go.Proofs.YtmhnmelaodhemaaDoor
open Go Go.Proofs.Ab
namespace syntax_reader_expr
theorem eq (m0_0 : List (List V)) (m0_1 : Int) (m0_2 : List (List V)) (a1 : Int) : den Sp id [V.ref 0 0, V.int .i64 a1] [Blk.cells T_syntax_reader [V.sl .no T_api_Token m0_0, V.int .i64 m0_1, V.sl .no T_L_int m0_2] false] none =
  (den Sp syntax_reader_begins.id [V.ref 0 0] [Blk.cells T_syntax_reader [V.sl .no T_api_Token m0_0, V.int .i64 m0_1, V.sl .no T_L_int m0_2] false] none).bind (fun r6 => Blk.asCells (List.getD (Res.bl r6) 0 (Blk.cells T_n0 [] true)) T_syntax_reader 3 (fun rd7 => V.asSl (rd7 0) T_api_Token (fun es8 => V.asInt (rd7 1) .i64 (fun n9 => V.asSl (rd7 2) T_L_int (fun es10 => Res.onRet r6 (fun v11 => V.asBool v11 (fun b12 => (den Sp syntax_tokens_deep.id [V.ref 0 0, V.int .i64 a1, V.bool b12] [Blk.cells T_syntax_tokens [V.sl .no T_api_Token es8, V.int .i64 n9] false] none).bind (fun r13 => Blk.asCells (List.getD (Res.bl r13) 0 (Blk.cells T_n0 [] true)) T_syntax_tokens 2 (fun rd14 => V.asSl (rd14 0) T_api_Token (fun es15 => V.asInt (rd14 1) .i64 (fun n16 => Res.onOut r13 (fun v17 => V.asTup v17 0 (fun rd18 => (den Sp syntax_reader_bin.id [V.ref 0 0, V.int .i64 (1 : Int), V.int .i64 a1] [Blk.cells T_syntax_reader [V.sl .no T_api_Token es15, V.int .i64 n16, V.sl .no T_L_int es10] false] none).bind (fun r20 => Blk.asCells (List.getD (Res.bl r20) 0 (Blk.cells T_n0 [] true)) T_syntax_reader 3 (fun rd21 => V.asSl (rd21 0) T_api_Token (fun es22 => V.asInt (rd21 1) .i64 (fun n23 => V.asSl (rd21 2) T_L_int (fun es24 => Res.onOut r20 (fun v25 => V.asAgg v25 4 (fun rd26 => V.asInt (rd26 0) .i64 (fun n27 => V.asStr (rd26 1) (fun s28 => V.asInt (rd26 2) .i64 (fun n29 => V.asSl (rd26 3) T_api_Expr (fun es30 => some ⟨Out.ret (V.agg [V.int .i64 n27, V.str s28, V.int .i64 n29, V.sl .no T_api_Expr es30]), [Blk.cells T_syntax_reader [V.sl .no T_api_Token es22, V.int .i64 n23, V.sl .no T_L_int es24] false], none⟩)))))) (fun v25 => V.asIface v25 T_syntax_given (fun w26 => V.asAgg w26 2 (fun rd27 => V.asInt (rd27 0) .i64 (fun n28 => V.asInt (rd27 1) .i64 (fun n29 => some ⟨Out.pan (V.iface T_syntax_given (V.agg [V.int .i64 n28, V.int .i64 n29])), [Blk.cells T_syntax_reader [V.sl .no T_api_Token es22, V.int .i64 n23, V.sl .no T_L_int es24] false], none⟩)))))))))))) (fun v17 => V.asIface v17 T_syntax_given (fun w18 => V.asAgg w18 2 (fun rd19 => V.asInt (rd19 0) .i64 (fun n20 => V.asInt (rd19 1) .i64 (fun n21 => some ⟨Out.pan (V.iface T_syntax_given (V.agg [V.int .i64 n20, V.int .i64 n21])), [Blk.cells T_syntax_reader [V.sl .no T_api_Token es15, V.int .i64 n16, V.sl .no T_L_int es10] false], none⟩)))))))))))))))) := (den_eq ..).trans (by kernel_rfl)
end syntax_reader_expr
namespace syntax_reader_bin
noncomputable abbrev e (p : List Nat) := ev Sp (den Sp) id Tryd.f72.ntmps (cAt (bodyOf Tryd.f72) p)
noncomputable abbrev cn (n0 : List Nat) := canon Sp id n0
noncomputable abbrev K : K := kFin Sp (den Sp) Tryd.f72 1
noncomputable def L1_1_1_0_1_0 (i0 i1 : Int) (s2 : ByteArray) (l3 : List (List V)) (i4 : Int) (l5 : List (List V)) (i6 : Int) (s7 : ByteArray) (i8 : Int) (l9 : List (List V)) : Option Res := LP (e [1, 1, 1, 0, 1, 0, 0]) (cn [0, 1006, 1007]) (kBlk 0 (kSeq (e [1, 1, 1, 1]) (K))) ([(0, (V.ref 0 0)), (1, (V.int .i64 i0)), (2, (V.int .i64 i1)), (6, (V.ref 1006 0)), (7, (V.ref 1007 0)), (8, (V.str s2))], ⟨[(0, (Blk.cells T_syntax_reader [V.sl .no T_api_Token l3, V.int .i64 i4, V.sl .no T_L_int l5] false)), (1006, (Blk.cells T_api_Expr [V.int .i64 (0 : Int), V.str (ByteArray.mk #[]), V.int .i64 (0 : Int), V.sl (Tok.row 0) T_api_Expr []] false)), (1007, (Blk.cells T_api_Expr [V.int .i64 i6, V.str s7, V.int .i64 i8, V.sl .no T_api_Expr l9] false))], [0], [], [], none⟩)
theorem L1_1_1_0_1_0_eq (i0 i1 : Int) (s2 : ByteArray) (l3 : List (List V)) (i4 : Int) (l5 : List (List V)) (i6 : Int) (s7 : ByteArray) (i8 : Int) (l9 : List (List V)) : L1_1_1_0_1_0 i0 i1 s2 l3 i4 l5 i6 s7 i8 l9 =
  (bif (!(decide (s2 = (ByteArray.mk #[])))) then (den Sp syntax_reader_bin.id [V.ref 0 0, V.int .i64 (IntKind.wrap .i64 (i0 + (1 : Int))), V.int .i64 i1] [Blk.cells T_syntax_reader [V.sl .no T_api_Token l3, V.int .i64 (IntKind.wrap .i64 (i4 + (1 : Int))), V.sl .no T_L_int l5] false] none).bind (fun r40 => Blk.asCells (List.getD (Res.bl r40) 0 (Blk.cells T_n0 [] true)) T_syntax_reader 3 (fun rd41 => V.asSl (rd41 0) T_api_Token (fun es42 => V.asInt (rd41 1) .i64 (fun n43 => V.asSl (rd41 2) T_L_int (fun es44 => Res.onOut r40 (fun v45 => V.asAgg v45 4 (fun rd46 => V.asInt (rd46 0) .i64 (fun n47 => V.asStr (rd46 1) (fun s48 => V.asInt (rd46 2) .i64 (fun n49 => V.asSl (rd46 3) T_api_Expr (fun es50 => bif (i0 == (3 : Int)) then (some ⟨Out.ret (V.agg [V.int .i64 (6 : Int), V.str s2, V.int .i64 (0 : Int), V.sl .no T_api_Expr [[V.int .i64 i6, V.str s7, V.int .i64 i8, V.sl .no T_api_Expr l9], [V.int .i64 n47, V.str s48, V.int .i64 n49, V.sl .no T_api_Expr es50]]]), [Blk.cells T_syntax_reader [V.sl .no T_api_Token es42, V.int .i64 n43, V.sl .no T_L_int es44] false], none⟩) else (den Sp syntax_reader_sign.id [V.ref 0 0, V.int .i64 i0] [Blk.cells T_syntax_reader [V.sl .no T_api_Token es42, V.int .i64 n43, V.sl .no T_L_int es44] false] none).bind (fun r53 => Blk.asCells (List.getD (Res.bl r53) 0 (Blk.cells T_n0 [] true)) T_syntax_reader 3 (fun rd54 => V.asSl (rd54 0) T_api_Token (fun es55 => V.asInt (rd54 1) .i64 (fun n56 => V.asSl (rd54 2) T_L_int (fun es57 => Res.onRet r53 (fun v58 => V.asStr v58 (fun s59 => L1_1_1_0_1_0 i0 i1 s59 es55 n56 es57 (6 : Int) s2 (0 : Int) [[V.int .i64 i6, V.str s7, V.int .i64 i8, V.sl .no T_api_Expr l9], [V.int .i64 n47, V.str s48, V.int .i64 n49, V.sl .no T_api_Expr es50]]))))))))))))) (fun v45 => V.asIface v45 T_syntax_given (fun w46 => V.asAgg w46 2 (fun rd47 => V.asInt (rd47 0) .i64 (fun n48 => V.asInt (rd47 1) .i64 (fun n49 => some ⟨Out.pan (V.iface T_syntax_given (V.agg [V.int .i64 n48, V.int .i64 n49])), [Blk.cells T_syntax_reader [V.sl .no T_api_Token es42, V.int .i64 n43, V.sl .no T_L_int es44] false], none⟩)))))))))) else (some ⟨Out.ret (V.agg [V.int .i64 i6, V.str s7, V.int .i64 i8, V.sl .no T_api_Expr l9]), [Blk.cells T_syntax_reader [V.sl .no T_api_Token l3, V.int .i64 i4, V.sl .no T_L_int l5] false], none⟩)) := (LP_eq ..).trans (by kernel_rfl)
theorem eq (m0_0 : List (List V)) (m0_1 : Int) (m0_2 : List (List V)) (a1 a2 : Int) : den Sp id [V.ref 0 0, V.int .i64 a1, V.int .i64 a2] [Blk.cells T_syntax_reader [V.sl .no T_api_Token m0_0, V.int .i64 m0_1, V.sl .no T_L_int m0_2] false] none =
  (bif (decide (a1 > (5 : Int))) then (den Sp syntax_reader_unary.id [V.ref 0 0, V.int .i64 a2] [Blk.cells T_syntax_reader [V.sl .no T_api_Token m0_0, V.int .i64 m0_1, V.sl .no T_L_int m0_2] false] none).bind (fun r8 => Blk.asCells (List.getD (Res.bl r8) 0 (Blk.cells T_n0 [] true)) T_syntax_reader 3 (fun rd9 => V.asSl (rd9 0) T_api_Token (fun es10 => V.asInt (rd9 1) .i64 (fun n11 => V.asSl (rd9 2) T_L_int (fun es12 => Res.onOut r8 (fun v13 => V.asAgg v13 4 (fun rd14 => V.asInt (rd14 0) .i64 (fun n15 => V.asStr (rd14 1) (fun s16 => V.asInt (rd14 2) .i64 (fun n17 => V.asSl (rd14 3) T_api_Expr (fun es18 => some ⟨Out.ret (V.agg [V.int .i64 n15, V.str s16, V.int .i64 n17, V.sl .no T_api_Expr es18]), [Blk.cells T_syntax_reader [V.sl .no T_api_Token es10, V.int .i64 n11, V.sl .no T_L_int es12] false], none⟩)))))) (fun v13 => V.asIface v13 T_syntax_given (fun w14 => V.asAgg w14 2 (fun rd15 => V.asInt (rd15 0) .i64 (fun n16 => V.asInt (rd15 1) .i64 (fun n17 => some ⟨Out.pan (V.iface T_syntax_given (V.agg [V.int .i64 n16, V.int .i64 n17])), [Blk.cells T_syntax_reader [V.sl .no T_api_Token es10, V.int .i64 n11, V.sl .no T_L_int es12] false], none⟩)))))))))) else (den Sp syntax_reader_bin.id [V.ref 0 0, V.int .i64 (IntKind.wrap .i64 (a1 + (1 : Int))), V.int .i64 a2] [Blk.cells T_syntax_reader [V.sl .no T_api_Token m0_0, V.int .i64 m0_1, V.sl .no T_L_int m0_2] false] none).bind (fun r8 => Blk.asCells (List.getD (Res.bl r8) 0 (Blk.cells T_n0 [] true)) T_syntax_reader 3 (fun rd9 => V.asSl (rd9 0) T_api_Token (fun es10 => V.asInt (rd9 1) .i64 (fun n11 => V.asSl (rd9 2) T_L_int (fun es12 => Res.onOut r8 (fun v13 => V.asAgg v13 4 (fun rd14 => V.asInt (rd14 0) .i64 (fun n15 => V.asStr (rd14 1) (fun s16 => V.asInt (rd14 2) .i64 (fun n17 => V.asSl (rd14 3) T_api_Expr (fun es18 => (den Sp syntax_reader_sign.id [V.ref 0 0, V.int .i64 a1] [Blk.cells T_syntax_reader [V.sl .no T_api_Token es10, V.int .i64 n11, V.sl .no T_L_int es12] false] none).bind (fun r20 => Blk.asCells (List.getD (Res.bl r20) 0 (Blk.cells T_n0 [] true)) T_syntax_reader 3 (fun rd21 => V.asSl (rd21 0) T_api_Token (fun es22 => V.asInt (rd21 1) .i64 (fun n23 => V.asSl (rd21 2) T_L_int (fun es24 => Res.onRet r20 (fun v25 => V.asStr v25 (fun s26 => L1_1_1_0_1_0 a1 a2 s26 es22 n23 es24 n15 s16 n17 es18))))))))))))) (fun v13 => V.asIface v13 T_syntax_given (fun w14 => V.asAgg w14 2 (fun rd15 => V.asInt (rd15 0) .i64 (fun n16 => V.asInt (rd15 1) .i64 (fun n17 => some ⟨Out.pan (V.iface T_syntax_given (V.agg [V.int .i64 n16, V.int .i64 n17])), [Blk.cells T_syntax_reader [V.sl .no T_api_Token es10, V.int .i64 n11, V.sl .no T_L_int es12] false], none⟩))))))))))) := (den_eq ..).trans (by kernel_rfl)
end syntax_reader_bin
namespace syntax_reader_unary
noncomputable abbrev e (p : List Nat) := ev Sp (den Sp) id Tryd.f76.ntmps (cAt (bodyOf Tryd.f76) p)
noncomputable abbrev cn (n0 : List Nat) := canon Sp id n0
noncomputable abbrev K : K := kFin Sp (den Sp) Tryd.f76 1
noncomputable def L1_0_1_0 (i0 i1 : Int) (l2 : List (List V)) (i3 : Int) (l4 : List (List V)) : Option Res := LP (e [1, 0, 1, 0, 0]) (cn [0, 1004]) (kBlk 0 (kSeq (e [1, 1]) (K))) ([(0, (V.ref 0 0)), (1, (V.int .i64 i0)), (4, (V.ref 1004 0)), (11, (V.agg [V.str (ByteArray.mk #[45]), V.str (ByteArray.mk #[33])])), (12, (V.int .i64 i1))], ⟨[(0, (Blk.cells T_syntax_reader [V.sl .no T_api_Token l2, V.int .i64 i3, V.sl .no T_L_int l4] false)), (1004, (Blk.cells T_api_Expr [V.int .i64 (0 : Int), V.str (ByteArray.mk #[]), V.int .i64 (0 : Int), V.sl (Tok.row 0) T_api_Expr []] false))], [0], [], [], none⟩)
theorem L1_0_1_0_eq (i0 i1 : Int) (l2 : List (List V)) (i3 : Int) (l4 : List (List V)) : L1_0_1_0 i0 i1 l2 i3 l4 =
  (bif (decide (i1 < (2 : Int))) then (if (((0 : Int) <= i1) ∧ (i1 < ((2 : Nat) : Int))) then (V.asStr (List.getD [V.str (ByteArray.mk #[45]), V.str (ByteArray.mk #[33])] (((Int.toNat i1) * 1) + 0) V.undef) (fun s13 => (den Sp syntax_tokens_has.id [V.ref 0 0, V.str s13] [Blk.cells T_syntax_tokens [V.sl .no T_api_Token l2, V.int .i64 i3] false] none).bind (fun r15 => Blk.asCells (List.getD (Res.bl r15) 0 (Blk.cells T_n0 [] true)) T_syntax_tokens 2 (fun rd16 => V.asSl (rd16 0) T_api_Token (fun es17 => V.asInt (rd16 1) .i64 (fun n18 => Res.onRet r15 (fun v19 => V.asBool v19 (fun b20 => bif b20 then (den Sp syntax_reader_begins.id [V.ref 0 0] [Blk.cells T_syntax_reader [V.sl .no T_api_Token es17, V.int .i64 n18, V.sl .no T_L_int l4] false] none).bind (fun r22 => Blk.asCells (List.getD (Res.bl r22) 0 (Blk.cells T_n0 [] true)) T_syntax_reader 3 (fun rd23 => V.asSl (rd23 0) T_api_Token (fun es24 => V.asInt (rd23 1) .i64 (fun n25 => V.asSl (rd23 2) T_L_int (fun es26 => Res.onRet r22 (fun v27 => V.asBool v27 (fun b28 => (den Sp syntax_tokens_deep.id [V.ref 0 0, V.int .i64 (IntKind.wrap .i64 (i0 + (1 : Int))), V.bool b28] [Blk.cells T_syntax_tokens [V.sl .no T_api_Token es24, V.int .i64 n25] false] none).bind (fun r29 => Blk.asCells (List.getD (Res.bl r29) 0 (Blk.cells T_n0 [] true)) T_syntax_tokens 2 (fun rd30 => V.asSl (rd30 0) T_api_Token (fun es31 => V.asInt (rd30 1) .i64 (fun n32 => Res.onOut r29 (fun v33 => V.asTup v33 0 (fun rd34 => (den Sp syntax_reader_unary.id [V.ref 0 0, V.int .i64 (IntKind.wrap .i64 (i0 + (1 : Int)))] [Blk.cells T_syntax_reader [V.sl .no T_api_Token es31, V.int .i64 n32, V.sl .no T_L_int es26] false] none).bind (fun r36 => Blk.asCells (List.getD (Res.bl r36) 0 (Blk.cells T_n0 [] true)) T_syntax_reader 3 (fun rd37 => V.asSl (rd37 0) T_api_Token (fun es38 => V.asInt (rd37 1) .i64 (fun n39 => V.asSl (rd37 2) T_L_int (fun es40 => Res.onOut r36 (fun v41 => V.asAgg v41 4 (fun rd42 => V.asInt (rd42 0) .i64 (fun n43 => V.asStr (rd42 1) (fun s44 => V.asInt (rd42 2) .i64 (fun n45 => V.asSl (rd42 3) T_api_Expr (fun es46 => some ⟨Out.ret (V.agg [V.int .i64 (5 : Int), V.str s13, V.int .i64 (0 : Int), V.sl .no T_api_Expr [[V.int .i64 n43, V.str s44, V.int .i64 n45, V.sl .no T_api_Expr es46]]]), [Blk.cells T_syntax_reader [V.sl .no T_api_Token es38, V.int .i64 n39, V.sl .no T_L_int es40] false], none⟩)))))) (fun v41 => V.asIface v41 T_syntax_given (fun w42 => V.asAgg w42 2 (fun rd43 => V.asInt (rd43 0) .i64 (fun n44 => V.asInt (rd43 1) .i64 (fun n45 => some ⟨Out.pan (V.iface T_syntax_given (V.agg [V.int .i64 n44, V.int .i64 n45])), [Blk.cells T_syntax_reader [V.sl .no T_api_Token es38, V.int .i64 n39, V.sl .no T_L_int es40] false], none⟩)))))))))))) (fun v33 => V.asIface v33 T_syntax_given (fun w34 => V.asAgg w34 2 (fun rd35 => V.asInt (rd35 0) .i64 (fun n36 => V.asInt (rd35 1) .i64 (fun n37 => some ⟨Out.pan (V.iface T_syntax_given (V.agg [V.int .i64 n36, V.int .i64 n37])), [Blk.cells T_syntax_reader [V.sl .no T_api_Token es31, V.int .i64 n32, V.sl .no T_L_int es26] false], none⟩)))))))))))))))) else (L1_0_1_0 i0 (IntKind.wrap .i64 (i1 + (1 : Int))) es17 n18 l4))))))))) else none) else (if (((0 : Int) <= i3) ∧ (i3 < (l2.length : Int))) then (V.asInt (List.getD (List.getD l2 (Int.toNat i3) []) 0 V.undef) .i64 (fun n13 => V.asStr (List.getD (List.getD l2 (Int.toNat i3) []) 1 V.undef) (fun s14 => V.asInt (List.getD (List.getD l2 (Int.toNat i3) []) 2 V.undef) .i64 (fun n15 => V.asInt (List.getD (List.getD l2 (Int.toNat i3) []) 3 V.undef) .i64 (fun n16 => (den Sp syntax_tokens_has.id [V.ref 0 0, V.str (ByteArray.mk #[40])] [Blk.cells T_syntax_tokens [V.sl .no T_api_Token l2, V.int .i64 i3] false] none).bind (fun r18 => Blk.asCells (List.getD (Res.bl r18) 0 (Blk.cells T_n0 [] true)) T_syntax_tokens 2 (fun rd19 => V.asSl (rd19 0) T_api_Token (fun es20 => V.asInt (rd19 1) .i64 (fun n21 => Res.onRet r18 (fun v22 => V.asBool v22 (fun b23 => bif b23 then (den Sp syntax_reader_expr.id [V.ref 0 0, V.int .i64 (IntKind.wrap .i64 (i0 + (1 : Int)))] [Blk.cells T_syntax_reader [V.sl .no T_api_Token es20, V.int .i64 n21, V.sl .no T_L_int l4] false] none).bind (fun r25 => Blk.asCells (List.getD (Res.bl r25) 0 (Blk.cells T_n0 [] true)) T_syntax_reader 3 (fun rd26 => V.asSl (rd26 0) T_api_Token (fun es27 => V.asInt (rd26 1) .i64 (fun n28 => V.asSl (rd26 2) T_L_int (fun es29 => Res.onOut r25 (fun v30 => V.asAgg v30 4 (fun rd31 => V.asInt (rd31 0) .i64 (fun n32 => V.asStr (rd31 1) (fun s33 => V.asInt (rd31 2) .i64 (fun n34 => V.asSl (rd31 3) T_api_Expr (fun es35 => (den Sp syntax_tokens_need.id [V.ref 0 0, V.str (ByteArray.mk #[41])] [Blk.cells T_syntax_tokens [V.sl .no T_api_Token es27, V.int .i64 n28] false] none).bind (fun r37 => Blk.asCells (List.getD (Res.bl r37) 0 (Blk.cells T_n0 [] true)) T_syntax_tokens 2 (fun rd38 => V.asSl (rd38 0) T_api_Token (fun es39 => V.asInt (rd38 1) .i64 (fun n40 => Res.onOut r37 (fun v41 => V.asTup v41 0 (fun rd42 => some ⟨Out.ret (V.agg [V.int .i64 n32, V.str s33, V.int .i64 n34, V.sl .no T_api_Expr es35]), [Blk.cells T_syntax_reader [V.sl .no T_api_Token es39, V.int .i64 n40, V.sl .no T_L_int es29] false], none⟩)) (fun v41 => V.asIface v41 T_syntax_given (fun w42 => V.asAgg w42 2 (fun rd43 => V.asInt (rd43 0) .i64 (fun n44 => V.asInt (rd43 1) .i64 (fun n45 => some ⟨Out.pan (V.iface T_syntax_given (V.agg [V.int .i64 n44, V.int .i64 n45])), [Blk.cells T_syntax_reader [V.sl .no T_api_Token es39, V.int .i64 n40, V.sl .no T_L_int es29] false], none⟩))))))))))))))) (fun v30 => V.asIface v30 T_syntax_given (fun w31 => V.asAgg w31 2 (fun rd32 => V.asInt (rd32 0) .i64 (fun n33 => V.asInt (rd32 1) .i64 (fun n34 => some ⟨Out.pan (V.iface T_syntax_given (V.agg [V.int .i64 n33, V.int .i64 n34])), [Blk.cells T_syntax_reader [V.sl .no T_api_Token es27, V.int .i64 n28, V.sl .no T_L_int es29] false], none⟩)))))))))) else (den Sp syntax_tokens_has.id [V.ref 0 0, V.str (ByteArray.mk #[116, 114, 117, 101])] [Blk.cells T_syntax_tokens [V.sl .no T_api_Token es20, V.int .i64 n21] false] none).bind (fun r25 => Blk.asCells (List.getD (Res.bl r25) 0 (Blk.cells T_n0 [] true)) T_syntax_tokens 2 (fun rd26 => V.asSl (rd26 0) T_api_Token (fun es27 => V.asInt (rd26 1) .i64 (fun n28 => Res.onRet r25 (fun v29 => V.asBool v29 (fun b30 => bif b30 then (some ⟨Out.ret (V.agg [V.int .i64 (2 : Int), V.str (ByteArray.mk #[]), V.int .i64 (1 : Int), V.sl .no T_api_Expr []]), [Blk.cells T_syntax_reader [V.sl .no T_api_Token es27, V.int .i64 n28, V.sl .no T_L_int l4] false], none⟩) else (den Sp syntax_tokens_has.id [V.ref 0 0, V.str (ByteArray.mk #[102, 97, 108, 115, 101])] [Blk.cells T_syntax_tokens [V.sl .no T_api_Token es27, V.int .i64 n28] false] none).bind (fun r32 => Blk.asCells (List.getD (Res.bl r32) 0 (Blk.cells T_n0 [] true)) T_syntax_tokens 2 (fun rd33 => V.asSl (rd33 0) T_api_Token (fun es34 => V.asInt (rd33 1) .i64 (fun n35 => Res.onRet r32 (fun v36 => V.asBool v36 (fun b37 => bif b37 then (some ⟨Out.ret (V.agg [V.int .i64 (2 : Int), V.str (ByteArray.mk #[]), V.int .i64 (0 : Int), V.sl .no T_api_Expr []]), [Blk.cells T_syntax_reader [V.sl .no T_api_Token es34, V.int .i64 n35, V.sl .no T_L_int l4] false], none⟩) else (bif (n13 == (2 : Int)) then (some ⟨Out.ret (V.agg [V.int .i64 (1 : Int), V.str (ByteArray.mk #[]), V.int .i64 n15, V.sl .no T_api_Expr []]), [Blk.cells T_syntax_reader [V.sl .no T_api_Token es34, V.int .i64 (IntKind.wrap .i64 (n35 + (1 : Int))), V.sl .no T_L_int l4] false], none⟩) else (den Sp syntax_tokens_name.id [V.ref 0 0] [Blk.cells T_syntax_tokens [V.sl .no T_api_Token es34, V.int .i64 n35] false] none).bind (fun r40 => Blk.asCells (List.getD (Res.bl r40) 0 (Blk.cells T_n0 [] true)) T_syntax_tokens 2 (fun rd41 => V.asSl (rd41 0) T_api_Token (fun es42 => V.asInt (rd41 1) .i64 (fun n43 => Res.onOut r40 (fun v44 => V.asStr v44 (fun s45 => (den Sp syntax_tokens_has.id [V.ref 0 0, V.str (ByteArray.mk #[91])] [Blk.cells T_syntax_tokens [V.sl .no T_api_Token es42, V.int .i64 n43] false] none).bind (fun r47 => Blk.asCells (List.getD (Res.bl r47) 0 (Blk.cells T_n0 [] true)) T_syntax_tokens 2 (fun rd48 => V.asSl (rd48 0) T_api_Token (fun es49 => V.asInt (rd48 1) .i64 (fun n50 => Res.onRet r47 (fun v51 => V.asBool v51 (fun b52 => bif b52 then (den Sp syntax_reader_expr.id [V.ref 0 0, V.int .i64 (IntKind.wrap .i64 (i0 + (1 : Int)))] [Blk.cells T_syntax_reader [V.sl .no T_api_Token es49, V.int .i64 n50, V.sl .no T_L_int l4] false] none).bind (fun r54 => Blk.asCells (List.getD (Res.bl r54) 0 (Blk.cells T_n0 [] true)) T_syntax_reader 3 (fun rd55 => V.asSl (rd55 0) T_api_Token (fun es56 => V.asInt (rd55 1) .i64 (fun n57 => V.asSl (rd55 2) T_L_int (fun es58 => Res.onOut r54 (fun v59 => V.asAgg v59 4 (fun rd60 => V.asInt (rd60 0) .i64 (fun n61 => V.asStr (rd60 1) (fun s62 => V.asInt (rd60 2) .i64 (fun n63 => V.asSl (rd60 3) T_api_Expr (fun es64 => (den Sp syntax_tokens_need.id [V.ref 0 0, V.str (ByteArray.mk #[93])] [Blk.cells T_syntax_tokens [V.sl .no T_api_Token es56, V.int .i64 n57] false] none).bind (fun r66 => Blk.asCells (List.getD (Res.bl r66) 0 (Blk.cells T_n0 [] true)) T_syntax_tokens 2 (fun rd67 => V.asSl (rd67 0) T_api_Token (fun es68 => V.asInt (rd67 1) .i64 (fun n69 => Res.onOut r66 (fun v70 => V.asTup v70 0 (fun rd71 => some ⟨Out.ret (V.agg [V.int .i64 (4 : Int), V.str s45, V.int .i64 (0 : Int), V.sl .no T_api_Expr [[V.int .i64 n61, V.str s62, V.int .i64 n63, V.sl .no T_api_Expr es64]]]), [Blk.cells T_syntax_reader [V.sl .no T_api_Token es68, V.int .i64 n69, V.sl .no T_L_int es58] false], none⟩)) (fun v70 => V.asIface v70 T_syntax_given (fun w71 => V.asAgg w71 2 (fun rd72 => V.asInt (rd72 0) .i64 (fun n73 => V.asInt (rd72 1) .i64 (fun n74 => some ⟨Out.pan (V.iface T_syntax_given (V.agg [V.int .i64 n73, V.int .i64 n74])), [Blk.cells T_syntax_reader [V.sl .no T_api_Token es68, V.int .i64 n69, V.sl .no T_L_int es58] false], none⟩))))))))))))))) (fun v59 => V.asIface v59 T_syntax_given (fun w60 => V.asAgg w60 2 (fun rd61 => V.asInt (rd61 0) .i64 (fun n62 => V.asInt (rd61 1) .i64 (fun n63 => some ⟨Out.pan (V.iface T_syntax_given (V.agg [V.int .i64 n62, V.int .i64 n63])), [Blk.cells T_syntax_reader [V.sl .no T_api_Token es56, V.int .i64 n57, V.sl .no T_L_int es58] false], none⟩)))))))))) else (some ⟨Out.ret (V.agg [V.int .i64 (3 : Int), V.str s45, V.int .i64 (0 : Int), V.sl .no T_api_Expr []]), [Blk.cells T_syntax_reader [V.sl .no T_api_Token es49, V.int .i64 n50, V.sl .no T_L_int l4] false], none⟩))))))))) (fun v44 => V.asIface v44 T_syntax_given (fun w45 => V.asAgg w45 2 (fun rd46 => V.asInt (rd46 0) .i64 (fun n47 => V.asInt (rd46 1) .i64 (fun n48 => some ⟨Out.pan (V.iface T_syntax_given (V.agg [V.int .i64 n47, V.int .i64 n48])), [Blk.cells T_syntax_reader [V.sl .no T_api_Token es42, V.int .i64 n43, V.sl .no T_L_int l4] false], none⟩))))))))))))))))))))))))))))))))) else none)) := (LP_eq ..).trans (by kernel_rfl)
theorem eq (m0_0 : List (List V)) (m0_1 : Int) (m0_2 : List (List V)) (a1 : Int) : den Sp id [V.ref 0 0, V.int .i64 a1] [Blk.cells T_syntax_reader [V.sl .no T_api_Token m0_0, V.int .i64 m0_1, V.sl .no T_L_int m0_2] false] none =
  (L1_0_1_0 a1 (0 : Int) m0_0 m0_1 m0_2) := (den_eq ..).trans (by kernel_rfl)
end syntax_reader_unary
namespace syntax_caught
theorem eq (a0_0 a0_1 : Int) : den Sp id [V.iface T_syntax_given (V.agg [V.int .i64 a0_0, V.int .i64 a0_1])] [] none =
  (some ⟨Out.ret (V.tup [V.int .i64 a0_0, V.int .i64 a0_1]), [], none⟩) := (den_eq ..).trans (by kernel_rfl)
end syntax_caught
namespace syntax_ReadExpr_1
theorem eq0 (c0_0 : Int) (c0_1 : ByteArray) (c0_2 : Int) (c0_3 : List (List V)) (c1_0 c2_0 c3_0 : Int) : den Sp id [V.ref 0 0, V.ref 1 0, V.ref 2 0, V.ref 3 0] [Blk.cells T_api_Expr [V.int .i64 c0_0, V.str c0_1, V.int .i64 c0_2, V.sl .no T_api_Expr c0_3] false, Blk.cells T_int [V.int .i64 c1_0] false, Blk.cells T_int [V.int .i64 c2_0] false, Blk.cells T_api_Errno [V.int .i64 c3_0] false] (some none) =
  (some ⟨Out.ret (V.tup []), [Blk.cells T_api_Expr [V.int .i64 c0_0, V.str c0_1, V.int .i64 c0_2, V.sl .no T_api_Expr c0_3] false, Blk.cells T_int [V.int .i64 c1_0] false, Blk.cells T_int [V.int .i64 c2_0] false, Blk.cells T_api_Errno [V.int .i64 c3_0] false], some none⟩) := (den_eq ..).trans (by kernel_rfl)
end syntax_ReadExpr_1
namespace syntax_ReadExpr_1
theorem eq1 (c0_0 : Int) (c0_1 : ByteArray) (c0_2 : Int) (c0_3 : List (List V)) (c1_0 c2_0 c3_0 w_0 w_1 : Int) : den Sp id [V.ref 0 0, V.ref 1 0, V.ref 2 0, V.ref 3 0] [Blk.cells T_api_Expr [V.int .i64 c0_0, V.str c0_1, V.int .i64 c0_2, V.sl .no T_api_Expr c0_3] false, Blk.cells T_int [V.int .i64 c1_0] false, Blk.cells T_int [V.int .i64 c2_0] false, Blk.cells T_api_Errno [V.int .i64 c3_0] false] (some (some (V.iface T_syntax_given (V.agg [V.int .i64 w_0, V.int .i64 w_1])))) =
  (den Sp syntax_caught.id [V.iface T_syntax_given (V.agg [V.int .i64 w_0, V.int .i64 w_1])] [] none).bind (fun r13 => Res.onRet r13 (fun v14 => V.asTup v14 2 (fun rd15 => V.asInt (rd15 0) .i64 (fun n16 => V.asInt (rd15 1) .i64 (fun n17 => some ⟨Out.ret (V.tup []), [Blk.cells T_api_Expr [V.int .i64 (0 : Int), V.str (ByteArray.mk #[]), V.int .i64 (0 : Int), V.sl .no T_api_Expr []] false, Blk.cells T_int [V.int .i64 (0 : Int)] false, Blk.cells T_int [V.int .i64 n16] false, Blk.cells T_api_Errno [V.int .i64 n17] false], some none⟩))))) := (den_eq ..).trans (by kernel_rfl)
end syntax_ReadExpr_1
namespace syntax_ReadExpr
noncomputable abbrev e (p : List Nat) := ev Sp (den Sp) id Tryd.f51.ntmps (cAt (bodyOf Tryd.f51) p)
noncomputable abbrev K : K := kFin Sp (den Sp) Tryd.f51 0
noncomputable def J1_0_1_0_0 (l0 : List (List V)) (i1 : Int) : Option Res := joinAt Sp (den Sp) id Tryd.f51.ntmps (cAt (bodyOf Tryd.f51) [1, 0, 1, 0, 0]) (kSeq (e [1, 0, 1, 0, 1]) (kSeq (e [1, 1]) (K))) ([(0, (V.sl .no T_api_Token l0)), (1, (V.int .i64 i1)), (4, (V.ref 1004 0)), (5, (V.ref 1005 0)), (6, (V.ref 1006 0)), (7, (V.ref 1007 0))], ⟨[(1004, (Blk.cells T_api_Expr [V.int .i64 (0 : Int), V.str (ByteArray.mk #[]), V.int .i64 (0 : Int), V.sl (Tok.row 0) T_api_Expr []] false)), (1005, (Blk.cells T_int [V.int .i64 (0 : Int)] false)), (1006, (Blk.cells T_int [V.int .i64 (0 : Int)] false)), (1007, (Blk.cells T_api_Errno [V.int .i64 (0 : Int)] false))], [0], [], [], none⟩)
noncomputable def J1_1_0 (l0 : List (List V)) (i1 : Int) : Option Res := joinAt Sp (den Sp) id Tryd.f51.ntmps (cAt (bodyOf Tryd.f51) [1, 1, 0]) (kSeq (e [1, 1, 1]) (K)) ([(0, (V.sl .no T_api_Token l0)), (1, (V.int .i64 i1)), (4, (V.ref 1004 0)), (5, (V.ref 1005 0)), (6, (V.ref 1006 0)), (7, (V.ref 1007 0))], ⟨[(1004, (Blk.cells T_api_Expr [V.int .i64 (0 : Int), V.str (ByteArray.mk #[]), V.int .i64 (0 : Int), V.sl (Tok.row 0) T_api_Expr []] false)), (1005, (Blk.cells T_int [V.int .i64 (0 : Int)] false)), (1006, (Blk.cells T_int [V.int .i64 (0 : Int)] false)), (1007, (Blk.cells T_api_Errno [V.int .i64 (0 : Int)] false))], [0], [], [], none⟩)
theorem J1_1_0_eq (l0 : List (List V)) (i1 : Int) : J1_1_0 l0 i1 =
  (den Sp syntax_reader_expr.id [V.ref 0 0, V.int .i64 (1 : Int)] [Blk.cells T_syntax_reader [V.sl .no T_api_Token l0, V.int .i64 i1, V.sl .no T_L_int []] false] none).bind (fun r12 => Blk.asCells (List.getD (Res.bl r12) 0 (Blk.cells T_n0 [] true)) T_syntax_reader 3 (fun rd13 => V.asSl (rd13 0) T_api_Token (fun es14 => V.asInt (rd13 1) .i64 (fun n15 => V.asSl (rd13 2) T_L_int (fun es16 => Res.onOut r12 (fun v17 => V.asAgg v17 4 (fun rd18 => V.asInt (rd18 0) .i64 (fun n19 => V.asStr (rd18 1) (fun s20 => V.asInt (rd18 2) .i64 (fun n21 => V.asSl (rd18 3) T_api_Expr (fun es22 => (den Sp syntax_ReadExpr_1.id [V.ref 0 0, V.ref 1 0, V.ref 2 0, V.ref 3 0] [Blk.cells T_api_Expr [V.int .i64 n19, V.str s20, V.int .i64 n21, V.sl .no T_api_Expr es22] false, Blk.cells T_int [V.int .i64 n15] false, Blk.cells T_int [V.int .i64 (0 : Int)] false, Blk.cells T_api_Errno [V.int .i64 (0 : Int)] false] (some none)).bind (fun r24 => Blk.asCells (List.getD (Res.bl r24) 0 (Blk.cells T_n0 [] true)) T_api_Expr 4 (fun rd25 => V.asInt (rd25 0) .i64 (fun n26 => V.asStr (rd25 1) (fun s27 => V.asInt (rd25 2) .i64 (fun n28 => V.asSl (rd25 3) T_api_Expr (fun es29 => Blk.asCells (List.getD (Res.bl r24) 1 (Blk.cells T_n0 [] true)) T_int 1 (fun rd30 => V.asInt (rd30 0) .i64 (fun n31 => Blk.asCells (List.getD (Res.bl r24) 2 (Blk.cells T_n0 [] true)) T_int 1 (fun rd32 => V.asInt (rd32 0) .i64 (fun n33 => Blk.asCells (List.getD (Res.bl r24) 3 (Blk.cells T_n0 [] true)) T_api_Errno 1 (fun rd34 => V.asInt (rd34 0) .i64 (fun n35 => Res.onRet r24 (fun v36 => V.asTup v36 0 (fun rd37 => Res.onPn r24 (some ⟨Out.ret (V.tup [V.agg [V.int .i64 n26, V.str s27, V.int .i64 n28, V.sl .no T_api_Expr es29], V.int .i64 n31, V.int .i64 n33, V.int .i64 n35]), [], none⟩) (fun v38 => some ⟨Out.ret (V.tup [V.agg [V.int .i64 n26, V.str s27, V.int .i64 n28, V.sl .no T_api_Expr es29], V.int .i64 n31, V.int .i64 n33, V.int .i64 n35]), [], none⟩))))))))))))))))))))) (fun v17 => V.asIface v17 T_syntax_given (fun w18 => V.asAgg w18 2 (fun rd19 => V.asInt (rd19 0) .i64 (fun n20 => V.asInt (rd19 1) .i64 (fun n21 => (den Sp syntax_ReadExpr_1.id [V.ref 0 0, V.ref 1 0, V.ref 2 0, V.ref 3 0] [Blk.cells T_api_Expr [V.int .i64 (0 : Int), V.str (ByteArray.mk #[]), V.int .i64 (0 : Int), V.sl .no T_api_Expr []] false, Blk.cells T_int [V.int .i64 (0 : Int)] false, Blk.cells T_int [V.int .i64 (0 : Int)] false, Blk.cells T_api_Errno [V.int .i64 (0 : Int)] false] (some (some (V.iface T_syntax_given (V.agg [V.int .i64 n20, V.int .i64 n21]))))).bind (fun r22 => Blk.asCells (List.getD (Res.bl r22) 0 (Blk.cells T_n0 [] true)) T_api_Expr 4 (fun rd23 => V.asInt (rd23 0) .i64 (fun n24 => V.asStr (rd23 1) (fun s25 => V.asInt (rd23 2) .i64 (fun n26 => V.asSl (rd23 3) T_api_Expr (fun es27 => Blk.asCells (List.getD (Res.bl r22) 1 (Blk.cells T_n0 [] true)) T_int 1 (fun rd28 => V.asInt (rd28 0) .i64 (fun n29 => Blk.asCells (List.getD (Res.bl r22) 2 (Blk.cells T_n0 [] true)) T_int 1 (fun rd30 => V.asInt (rd30 0) .i64 (fun n31 => Blk.asCells (List.getD (Res.bl r22) 3 (Blk.cells T_n0 [] true)) T_api_Errno 1 (fun rd32 => V.asInt (rd32 0) .i64 (fun n33 => Res.onRet r22 (fun v34 => V.asTup v34 0 (fun rd35 => Res.onPn r22 (some ⟨Out.ret (V.tup [V.agg [V.int .i64 n24, V.str s25, V.int .i64 n26, V.sl .no T_api_Expr es27], V.int .i64 n29, V.int .i64 n31, V.int .i64 n33]), [], none⟩) (fun v36 => some ⟨Out.pan (V.iface T_syntax_given (V.agg [V.int .i64 n20, V.int .i64 n21])), [], none⟩))))))))))))))))))))))))) := (joinAt_eq ..).trans (by kernel_rfl)
theorem eq (a0 : List (List V)) (a1 : Int) : den Sp id [V.sl .no T_api_Token a0, V.int .i64 a1] [] none =
  (den Sp lex_Right.id [V.sl .no T_api_Token a0] [] none).bind (fun r4 => Res.onRet r4 (fun v5 => V.asBool v5 (fun b6 => bif (!b6) then (J1_0_1_0_0 a0 a1) else (bif (decide (a1 < (0 : Int))) then (J1_0_1_0_0 a0 a1) else (bif (decide (a1 >= (a0.length : Int))) then (J1_0_1_0_0 a0 a1) else (J1_1_0 a0 a1)))))) := (den_eq ..).trans (by kernel_rfl)
end syntax_ReadExpr
end Go.Proofs.YtmhnmelaodhemaaDoor
