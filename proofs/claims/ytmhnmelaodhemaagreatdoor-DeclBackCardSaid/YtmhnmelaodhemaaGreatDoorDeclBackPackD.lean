/- Own texts under the law DeclBack, merged, without what it does not lean on: part 4 of 7 (the abstract machine and its proof; residual forms; contracts; the plain law). -/
import Derived.Test.YtmhnmelaodhemaaGreatDoorDeclBackPackC
import Derived.Test.YtmhnmelaodhemaaGreatDoorProg
import Derived.ProofKit
import Derived.LaidMore
import Derived.OpenShut
import Derived.WalkKit
import Derived.ShutString
import Derived.ChangeOld
import Derived.SizedLaws
import Derived.IntWalk
import Derived.Lib.SmallJoins
import Derived.Shelf.Strings.OnBuilder
import Derived.KernelRfl
import Derived.Laws.Bits64
set_option linter.unusedVariables false
set_option linter.unusedSimpArgs false
set_option linter.unusedSectionVars false
set_option maxRecDepth 100000
namespace Go.Proofs.YtmhnmelaodhemaaGreatDoor
open Go Go.Proofs.Ab
namespace law12_DeclBack
abbrev id : FuncId := 4
end law12_DeclBack
namespace law12_great
abbrev id : FuncId := 9
end law12_great
namespace law12_known
abbrev id : FuncId := 10
end law12_known
namespace decl_Print
abbrev id : FuncId := 11
end decl_Print
namespace law12_own
abbrev id : FuncId := 12
end law12_own
namespace ref12_Right
abbrev id : FuncId := 14
end ref12_Right
namespace decl_Parse
abbrev id : FuncId := 15
end decl_Parse
namespace ref12_Same
abbrev id : FuncId := 16
end ref12_Same
namespace law12_back
abbrev id : FuncId := 17
end law12_back
namespace ref12_Size
abbrev id : FuncId := 27
end ref12_Size
namespace decl_Kept
abbrev id : FuncId := 28
end decl_Kept
namespace decl_isName
abbrev id : FuncId := 29
end decl_isName
namespace decl_writer_names
abbrev id : FuncId := 30
end decl_writer_names
namespace decl_writer_end
abbrev id : FuncId := 31
end decl_writer_end
namespace decl_writer_side
abbrev id : FuncId := 32
end decl_writer_side
namespace decl_writer_stop
abbrev id : FuncId := 33
end decl_writer_stop
namespace ref01_Text
abbrev id : FuncId := 36
end ref01_Text
namespace ref03_PrintExpr
abbrev id : FuncId := 37
end ref03_PrintExpr
namespace ref12_names
abbrev id : FuncId := 39
end ref12_names
namespace lex_Scan
abbrev id : FuncId := 40
end lex_Scan
namespace decl_Parse_1
abbrev id : FuncId := 41
end decl_Parse_1
namespace decl_reader_line
abbrev id : FuncId := 42
end decl_reader_line
namespace ref03_SameExprs
abbrev id : FuncId := 43
end ref03_SameExprs
namespace ref03_ExprSize
abbrev id : FuncId := 58
end ref03_ExprSize
namespace lex_IsName
abbrev id : FuncId := 60
end lex_IsName
namespace num_Text
abbrev id : FuncId := 61
end num_Text
namespace syntax_PrintExpr
abbrev id : FuncId := 62
end syntax_PrintExpr
namespace ref01_size
abbrev id : FuncId := 66
end ref01_size
namespace ref03_RightExpr
abbrev id : FuncId := 67
end ref03_RightExpr
namespace ref03_text
abbrev id : FuncId := 68
end ref03_text
namespace ref02_IsName
abbrev id : FuncId := 69
end ref02_IsName
namespace lex_reader_blank
abbrev id : FuncId := 70
end lex_reader_blank
namespace lex_reader_next
abbrev id : FuncId := 71
end lex_reader_next
namespace decl_reader_word
abbrev id : FuncId := 72
end decl_reader_word
namespace decl_reader_full
abbrev id : FuncId := 73
end decl_reader_full
namespace decl_reader_name
abbrev id : FuncId := 74
end decl_reader_name
namespace decl_reader_same
abbrev id : FuncId := 76
end decl_reader_same
namespace decl_reader_side
abbrev id : FuncId := 77
end decl_reader_side
namespace decl_reader_stop
abbrev id : FuncId := 79
end decl_reader_stop
namespace decl_reader_fail
abbrev id : FuncId := 82
end decl_reader_fail
namespace decl_reader_sign
abbrev id : FuncId := 83
end decl_reader_sign
namespace ref03_SameExpr
abbrev id : FuncId := 84
end ref03_SameExpr
namespace lex_letter
abbrev id : FuncId := 103
end lex_letter
namespace lex_isKey
abbrev id : FuncId := 104
end lex_isKey
namespace lex_inner
abbrev id : FuncId := 105
end lex_inner
namespace syntax_writer_expr
abbrev id : FuncId := 106
end syntax_writer_expr
namespace syntax_writer_done
abbrev id : FuncId := 107
end syntax_writer_done
namespace ref01_Neg
abbrev id : FuncId := 110
end ref01_Neg
namespace ref03_Tight
abbrev id : FuncId := 111
end ref03_Tight
namespace ref03_side
abbrev id : FuncId := 112
end ref03_side
namespace ref03_bigger
abbrev id : FuncId := 113
end ref03_bigger
namespace ref02_inner
abbrev id : FuncId := 114
end ref02_inner
namespace ref02_letter
abbrev id : FuncId := 115
end ref02_letter
namespace ref02_in
abbrev id : FuncId := 116
end ref02_in
namespace ref02_Keys
abbrev id : FuncId := 117
end ref02_Keys
namespace lex_reader_word
abbrev id : FuncId := 118
end lex_reader_word
namespace lex_digit
abbrev id : FuncId := 119
end lex_digit
namespace num_Parse
abbrev id : FuncId := 120
end num_Parse
namespace lex_sign
abbrev id : FuncId := 121
end lex_sign
namespace syntax_ReadExpr
abbrev id : FuncId := 122
end syntax_ReadExpr
namespace ref02_digit
abbrev id : FuncId := 131
end ref02_digit
namespace syntax_writer_need
abbrev id : FuncId := 151
end syntax_writer_need
namespace syntax_plain
abbrev id : FuncId := 152
end syntax_plain
namespace syntax_writer_put
abbrev id : FuncId := 153
end syntax_writer_put
namespace syntax_writer_name
abbrev id : FuncId := 154
end syntax_writer_name
namespace syntax_writer_operand
abbrev id : FuncId := 155
end syntax_writer_operand
namespace num_Join
abbrev id : FuncId := 156
end num_Join
namespace ref01_Sub
abbrev id : FuncId := 159
end ref01_Sub
namespace ref02_between
abbrev id : FuncId := 160
end ref02_between
namespace lex_Right
abbrev id : FuncId := 161
end lex_Right
namespace syntax_ReadExpr_1
abbrev id : FuncId := 162
end syntax_ReadExpr_1
namespace syntax_caught
abbrev id : FuncId := 163
end syntax_caught
namespace syntax_reader_expr
abbrev id : FuncId := 164
end syntax_reader_expr
namespace syntax_level
abbrev id : FuncId := 171
end syntax_level
namespace ref01_number
abbrev id : FuncId := 172
end ref01_number
namespace ref01_plus
abbrev id : FuncId := 173
end ref01_plus
namespace ref01_Bits
abbrev id : FuncId := 174
end ref01_Bits
namespace ref01_other
abbrev id : FuncId := 175
end ref01_other
namespace lex_written
abbrev id : FuncId := 176
end lex_written
namespace syntax_tokens_deep
abbrev id : FuncId := 177
end syntax_tokens_deep
namespace syntax_reader_begins
abbrev id : FuncId := 178
end syntax_reader_begins
namespace syntax_reader_bin
abbrev id : FuncId := 179
end syntax_reader_bin
namespace syntax_tokens_wrong
abbrev id : FuncId := 191
end syntax_tokens_wrong
namespace syntax_tokens_is
abbrev id : FuncId := 192
end syntax_tokens_is
namespace syntax_reader_unary
abbrev id : FuncId := 193
end syntax_reader_unary
namespace syntax_reader_sign
abbrev id : FuncId := 194
end syntax_reader_sign
namespace syntax_tokens_has
abbrev id : FuncId := 201
end syntax_tokens_has
namespace syntax_tokens_need
abbrev id : FuncId := 202
end syntax_tokens_need
namespace syntax_tokens_name
abbrev id : FuncId := 203
end syntax_tokens_name
abbrev T_n0 : TypeId := 0
abbrev T_int : TypeId := 3
abbrev T_uint8 : TypeId := 5
abbrev T_string : TypeId := 9
abbrev T_parallaxref12_File : TypeId := 27
abbrev T_api_Errno : TypeId := 30
abbrev T_decl_File : TypeId := 37
abbrev T_L_int : TypeId := 45
abbrev T_api_Prog : TypeId := 51
abbrev T_api_Pair : TypeId := 73
abbrev T_gen_Keep : TypeId := 77
abbrev T_L_string : TypeId := 79
abbrev T_decl_writer : TypeId := 81
abbrev T_decl_Keep : TypeId := 85
abbrev T_decl_Break : TypeId := 89
abbrev T_decl_Watch : TypeId := 91
abbrev T_parallaxref12_Keep : TypeId := 93
abbrev T_parallaxref12_Break : TypeId := 94
abbrev T_parallaxref12_Watch : TypeId := 95
abbrev T_api_Expr : TypeId := 100
abbrev T_decl_given : TypeId := 107
abbrev T_decl_reader : TypeId := 111
abbrev T_api_Token : TypeId := 113
abbrev T_api_Var : TypeId := 136
abbrev T_api_Proc : TypeId := 143
abbrev T_lex_reader : TypeId := 166
abbrev T_api_Param : TypeId := 186
abbrev T_api_Stmt : TypeId := 203
abbrev T_syntax_writer : TypeId := 211
abbrev T_syntax_tokens : TypeId := 261
abbrev T_syntax_reader : TypeId := 264
abbrev T_syntax_given : TypeId := 281
def keepTab : List (List (Nat × Bool)) := [[], [], [], [], [], [(3, false), (5, false), (7, false), (8, false)], [], [], [], [(1, false), (3, false), (4, false), (5, false)], [], [(1, false), (4, false), (18, false), (19, false), (20, false), (61, false), (62, false), (63, false), (102, false), (103, false), (104, false), (142, false), (143, false), (144, false), (167, false), (168, false), (169, false)], [(1, false), (2, false), (3, false), (4, false), (5, false), (7, false)], [(1, false), (4, true), (5, false), (6, false), (8, false), (9, false), (14, false)], [(1, false), (3, false), (4, false), (6, false), (8, false), (9, false), (10, false), (11, false), (12, false)], [(2, false), (3, false), (4, false), (6, false)], [(2, false), (3, false), (5, false), (6, false), (7, false), (8, false), (9, false), (10, false)], [(1, false), (2, false), (3, false), (4, false), (5, false), (7, false)], [], [(2, false), (4, false), (11, false), (30, false), (31, false), (32, false)], [(2, false), (4, false), (8, false), (9, false), (12, false), (13, false)], [], [(3, false), (6, false), (8, false), (14, false), (27, false), (28, false), (68, false), (69, false), (73, false), (74, false)], [(3, false), (4, false), (5, false), (6, false), (12, false), (14, false), (19, false), (21, false)], [(1, false), (2, false), (3, false), (4, false), (6, false), (8, false), (10, false), (12, false)], [(1, false), (2, false), (3, false), (5, false), (6, false), (7, false), (8, false), (9, false), (10, false)], [], [(1, false), (2, false), (5, false), (6, false), (7, false)], [(1, false), (2, false), (5, false), (6, false), (13, false), (14, false), (15, false), (39, false), (40, false), (41, false)], [(5, false), (6, false), (7, false)], [(0, false), (1, false), (6, false), (7, false), (8, false)], [], [], [(0, false), (51, false), (52, false), (53, false)], [], [], [(0, false), (3, false), (4, false)], [], [(0, false), (3, false), (4, false)], [(0, false), (3, false)], [(5, false), (6, true)], [], [], [(0, false), (1, false), (5, false)], [], [(2, false), (8, false), (9, false)], [(0, false), (5, true), (6, false)], [(1, false), (2, false), (5, false), (6, false), (7, false)], [(1, false), (2, false), (3, false), (6, false), (20, false), (21, false), (22, false)], [], [(0, false), (4, false), (5, false), (8, false), (9, false)], [(1, false), (4, false), (6, false), (7, false), (9, false), (10, false)], [], [(2, false), (6, false), (9, false), (10, false)], [(3, false), (7, false), (9, false), (10, false)], [(2, false), (3, false), (6, false), (7, false), (8, false), (9, false), (10, false)], [(1, false), (3, false), (4, true), (5, false), (6, false)], [(0, false), (3, false), (4, false)], [(1, false), (2, false), (5, false), (6, false)], [(1, false), (2, false), (5, false), (6, false), (7, false)], [(0, false), (22, false), (23, false)], [(0, false), (3, false), (4, false), (5, false)], [], [], [], [], [], [(1, false), (3, false), (4, false), (5, false), (6, false), (7, false)], [], [(0, false), (3, false)], [(0, false)], [], [], [], [], [], [(0, false), (2, false), (3, false), (12, false), (13, false)], [], [], [], [], [], [], [], [], [(0, false), (3, false), (4, false), (7, true), (8, false)], [(0, false), (3, false), (4, false)], [(0, false), (2, false), (4, false), (8, false)], [(0, false), (1, false), (5, false), (6, false), (7, false)], [(1, false), (3, false), (14, false), (15, false), (16, false), (29, false), (30, false), (31, false)], [(0, false), (2, false), (3, false), (4, false), (42, false), (43, false), (44, false)], [(3, false), (6, false), (7, false), (8, false)], [(5, false), (34, false), (35, false), (36, false)], [(0, false), (5, false), (6, false), (37, false), (38, false), (39, false)], [], [(0, false), (5, false), (6, false), (48, false), (49, false), (50, false)], [], [(1, false), (2, false), (5, false)], [], [(1, false), (2, false), (3, false), (9, false), (10, false), (15, false)], [(0, false), (1, false), (5, true), (6, false), (7, false)], [(3, false), (4, false), (5, false), (6, false), (7, false), (11, false), (78, false)], [(0, false), (3, false)], [], [(0, false), (5, false), (6, false)], [], [], [], [], [], [], [(0, false), (3, false), (4, false), (5, false)], [], [], [], [], [(0, false), (1, false), (5, false)], [], [(0, false), (3, false)], [], [(4, false), (5, false), (6, false), (7, false), (8, false)], [(0, false), (3, false), (6, false), (7, false)], [(0, false), (1, false), (4, false), (5, false), (6, false), (7, false)], [], [], [], [], [], [], [], [(0, false), (3, false)], [], [(0, false), (4, false), (5, false)], [], [], [], [(1, false), (3, true), (7, false), (8, false), (9, false)], [], [(0, false), (6, false), (7, false), (8, false)], [(5, false), (6, false), (7, false)], [(2, false), (21, false), (22, false), (23, false)], [(3, false), (8, false), (28, false), (29, false), (30, false)], [], [(0, false), (1, false), (2, false), (7, false)], [], [], [], [], [], [(0, false), (3, false)], [(2, false), (3, false), (4, false), (5, false), (9, false), (10, false), (11, false), (12, false)], [], [], [], [], [], [(3, true), (6, false), (7, false), (8, false)], [], [], [], [], [(0, false), (7, false), (8, false), (9, false)], [], [], [], [(0, false), (3, false), (4, false)], [], [(1, false), (5, true), (6, false), (15, false), (16, false), (17, false)], [(0, false), (3, false), (39, false)], [], [], [], [(0, false), (3, false), (4, false)], [(0, false), (1, false), (2, false), (7, true), (8, false)], [(0, false), (3, true), (4, false)], [(0, false), (3, true), (4, false)], [], [], [], [(0, false), (1, false), (2, false), (6, false), (7, false), (8, false)], [], [], [], [(0, false), (1, false), (2, false), (6, false), (7, false), (8, false)], [], [], [], [(0, false), (3, false), (4, false), (24, false), (25, false), (26, false)], [], [], [], [], [], [(0, false), (1, false), (4, false), (11, false), (12, false)], [], [], [], [], [], [(1, false), (2, false), (9, false), (10, false), (11, false)], [(0, false), (1, false), (4, false), (11, false), (12, false), (13, false)], [], [], [], [], [], []]
def glTab (g : Nat) : Option (List V) := match g with | 0 => some [.str ⟨#[112, 114, 111, 99]⟩, .str ⟨#[118, 97, 114]⟩, .str ⟨#[105, 102]⟩, .str ⟨#[101, 108, 115, 101]⟩, .str ⟨#[119, 104, 105, 108, 101]⟩, .str ⟨#[114, 101, 116, 117, 114, 110]⟩, .str ⟨#[112, 114, 105, 110, 116]⟩, .str ⟨#[114, 101, 97, 100]⟩, .str ⟨#[97, 115, 115, 101, 114, 116]⟩, .str ⟨#[105, 110, 116]⟩, .str ⟨#[98, 111, 111, 108]⟩, .str ⟨#[116, 114, 117, 101]⟩, .str ⟨#[102, 97, 108, 115, 101]⟩] | 1 => some [.str ⟨#[61, 61]⟩, .str ⟨#[33, 61]⟩, .str ⟨#[60, 61]⟩, .str ⟨#[38, 38]⟩, .str ⟨#[124, 124]⟩, .str ⟨#[40]⟩, .str ⟨#[41]⟩, .str ⟨#[123]⟩, .str ⟨#[125]⟩, .str ⟨#[91]⟩, .str ⟨#[93]⟩, .str ⟨#[44]⟩, .str ⟨#[59]⟩, .str ⟨#[61]⟩, .str ⟨#[60]⟩, .str ⟨#[33]⟩, .str ⟨#[43]⟩, .str ⟨#[45]⟩, .str ⟨#[42]⟩, .str ⟨#[47]⟩, .str ⟨#[37]⟩] | _ => none
noncomputable def Sp : Pg where
 P := Tryz.prog
 gl := glTab
 pz := fun e => ([2] : List Nat).contains e
 keep := fun f => keepTab.getD f []
 own := fun t => match t with | 74 => [0] | 81 => [0] | 111 => [2, 3, 4, 5, 6] | 211 => [0] | _ => []
 joins := fun f => match f with | 67 => [3, 4, 5, 6, 9] | 93 => [9, 17, 18] | 99 => [3, 4, 5, 6, 15, 16, 24, 25, 26, 27, 35, 36] | 101 => [3, 4, 5, 6, 20, 21, 33] | 122 => [2, 3] | 168 => [2, 3, 23, 25] | _ => []
 nat := fun f => match f with | 34 => some (natJoin 9) | _ => none
 pan := fun f => match f with | 42 => some 107 | 73 => some 107 | 74 => some 107 | 75 => some 107 | 76 => some 107 | 77 => some 107 | 78 => some 107 | 79 => some 107 | 80 => some 107 | 81 => some 107 | 82 => some 107 | 83 => some 107 | 137 => some 231 | 138 => some 231 | 164 => some 281 | 168 => some 231 | 170 => some 231 | 177 => some 281 | 179 => some 281 | 184 => some 231 | 185 => some 231 | 186 => some 231 | 187 => some 231 | 188 => some 231 | 190 => some 231 | 191 => some 281 | 193 => some 281 | 200 => some 231 | 202 => some 281 | 203 => some 281 | _ => none
 mutl := fun f => match f with  | _ => []
 dfs := true
 unr := fun f h => match f, h with | 76, 4 => 3 | 22, 4 => 3 | _, _ => 0
 pre := fun f t => match f, t with | 74, 111 => some 2 | 72, 111 => some 2 | 83, 111 => some 2 | 77, 111 => some 2 | 82, 111 => some 2 | 73, 111 => some 2 | 76, 111 => some 2 | 79, 111 => some 2 | _, _ => none
 nbx := fun f => match f with | 75 => [9] | 78 => [9] | 80 => [9] | 81 => [9] | _ => []
 inl := fun f => match f with | 75 => true | 78 => true | 80 => true | 81 => true | _ => false
end Go.Proofs.YtmhnmelaodhemaaGreatDoor
namespace Go.Proofs.Ab
open Go Go.ChangeShapes Go.WideShapes Go.ChangeAt Go.WideMaps Go.WideElems Go.RowKit
theorem laid_strings {H : Type} {enc : TypeId × Value -> H} {P : Program} {W : World} {base : Nat} {spare : Nat -> Bool} {held : Bool} {name : String} {g t e n fuel : Nat} {cs : Array Value} {ls : List (List UInt8)} {p : List MemPlace} (hg : P.globalNamed name = some g)
  (hu : P.underlying t = some (.array n e)) (he : P.underlying e = some .string) (hc : P.cellsOf e = 1) (hv : W.var? P name = some cs)
  (hd : DataW.trod enc P W base spare held fuel t cs.toList = some (.agg (ls.map fun l => .lit (.string l)), p)) : ∀ j l, ls[j]? = some l -> W.cell? ⟨g, j, none⟩ = some (.string ⟨l.toArray⟩) := by
 intro j l hj
 obtain ⟨xs, m, _, hx, hl, hn, hel⟩ := DataW.trod_array hu hd
 simp only [Prod.mk.injEq, DataW.agg.injEq] at hx
 obtain ⟨hx, _⟩ := hx
 have hlen : ls.length = xs.length := by
  have := congrArg List.length hx
  simpa using this
 have hjl : j < ls.length := (List.getElem?_eq_some_iff.1 hj).1
 have hjx : j < xs.length := by omega
 have h1 := hel j (by omega)
 rw [List.getElem?_eq_getElem hjx, hc] at h1
 obtain ⟨s, h2, h3, _⟩ := DataW.trod_string he h1
 have h4 : (xs.map (·.1))[j]? = some (.lit (.string l)) := by
  rw [<- hx, List.getElem?_map, hj]; rfl
 rw [List.getElem?_map, List.getElem?_eq_getElem hjx, h3] at h4
 have h5 : s.data.toList = l := by simpa using h4
 have h6 : s = ⟨l.toArray⟩ := by
  cases s with
  | mk d => subst h5; simp
 have h7 := World.var?_cell hg hv j
 rw [h7]
 have h8 : cs.toList[j]? = some (.string s) := by
  have h9 : ((cs.toList.drop (j * 1)).take 1)[0]? = some (.string s) := by rw [h2]; rfl
  rw [List.getElem?_take, if_pos (by omega), List.getElem?_drop] at h9
  simpa using h9
 rw [<- h6]
 simpa using h8
theorem gl_strings {P : Program} {W : World} {g : Nat} {ls : List (List UInt8)} (h : ∀ j l, ls[j]? = some l -> W.cell? ⟨g, j, none⟩ = some (.string ⟨l.toArray⟩)) :
  ∀ j, j < (ls.map fun l => V.str ⟨l.toArray⟩).length -> ∃ x, W.cell? ⟨g, j, none⟩ = some x ∧ x.oneCell' = true ∧ PRep P W (Before W) ((ls.map fun l => V.str ⟨l.toArray⟩).getD j .undef) x := by
 intro j hj
 have hj' : j < ls.length := by simpa using hj
 refine ⟨_, h j ls[j] (List.getElem?_eq_getElem hj'), rfl, ?_⟩
 rw [List.getD_eq_getElem?_getD, List.getElem?_map, List.getElem?_eq_getElem hj']
 exact .str _
end Go.Proofs.Ab
namespace Go.Proofs.Ab
open Go
section
variable {R : Type}
@[simp] theorem onRet_ret (v : V) (bl : List Blk) (pn : Option (Option V)) (k : V -> Option R) : Res.onRet ⟨.ret v, bl, pn⟩ k = k v := rfl
@[simp] theorem bl_mk (o : Out) (bl : List Blk) (pn : Option (Option V)) : Res.bl ⟨o, bl, pn⟩ = bl := rfl
@[simp] theorem onOut_ret (v : V) (bl : List Blk) (pn : Option (Option V)) (k kp : V -> Option R) : Res.onOut ⟨.ret v, bl, pn⟩ k kp = k v := rfl
@[simp] theorem onOut_pan (v : V) (bl : List Blk) (pn : Option (Option V)) (k kp : V -> Option R) : Res.onOut ⟨.pan v, bl, pn⟩ k kp = kp v := rfl
@[simp] theorem onPn_none (o : Out) (bl : List Blk) (k0 : Option R) (k1 : V -> Option R) : Res.onPn ⟨o, bl, some none⟩ k0 k1 = k0 := rfl
@[simp] theorem onPn_some (o : Out) (bl : List Blk) (v : V) (k0 : Option R) (k1 : V -> Option R) : Res.onPn ⟨o, bl, some (some v)⟩ k0 k1 = k1 v := rfl
@[simp] theorem asBool_bool (b : Bool) (k : Bool -> Option R) : V.asBool (.bool b) k = k b := rfl
@[simp] theorem asStr_str (s : ByteArray) (k : ByteArray -> Option R) : V.asStr (.str s) k = k s := rfl
@[simp] theorem asInt_int (kd : IntKind) (n : Int) (k : Int -> Option R) : V.asInt (.int kd n) kd k = k n := by simp [V.asInt]
@[simp] theorem asSl_sl (t : Tok) (e : TypeId) (es : List (List V)) (k : List (List V) -> Option R) : V.asSl (.sl t e es) e k = k es := by simp [V.asSl]
@[simp] theorem asSlR_sl (p : Nat) (e : TypeId) (es : List (List V)) (k : List (List V) -> Option R) : V.asSlR (.sl (.row p) e es) p e k = k es := by simp [V.asSlR]
@[simp] theorem asIface_iface (t : TypeId) (v : V) (k : V -> Option R) : V.asIface (.iface t v) t k = k v := by simp [V.asIface]
@[simp] theorem asTup_tup (vs : List V) (n : Nat) (h : vs.length = n) (k : (Nat -> V) -> Option R) : V.asTup (.tup vs) n k = k (fun j => vs.getD j .undef) := by simp [V.asTup, h]
@[simp] theorem asAgg_agg (vs : List V) (n : Nat) (h : vs.length = n) (k : (Nat -> V) -> Option R) : V.asAgg (.agg vs) n k = k (fun j => vs.getD j .undef) := by simp [V.asAgg, h]
@[simp] theorem asTup_0 (k : (Nat -> V) -> Option R) : V.asTup (.tup []) 0 k = k (fun j => List.getD [] j .undef) := rfl
@[simp] theorem asAgg_0 (k : (Nat -> V) -> Option R) : V.asAgg (.agg []) 0 k = k (fun j => List.getD [] j .undef) := rfl
@[simp] theorem asCells_0 (t : TypeId) (k : (Nat -> V) -> Option R) : Blk.asCells (.cells t [] false) t 0 k = k (fun j => List.getD [] j .undef) := by simp [Blk.asCells]
@[simp] theorem asTup_1 (x0 : V) (k : (Nat -> V) -> Option R) : V.asTup (.tup [x0]) 1 k = k (fun j => List.getD [x0] j .undef) := rfl
@[simp] theorem asAgg_1 (x0 : V) (k : (Nat -> V) -> Option R) : V.asAgg (.agg [x0]) 1 k = k (fun j => List.getD [x0] j .undef) := rfl
@[simp] theorem asCells_1 (t : TypeId) (x0 : V) (k : (Nat -> V) -> Option R) : Blk.asCells (.cells t [x0] false) t 1 k = k (fun j => List.getD [x0] j .undef) := by simp [Blk.asCells]
@[simp] theorem asTup_2 (x0 x1 : V) (k : (Nat -> V) -> Option R) : V.asTup (.tup [x0, x1]) 2 k = k (fun j => List.getD [x0, x1] j .undef) := rfl
@[simp] theorem asAgg_2 (x0 x1 : V) (k : (Nat -> V) -> Option R) : V.asAgg (.agg [x0, x1]) 2 k = k (fun j => List.getD [x0, x1] j .undef) := rfl
@[simp] theorem asCells_2 (t : TypeId) (x0 x1 : V) (k : (Nat -> V) -> Option R) : Blk.asCells (.cells t [x0, x1] false) t 2 k = k (fun j => List.getD [x0, x1] j .undef) := by simp [Blk.asCells]
@[simp] theorem asTup_3 (x0 x1 x2 : V) (k : (Nat -> V) -> Option R) : V.asTup (.tup [x0, x1, x2]) 3 k = k (fun j => List.getD [x0, x1, x2] j .undef) := rfl
@[simp] theorem asAgg_3 (x0 x1 x2 : V) (k : (Nat -> V) -> Option R) : V.asAgg (.agg [x0, x1, x2]) 3 k = k (fun j => List.getD [x0, x1, x2] j .undef) := rfl
@[simp] theorem asCells_3 (t : TypeId) (x0 x1 x2 : V) (k : (Nat -> V) -> Option R) : Blk.asCells (.cells t [x0, x1, x2] false) t 3 k = k (fun j => List.getD [x0, x1, x2] j .undef) := by simp [Blk.asCells]
@[simp] theorem asTup_4 (x0 x1 x2 x3 : V) (k : (Nat -> V) -> Option R) : V.asTup (.tup [x0, x1, x2, x3]) 4 k = k (fun j => List.getD [x0, x1, x2, x3] j .undef) := rfl
@[simp] theorem asAgg_4 (x0 x1 x2 x3 : V) (k : (Nat -> V) -> Option R) : V.asAgg (.agg [x0, x1, x2, x3]) 4 k = k (fun j => List.getD [x0, x1, x2, x3] j .undef) := rfl
@[simp] theorem asCells_4 (t : TypeId) (x0 x1 x2 x3 : V) (k : (Nat -> V) -> Option R) : Blk.asCells (.cells t [x0, x1, x2, x3] false) t 4 k = k (fun j => List.getD [x0, x1, x2, x3] j .undef) := by simp [Blk.asCells]
@[simp] theorem asTup_5 (x0 x1 x2 x3 x4 : V) (k : (Nat -> V) -> Option R) : V.asTup (.tup [x0, x1, x2, x3, x4]) 5 k = k (fun j => List.getD [x0, x1, x2, x3, x4] j .undef) := rfl
@[simp] theorem asAgg_5 (x0 x1 x2 x3 x4 : V) (k : (Nat -> V) -> Option R) : V.asAgg (.agg [x0, x1, x2, x3, x4]) 5 k = k (fun j => List.getD [x0, x1, x2, x3, x4] j .undef) := rfl
@[simp] theorem asCells_5 (t : TypeId) (x0 x1 x2 x3 x4 : V) (k : (Nat -> V) -> Option R) : Blk.asCells (.cells t [x0, x1, x2, x3, x4] false) t 5 k = k (fun j => List.getD [x0, x1, x2, x3, x4] j .undef) := by simp [Blk.asCells]
@[simp] theorem asTup_6 (x0 x1 x2 x3 x4 x5 : V) (k : (Nat -> V) -> Option R) : V.asTup (.tup [x0, x1, x2, x3, x4, x5]) 6 k = k (fun j => List.getD [x0, x1, x2, x3, x4, x5] j .undef) := rfl
@[simp] theorem asAgg_6 (x0 x1 x2 x3 x4 x5 : V) (k : (Nat -> V) -> Option R) : V.asAgg (.agg [x0, x1, x2, x3, x4, x5]) 6 k = k (fun j => List.getD [x0, x1, x2, x3, x4, x5] j .undef) := rfl
@[simp] theorem asCells_6 (t : TypeId) (x0 x1 x2 x3 x4 x5 : V) (k : (Nat -> V) -> Option R) : Blk.asCells (.cells t [x0, x1, x2, x3, x4, x5] false) t 6 k = k (fun j => List.getD [x0, x1, x2, x3, x4, x5] j .undef) := by simp [Blk.asCells]
@[simp] theorem asTup_7 (x0 x1 x2 x3 x4 x5 x6 : V) (k : (Nat -> V) -> Option R) : V.asTup (.tup [x0, x1, x2, x3, x4, x5, x6]) 7 k = k (fun j => List.getD [x0, x1, x2, x3, x4, x5, x6] j .undef) := rfl
@[simp] theorem asAgg_7 (x0 x1 x2 x3 x4 x5 x6 : V) (k : (Nat -> V) -> Option R) : V.asAgg (.agg [x0, x1, x2, x3, x4, x5, x6]) 7 k = k (fun j => List.getD [x0, x1, x2, x3, x4, x5, x6] j .undef) := rfl
@[simp] theorem asCells_7 (t : TypeId) (x0 x1 x2 x3 x4 x5 x6 : V) (k : (Nat -> V) -> Option R) : Blk.asCells (.cells t [x0, x1, x2, x3, x4, x5, x6] false) t 7 k = k (fun j => List.getD [x0, x1, x2, x3, x4, x5, x6] j .undef) := by simp [Blk.asCells]
@[simp] theorem asArr_arr (i : Nat) (e : TypeId) (k : Option R) : V.asArr (.arr i e) i e k = k := by simp [V.asArr]
@[simp] theorem asCells_cells (t : TypeId) (cs : List V) (n : Nat) (h : cs.length = n) (k : (Nat -> V) -> Option R) : Blk.asCells (.cells t cs false) t n k = k (fun j => cs.getD j .undef) := by simp [Blk.asCells, h]
@[simp] theorem asVec_vec (t : TypeId) (es : List (List V)) (n : Nat) (h : es.length = n) (k : List (List V) -> Option R) : Blk.asVec (.vec t es false) t n k = k es := by simp [Blk.asVec, h]
end
theorem wrap_in {n : Int} (h0 : -9223372036854775808 <= n) (h1 : n <= 9223372036854775807) : IntKind.i64.wrap n = n := IntWalk.i64_in n ⟨h0, h1⟩
theorem wrap_nat {i : Nat} (h : i < 4611686018427387904) : IntKind.i64.wrap ((i : Int) + 1) = ((i + 1 : Nat) : Int) := by
 rw [wrap_in (by omega) (by omega)]; omega
theorem down {p : Nat -> Prop} {n : Nat} (h0 : p n) (hs : ∀ i, i < n -> p (i + 1) -> p i) : ∀ i, i <= n -> p i := by
 intro i hi
 obtain ⟨k, rfl⟩ : ∃ k, n = i + k := ⟨n - i, by omega⟩
 induction k generalizing i with
 | zero => exact h0
 | succ k ih =>
  refine hs i (by omega) (ih (i + 1) (by rw [show i + 1 + k = i + (k + 1) by omega]; exact h0) (fun j hj => hs j (by omega)) (by omega))
def allF (f : Nat -> Bool) (n i : Nat) : Bool := (List.range' i (n - i)).all f
theorem allF_end (f : Nat -> Bool) (n : Nat) : allF f n n = true := by simp [allF]
theorem allF_step {f : Nat -> Bool} {n i : Nat} (h : i < n) : allF f n i = (f i && allF f n (i + 1)) := by
 unfold allF
 rw [show n - i = (n - (i + 1)) + 1 by omega, List.range'_succ, List.all_cons]
theorem allF_iff {f : Nat -> Bool} {n i : Nat} : allF f n i = true ↔ ∀ j, i <= j -> j < n -> f j = true := by
 unfold allF
 rw [List.all_eq_true]
 constructor
 ·intro h j h1 h2; exact h j (by rw [List.mem_range'_1]; omega)
 ·intro h j hj; rw [List.mem_range'_1] at hj; exact h j hj.1 (by omega)
end Go.Proofs.Ab
namespace Go.Proofs.Px
open Go Go.Proofs.Ab
def letter (c : Int) : Bool := (decide (65 <= c) && decide (c <= 90)) || (decide (97 <= c) && decide (c <= 122))
def digit (c : Int) : Bool := decide (48 <= c) && decide (c <= 57)
def inner (c : Int) : Bool := letter c || digit c || c == 95
def keys : List ByteArray := [⟨#[112, 114, 111, 99]⟩, ⟨#[118, 97, 114]⟩, ⟨#[105, 102]⟩, ⟨#[101, 108, 115, 101]⟩, ⟨#[119, 104, 105, 108, 101]⟩, ⟨#[114, 101, 116, 117, 114, 110]⟩, ⟨#[112, 114, 105, 110, 116]⟩, ⟨#[114, 101, 97, 100]⟩, ⟨#[97, 115, 115, 101, 114, 116]⟩, ⟨#[105, 110, 116]⟩, ⟨#[98, 111, 111, 108]⟩, ⟨#[116, 114, 117, 101]⟩, ⟨#[102, 97, 108, 115, 101]⟩]
def isIn (s : ByteArray) (l : List ByteArray) : Bool := l.any fun k => decide (k = s)
def isKey (s : ByteArray) : Bool := isIn s keys
def isName (s : ByteArray) : Bool := decide (0 < s.size) && decide (s.size <= 40) && letter (byteAt s 0) && !isKey s && allF (fun i => inner (byteAt s i)) s.size 0
theorem isIn_step {s : ByteArray} {l : List ByteArray} {i : Nat} (h : i < l.length) : isIn s (l.drop i) = (decide (l[i] = s) || isIn s (l.drop (i + 1))) := by
 unfold isIn
 rw [List.drop_eq_getElem_cons h, List.any_cons]
theorem empty_iff (s : ByteArray) : s = ⟨#[]⟩ ↔ s.size = 0 := by
 constructor
 ·rintro rfl; rfl
 ·intro h
  cases s with
  | mk d =>
   have : d = #[] := Array.size_eq_zero_iff.1 h
   rw [this]
end Go.Proofs.Px
namespace Go.Proofs.Px
open Go Go.Proofs.Ab
def B (l : List UInt8) : ByteArray := ⟨l.toArray⟩
theorem B_of (s : ByteArray) : s = B s.data.toList := by cases s; simp [B]
@[simp] theorem B_size (l : List UInt8) : (B l).size = l.length := by simp [B, ByteArray.size]
theorem B_inj {a b : List UInt8} : B a = B b ↔ a = b := by
 constructor
 ·intro h
  have : (B a).data.toList = (B b).data.toList := by rw [h]
  simpa [B] using this
 ·rintro rfl; rfl
@[simp] theorem B_dec (a b : List UInt8) : decide (B a = B b) = decide (a = b) := by
 by_cases h : a = b
 ·simp [h]
 ·simp [h, B_inj]
@[simp] theorem B_byte (l : List UInt8) (i : Nat) : byteAt (B l) i = ((l.getD i 0).toNat : Int) := by simp [byteAt, B]
@[simp] theorem B_extract (l : List UInt8) (i j : Nat) : (B l).extract i j = B ((l.drop i).take (j - i)) := by
 have h : ((B l).extract i j).data = (B ((l.drop i).take (j - i))).data := by
  rw [ByteArray.data_extract]
  apply Array.ext'
  simp [B, List.extract]
 cases h1 : (B l).extract i j
 cases h2 : B ((l.drop i).take (j - i))
 rw [h1, h2] at h
 simp at h
 rw [h]
@[simp] theorem B_append (a b : List UInt8) : B a ++ B b = B (a ++ b) := by
 have h : (B a ++ B b).data = (B (a ++ b)).data := by
  rw [ByteArray.data_append]
  simp [B]
 cases h1 : B a ++ B b
 cases h2 : B (a ++ b)
 rw [h1, h2] at h
 simp at h
 rw [h]
@[simp] theorem B_nil : (ByteArray.mk #[]) = B [] := rfl
def bv (l : List UInt8) : List (List V) := l.map fun b => [.int .u8 (b.toNat : Int)]
@[simp] theorem ofBytes_B (l : List UInt8) : ofBytes (B l) = bv l := by simp [ofBytes, B, bv]
@[simp] theorem bytesOk_bv (l : List UInt8) : bytesOk (bv l) = true := by
 induction l with
 | nil => rfl
 | cons a l ih => exact ih
@[simp] theorem toBytes_bv (l : List UInt8) : toBytes (bv l) = l := by
 induction l with
 | nil => rfl
 | cons a l ih =>
  show UInt8.ofNat (Int.toNat (a.toNat : Int)) :: toBytes (bv l) = a :: l
  rw [ih]; simp
@[simp] theorem bv_length (l : List UInt8) : (bv l).length = l.length := by simp [bv]
@[simp] theorem bv_append (a b : List UInt8) : bv a ++ bv b = bv (a ++ b) := by simp [bv]
theorem drop_cons {l : List UInt8} {i : Nat} (h : i < l.length) : l.drop i = l.getD i 0 :: l.drop (i + 1) := by
 rw [List.drop_eq_getElem_cons h, List.getD_eq_getElem?_getD, List.getElem?_eq_getElem h]; rfl
theorem byte_eq (a : UInt8) (n : Nat) (hn : n < 256) : ((a.toNat : Int) == (n : Int)) = (a == UInt8.ofNat n) := by
 have h : a = UInt8.ofNat n ↔ a.toNat = n := by
  constructor
  ·rintro rfl; simp; omega
  ·intro h; apply UInt8.toNat_inj.1; simp; omega
 by_cases h1 : a = UInt8.ofNat n
 ·rw [beq_iff_eq.2 h1]
  have := h.1 h1
  simp [this]
 ·have h2 : ¬ a.toNat = n := fun h3 => h1 (h.2 h3)
  have h3 : ¬ ((a.toNat : Int) = (n : Int)) := by omega
  rw [beq_eq_false_iff_ne.2 h1, beq_eq_false_iff_ne.2 h3]
end Go.Proofs.Px
namespace Go.Proofs.Px
open Go Go.Proofs.Ab Go.ChangeShapes Go.WideShapes Go.ChangeAt Go.WideMaps Go.WideElems Go.RowKit
theorem mapM_opt {α β : Type} {f : α -> Option β} : ∀ {l : List α} {r : List β}, l.mapM f = some r -> r.length = l.length ∧ ∀ (j : Nat) (x : α), l[j]? = some x -> f x = r[j]?
 | [], r, h => by simp at h; subst h; exact ⟨rfl, fun j x hx => by simp at hx⟩
 | a :: l, r, h => by
  rw [List.mapM_cons] at h
  obtain ⟨b, hb, h1⟩ := Option.bind_eq_some_iff.1 h
  obtain ⟨bs, hbs, h2⟩ := Option.bind_eq_some_iff.1 h1
  cases h2
  obtain ⟨h3, h4⟩ := mapM_opt hbs
  refine ⟨by simp [h3], fun j x hx => ?_⟩
  cases j with
  | zero => simp at hx; subst hx; exact hb
  | succ j => simpa using h4 j x (by simpa using hx)
theorem cells_opt {w : World} {base n : Nat} {a : Addr} {cs : List Value} (h : w.cells? base a n = some cs) : cs.length = n ∧ ∀ j, j < n -> w.cell? (a.add j) = cs[j]? := by
 unfold World.cells? at h
 split at h
 ·obtain ⟨h1, h2⟩ := mapM_opt h
  exact ⟨by simpa using h1, fun j hj => h2 j j (List.getElem?_range hj)⟩
 ·cases h
theorem spot_none {w : World} {a : Addr} {x : Value} (h : w.cell? a = some x) : a.spot = none := by
 unfold World.cell? at h
 split at h
 ·split at h
  ·cases h
  ·rename_i hs
   cases hq : a.spot with
   | none => rfl
   | some q => rw [hq] at hs; exact absurd rfl hs
 ·cases h
theorem add_at {a : Addr} (h : a.spot = none) (k : Nat) : a.add k = ⟨a.block, a.off + k, none⟩ := by
 unfold Addr.add
 split
 ·rename_i hk
  subst hk
  cases a
  simp at h
  subst h; rfl
 ·rfl
theorem add_add (a : Addr) (m j : Nat) : (a.add m).add j = a.add (m + j) := by
 unfold Addr.add
 by_cases hm : m = 0
 ·subst hm; simp
 ·by_cases hj : j = 0
  ·subst hj; simp [hm]
  ·rw [if_neg hm, if_neg hj, if_neg (show m + j ≠ 0 by omega)]
   simp [Nat.add_assoc]
def ZTok (z : Bool) (tok : Tok) (es : List (List V)) : Prop := if z = true then (tok = .nil ∧ es = []) ∨ tok = .nn else tok = .no
inductive Fits (P : Program) (pz : TypeId -> Bool) : TypeId -> List V -> Prop where
 | int {t : TypeId} {k : IntKind} {n : Int} {cs : List V} (h : P.underlying t = some (.int k)) (hw : (Lit.int k n).wf = true) (e : cs = [.int k n]) : Fits P pz t cs
 | bool {t : TypeId} {b : Bool} {cs : List V} (h : P.underlying t = some .bool) (e : cs = [.bool b]) : Fits P pz t cs
 | str {t : TypeId} {s : ByteArray} {cs : List V} (h : P.underlying t = some .string) (hw : s.size <= 140737488351232) (e : cs = [.str s]) : Fits P pz t cs
 | sl {t el : TypeId} {tok : Tok} {es : List (List V)} {cs : List V} (h : P.underlying t = some (.slice el)) (ht : ZTok (pz el) tok es) (hl : es.length * P.bytesOf el <= 140737488351232) (hm : es.length <= maxLen) (he : ∀ i, i < es.length -> Fits P pz el (es.getD i [])) (e : cs = [.sl tok el es]) : Fits P pz t cs
 | st {t : TypeId} {fs : Array Field} {ps : List (List V)} {cs : List V} (h : P.underlying t = some (.struct fs)) (hl : ps.length = fs.size) (he : ∀ (i : Nat) (f : Field), fs[i]? = some f -> Fits P pz f.type (ps.getD i [])) (e : cs = ps.flatten) : Fits P pz t cs
def contig (P : Program) : Nat -> List Field -> Nat -> Bool
 | o, [], n => o == n
 | o, f :: fs, n => f.offset == o && contig P (o + P.cellsOf f.type) fs n
def dataOk (P : Program) (ts : List TypeId) : Bool := ts.all fun t => match P.underlying t with
 | some (.int _) => true
 | some .bool => true
 | some .string => true
 | some (.slice e) => ts.contains e && P.cellsOf e == sz P e && decide (0 < sz P e)
 | some (.struct fs) => fs.toList.all (fun f => ts.contains f.type) && contig P 0 fs.toList (P.cellsOf t)
 | _ => false
def Rep (P : Program) (W : World) (vs : List V) (cs : List Value) : Prop :=
 vs.length = cs.length ∧ ∀ j, j < cs.length -> PRep P W (Before W) (vs.getD j .undef) (cs.getD j Go.undef) ∧ (cs.getD j Go.undef).oneCell' = true
theorem Rep.one {P : Program} {W : World} {v : V} {x : Value} (h : PRep P W (Before W) v x) (ho : x.oneCell' = true) : Rep P W [v] [x] := by
 refine ⟨rfl, fun j hj => ?_⟩
 obtain rfl : j = 0 := by simp at hj; exact hj
 exact ⟨h, ho⟩
theorem Rep.app {P : Program} {W : World} {vs us : List V} {cs ds : List Value} (h : Rep P W vs cs) (g : Rep P W us ds) : Rep P W (vs ++ us) (cs ++ ds) := by
 refine ⟨by simp [h.1, g.1], fun j hj => ?_⟩
 rw [List.getD_eq_getElem?_getD, List.getD_eq_getElem?_getD, List.getElem?_append, List.getElem?_append, h.1]
 split
 ·rename_i hlt
  simpa [List.getD_eq_getElem?_getD] using h.2 j hlt
 ·rename_i hge
  have := g.2 (j - cs.length) (by rw [List.length_append] at hj; omega)
  simpa [List.getD_eq_getElem?_getD] using this
theorem Rep.nil {P : Program} {W : World} : Rep P W [] [] := ⟨rfl, fun j hj => by cases hj⟩
theorem rep_fields {P : Program} {W : World} : ∀ (fs : List Field) (o : Nat) (cs : List Value) (n : Nat), contig P o fs n = true -> cs.length = n ->
  ∀ ps : List (List V), ps.length = fs.length -> (∀ (i : Nat) (f : Field), fs[i]? = some f -> Rep P W (ps.getD i []) ((cs.drop f.offset).take (P.cellsOf f.type))) ->
  Rep P W ps.flatten (cs.drop o)
 | [], o, cs, n, hc, hn, ps, hp, _ => by
  have : o = n := by simpa [contig] using hc
  have hp : ps = [] := List.length_eq_zero_iff.1 hp
  subst hp
  rw [List.drop_eq_nil_of_le (by omega)]
  exact Rep.nil
 | f :: fs, o, cs, n, hc, hn, ps, hp, hf => by
  obtain ⟨h1, h2⟩ : f.offset = o ∧ contig P (o + P.cellsOf f.type) fs n = true := by simpa [contig] using hc
  match ps, hp with
  | p :: ps, hp =>
   have r := hf 0 f rfl
   rw [h1] at r
   have hrest := rep_fields fs (o + P.cellsOf f.type) cs n h2 hn ps (by simpa using hp) (fun i g hg => by simpa using hf (i + 1) g (by simpa using hg))
   have := r.app hrest
   rw [show (cs.drop o).take (P.cellsOf f.type) ++ cs.drop (o + P.cellsOf f.type) = cs.drop o by rw [<- List.drop_drop, List.take_append_drop]] at this
   simpa using this
theorem weights_all {H : Type} {P : Program} {e : TypeId} : ∀ {l : List (DataW H)} {d : DataW H}, d ∈ l -> ∀ w ∈ DataW.weights P e d, w ∈ DataW.weightsAll P e l := by
 intro l
 induction l with
 | nil => intro d0 h; cases h
 | cons x l ih =>
  intro d0 h w hw
  unfold DataW.weightsAll
  rcases List.mem_cons.1 h with rfl | h
  ·exact List.mem_append_left _ hw
  ·exact List.mem_append_right _ (ih h w hw)
theorem open_data {H : Type} {enc : TypeId × Value -> H} {P : Program} (pz : TypeId -> Bool) {W : World} {spare : Nat -> Bool} {held : Bool} {ts : List TypeId} (hok : dataOk P ts = true) :
  ∀ (fuel : Nat) (t : TypeId) (cs : List Value) (d : DataW H) (p : List MemPlace), t ∈ ts -> DataW.trod enc P W 0 spare held fuel t cs = some (d, p) -> (∀ w ∈ DataW.weights P t d, w <= reachBytes) ->
  ∃ vs : List V, Rep P W vs cs ∧ Fits P pz t vs
 | 0, t, cs, d, p, ht, h, hw => by simp [DataW.trod] at h
 | fuel + 1, t, cs, d, p, ht, h, hw => by
  have h0 := List.all_eq_true.1 hok t ht
  split at h0
  ·rename_i k hu
   obtain ⟨n, rfl, hx, hwf⟩ := DataW.trod_int hu h
   exact ⟨[.int k n], Rep.one (.int k n) rfl, .int hu hwf rfl⟩
  ·rename_i hu
   obtain ⟨b, rfl, hx⟩ := DataW.trod_bool hu h
   exact ⟨[.bool b], Rep.one (.bool b) rfl, .bool hu rfl⟩
  ·rename_i hu
   obtain ⟨s, rfl, hx, hwf⟩ := DataW.trod_string hu h
   simp only [Prod.mk.injEq] at hx
   refine ⟨[.str s], Rep.one (.str s) rfl, .str hu ?_ rfl⟩
   have := hw s.data.toList.length (by rw [hx.1]; simp [DataW.weights])
   simpa [reachBytes] using this
  ·rename_i e hu
   simp only [Bool.and_eq_true, decide_eq_true_eq, beq_iff_eq, List.contains_eq_mem] at h0
   obtain ⟨⟨he, hz⟩, hpos⟩ := h0
   rcases DataW.trod_slice hu h with ⟨rfl, hx⟩ | ⟨ad, len, cap, elems, rest, n, hfu, rfl, hx, hb, hl, hm, hlen, hel, _, _⟩
   ·obtain ⟨tok, hz1, hz2⟩ : ∃ tok, ZTok (pz e) tok [] ∧ TokFit tok none 0 0 := by
     unfold ZTok
     cases pz e with
     | true => exact ⟨.nil, by simp, rfl, rfl, rfl⟩
     | false => exact ⟨.no, by simp, trivial⟩
    refine ⟨[.sl tok e []], Rep.one (.sl (es := []) (fun _ _ => Go.undef) 0 0 hz2 ⟨fun h => absurd rfl h, Nat.le_refl _⟩ (fun i hi => by cases hi) (fun i j hi => by cases hi) (fun i j hi => by cases hi)) rfl, ?_⟩
    exact .sl hu hz1 (by simp) (Nat.zero_le _) (fun i hi => by cases hi) rfl
   ·obtain rfl : n = fuel := by omega
    simp only [Prod.mk.injEq] at hx
    obtain ⟨hd, _⟩ := hx
    have one : ∀ i, i < len -> ∃ vs : List V, (∃ cs : List Value, (∀ j, j < sz P e -> W.cell? (ad.add (i * sz P e + j)) = cs[j]?) ∧ cs.length = sz P e ∧ Rep P W vs cs) ∧ Fits P pz e vs := by
     intro i hi
     have h1 := hel i hi
     have hi2 : i < elems.length := by omega
     rw [List.getElem?_eq_getElem hi2, hz] at h1
     obtain ⟨cs, hcs, h2⟩ := Option.bind_eq_some_iff.1 h1
     obtain ⟨hcl, hcell⟩ := cells_opt hcs
     obtain ⟨vs, hr, hf⟩ := open_data pz hok n e cs _ _ he h2 fun w hw' => hw w (by
      rw [hd]
      unfold DataW.weights
      rw [hu]
      exact List.mem_cons_of_mem _ (List.mem_append_left _ (weights_all (List.mem_map.2 ⟨_, List.getElem_mem hi2, rfl⟩) w hw')))
     refine ⟨vs, ⟨cs, fun j hj => ?_, hcl, hr⟩, hf⟩
     rw [<- hcell j hj]
     rw [add_add]
    let T : Nat -> List V := fun i => if hi : i < len then Classical.choose (one i hi) else []
    let C : Nat -> List Value := fun i => if hi : i < len then Classical.choose (Classical.choose_spec (one i hi)).1 else []
    have hT : ∀ i, i < len -> ((∀ j, j < sz P e -> W.cell? (ad.add (i * sz P e + j)) = (C i)[j]?) ∧ (C i).length = sz P e ∧ Rep P W (T i) (C i)) ∧ Fits P pz e (T i) := fun i hi => by
     have h1 : T i = Classical.choose (one i hi) := dif_pos hi
     have h2 : C i = Classical.choose (Classical.choose_spec (one i hi)).1 := dif_pos hi
     rw [h1, h2]
     exact ⟨Classical.choose_spec (Classical.choose_spec (one i hi)).1, (Classical.choose_spec (one i hi)).2⟩
    have hll : ((List.range len).map T).length = len := by simp
    have hg : ∀ i, i < len -> ((List.range len).map T).getD i [] = T i := fun i hi => by
     rw [List.getD_eq_getElem?_getD, List.getElem?_map, List.getElem?_range hi]; rfl
    have hcell : ∀ i j, i < len -> j < sz P e -> W.cell? (ad.add (i * sz P e + j)) = some ((C i).getD j Go.undef) := fun i j hi hj => by
     obtain ⟨⟨h1, h2, _⟩, _⟩ := hT i hi
     rw [h1 j hj, List.getD_eq_getElem?_getD, List.getElem?_eq_getElem (by omega)]
     rfl
    have hsp : len ≠ 0 -> ad.spot = none := fun h0 => by
     have h7 := hcell 0 0 (by omega) hpos
     rw [show ad.add (0 * sz P e + 0) = ad by simp [Addr.add]] at h7
     exact spot_none h7
    obtain ⟨tok, hz1, hz2⟩ : ∃ tok, ZTok (pz e) tok ((List.range len).map T) ∧ TokFit tok (some ad) cap ((List.range len).map T).length := by
     unfold ZTok
     cases pz e with
     | true => exact ⟨.nn, by simp, by simp [TokFit]⟩
     | false => exact ⟨.no, by simp, trivial⟩
    have key : PRep P W (Before W) (.sl tok e ((List.range len).map T)) (.slice (some ad) ((List.range len).map T).length cap) := by
     refine .sl (fun i j => (C i).getD j Go.undef) ad.block ad.off hz2 ⟨fun hne => ?_, by rw [hll]; exact hl⟩ (fun i hi => ?_) (fun i j hi hj => ?_) (fun i j hi hj => ?_)
     ·have h5 : len ≠ 0 := fun h0 => hne (by subst h0; rfl)
      have h6 := hsp h5
      cases ad
      simp at h6
      subst h6; rfl
     ·have hi' : i < len := by rw [hll] at hi; exact hi
      rw [hg i hi', (hT i hi').1.2.2.1, (hT i hi').1.2.1]
     ·have hi' : i < len := by rw [hll] at hi; exact hi
      have h5 := hcell i j hi' hj
      rw [add_at (hsp (by omega)), <- Nat.add_assoc] at h5
      exact ⟨cell_lt h5, h5, ((hT i hi').1.2.2.2 j (by rw [(hT i hi').1.2.1]; exact hj)).2⟩
     ·have hi' : i < len := by rw [hll] at hi; exact hi
      rw [hg i hi']
      exact ((hT i hi').1.2.2.2 j (by rw [(hT i hi').1.2.1]; exact hj)).1
    rw [hll] at key
    refine ⟨[.sl tok e ((List.range len).map T)], Rep.one key rfl, .sl hu hz1 ?_ (by rw [hll]; omega) (fun i hi => ?_) rfl⟩
    ·rw [hll]
     have h5 := hw ((elems.map (·.1)).length * P.bytesOf e + (rest.map (·.1)).length * P.bytesOf e) (by
      rw [hd]
      unfold DataW.weights
      rw [hu, <- Nat.add_mul]
      exact List.mem_cons_self)
     rw [List.length_map, hlen] at h5
     have h6 : reachBytes = 140737488351232 := rfl
     omega
    ·have hi' : i < len := by rw [hll] at hi; exact hi
     rw [hg i hi']
     exact (hT i hi').2
  ·rename_i fs hu
   simp only [Bool.and_eq_true, List.all_eq_true, List.contains_eq_mem, decide_eq_true_eq] at h0
   obtain ⟨hty, hco⟩ := h0
   obtain ⟨xs, n, hfu, hx, hl, hlen, hf⟩ := DataW.trod_struct hu h
   obtain rfl : n = fuel := by omega
   simp only [Prod.mk.injEq] at hx
   obtain ⟨hd, _⟩ := hx
   have one : ∀ i (hi : i < fs.size), ∃ vs : List V, Rep P W vs ((cs.drop fs[i].offset).take (P.cellsOf fs[i].type)) ∧ Fits P pz fs[i].type vs := by
    intro i hi
    have h1 := hf i fs[i] (Array.getElem?_eq_getElem hi)
    have hi2 : i < xs.length := by omega
    rw [List.getElem?_eq_getElem hi2] at h1
    refine open_data pz hok n _ _ _ _ (hty _ (Array.getElem_mem_toList hi)) h1 fun w hw' => hw w ?_
    rw [hd]
    unfold DataW.weights
    rw [hu]
    refine DataW.weights_mem_each (j := i) (t := fs[i].type) (d := xs[i].1) ?_ ?_ w hw'
    ·simp [List.getElem?_map, hi]
    ·simp [List.getElem?_map, hi2]
   let T : Nat -> List V := fun i => if hi : i < fs.size then Classical.choose (one i hi) else []
   have hT : ∀ i (hi : i < fs.size), Rep P W (T i) ((cs.drop fs[i].offset).take (P.cellsOf fs[i].type)) ∧ Fits P pz fs[i].type (T i) := fun i hi => by
    have h1 : T i = Classical.choose (one i hi) := dif_pos hi
    rw [h1]
    exact Classical.choose_spec (one i hi)
   have hll : ((List.range fs.size).map T).length = fs.size := by simp
   have hg : ∀ i, i < fs.size -> ((List.range fs.size).map T).getD i [] = T i := fun i hi => by
    rw [List.getD_eq_getElem?_getD, List.getElem?_map, List.getElem?_range hi]; rfl
   refine ⟨((List.range fs.size).map T).flatten, ?_, .st hu hll (fun i f hif => ?_) rfl⟩
   ·have := rep_fields fs.toList 0 cs (P.cellsOf t) hco hl ((List.range fs.size).map T) (by simp) (fun i f hif => by
     obtain ⟨hi, rfl⟩ := Array.getElem?_eq_some_iff.1 ((Array.getElem?_toList ..).symm.trans hif)
     rw [hg i hi]
     exact (hT i hi).1)
    simpa using this
   ·obtain ⟨hi, rfl⟩ := Array.getElem?_eq_some_iff.1 hif
    rw [hg i hi]
    exact (hT i hi).2
  ·cases h0
theorem open_struct_arg {H : Type} {enc : TypeId × Value -> H} {P : Program} (pz : TypeId -> Bool) {W : World} {spare : Nat -> Bool} {held : Bool} {ts : List TypeId} (hok : dataOk P ts = true) {t : TypeId} {fs : Array Field} (ht : t ∈ ts) (hu : P.underlying t = some (.struct fs))
  {r : Reach} {b0 : Nat} {v : Value} (hv : Value.okWide P W r b0 t v) {d : DataW H} {p : List MemPlace} (h : DataW.Trod enc P W 0 spare held t v d p) (hw : ∀ w ∈ DataW.weights P t d, w <= reachBytes) :
  ∃ vs : List V, Fits P pz t vs ∧ PRep P W (Before W) (.agg vs) v := by
 obtain ⟨cs, rfl, _⟩ := okWide_struct hu hv
 obtain ⟨fuel, hf⟩ := h
 obtain ⟨vs, hr, hfit⟩ := open_data pz hok fuel t _ d p ht hf hw
 refine ⟨vs, hfit, .agg (by simpa [Value.cells] using hr.1) fun j hj => ?_⟩
 have h1 := (hr.2 j (by rw [<- hr.1]; exact hj)).1
 simpa [Value.cells, List.getD_eq_getElem?_getD, Array.getD_eq_getD_getElem?] using h1
theorem trod_places {H : Type} {enc : TypeId × Value -> H} {P : Program} {W : World} {spare : Nat -> Bool} {held : Bool} {t : TypeId} {v : Value} {d : DataW H} {p : List MemPlace} (h : DataW.Trod enc P W 0 spare held t v d p) : ∀ x ∈ p, x.block < W.heap.size := by
 obtain ⟨fuel, hf⟩ := h
 exact DataW.trod_lt fuel t _ _ hf
theorem sized_data {H : Type} {P : Program} {ts : List TypeId} {ds : List (DataW H)} (h : (DataW.weightsEach P ts ds).all (· <= reachBytes) = true) {j : Nat} {t : TypeId} {d : DataW H} (ht : ts[j]? = some t) (hd : ds[j]? = some d) :
  ∀ w ∈ DataW.weights P t d, w <= reachBytes := fun w hw => by
 simpa using List.all_eq_true.1 h w (DataW.weights_mem_each ht hd w hw)
theorem fits_int {P : Program} {pz : TypeId -> Bool} {t : TypeId} {k : IntKind} {cs : List V} (hu : P.underlying t = some (.int k)) (h : Fits P pz t cs) : ∃ n : Int, cs = [.int k n] ∧ (Lit.int k n).wf = true := by
 cases h with
 | int h hw e => rw [hu] at h; cases h; exact ⟨_, e, hw⟩
 | bool h e => rw [hu] at h; cases h
 | str h hw e => rw [hu] at h; cases h
 | sl h ht hl hm he e => rw [hu] at h; cases h
 | st h hl he e => rw [hu] at h; cases h
theorem fits_str {P : Program} {pz : TypeId -> Bool} {t : TypeId} {cs : List V} (hu : P.underlying t = some .string) (h : Fits P pz t cs) : ∃ l : List UInt8, cs = [.str (B l)] ∧ l.length <= 140737488351232 := by
 cases h with
 | int h hw e => rw [hu] at h; cases h
 | bool h e => rw [hu] at h; cases h
 | str h hw e =>
  rename_i s
  exact ⟨s.data.toList, by rw [e, <- B_of], by simpa using hw⟩
 | sl h ht hl hm he e => rw [hu] at h; cases h
 | st h hl he e => rw [hu] at h; cases h
theorem fits_slz {P : Program} {pz : TypeId -> Bool} {t el : TypeId} {cs : List V} (hu : P.underlying t = some (.slice el)) (h : Fits P pz t cs) :
  ∃ (tok : Tok) (es : List (List V)), cs = [.sl tok el es] ∧ ZTok (pz el) tok es ∧ es.length * P.bytesOf el <= 140737488351232 ∧ es.length <= maxLen ∧ ∀ i, i < es.length -> Fits P pz el (es.getD i []) := by
 cases h with
 | int h hw e => rw [hu] at h; cases h
 | bool h e => rw [hu] at h; cases h
 | str h hw e => rw [hu] at h; cases h
 | sl h ht hl hm he e => rw [hu] at h; cases h; exact ⟨_, _, e, ht, hl, hm, he⟩
 | st h hl he e => rw [hu] at h; cases h
theorem fits_sl {P : Program} {pz : TypeId -> Bool} {t el : TypeId} {cs : List V} (hu : P.underlying t = some (.slice el)) (hz : pz el = false) (h : Fits P pz t cs) :
  ∃ es : List (List V), cs = [.sl .no el es] ∧ es.length * P.bytesOf el <= 140737488351232 ∧ es.length <= maxLen ∧ ∀ i, i < es.length -> Fits P pz el (es.getD i []) := by
 obtain ⟨tok, es, h1, h2, h3, h4, h5⟩ := fits_slz hu h
 unfold ZTok at h2
 rw [hz, if_neg (by simp)] at h2
 subst h2
 exact ⟨es, h1, h3, h4, h5⟩
def partTypes (P : Program) (t : TypeId) : Option (List TypeId) := match P.underlying t with
 | some (.struct fs) => some (fs.toList.map (·.type))
 | _ => none
theorem fits_st {P : Program} {pz : TypeId -> Bool} {t : TypeId} {ts : List TypeId} {cs : List V} (hu : partTypes P t = some ts) (h : Fits P pz t cs) :
  ∃ ps : List (List V), cs = ps.flatten ∧ ps.length = ts.length ∧ ∀ (i : Nat) (u : TypeId), ts[i]? = some u -> Fits P pz u (ps.getD i []) := by
 unfold partTypes at hu
 cases h with
 | int h hw e => rw [h] at hu; cases hu
 | bool h e => rw [h] at hu; cases hu
 | str h hw e => rw [h] at hu; cases hu
 | sl h ht hl hm he e => rw [h] at hu; cases hu
 | st h hl he e =>
  rw [h] at hu
  obtain rfl := Option.some.inj hu
  refine ⟨_, e, by simpa using hl, fun i u hi => ?_⟩
  rw [List.getElem?_map] at hi
  obtain ⟨f, hf, rfl⟩ := Option.map_eq_some_iff.1 hi
  exact he i f ((Array.getElem?_toList ..).symm.trans hf)
theorem fits_rows {P : Program} {pz : TypeId -> Bool} {α : Type} {el : TypeId} {v : α -> List V} {ok : α -> Prop} (h1 : ∀ cs, Fits P pz el cs -> ∃ a, cs = v a ∧ ok a) :
  ∀ es : List (List V), (∀ i, i < es.length -> Fits P pz el (es.getD i [])) -> ∃ l : List α, es = l.map v ∧ ∀ a ∈ l, ok a
 | [], _ => ⟨[], rfl, fun a h => by cases h⟩
 | e :: es, h => by
  obtain ⟨a, ha, hok⟩ := h1 e (h 0 (by simp))
  obtain ⟨l, hl, hlok⟩ := fits_rows h1 es fun i hi => by simpa using h (i + 1) (by simpa using hi)
  refine ⟨a :: l, by rw [ha, hl]; rfl, fun x hx => ?_⟩
  rcases List.mem_cons.1 hx with rfl | hx
  ·exact hok
  ·exact hlok x hx
end Go.Proofs.Px
namespace Go.Proofs.YtmhnmelaodhemaaGreatDoor
open Go Go.Shelf Go.Proofs Go.Proofs.Ab
def joinRen : Ren := ⟨fun | 156 => 34 | 165 => 63 | 166 => 64 | 169 => 65 | 240 => 108 | 241 => 109 | 276 => 157 | 277 => 158 | n => n, fun | 31 => 79 | 9 => 9 | 3 => 3 | 4 => 4 | 0 => 0 | 20 => 20 | 72 => 153 | 76 => 156 | 70 => 150 | 37 => 151 | 75 => 155 | 127 => 214 | 164 => 250 | 5 => 5 | 80 => 158 | n => n, fun n => n⟩
theorem joinLays : Lays.n156 Tryz.prog joinRen := { mixed := by kernel_rfl, f156 := Tryz.func34.trans (congrArg some (by kernel_rfl)), f165 := Tryz.func63.trans (congrArg some (by kernel_rfl)), f166 := Tryz.func64.trans (congrArg some (by kernel_rfl)), f169 := Tryz.func65.trans (congrArg some (by kernel_rfl)), f240 := Tryz.func108.trans (congrArg some (by kernel_rfl)), f241 := Tryz.func109.trans (congrArg some (by kernel_rfl)), f276 := Tryz.func157.trans (congrArg some (by kernel_rfl)), f277 := Tryz.func158.trans (congrArg some (by kernel_rfl)), t0 := Tryz.underlying0, a0 := Tryz.isAgg0, z0 := Tryz.sizeOf0, v0 := Tryz.zeroValue0, t3 := Tryz.underlying3, a3 := Tryz.isAgg3, z3 := Tryz.sizeOf3, v3 := Tryz.zeroValue3, t4 := Tryz.underlying4, a4 := Tryz.isAgg4, z4 := Tryz.sizeOf4, v4 := Tryz.zeroValue4, t9 := Tryz.underlying9, a9 := Tryz.isAgg9, z9 := Tryz.sizeOf9, v9 := Tryz.zeroValue9, t20 := Tryz.underlying20, a20 := Tryz.isAgg20, z20 := Tryz.sizeOf20, v20 := Tryz.zeroValue20, t31 := Tryz.underlying79, a31 := Tryz.isAgg79, z31 := Tryz.sizeOf79, v31 := Tryz.zeroValue79, t37 := Tryz.underlying151, a37 := Tryz.isAgg151, z37 := Tryz.sizeOf151, v37 := Tryz.zeroValue151, t70 := Tryz.underlying150, a70 := Tryz.isAgg150, z70 := Tryz.sizeOf150, v70 := Tryz.zeroValue150, t72 := Tryz.underlying153, a72 := Tryz.isAgg153, z72 := Tryz.sizeOf153, v72 := Tryz.zeroValue153, t75 := Tryz.underlying155, a75 := Tryz.isAgg155, z75 := Tryz.sizeOf155, v75 := Tryz.zeroValue155, t76 := Tryz.underlying156, a76 := Tryz.isAgg156, z76 := Tryz.sizeOf156, v76 := Tryz.zeroValue156, t127 := Tryz.underlying214, a127 := Tryz.isAgg214, z127 := Tryz.sizeOf214, v127 := Tryz.zeroValue214, t164 := Tryz.underlying250, a164 := Tryz.isAgg250, z164 := Tryz.sizeOf250, v164 := Tryz.zeroValue250 }
theorem joinExtra : Builder.Extra Tryz.prog joinRen := { sizeBuilder := by kernel_rfl, liesBuilder := by kernel_rfl, t5 := Tryz.underlying5, a5 := Tryz.isAgg5, z5 := Tryz.sizeOf5, v5 := Tryz.zeroValue5, infoByte := by kernel_rfl, cellsByte := by kernel_rfl, sizeByte := by kernel_rfl, neB5 := by decide }
theorem natJoin_at : NatOk Sp 34 (natJoin 9) := natJoin_ok (pg := Sp) ⟨_, Tryz.func34, by kernel_rfl, by kernel_rfl⟩ (by kernel_rfl) (fun a c sep w => Any.strings_Join_none joinLays joinExtra a c sep w) (fun bk o c xs sep w h1 h2 h3 h4 h5 => Any.strings_Join joinLays joinExtra bk o c xs sep w h1 h2 h3 h4 h5)
theorem nat_is (f : FuncId) : Sp.nat f = if f = 34 then some (natJoin 9) else none := by
 by_cases hf : f = 34
 ·subst hf; rfl
 ·rw [if_neg hf]
  show (match f with | 34 => some (natJoin 9) | _ => none) = none
  split
  ·exact absurd rfl hf
  ·rfl
theorem nat_ok : ∀ f g, Sp.nat f = some g -> NatOk Sp f g := by
 intro f g h
 rw [nat_is] at h
 split at h
 ·rename_i hf
  subst hf
  cases h; exact natJoin_at
 ·cases h
end Go.Proofs.YtmhnmelaodhemaaGreatDoor
namespace Go.Proofs.YtmhnmelaodhemaaGreatDoor
open Go Go.Proofs.Ab
theorem kd_p1 : den Sp decl_Parse.id [.str ⟨#[112, 97, 105, 114, 32, 102, 32, 103, 32, 59, 32, 115, 97, 109, 101, 32, 102, 32, 40, 32, 120, 32, 41, 32, 103, 32, 40, 32, 121, 32, 41, 32, 59, 32, 98, 114, 101, 97, 107, 32, 108, 101, 102, 116, 32, 102, 32, 50, 32, 119, 104, 101, 110, 32, 120, 32, 60, 32, 51, 32, 59]⟩] [] none = (some ⟨(Out.ret (V.tup [(V.agg [(V.sl Tok.no T_api_Pair [[(V.str (ByteArray.mk #[102])), (V.str (ByteArray.mk #[103])), (V.str (ByteArray.mk #[])), (V.str (ByteArray.mk #[]))]]), (V.sl Tok.no T_api_Pair [[(V.str (ByteArray.mk #[102])), (V.str (ByteArray.mk #[103])), (V.str (ByteArray.mk #[120])), (V.str (ByteArray.mk #[121]))]]), (V.sl Tok.no T_decl_Keep []), (V.sl Tok.no T_decl_Break [[(V.int IntKind.i64 (0 : Int)), (V.str (ByteArray.mk #[102])), (V.int IntKind.i64 (2 : Int)), (V.sl Tok.no T_api_Expr [[(V.int IntKind.i64 (6 : Int)), (V.str (ByteArray.mk #[60])), (V.int IntKind.i64 (0 : Int)), (V.sl Tok.no T_api_Expr [[(V.int IntKind.i64 (3 : Int)), (V.str (ByteArray.mk #[120])), (V.int IntKind.i64 (0 : Int)), (V.sl Tok.no T_api_Expr [])], [(V.int IntKind.i64 (1 : Int)), (V.str (ByteArray.mk #[])), (V.int IntKind.i64 (3 : Int)), (V.sl Tok.no T_api_Expr [])]])]])]]), (V.sl Tok.no T_decl_Watch [])]), (V.int IntKind.i64 (0 : Int)), (V.int IntKind.i64 (0 : Int))])), [], none⟩) :=
 callN_le Sp 90 40 (by kernel_rfl)
theorem kd_p2 : den Sp decl_Parse.id [.str ⟨#[112, 97, 105, 114, 32, 102, 32, 59]⟩] [] none = (some ⟨(Out.ret (V.tup [(V.agg [(V.sl Tok.no T_api_Pair []), (V.sl Tok.no T_api_Pair []), (V.sl Tok.no T_decl_Keep []), (V.sl Tok.no T_decl_Break []), (V.sl Tok.no T_decl_Watch [])]), (V.int IntKind.i64 (7 : Int)), (V.int IntKind.i64 (30 : Int))])), [], none⟩) :=
 callN_le Sp 90 40 (by kernel_rfl)
theorem kd_pr : den Sp decl_Print.id [(V.agg [(V.sl Tok.no T_api_Pair [[(V.str (ByteArray.mk #[102])), (V.str (ByteArray.mk #[103])), (V.str (ByteArray.mk #[])), (V.str (ByteArray.mk #[]))]]), (V.sl Tok.no T_api_Pair [[(V.str (ByteArray.mk #[102])), (V.str (ByteArray.mk #[103])), (V.str (ByteArray.mk #[120])), (V.str (ByteArray.mk #[121]))]]), (V.sl Tok.no T_decl_Keep []), (V.sl Tok.no T_decl_Break [[(V.int IntKind.i64 (0 : Int)), (V.str (ByteArray.mk #[102])), (V.int IntKind.i64 (2 : Int)), (V.sl Tok.no T_api_Expr [[(V.int IntKind.i64 (6 : Int)), (V.str (ByteArray.mk #[60])), (V.int IntKind.i64 (0 : Int)), (V.sl Tok.no T_api_Expr [[(V.int IntKind.i64 (3 : Int)), (V.str (ByteArray.mk #[120])), (V.int IntKind.i64 (0 : Int)), (V.sl Tok.no T_api_Expr [])], [(V.int IntKind.i64 (1 : Int)), (V.str (ByteArray.mk #[])), (V.int IntKind.i64 (3 : Int)), (V.sl Tok.no T_api_Expr [])]])]])]]), (V.sl Tok.no T_decl_Watch [])])] [] none = (some ⟨(Out.ret (V.tup [(V.str (ByteArray.mk #[112, 97, 105, 114, 32, 102, 32, 103, 32, 59, 32, 115, 97, 109, 101, 32, 102, 32, 40, 32, 120, 32, 41, 32, 103, 32, 40, 32, 121, 32, 41, 32, 59, 32, 98, 114, 101, 97, 107, 32, 108, 101, 102, 116, 32, 102, 32, (UInt8.ofBitVec (BitVec.ofFin (Fin.mk 50 (Nat.mod_lt (Int.toNat (IntKind.wrap IntKind.u8 (IntKind.wrap IntKind.u64 ((48 : Int) + (Int.tmod (IntKind.wrap IntKind.u64 (2 : Int)) (10 : Int)))))) (BitVec.ofNat._proof_1 8))))), 32, 119, 104, 101, 110, 32, (UInt8.ofBitVec (BitVec.ofFin (Fin.mk 120 (Nat.mod_lt (Int.toNat (((UInt8.toNat 120) : Nat) : Int)) (BitVec.ofNat._proof_1 8))))), (UInt8.ofBitVec (BitVec.ofFin (Fin.mk 32 (Nat.mod_lt (Int.toNat (32 : Int)) (BitVec.ofNat._proof_1 8))))), (UInt8.ofBitVec (BitVec.ofFin (Fin.mk 60 (Nat.mod_lt (Int.toNat (((UInt8.toNat 60) : Nat) : Int)) (BitVec.ofNat._proof_1 8))))), (UInt8.ofBitVec (BitVec.ofFin (Fin.mk 32 (Nat.mod_lt (Int.toNat (32 : Int)) (BitVec.ofNat._proof_1 8))))), (UInt8.ofBitVec (BitVec.ofFin (Fin.mk 51 (Nat.mod_lt (Int.toNat (((UInt8.toNat (UInt8.ofNat (Int.toNat (IntKind.wrap IntKind.u8 (IntKind.wrap IntKind.u64 ((48 : Int) + (Int.tmod (IntKind.wrap IntKind.u64 (3 : Int)) (10 : Int)))))))) : Nat) : Int)) (BitVec.ofNat._proof_1 8))))), 32, 59])), (V.int IntKind.i64 (0 : Int))])), [], none⟩) :=
 callN_le Sp 90 40 (by kernel_rfl)
theorem kd_k : den Sp decl_Kept.id [(V.agg [(V.sl Tok.no T_api_Pair [[(V.str (ByteArray.mk #[102])), (V.str (ByteArray.mk #[103])), (V.str (ByteArray.mk #[])), (V.str (ByteArray.mk #[]))]]), (V.sl Tok.no T_api_Pair [[(V.str (ByteArray.mk #[102])), (V.str (ByteArray.mk #[103])), (V.str (ByteArray.mk #[120])), (V.str (ByteArray.mk #[121]))]]), (V.sl Tok.no T_decl_Keep []), (V.sl Tok.no T_decl_Break [[(V.int IntKind.i64 (0 : Int)), (V.str (ByteArray.mk #[102])), (V.int IntKind.i64 (2 : Int)), (V.sl Tok.no T_api_Expr [[(V.int IntKind.i64 (6 : Int)), (V.str (ByteArray.mk #[60])), (V.int IntKind.i64 (0 : Int)), (V.sl Tok.no T_api_Expr [[(V.int IntKind.i64 (3 : Int)), (V.str (ByteArray.mk #[120])), (V.int IntKind.i64 (0 : Int)), (V.sl Tok.no T_api_Expr [])], [(V.int IntKind.i64 (1 : Int)), (V.str (ByteArray.mk #[])), (V.int IntKind.i64 (3 : Int)), (V.sl Tok.no T_api_Expr [])]])]])]]), (V.sl Tok.no T_decl_Watch [])]), .int .i64 1] [] none = (some ⟨(Out.ret (V.sl Tok.no T_gen_Keep [[(V.str (ByteArray.mk #[103])), (V.str (ByteArray.mk #[121]))]])), [], none⟩) :=
 callN_le Sp 90 40 (by kernel_rfl)
end Go.Proofs.YtmhnmelaodhemaaGreatDoor
namespace Go.Proofs.Px
open Go Go.Proofs.Ab
theorem one_most {i : Nat} {x : List V} (h : i <= 1000000000000) : i + List.length [x] <= most := by
 show i + 1 <= 1099511627776
 omega
def dgt (u : Nat) : UInt8 := UInt8.ofNat (48 + u % 10)
theorem dgt_nat (u : Nat) : (dgt u).toNat = 48 + u % 10 := by
 unfold dgt
 rw [UInt8.toNat_ofNat']; omega
def decGo : Nat -> Nat -> List UInt8 -> List UInt8
 | 0, _, acc => acc
 | f + 1, u, acc => if u / 10 = 0 then dgt u :: acc else decGo f (u / 10) (dgt u :: acc)
def dec (u : Nat) : List UInt8 := decGo 20 u []
def decs (n : Int) : List UInt8 := if n < 0 then 45 :: dec n.natAbs else dec n.natAbs
theorem decGo_more (f : Nat) : ∀ (g u : Nat) (acc : List UInt8), u < 10 ^ f -> f <= g -> 0 < f -> decGo g u acc = decGo f u acc := by
 induction f with
 | zero => intro _ _ _ _ _ h; omega
 | succ f ih =>
  intro g u acc h hg _
  obtain ⟨g, rfl⟩ : ∃ k, g = k + 1 := ⟨g - 1, by omega⟩
  unfold decGo
  by_cases h0 : u / 10 = 0
  ·rw [if_pos h0, if_pos h0]
  ·rw [if_neg h0, if_neg h0]
   have h1 : u / 10 < 10 ^ f := by
    rw [Nat.pow_succ] at h
    omega
   refine ih g _ _ h1 (by omega) ?_
   rcases Nat.eq_zero_or_pos f with rfl | h2
   ·simp at h1; omega
   ·exact h2
theorem dec_of (f u : Nat) (h : u < 10 ^ f) (hf : 0 < f) (hf2 : f <= 20) : dec u = decGo f u [] := decGo_more f 20 u [] h hf2 hf
theorem decGo_len : ∀ (f u : Nat) (acc : List UInt8), (decGo f u acc).length <= f + acc.length
 | 0, _, acc => by simp [decGo]
 | f + 1, u, acc => by
  unfold decGo
  split
  ·simp; omega
  ·have := decGo_len f (u / 10) (dgt u :: acc)
   simp at this; omega
theorem dec_len20 (u : Nat) : (dec u).length <= 20 := by
 have := decGo_len 20 u []
 exact this
theorem decs_len (n : Int) : (decs n).length <= 21 := by
 unfold decs
 have := dec_len20 n.natAbs
 split
 ·simp; omega
 ·omega
theorem decGo_digits : ∀ (f u : Nat) (acc : List UInt8), (∀ c ∈ acc, 48 <= c.toNat ∧ c.toNat <= 57) -> ∀ c ∈ decGo f u acc, 48 <= c.toNat ∧ c.toNat <= 57
 | 0, u, acc, h => h
 | f + 1, u, acc, h => by
  have h1 : ∀ c ∈ dgt u :: acc, 48 <= c.toNat ∧ c.toNat <= 57 := by
   intro c hc
   rcases List.mem_cons.1 hc with rfl | hc
   ·rw [dgt_nat]; omega
   ·exact h c hc
  unfold decGo
  split
  ·exact h1
  ·exact decGo_digits f (u / 10) _ h1
theorem dec_digits (u : Nat) : ∀ c ∈ dec u, 48 <= c.toNat ∧ c.toNat <= 57 := decGo_digits 20 u [] (fun c h => by cases h)
def worth (u : Nat) (l : List UInt8) : Nat := l.foldl (fun a c => a * 10 + (c.toNat - 48)) u
theorem worth_cons (u : Nat) (c : UInt8) (l : List UInt8) : worth u (c :: l) = worth (u * 10 + (c.toNat - 48)) l := by
 unfold worth
 exact List.foldl_cons ..
theorem decGo_worth (f : Nat) : ∀ (u : Nat) (acc : List UInt8), u < 10 ^ f -> 0 < f -> worth 0 (decGo f u acc) = worth u acc := by
 induction f with
 | zero => intro _ _ _ h; omega
 | succ f ih =>
  intro u acc h _
  have hd : (dgt u).toNat - 48 = u % 10 := by rw [dgt_nat]; omega
  unfold decGo
  by_cases h0 : u / 10 = 0
  ·rw [if_pos h0, worth_cons, hd, show 0 * 10 + u % 10 = u by omega]
  ·rw [if_neg h0]
   have h1 : u / 10 < 10 ^ f := by
    rw [Nat.pow_succ] at h
    omega
   rw [ih (u / 10) _ h1 (by
    rcases Nat.eq_zero_or_pos f with rfl | h2
    ·simp at h1; omega
    ·exact h2), worth_cons, hd, show u / 10 * 10 + u % 10 = u by omega]
theorem worth_nil (u : Nat) : worth u [] = u := by
 unfold worth
 exact List.foldl_nil
theorem dec_worth (u : Nat) (h : u < 10 ^ 20) : worth 0 (dec u) = u := by
 unfold dec
 rw [decGo_worth 20 u [] h (Nat.zero_lt_succ _), worth_nil]
theorem decGo_ne : ∀ (f u : Nat) (acc : List UInt8), 0 < f -> decGo f u acc ≠ []
 | 0, _, _, h => by omega
 | f + 1, u, acc, _ => by
  unfold decGo
  split
  ·simp
  ·rcases Nat.eq_zero_or_pos f with rfl | h
   ·simp [decGo]
   ·exact decGo_ne f _ _ h
theorem decGo_head (f : Nat) : ∀ (u : Nat) (acc : List UInt8), u < 10 ^ f -> 0 < f -> 0 < u -> (decGo f u acc).getD 0 0 ≠ 48 := by
 induction f with
 | zero => intro _ _ _ h; omega
 | succ f ih =>
  intro u acc h _ hu
  unfold decGo
  by_cases h0 : u / 10 = 0
  ·rw [if_pos h0]
   intro h2
   have h3 : (dgt u).toNat = (48 : UInt8).toNat := congrArg UInt8.toNat h2
   rw [dgt_nat] at h3
   have : (48 : UInt8).toNat = 48 := rfl
   omega
  ·rw [if_neg h0]
   have h1 : u / 10 < 10 ^ f := by
    rw [Nat.pow_succ] at h
    omega
   refine ih (u / 10) _ h1 ?_ (by omega)
   rcases Nat.eq_zero_or_pos f with rfl | h2
   ·simp at h1; omega
   ·exact h2
@[simp] theorem int_beq (a b : Int) : (a == b) = decide (a = b) := by by_cases h : a = b <;> simp [h]
@[simp] theorem int_bne (a b : Int) : (a != b) = !decide (a = b) := by by_cases h : a = b <;> simp [bne, h]
@[simp] theorem nat_neg_not (n : Nat) : (((n : Nat) : Int) < 0) = False := by simp
@[simp] theorem mk_B (l : List UInt8) : ByteArray.mk l.toArray = B l := rfl
@[simp] theorem B_eq (a b : List UInt8) : (B a = B b) = (a = b) := propext B_inj
def tkz (z : Bool) : Tok := if z then .nil else .nn
@[simp] theorem tkz_true : tkz true = .nil := rfl
@[simp] theorem tkz_false : tkz false = .nn := rfl
@[simp] theorem tokOf_tkz (z : Bool) (es : List (List V)) : tokOf true (tkz z) es = tkz z := by cases z <;> rfl
@[simp] theorem tokOf_nil (es : List (List V)) : tokOf true .nil es = .nil := rfl
@[simp] theorem tokOf_nn (es : List (List V)) : tokOf true .nn es = .nn := rfl
@[simp] theorem asSlN_nil {R : Type} (e : TypeId) (es : List (List V)) (k : Bool -> List (List V) -> Option R) : V.asSlN (.sl .nil e es) e k = k true es := by simp [V.asSlN]
@[simp] theorem asSlN_nn {R : Type} (e : TypeId) (es : List (List V)) (k : Bool -> List (List V) -> Option R) : V.asSlN (.sl .nn e es) e k = k false es := by simp [V.asSlN]
@[simp] theorem asSlN_tkz {R : Type} (z : Bool) (e : TypeId) (es : List (List V)) (k : Bool -> List (List V) -> Option R) : V.asSlN (.sl (tkz z) e es) e k = k z es := by cases z <;> simp
def sv (l : List (List UInt8)) : List (List V) := l.map fun s => [.str (B s)]
def iv (l : List Int) : List (List V) := l.map fun n => [.int .i64 n]
@[simp] theorem sv_len (l : List (List UInt8)) : (sv l).length = l.length := by simp [sv]
@[simp] theorem iv_len (l : List Int) : (iv l).length = l.length := by simp [iv]
@[simp] theorem sv_nil : sv [] = [] := rfl
@[simp] theorem iv_nil : iv [] = [] := rfl
theorem sv_at (l : List (List UInt8)) (i : Nat) (h : i < l.length) : List.getD (List.getD (sv l) i []) 0 V.undef = .str (B l[i]) := by
 unfold sv
 rw [List.getD_eq_getElem?_getD (l := List.map _ _), List.getElem?_map, List.getElem?_eq_getElem h]; rfl
theorem map_at {α : Type} (f : α -> List V) (l : List α) (i : Nat) (h : i < l.length) : List.getD (l.map f) i [] = f l[i] := by
 rw [List.getD_eq_getElem?_getD, List.getElem?_map, List.getElem?_eq_getElem h]; rfl
@[simp] theorem iv_app (a b : List Int) : iv a ++ iv b = iv (a ++ b) := by simp [iv]
@[simp] theorem sv_app (a b : List (List UInt8)) : sv a ++ sv b = sv (a ++ b) := by simp [sv]
theorem sv_one (s : List UInt8) : [[V.str (B s)]] = sv [s] := rfl
theorem in_row {i n : Nat} (h : i < n) : (0 : Int) <= (i : Int) ∧ (i : Int) < ((n : Nat) : Int) := by omega
end Go.Proofs.Px
namespace Go.Proofs.YtmhnmelaodhemaaGreatDoor
open Go Go.Proofs.Ab
namespace law12_known
theorem eq : den Sp id [] [] none =
  (den Sp decl_Parse.id [V.str (ByteArray.mk #[112, 97, 105, 114, 32, 102, 32, 103, 32, 59, 32, 115, 97, 109, 101, 32, 102, 32, 40, 32, 120, 32, 41, 32, 103, 32, 40, 32, 121, 32, 41, 32, 59, 32, 98, 114, 101, 97, 107, 32, 108, 101, 102, 116, 32, 102, 32, 50, 32, 119, 104, 101, 110, 32, 120, 32, 60, 32, 51, 32, 59])] [] none).bind (fun r2 => Res.onRet r2 (fun v3 => V.asTup v3 3 (fun rd4 => V.asAgg (rd4 0) 5 (fun rd5 => V.asSl (rd5 0) T_api_Pair (fun es6 => V.asSl (rd5 1) T_api_Pair (fun es7 => V.asSl (rd5 2) T_decl_Keep (fun es8 => V.asSl (rd5 3) T_decl_Break (fun es9 => V.asSl (rd5 4) T_decl_Watch (fun es10 => V.asInt (rd4 1) .i64 (fun n11 => V.asInt (rd4 2) .i64 (fun n12 => (den Sp decl_Parse.id [V.str (ByteArray.mk #[112, 97, 105, 114, 32, 102, 32, 59])] [] none).bind (fun r14 => Res.onRet r14 (fun v15 => V.asTup v15 3 (fun rd16 => V.asAgg (rd16 0) 5 (fun rd17 => V.asSl (rd17 0) T_api_Pair (fun es18 => V.asSl (rd17 1) T_api_Pair (fun es19 => V.asSl (rd17 2) T_decl_Keep (fun es20 => V.asSl (rd17 3) T_decl_Break (fun es21 => V.asSl (rd17 4) T_decl_Watch (fun es22 => V.asInt (rd16 1) .i64 (fun n23 => V.asInt (rd16 2) .i64 (fun n24 => (den Sp decl_Print.id [V.agg [V.sl .no T_api_Pair es6, V.sl .no T_api_Pair es7, V.sl .no T_decl_Keep es8, V.sl .no T_decl_Break es9, V.sl .no T_decl_Watch es10]] [] none).bind (fun r26 => Res.onRet r26 (fun v27 => V.asTup v27 2 (fun rd28 => V.asStr (rd28 0) (fun s29 => V.asInt (rd28 1) .i64 (fun n30 => (den Sp decl_Kept.id [V.agg [V.sl .no T_api_Pair es6, V.sl .no T_api_Pair es7, V.sl .no T_decl_Keep es8, V.sl .no T_decl_Break es9, V.sl .no T_decl_Watch es10], V.int .i64 (1 : Int)] [] none).bind (fun r32 => Res.onRet r32 (fun v33 => V.asSl v33 T_gen_Keep (fun es34 => bif (n12 == (0 : Int)) then (bif ((es6.length : Int) == (1 : Int)) then (bif ((es7.length : Int) == (1 : Int)) then (bif ((es9.length : Int) == (1 : Int)) then (bif (n24 == (30 : Int)) then (bif (n23 == (7 : Int)) then (bif (n30 == (0 : Int)) then (bif (decide (s29 = (ByteArray.mk #[112, 97, 105, 114, 32, 102, 32, 103, 32, 59, 32, 115, 97, 109, 101, 32, 102, 32, 40, 32, 120, 32, 41, 32, 103, 32, 40, 32, 121, 32, 41, 32, 59, 32, 98, 114, 101, 97, 107, 32, 108, 101, 102, 116, 32, 102, 32, 50, 32, 119, 104, 101, 110, 32, 120, 32, 60, 32, 51, 32, 59]))) then (bif ((es34.length : Int) == (1 : Int)) then (if (((0 : Int) <= (0 : Int)) ∧ ((0 : Int) < (es34.length : Int))) then (V.asStr (List.getD (List.getD es34 0 []) 1 V.undef) (fun s36 => some ⟨Out.ret (V.bool (decide (s36 = (ByteArray.mk #[121])))), [], none⟩)) else none) else (some ⟨Out.ret (V.bool false), [], none⟩)) else (some ⟨Out.ret (V.bool false), [], none⟩)) else (some ⟨Out.ret (V.bool false), [], none⟩)) else (some ⟨Out.ret (V.bool false), [], none⟩)) else (some ⟨Out.ret (V.bool false), [], none⟩)) else (some ⟨Out.ret (V.bool false), [], none⟩)) else (some ⟨Out.ret (V.bool false), [], none⟩)) else (some ⟨Out.ret (V.bool false), [], none⟩)) else (some ⟨Out.ret (V.bool false), [], none⟩))))))))))))))))))))))))))))))) := (den_eq ..).trans (by kernel_rfl)
end law12_known
end Go.Proofs.YtmhnmelaodhemaaGreatDoor
namespace Go.Proofs.YtmhnmelaodhemaaGreatDoor
open Go Go.Proofs.Ab Go.Proofs.Px
theorem law12_known_is : den Sp law12_known.id [] [] none = some ⟨.ret (.bool true), [], none⟩ := by
 rw [law12_known.eq]
 simp only [kd_p1, kd_p2, kd_pr, kd_k, Option.bind_some, onRet_ret, asAgg_agg, asTup_tup, List.length_cons, List.length_nil, Nat.zero_add, Nat.reduceAdd, List.getD_cons_zero, List.getD_cons_succ, asInt_int, asStr_str, asSl_sl, asBool_bool, bne_self_eq_false, cond_false]
 rfl
inductive Ex where
 | mk (kind : Int) (name : List UInt8) (num : Int) (l : List Ex)
instance : Inhabited Ex := ⟨.mk 0 [] 0 []⟩
def Ex.kind : Ex -> Int | .mk k _ _ _ => k
def Ex.name : Ex -> List UInt8 | .mk _ n _ _ => n
def Ex.num : Ex -> Int | .mk _ _ m _ => m
def Ex.l : Ex -> List Ex | .mk _ _ _ l => l
mutual
def Ex.v : Ex -> List V
 | .mk k n m l => [.int .i64 k, .str (B n), .int .i64 m, .sl .no T_api_Expr (Ex.vs l)]
def Ex.vs : List Ex -> List (List V)
 | [] => []
 | x :: l => Ex.v x :: Ex.vs l
end
theorem Ex.vs_map : ∀ l : List Ex, Ex.vs l = l.map Ex.v
 | [] => by rw [Ex.vs]; rfl
 | x :: l => by rw [Ex.vs, Ex.vs_map l]; rfl
theorem Ex.v_mk (k : Int) (n : List UInt8) (m : Int) (l : List Ex) : Ex.v (.mk k n m l) = [.int .i64 k, .str (B n), .int .i64 m, .sl .no T_api_Expr (l.map Ex.v)] := by rw [Ex.v, Ex.vs_map]
theorem Ex.v_is (x : Ex) : x.v = [.int .i64 x.kind, .str (B x.name), .int .i64 x.num, .sl .no T_api_Expr (x.l.map Ex.v)] := by cases x; exact Ex.v_mk ..
mutual
theorem Ex.ind {p : Ex -> Prop} (h : ∀ k n m l, (∀ x ∈ l, p x) -> p (.mk k n m l)) : ∀ x, p x
 | .mk k n m l => h k n m l (Ex.inds h l)
theorem Ex.inds {p : Ex -> Prop} (h : ∀ k n m l, (∀ x ∈ l, p x) -> p (.mk k n m l)) : ∀ (l : List Ex) (x : Ex), x ∈ l -> p x
 | [] => nofun
 | y :: l => fun x hx => (List.mem_cons.1 hx).elim (fun e => e ▸ Ex.ind h y) (Ex.inds h l x)
end
inductive ExOk : Ex -> Prop where
 | mk {k : Int} {n : List UInt8} {m : Int} {l : List Ex} (hk : (Lit.int .i64 k).wf = true) (hn : n.length <= 140737488351232) (hm : (Lit.int .i64 m).wf = true) (hl : l.length <= 140737488351232) (h : ∀ x ∈ l, ExOk x) : ExOk (.mk k n m l)
theorem ExOk.inv {k : Int} {n : List UInt8} {m : Int} {l : List Ex} (h : ExOk (.mk k n m l)) : (Lit.int .i64 k).wf = true ∧ n.length <= 140737488351232 ∧ (Lit.int .i64 m).wf = true ∧ l.length <= 140737488351232 ∧ ∀ x ∈ l, ExOk x := by
 cases h with
 | mk hk hn hm hl h => exact ⟨hk, hn, hm, hl, h⟩
mutual
def Ex.size : Ex -> Nat
 | .mk _ n _ l => 1 + n.length / 8 + Ex.sizes l
def Ex.sizes : List Ex -> Nat
 | [] => 0
 | x :: l => Ex.size x + Ex.sizes l
end
theorem Ex.size_pos (x : Ex) : 0 < x.size := by cases x; rw [Ex.size]; omega
theorem Ex.size_mem : ∀ {l : List Ex} {x : Ex}, x ∈ l -> x.size <= Ex.sizes l
 | y :: l, x, h => by
  rw [Ex.sizes]
  rcases List.mem_cons.1 h with rfl | h
  ·omega
  ·have := Ex.size_mem h; omega
theorem Ex.sizes_len : ∀ l : List Ex, l.length <= Ex.sizes l
 | [] => Nat.zero_le _
 | x :: l => by rw [Ex.sizes]; have := Ex.size_pos x; have := Ex.sizes_len l; simp only [List.length_cons]; omega
theorem partTypes_st {P : Program} {t : TypeId} {ts : List TypeId} (h : partTypes P t = some ts) : ∃ fs : Array Field, P.underlying t = some (.struct fs) := by
 unfold partTypes at h
 split at h
 ·rename_i fs hf; exact ⟨fs, hf⟩
 ·cases h
theorem expr_parts : partTypes Sp.P T_api_Expr = some [3, 9, 2, 87] := by kernel_rfl
theorem exprs_el : Program.underlying Sp.P 87 = some (.slice T_api_Expr) := by kernel_rfl
theorem int_u : Program.underlying Sp.P 3 = some (.int .i64) := by kernel_rfl
theorem int64_u : Program.underlying Sp.P 2 = some (.int .i64) := by kernel_rfl
theorem str_u : Program.underlying Sp.P 9 = some .string := by kernel_rfl
theorem expr_pz : Sp.pz T_api_Expr = false := by kernel_rfl
theorem expr_in' : ∀ {t : TypeId} {cs : List V}, Fits Sp.P Sp.pz t cs -> (t = T_api_Expr -> ∃ x : Ex, cs = x.v ∧ ExOk x) ∧ (t = 87 -> ∃ l : List Ex, cs = [.sl .no T_api_Expr (l.map Ex.v)] ∧ l.length <= 140737488351232 ∧ ∀ x ∈ l, ExOk x) := by
 intro t cs h
 obtain ⟨fs0, hfs⟩ := partTypes_st expr_parts
 have no : ∀ {u}, Program.underlying Sp.P t = some u -> (∀ fs, u ≠ .struct fs) -> (∀ e, u ≠ .slice e) -> (t = T_api_Expr -> ∃ x : Ex, cs = x.v ∧ ExOk x) ∧ (t = 87 -> ∃ l : List Ex, cs = [.sl .no T_api_Expr (l.map Ex.v)] ∧ l.length <= 140737488351232 ∧ ∀ x ∈ l, ExOk x) := by
  intro u h1 h2 h3
  refine ⟨fun ht => ?_, fun ht => ?_⟩
  ·rw [ht, hfs] at h1; exact absurd (Option.some.inj h1).symm (h2 _)
  ·rw [ht, exprs_el] at h1; exact absurd (Option.some.inj h1).symm (h3 _)
 induction h with
 | int h hw e => exact no h (fun _ => nofun) (fun _ => nofun)
 | bool h e => exact no h (fun _ => nofun) (fun _ => nofun)
 | str h hw e => exact no h (fun _ => nofun) (fun _ => nofun)
 | @sl t el tok es cs h ht hl hm he e ih =>
  clear no
  refine ⟨fun h1 => ?_, fun h1 => ?_⟩
  ·rw [h1, hfs] at h; cases h
  ·subst h1
   obtain rfl : T_api_Expr = el := by rw [exprs_el] at h; injection h with h; injection h
   have hf : ∀ i, i < es.length -> ∃ x : Ex, es.getD i [] = x.v ∧ ExOk x := fun i hi => (ih i hi (fun {u} h1 h2 h3 => by rw [hfs] at h1; exact absurd (Option.some.inj h1).symm (h2 _))).1 rfl
   unfold ZTok at ht
   rw [expr_pz, if_neg (by simp)] at ht
   subst ht
   have key : ∀ es : List (List V), (∀ i, i < es.length -> ∃ x : Ex, es.getD i [] = x.v ∧ ExOk x) -> ∃ l : List Ex, es = l.map Ex.v ∧ ∀ x ∈ l, ExOk x := by
    intro es
    induction es with
    | nil => intro _; exact ⟨[], rfl, nofun⟩
    | cons a es ihe =>
     intro hq
     obtain ⟨x, hx, hxo⟩ := hq 0 (by simp)
     obtain ⟨l, hl, hlo⟩ := ihe (fun i hi => hq (i + 1) (by simpa using hi))
     refine ⟨x :: l, ?_, fun y hy => ?_⟩
     ·rw [List.map_cons, <- hl, <- hx]; rfl
     ·rcases List.mem_cons.1 hy with rfl | hy
      ·exact hxo
      ·exact hlo y hy
   obtain ⟨l, hl2, hlo⟩ := key es hf
   subst hl2
   refine ⟨l, e, ?_, hlo⟩
   rw [List.length_map] at hl
   have hb : Program.bytesOf Sp.P T_api_Expr = 56 := by kernel_rfl
   rw [hb] at hl
   omega
 | @st t fs ps cs h hl he e ih =>
  clear no
  refine ⟨fun h1 => ?_, fun h1 => ?_⟩
  ·subst h1
   have hft : fs.toList.map (·.type) = [3, 9, 2, 87] := by
    have h2 := expr_parts
    unfold partTypes at h2
    rw [h] at h2
    exact Option.some.inj h2
   have hsz : fs.size = 4 := by
    have := congrArg List.length hft
    simpa using this
   have hty : ∀ (i : Nat) (u : TypeId), [3, 9, 2, 87][i]? = some u -> ∃ f, fs[i]? = some f ∧ f.type = u := by
    intro i u hi
    rw [<- hft, List.getElem?_map] at hi
    obtain ⟨f, hf, rfl⟩ := Option.map_eq_some_iff.1 hi
    exact ⟨f, (Array.getElem?_toList ..).symm.trans hf, rfl⟩
   match ps, hl.trans hsz with
   | [a, b, c, d], _ =>
    obtain ⟨f0, hf0, ht0⟩ := hty 0 _ rfl
    obtain ⟨f1, hf1, ht1⟩ := hty 1 _ rfl
    obtain ⟨f2, hf2, ht2⟩ := hty 2 _ rfl
    obtain ⟨f3, hf3, ht3⟩ := hty 3 _ rfl
    obtain ⟨n0, h0, w0⟩ := fits_int (k := .i64) int_u (ht0 ▸ he 0 f0 hf0)
    obtain ⟨s, h1, w1⟩ := fits_str str_u (ht1 ▸ he 1 f1 hf1)
    obtain ⟨n2, h2, w2⟩ := fits_int (k := .i64) int64_u (ht2 ▸ he 2 f2 hf2)
    obtain ⟨l, h3, w3, w4⟩ := (ih 3 f3 hf3 (fun {u} h1 h2 h3 => by rw [ht3, exprs_el] at h1; exact absurd (Option.some.inj h1).symm (h3 _))).2 ht3
    have h0' : a = _ := h0
    have h1' : b = _ := h1
    have h2' : c = _ := h2
    have h3' : d = _ := h3
    refine ⟨.mk n0 s n2 l, ?_, .mk w0 w1 w2 w3 w4⟩
    rw [e, Ex.v_mk, h0', h1', h2', h3']
    rfl
  ·rw [h1, exprs_el] at h; cases h
@[simp] theorem Ex.v_0 (x : Ex) : x.v.getD 0 .undef = .int .i64 x.kind := by rw [Ex.v_is]; rfl
@[simp] theorem Ex.v_1 (x : Ex) : x.v.getD 1 .undef = .str (B x.name) := by rw [Ex.v_is]; rfl
@[simp] theorem Ex.v_2 (x : Ex) : x.v.getD 2 .undef = .int .i64 x.num := by rw [Ex.v_is]; rfl
@[simp] theorem Ex.v_3 (x : Ex) : x.v.getD 3 .undef = .sl .no T_api_Expr (x.l.map Ex.v) := by rw [Ex.v_is]; rfl
theorem Ex.v_agg (x : Ex) : V.agg [.int .i64 x.kind, .str (B x.name), .int .i64 x.num, .sl .no T_api_Expr (x.l.map Ex.v)] = .agg x.v := by rw [Ex.v_is]
@[simp] theorem Ex.kind_mk (k : Int) (s : List UInt8) (m : Int) (l : List Ex) : (Ex.mk k s m l).kind = k := rfl
@[simp] theorem Ex.name_mk (k : Int) (s : List UInt8) (m : Int) (l : List Ex) : (Ex.mk k s m l).name = s := rfl
@[simp] theorem Ex.num_mk (k : Int) (s : List UInt8) (m : Int) (l : List Ex) : (Ex.mk k s m l).num = m := rfl
@[simp] theorem Ex.l_mk (k : Int) (s : List UInt8) (m : Int) (l : List Ex) : (Ex.mk k s m l).l = l := rfl
@[simp] theorem Ex.v_list (x : Ex) : [V.int .i64 x.kind, V.str (B x.name), V.int .i64 x.num, V.sl .no T_api_Expr (x.l.map Ex.v)] = x.v := by rw [Ex.v_is]
@[simp] theorem asAgg_ex (x : Ex) (k : (Nat -> V) -> Option Res) : V.asAgg (.agg x.v) 4 k = k (fun j => x.v.getD j .undef) := asAgg_agg _ _ (by rw [Ex.v_is]; rfl) k
@[simp] theorem Ex.q0 (x : Ex) : x.v[0]?.getD V.undef = .int .i64 x.kind := by rw [Ex.v_is]; rfl
@[simp] theorem Ex.q1 (x : Ex) : x.v[1]?.getD V.undef = .str (B x.name) := by rw [Ex.v_is]; rfl
@[simp] theorem Ex.q2 (x : Ex) : x.v[2]?.getD V.undef = .int .i64 x.num := by rw [Ex.v_is]; rfl
@[simp] theorem Ex.q3 (x : Ex) : x.v[3]?.getD V.undef = .sl .no T_api_Expr (x.l.map Ex.v) := by rw [Ex.v_is]; rfl
end Go.Proofs.YtmhnmelaodhemaaGreatDoor
namespace Go.Proofs.Px
open Go Go.Proofs.Ab
def lt (c : UInt8) : Bool := letter (c.toNat : Int)
def dg (c : UInt8) : Bool := digit (c.toNat : Int)
def inn (c : UInt8) : Bool := inner (c.toNat : Int)
def sk : Bool -> List UInt8 -> List UInt8
 | _, [] => []
 | rm, c :: r => if c = 10 then sk false r else if rm then sk true r else if c = 32 then sk false r else if c = 35 then sk true r else c :: r
theorem sk_le : ∀ (rm : Bool) (l : List UInt8), (sk rm l).length <= l.length
 | _, [] => Nat.le_refl _
 | rm, c :: r => by
  have h1 := sk_le false r
  have h2 := sk_le true r
  unfold sk
  split
  ·simp; omega
  ·split
   ·simp; omega
   ·split
    ·simp; omega
    ·split
     ·simp; omega
     ·simp
theorem sk_drop : ∀ (rm : Bool) (l : List UInt8), sk rm l = l.drop (l.length - (sk rm l).length)
 | _, [] => rfl
 | rm, c :: r => by
  have key : ∀ rm', sk rm' r = (c :: r).drop ((c :: r).length - (sk rm' r).length) := fun rm' => by
   have h1 := sk_le rm' r
   have h2 := sk_drop rm' r
   rw [show (c :: r).length - (sk rm' r).length = (r.length - (sk rm' r).length) + 1 by simp; omega, List.drop_succ_cons, <- h2]
  unfold sk
  split
  ·exact key false
  ·split
   ·exact key true
   ·split
    ·exact key false
    ·split
     ·exact key true
     ·simp
def word (l : List UInt8) : List UInt8 := l.takeWhile inn
def signs : List (List UInt8) := [[61, 61], [33, 61], [60, 61], [38, 38], [124, 124], [40], [41], [123], [125], [91], [93], [44], [59], [61], [60], [33], [43], [45], [42], [47], [37]]
def signIn (l : List UInt8) : List (List UInt8) -> List UInt8
 | [] => []
 | x :: r => if l.take x.length = x then x else signIn l r
def sign (l : List UInt8) : List UInt8 := signIn l signs
def valF (u : Nat) : List UInt8 -> Nat
 | [] => u
 | c :: r => valF (u * 10 + (c.toNat - 48)) r
def parseGo (u : Nat) : List UInt8 -> Int × Int
 | [] => if u = 9223372036854775808 then (0, 10) else ((u : Int), 0)
 | c :: r => if dg c ∧ u * 10 + (c.toNat - 48) <= 9223372036854775808 then parseGo (u * 10 + (c.toNat - 48)) r else (0, 10)
def parse (w : List UInt8) : Int × Int := if w.getD 0 0 ≠ 48 ∨ w.length = 1 then parseGo 0 w else (0, 10)
structure Tk where
 kind : Int
 text : List UInt8
 num : Int
 at_ : Int
def Tk.v (t : Tk) : List V := [.int .i64 t.kind, .str (B t.text), .int .i64 t.num, .int .i64 t.at_]
def keysL : List (List UInt8) := [[112, 114, 111, 99], [118, 97, 114], [105, 102], [101, 108, 115, 101], [119, 104, 105, 108, 101], [114, 101, 116, 117, 114, 110], [112, 114, 105, 110, 116], [114, 101, 97, 100], [97, 115, 115, 101, 114, 116], [105, 110, 116], [98, 111, 111, 108], [116, 114, 117, 101], [102, 97, 108, 115, 101]]
theorem isKey_B (l : List UInt8) : isKey (B l) = keysL.any fun k => decide (k = l) := by
 have : keys = keysL.map B := rfl
 unfold isKey isIn
 rw [this, List.any_map]
 congr 1
 funext k
 exact B_dec k l
def isKeyL (l : List UInt8) : Bool := keysL.any fun k => decide (k = l)
def next (r : List UInt8) (at_ : Int) : Tk × Nat × Bool :=
 match r with
 | [] => (⟨0, [], 0, at_⟩, 0, true)
 | c :: _ =>
  if lt c then (⟨if isKeyL (word r) then 3 else 1, word r, 0, at_⟩, (word r).length, decide ((word r).length <= 40))
  else if dg c then (⟨2, [], (parse (word r)).1, at_⟩, (word r).length, decide ((parse (word r)).2 = 0))
  else (⟨4, sign r, 0, at_⟩, (sign r).length, !decide (sign r = []))
def scanGo : Nat -> Nat -> List Tk -> List UInt8 -> List Tk × Int × Int
 | 0, _, _, _ => ([], 0, 0)
 | f + 1, n, out, r =>
  let r1 := sk false r
  let a : Int := ((n - r1.length : Nat) : Int)
  let x := next r1 a
  if x.2.2 = false then ([], a, 20) else if out.length = 4000 then ([], a, 2) else if x.1.kind = 0 then (out ++ [x.1], 0, 0) else scanGo f n (out ++ [x.1]) (r1.drop x.2.1)
theorem scanGo_succ (f n : Nat) (out : List Tk) (r : List UInt8) : scanGo (f + 1) n out r =
  if (next (sk false r) ((n - (sk false r).length : Nat) : Int)).2.2 = false then ([], ((n - (sk false r).length : Nat) : Int), 20) else if out.length = 4000 then ([], ((n - (sk false r).length : Nat) : Int), 2) else
   if (next (sk false r) ((n - (sk false r).length : Nat) : Int)).1.kind = 0 then (out ++ [(next (sk false r) ((n - (sk false r).length : Nat) : Int)).1], 0, 0) else
    scanGo f n (out ++ [(next (sk false r) ((n - (sk false r).length : Nat) : Int)).1]) ((sk false r).drop (next (sk false r) ((n - (sk false r).length : Nat) : Int)).2.1) := rfl
def scan (l : List UInt8) : List Tk × Int × Int := if l.length > 16384 then ([], 0, 2) else scanGo (l.length + 1) l.length [] l
theorem i64_bounds {n : Int} (h : (Lit.int .i64 n).wf = true) : -9223372036854775808 <= n ∧ n <= 9223372036854775807 := by
 simpa [Lit.wf, IntKind.min, IntKind.max, IntKind.signed, IntKind.bits] using h
structure TkOk (t : Tk) : Prop where
 text : t.text.length <= 140737488351232
 kind : (Lit.int .i64 t.kind).wf = true
 num : (Lit.int .i64 t.num).wf = true
 at_ : (Lit.int .i64 t.at_).wf = true
def isSign (l : List UInt8) : Bool := signs.contains l
theorem signIn_or (r : List UInt8) : ∀ l, signIn r l = [] ∨ signIn r l ∈ l
 | [] => .inl rfl
 | x :: l => by
  unfold signIn
  split
  ·exact .inr List.mem_cons_self
  ·exact (signIn_or r l).imp id (List.mem_cons_of_mem _)
theorem sign_self (l : List UInt8) : (!decide (l = []) && decide (sign l = l)) = isSign l := by
 have h1 : signs.all (fun x => !decide (x = []) && decide (sign x = x)) = true := by decide
 by_cases h : l ∈ signs
 ·rw [List.all_eq_true.1 h1 l h]
  exact (List.contains_iff_mem.2 h).symm
 ·have h2 : isSign l = false := by
   unfold isSign
   rw [<- Bool.not_eq_true, List.contains_iff_mem]; exact h
  rw [h2]
  by_cases h3 : l = []
  ·rw [decide_eq_true h3]; rfl
  ·by_cases h4 : sign l = l
   ·rcases signIn_or l signs with h5 | h5
    ·exact absurd (h4.symm.trans h5) h3
    ·unfold sign at h4
     rw [h4] at h5
     exact absurd h5 h
   ·rw [decide_eq_false h4, Bool.and_false]
theorem word_all : ∀ {l : List UInt8} (h : ∀ c ∈ l, inn c = true), word l = l
 | [], _ => rfl
 | c :: l, h => by
  have := word_all (l := l) fun d hd => h d (List.mem_cons_of_mem _ hd)
  unfold word at *
  rw [List.takeWhile_cons, h c List.mem_cons_self, if_pos rfl, this]
theorem name_facts {l : List UInt8} (h : isName (B l) = true) : l ≠ [] ∧ l.length <= 40 ∧ lt (l.getD 0 0) = true ∧ isKeyL l = false ∧ word l = l := by
 unfold isName at h
 simp only [Bool.and_eq_true, decide_eq_true_eq, Bool.not_eq_true', B_size, B_byte] at h
 obtain ⟨⟨⟨⟨h1, h2⟩, h3⟩, h4⟩, h5⟩ := h
 refine ⟨fun h0 => (by subst h0; simp at h1), h2, h3, (isKey_B l).symm.trans h4, word_all fun c hc => ?_⟩
 obtain ⟨i, hi, rfl⟩ := List.getElem_of_mem hc
 have := allF_iff.1 h5 i (Nat.zero_le _) hi
 rw [List.getD_eq_getElem?_getD, List.getElem?_eq_getElem hi] at this
 exact this
theorem key_facts {l : List UInt8} (h : isKeyL l = true) : l ≠ [] ∧ l.length <= 40 ∧ lt (l.getD 0 0) = true ∧ word l = l := by
 have h1 : keysL.all (fun x => !decide (x = []) && decide (x.length <= 40) && lt (x.getD 0 0) && decide (word x = x)) = true := by decide
 unfold isKeyL at h
 obtain ⟨k, hk, h2⟩ := List.any_eq_true.1 h
 obtain rfl := of_decide_eq_true h2
 have := List.all_eq_true.1 h1 k hk
 simp only [Bool.and_eq_true, decide_eq_true_eq, Bool.not_eq_true', decide_eq_false_iff_not] at this
 exact ⟨this.1.1.1, this.1.1.2, this.1.2, this.2⟩
def wrOk (t : Tk) : Bool :=
 if t.kind = 1 then decide (t.num = 0) && isName (B t.text) else if t.kind = 3 then decide (t.num = 0) && isKeyL t.text else
  if t.kind = 4 then decide (t.num = 0) && isSign t.text else if t.kind = 2 then decide (t.text = []) && decide (0 <= t.num) else false
def wrT (t : Tk) : List UInt8 := if t.kind = 2 then decs t.num else t.text
def endT (t : Tk) : Bool := decide (t.kind = 0) && decide (t.text = []) && decide (t.num = 0)
def rightL : List Tk -> Bool
 | [] => false
 | [t] => endT t
 | t :: u :: l => wrOk t && rightL (u :: l)
def joinL : List (List UInt8) -> List UInt8
 | [] => []
 | [w] => w
 | w :: v :: l => w ++ (32 :: joinL (v :: l))
def bit (x i : Nat) : Nat := x / 2 ^ i % 2
theorem bit_lt (x i : Nat) : bit x i < 2 := Nat.mod_lt _ (by omega)
def bitsTo (x k : Nat) : List (List V) := (List.range k).map fun i => [.int .i64 ((bit x i : Nat) : Int)]
def bitRow (x : Nat) : List (List V) := bitsTo x 64
theorem bitsTo_len (x k : Nat) : (bitsTo x k).length = k := by simp [bitsTo]
theorem bitsTo_succ (x k : Nat) : bitsTo x (k + 1) = bitsTo x k ++ [[.int .i64 ((bit x k : Nat) : Int)]] := by simp [bitsTo, List.range_succ]
theorem bits_at {x i : Nat} (h : i < 64) : List.getD (List.getD (bitRow x) i []) 0 V.undef = .int .i64 ((bit x i : Nat) : Int) := by
 unfold bitRow bitsTo
 rw [List.getD_eq_getElem?_getD (l := List.map _ _), List.getElem?_map, List.getElem?_range h]; rfl
theorem bit_decide (x i : Nat) : x.testBit i = decide (bit x i = 1) := Nat.testBit_eq_decide_div_mod_eq
theorem bit_ext {x y i : Nat} (h : x.testBit i = y.testBit i) : bit x i = bit y i := by
 rw [bit_decide, bit_decide] at h
 have h1 := bit_lt x i
 have h2 := bit_lt y i
 by_cases h3 : bit x i = 1 <;> by_cases h4 : bit y i = 1 <;> simp [h3, h4] at h <;> omega
theorem bits_mod (x : Nat) : bitRow (x % 2 ^ 64) = bitRow x := by
 unfold bitRow bitsTo
 refine List.map_congr_left fun i hi => ?_
 have hi' := List.mem_range.1 hi
 rw [bit_ext (x := x % 2 ^ 64) (y := x) (i := i) (by rw [Nat.testBit_mod_two_pow]; simp [hi'])]
theorem bit_other {x i : Nat} (h : x < 2 ^ 64) (hi : i < 64) : bit (2 ^ 64 - (x + 1)) i = 1 - bit x i := by
 have h1 := Nat.testBit_two_pow_sub_succ h i
 rw [bit_decide, bit_decide] at h1
 have h2 := bit_lt (2 ^ 64 - (x + 1)) i
 have h3 := bit_lt x i
 simp only [hi, decide_true, Bool.true_and] at h1
 by_cases h4 : bit x i = 1
 ·rw [decide_eq_true h4, Bool.not_true, decide_eq_false_iff_not] at h1
  omega
 ·rw [decide_eq_false h4, Bool.not_false, decide_eq_true_eq] at h1
  omega
theorem half (x i : Nat) : x / 2 ^ i = 2 * (x / 2 ^ (i + 1)) + bit x i := by
 unfold bit
 rw [Nat.pow_succ, <- Nat.div_div_eq_div_mul]
 omega
theorem low (x i : Nat) : x % 2 ^ (i + 1) = x % 2 ^ i + 2 ^ i * bit x i := by
 unfold bit
 rw [Nat.pow_succ, Nat.mod_mul]
def carry (a b c i : Nat) : Nat := (a % 2 ^ i + b % 2 ^ i + c) / 2 ^ i
theorem carry_zero (a b c : Nat) : carry a b c 0 = c := by simp [carry, Nat.mod_one]
theorem carry_succ (a b c i : Nat) : carry a b c (i + 1) = (bit a i + bit b i + carry a b c i) / 2 := by
 have hp : 0 < 2 ^ i := Nat.two_pow_pos i
 unfold carry
 rw [low a i, low b i, Nat.pow_succ, <- Nat.div_div_eq_div_mul]
 have : a % 2 ^ i + 2 ^ i * bit a i + (b % 2 ^ i + 2 ^ i * bit b i) + c = (a % 2 ^ i + b % 2 ^ i + c) + 2 ^ i * (bit a i + bit b i) := by
  rw [Nat.mul_add]; omega
 rw [this, Nat.add_mul_div_left _ _ hp]
 congr 1; omega
theorem carry_bit (a b c i : Nat) : bit (a + b + c) i = (bit a i + bit b i + carry a b c i) % 2 := by
 have hp : 0 < 2 ^ i := Nat.two_pow_pos i
 have h1 : a + b + c = (a % 2 ^ i + b % 2 ^ i + c) + 2 ^ i * (a / 2 ^ i + b / 2 ^ i) := by
  have := Nat.mod_add_div a (2 ^ i)
  have := Nat.mod_add_div b (2 ^ i)
  rw [Nat.mul_add]; omega
 unfold bit carry
 rw [h1, Nat.add_mul_div_left _ _ hp]
 omega
theorem carry_lt {a b c i : Nat} (hc : c <= 1) : carry a b c i <= 1 := by
 have hp : 0 < 2 ^ i := Nat.two_pow_pos i
 unfold carry
 have h1 := Nat.mod_lt a hp
 have h2 := Nat.mod_lt b hp
 have : (a % 2 ^ i + b % 2 ^ i + c) / 2 ^ i < 2 := by
  rw [Nat.div_lt_iff_lt_mul hp]; omega
 omega
end Go.Proofs.Px
namespace Go.Proofs.YtmhnmelaodhemaaGreatDoor
open Go Go.Proofs.Ab
namespace lex_letter
theorem eq (a0 : Int) : den Sp id [V.int IntKind.u8 a0] [] none =
  (bif (decide (a0 >= (65 : Int))) then (bif (decide (a0 <= (90 : Int))) then (some ⟨Out.ret (V.bool true), [], none⟩) else (bif (decide (a0 >= (97 : Int))) then (some ⟨Out.ret (V.bool (decide (a0 <= (122 : Int)))), [], none⟩) else (some ⟨Out.ret (V.bool false), [], none⟩))) else (bif (decide (a0 >= (97 : Int))) then (some ⟨Out.ret (V.bool (decide (a0 <= (122 : Int)))), [], none⟩) else (some ⟨Out.ret (V.bool false), [], none⟩))) := (den_eq ..).trans (by kernel_rfl)
end lex_letter
namespace lex_digit
theorem eq (a0 : Int) : den Sp id [V.int IntKind.u8 a0] [] none =
  (bif (decide (a0 >= (48 : Int))) then (some ⟨Out.ret (V.bool (decide (a0 <= (57 : Int)))), [], none⟩) else (some ⟨Out.ret (V.bool false), [], none⟩)) := (den_eq ..).trans (by kernel_rfl)
end lex_digit
namespace lex_inner
theorem eq (a0 : Int) : den Sp id [V.int IntKind.u8 a0] [] none =
  (den Sp lex_letter.id [V.int IntKind.u8 a0] [] none).bind (fun r3 => Res.onRet r3 (fun v4 => V.asBool v4 (fun b5 => bif b5 then (some ⟨Out.ret (V.bool true), [], none⟩) else (den Sp lex_digit.id [V.int IntKind.u8 a0] [] none).bind (fun r6 => Res.onRet r6 (fun v7 => V.asBool v7 (fun b8 => bif b8 then (some ⟨Out.ret (V.bool true), [], none⟩) else (some ⟨Out.ret (V.bool (a0 == (95 : Int))), [], none⟩))))))) := (den_eq ..).trans (by kernel_rfl)
end lex_inner
namespace lex_isKey
noncomputable abbrev e (p : List Nat) := ev Sp (den Sp) id Tryz.f104.ntmps (cAt (bodyOf Tryz.f104) p)
noncomputable abbrev cn (n0 : List Nat) := canon Sp id n0
noncomputable abbrev K : K := kFin Sp (den Sp) Tryz.f104 0
noncomputable def L1_0_1_0 (s0 : ByteArray) (i1 : Int) : Option Res := LP (e [1, 0, 1, 0, 0]) (cn []) (kBlk 0 (kSeq (e [1, 1]) (K))) ([(0, (V.str s0)), (5, (V.agg [V.str (ByteArray.mk #[112, 114, 111, 99]), V.str (ByteArray.mk #[118, 97, 114]), V.str (ByteArray.mk #[105, 102]), V.str (ByteArray.mk #[101, 108, 115, 101]), V.str (ByteArray.mk #[119, 104, 105, 108, 101]), V.str (ByteArray.mk #[114, 101, 116, 117, 114, 110]), V.str (ByteArray.mk #[112, 114, 105, 110, 116]), V.str (ByteArray.mk #[114, 101, 97, 100]), V.str (ByteArray.mk #[97, 115, 115, 101, 114, 116]), V.str (ByteArray.mk #[105, 110, 116]), V.str (ByteArray.mk #[98, 111, 111, 108]), V.str (ByteArray.mk #[116, 114, 117, 101]), V.str (ByteArray.mk #[102, 97, 108, 115, 101])])), (6, (V.int .i64 i1))], ⟨[], [], [], [], none⟩)
theorem L1_0_1_0_eq (s0 : ByteArray) (i1 : Int) : L1_0_1_0 s0 i1 =
  (bif (decide (i1 < (13 : Int))) then (if (((0 : Int) <= i1) ∧ (i1 < ((13 : Nat) : Int))) then (V.asStr (List.getD [V.str (ByteArray.mk #[112, 114, 111, 99]), V.str (ByteArray.mk #[118, 97, 114]), V.str (ByteArray.mk #[105, 102]), V.str (ByteArray.mk #[101, 108, 115, 101]), V.str (ByteArray.mk #[119, 104, 105, 108, 101]), V.str (ByteArray.mk #[114, 101, 116, 117, 114, 110]), V.str (ByteArray.mk #[112, 114, 105, 110, 116]), V.str (ByteArray.mk #[114, 101, 97, 100]), V.str (ByteArray.mk #[97, 115, 115, 101, 114, 116]), V.str (ByteArray.mk #[105, 110, 116]), V.str (ByteArray.mk #[98, 111, 111, 108]), V.str (ByteArray.mk #[116, 114, 117, 101]), V.str (ByteArray.mk #[102, 97, 108, 115, 101])] (((Int.toNat i1) * 1) + 0) V.undef) (fun s7 => bif (decide (s0 = s7)) then (some ⟨Out.ret (V.bool true), [], none⟩) else (L1_0_1_0 s0 (IntKind.wrap .i64 (i1 + (1 : Int)))))) else none) else (some ⟨Out.ret (V.bool false), [], none⟩)) := (LP_eq ..).trans (by kernel_rfl)
theorem eq (a0 : ByteArray) : den Sp id [V.str a0] [] none =
  (L1_0_1_0 a0 (0 : Int)) := (den_eq ..).trans (by kernel_rfl)
end lex_isKey
namespace lex_IsName
noncomputable abbrev e (p : List Nat) := ev Sp (den Sp) id Tryz.f60.ntmps (cAt (bodyOf Tryz.f60) p)
noncomputable abbrev cn (n0 : List Nat) := canon Sp id n0
noncomputable abbrev K : K := kFin Sp (den Sp) Tryz.f60 0
noncomputable def L1_1_0_1_0 (s0 : ByteArray) (i1 i2 : Int) : Option Res := LP (e [1, 1, 0, 1, 0, 0]) (cn []) (kBlk 0 (kSeq (e [1, 1, 1]) (K))) ([(0, (V.str s0)), (22, (V.int .i64 i1)), (23, (V.int .i64 i2))], ⟨[], [], [], [], none⟩)
theorem L1_1_0_1_0_eq (s0 : ByteArray) (i1 i2 : Int) : L1_1_0_1_0 s0 i1 i2 =
  (bif (decide (i2 < i1)) then (if (((0 : Int) <= i2) ∧ (i2 < (((ByteArray.size s0) : Nat) : Int))) then (den Sp lex_inner.id [V.int IntKind.u8 (byteAt s0 (Int.toNat i2))] [] none).bind (fun r16 => Res.onRet r16 (fun v17 => V.asBool v17 (fun b18 => bif (!b18) then (some ⟨Out.ret (V.bool false), [], none⟩) else (L1_1_0_1_0 s0 i1 (IntKind.wrap .i64 (i2 + (1 : Int))))))) else none) else (some ⟨Out.ret (V.bool true), [], none⟩)) := (LP_eq ..).trans (by kernel_rfl)
theorem eq (a0 : ByteArray) : den Sp id [V.str a0] [] none =
  (bif (decide (a0 = (ByteArray.mk #[]))) then (some ⟨Out.ret (V.bool false), [], none⟩) else (bif (decide ((((ByteArray.size a0) : Nat) : Int) > (40 : Int))) then (some ⟨Out.ret (V.bool false), [], none⟩) else (if (((0 : Int) <= (0 : Int)) ∧ ((0 : Int) < (((ByteArray.size a0) : Nat) : Int))) then (den Sp lex_letter.id [V.int IntKind.u8 (byteAt a0 0)] [] none).bind (fun r3 => Res.onRet r3 (fun v4 => V.asBool v4 (fun b5 => bif (!b5) then (some ⟨Out.ret (V.bool false), [], none⟩) else (den Sp lex_isKey.id [V.str a0] [] none).bind (fun r6 => Res.onRet r6 (fun v7 => V.asBool v7 (fun b8 => bif b8 then (some ⟨Out.ret (V.bool false), [], none⟩) else (L1_1_0_1_0 a0 (((ByteArray.size a0) : Nat) : Int) (0 : Int)))))))) else none))) := (den_eq ..).trans (by kernel_rfl)
end lex_IsName
namespace ref02_between
theorem eq (a0 a1 a2 : Int) : den Sp id [V.int IntKind.u8 a0, V.int IntKind.u8 a1, V.int IntKind.u8 a2] [] none =
  (bif (decide (a0 >= a1)) then (some ⟨Out.ret (V.bool (decide (a0 <= a2))), [], none⟩) else (some ⟨Out.ret (V.bool false), [], none⟩)) := (den_eq ..).trans (by kernel_rfl)
end ref02_between
namespace ref02_letter
theorem eq (a0 : Int) : den Sp id [V.int IntKind.u8 a0] [] none =
  (den Sp ref02_between.id [V.int IntKind.u8 a0, V.int IntKind.u8 (65 : Int), V.int IntKind.u8 (90 : Int)] [] none).bind (fun r3 => Res.onRet r3 (fun v4 => V.asBool v4 (fun b5 => bif b5 then (some ⟨Out.ret (V.bool true), [], none⟩) else (den Sp ref02_between.id [V.int IntKind.u8 a0, V.int IntKind.u8 (97 : Int), V.int IntKind.u8 (122 : Int)] [] none).bind (fun r6 => Res.onRet r6 (fun v7 => V.asBool v7 (fun b8 => some ⟨Out.ret (V.bool b8), [], none⟩)))))) := (den_eq ..).trans (by kernel_rfl)
end ref02_letter
namespace ref02_digit
theorem eq (a0 : Int) : den Sp id [V.int IntKind.u8 a0] [] none =
  (den Sp ref02_between.id [V.int IntKind.u8 a0, V.int IntKind.u8 (48 : Int), V.int IntKind.u8 (57 : Int)] [] none).bind (fun r3 => Res.onRet r3 (fun v4 => V.asBool v4 (fun b5 => some ⟨Out.ret (V.bool b5), [], none⟩))) := (den_eq ..).trans (by kernel_rfl)
end ref02_digit
namespace ref02_inner
theorem eq (a0 : Int) : den Sp id [V.int IntKind.u8 a0] [] none =
  (den Sp ref02_letter.id [V.int IntKind.u8 a0] [] none).bind (fun r3 => Res.onRet r3 (fun v4 => V.asBool v4 (fun b5 => bif b5 then (some ⟨Out.ret (V.bool true), [], none⟩) else (den Sp ref02_digit.id [V.int IntKind.u8 a0] [] none).bind (fun r6 => Res.onRet r6 (fun v7 => V.asBool v7 (fun b8 => bif b8 then (some ⟨Out.ret (V.bool true), [], none⟩) else (some ⟨Out.ret (V.bool (a0 == (95 : Int))), [], none⟩))))))) := (den_eq ..).trans (by kernel_rfl)
end ref02_inner
namespace ref02_Keys
theorem eq : den Sp id [] [] none =
  (some ⟨Out.ret (V.sl .no T_string [[V.str (ByteArray.mk #[112, 114, 111, 99])], [V.str (ByteArray.mk #[118, 97, 114])], [V.str (ByteArray.mk #[105, 102])], [V.str (ByteArray.mk #[101, 108, 115, 101])], [V.str (ByteArray.mk #[119, 104, 105, 108, 101])], [V.str (ByteArray.mk #[114, 101, 116, 117, 114, 110])], [V.str (ByteArray.mk #[112, 114, 105, 110, 116])], [V.str (ByteArray.mk #[114, 101, 97, 100])], [V.str (ByteArray.mk #[97, 115, 115, 101, 114, 116])], [V.str (ByteArray.mk #[105, 110, 116])], [V.str (ByteArray.mk #[98, 111, 111, 108])], [V.str (ByteArray.mk #[116, 114, 117, 101])], [V.str (ByteArray.mk #[102, 97, 108, 115, 101])]]), [], none⟩) := (den_eq ..).trans (by kernel_rfl)
end ref02_Keys
namespace ref02_in
noncomputable abbrev e (p : List Nat) := ev Sp (den Sp) id Tryz.f116.ntmps (cAt (bodyOf Tryz.f116) p)
noncomputable abbrev cn (n0 : List Nat) := canon Sp id n0
noncomputable abbrev K : K := kFin Sp (den Sp) Tryz.f116 0
noncomputable def L1_0_1_0 (s0 : ByteArray) (l1 : List (List V)) (i2 : Int) : Option Res := LP (e [1, 0, 1, 0, 0]) (cn []) (kBlk 0 (kSeq (e [1, 1]) (K))) ([(0, (V.str s0)), (1, (V.sl .no T_string l1)), (5, (V.int .i64 i2))], ⟨[], [], [], [], none⟩)
theorem L1_0_1_0_eq (s0 : ByteArray) (l1 : List (List V)) (i2 : Int) : L1_0_1_0 s0 l1 i2 =
  (bif (decide (i2 < (l1.length : Int))) then (if (((0 : Int) <= i2) ∧ (i2 < (l1.length : Int))) then (V.asStr (List.getD (List.getD l1 (Int.toNat i2) []) 0 V.undef) (fun s9 => bif (decide (s9 = s0)) then (some ⟨Out.ret (V.bool true), [], none⟩) else (L1_0_1_0 s0 l1 (IntKind.wrap .i64 (i2 + (1 : Int)))))) else none) else (some ⟨Out.ret (V.bool false), [], none⟩)) := (LP_eq ..).trans (by kernel_rfl)
theorem eq (a0 : ByteArray) (a1 : List (List V)) : den Sp id [V.str a0, V.sl .no T_string a1] [] none =
  (L1_0_1_0 a0 a1 (0 : Int)) := (den_eq ..).trans (by kernel_rfl)
end ref02_in
namespace ref02_IsName
noncomputable abbrev e (p : List Nat) := ev Sp (den Sp) id Tryz.f69.ntmps (cAt (bodyOf Tryz.f69) p)
noncomputable abbrev cn (n0 : List Nat) := canon Sp id n0
noncomputable abbrev K : K := kFin Sp (den Sp) Tryz.f69 0
noncomputable def L1_0_1_0 (s0 : ByteArray) (i1 : Int) : Option Res := LP (e [1, 0, 1, 0, 0]) (cn []) (kBlk 0 (kSeq (e [1, 1]) (K))) ([(0, (V.str s0)), (3, (V.int .i64 i1))], ⟨[], [], [], [], none⟩)
theorem L1_0_1_0_eq (s0 : ByteArray) (i1 : Int) : L1_0_1_0 s0 i1 =
  (bif (decide (i1 < (((ByteArray.size s0) : Nat) : Int))) then (if (((0 : Int) <= i1) ∧ (i1 < (((ByteArray.size s0) : Nat) : Int))) then (den Sp ref02_inner.id [V.int IntKind.u8 (byteAt s0 (Int.toNat i1))] [] none).bind (fun r7 => Res.onRet r7 (fun v8 => V.asBool v8 (fun b9 => bif (!b9) then (some ⟨Out.ret (V.bool false), [], none⟩) else (L1_0_1_0 s0 (IntKind.wrap .i64 (i1 + (1 : Int))))))) else none) else (bif (decide ((((ByteArray.size s0) : Nat) : Int) > (0 : Int))) then (bif (decide ((((ByteArray.size s0) : Nat) : Int) <= (40 : Int))) then (if (((0 : Int) <= (0 : Int)) ∧ ((0 : Int) < (((ByteArray.size s0) : Nat) : Int))) then (den Sp ref02_letter.id [V.int IntKind.u8 (byteAt s0 0)] [] none).bind (fun r7 => Res.onRet r7 (fun v8 => V.asBool v8 (fun b9 => bif b9 then (den Sp ref02_Keys.id [] [] none).bind (fun r10 => Res.onRet r10 (fun v11 => V.asSl v11 T_string (fun es12 => (den Sp ref02_in.id [V.str s0, V.sl .no T_string es12] [] none).bind (fun r13 => Res.onRet r13 (fun v14 => V.asBool v14 (fun b15 => some ⟨Out.ret (V.bool (!b15)), [], none⟩)))))) else (some ⟨Out.ret (V.bool false), [], none⟩)))) else none) else (some ⟨Out.ret (V.bool false), [], none⟩)) else (some ⟨Out.ret (V.bool false), [], none⟩))) := (LP_eq ..).trans (by kernel_rfl)
theorem eq (a0 : ByteArray) : den Sp id [V.str a0] [] none =
  (L1_0_1_0 a0 (0 : Int)) := (den_eq ..).trans (by kernel_rfl)
end ref02_IsName
namespace ref01_Bits
noncomputable abbrev e (p : List Nat) := ev Sp (den Sp) id Tryz.f174.ntmps (cAt (bodyOf Tryz.f174) p)
noncomputable abbrev cn (n0 : List Nat) := canon Sp id n0
noncomputable abbrev K : K := kFin Sp (den Sp) Tryz.f174 0
noncomputable def L1_1_0_1_0 (i0 : Int) (l1 : List (List V)) (i2 : Int) : Option Res := LP (e [1, 1, 0, 1, 0, 0]) (cn []) (kBlk 0 (kSeq (e [1, 1, 1]) (K))) ([(0, (V.int .i64 i0)), (3, (V.sl (Tok.row 0) T_int l1)), (4, (V.int .i64 i2))], ⟨[], [0], [], [], none⟩)
theorem L1_1_0_1_0_eq (i0 : Int) (l1 : List (List V)) (i2 : Int) : L1_1_0_1_0 i0 l1 i2 =
  (bif (decide (i2 < (64 : Int))) then (if ((IntKind.wrap IntKind.u64 i2) < (0 : Int)) then none else (if (((List.length l1) + (List.length [[V.int .i64 (IntKind.wrap .i64 (Int.tmod (Int.fdiv (IntKind.wrap IntKind.u64 i0) ((2 : Int) ^ (Min.min (Int.toNat (IntKind.wrap IntKind.u64 i2)) 64))) (2 : Int)))]])) <= most) then (L1_1_0_1_0 i0 (l1 ++ [[V.int .i64 (IntKind.wrap .i64 (Int.tmod (Int.fdiv (IntKind.wrap IntKind.u64 i0) ((2 : Int) ^ (Min.min (Int.toNat (IntKind.wrap IntKind.u64 i2)) 64))) (2 : Int)))]]) (IntKind.wrap .i64 (i2 + (1 : Int)))) else none)) else (some ⟨Out.ret (V.sl .no T_int l1), [], none⟩)) := (LP_eq ..).trans (by kernel_rfl)
theorem eq (a0 : Int) : den Sp id [V.int .i64 a0] [] none =
  (L1_1_0_1_0 a0 [] (0 : Int)) := (den_eq ..).trans (by kernel_rfl)
end ref01_Bits
namespace ref01_number
noncomputable abbrev e (p : List Nat) := ev Sp (den Sp) id Tryz.f172.ntmps (cAt (bodyOf Tryz.f172) p)
noncomputable abbrev cn (n0 : List Nat) := canon Sp id n0
noncomputable abbrev K : K := kFin Sp (den Sp) Tryz.f172 0
noncomputable def L1_1_0_1_0 (l0 : List (List V)) (i1 i2 : Int) : Option Res := LP (e [1, 1, 0, 1, 0, 0]) (cn []) (kBlk 0 (kSeq (e [1, 1, 1]) (K))) ([(0, (V.sl .no T_int l0)), (3, (V.int IntKind.u64 i1)), (4, (V.int .i64 i2))], ⟨[], [], [], [], none⟩)
theorem L1_1_0_1_0_eq (l0 : List (List V)) (i1 i2 : Int) : L1_1_0_1_0 l0 i1 i2 =
  (bif (decide (i2 >= (0 : Int))) then (if (((0 : Int) <= i2) ∧ (i2 < (l0.length : Int))) then (V.asInt (List.getD (List.getD l0 (Int.toNat i2) []) 0 V.undef) .i64 (fun n9 => L1_1_0_1_0 l0 (IntKind.wrap IntKind.u64 ((IntKind.wrap IntKind.u64 (i1 * (2 : Int))) + (IntKind.wrap IntKind.u64 n9))) (IntKind.wrap .i64 (i2 - (1 : Int))))) else none) else (some ⟨Out.ret (V.int .i64 (IntKind.wrap .i64 i1)), [], none⟩)) := (LP_eq ..).trans (by kernel_rfl)
theorem eq (a0 : (List (List V))) : den Sp id [V.sl .no T_int a0] [] none =
  (L1_1_0_1_0 a0 (0 : Int) (63 : Int)) := (den_eq ..).trans (by kernel_rfl)
end ref01_number
namespace ref01_other
noncomputable abbrev e (p : List Nat) := ev Sp (den Sp) id Tryz.f175.ntmps (cAt (bodyOf Tryz.f175) p)
noncomputable abbrev cn (n0 : List Nat) := canon Sp id n0
noncomputable abbrev K : K := kFin Sp (den Sp) Tryz.f175 0
noncomputable def L1_1_0_1_0 (l0 l1 : List (List V)) (i2 : Int) : Option Res := LP (e [1, 1, 0, 1, 0, 0]) (cn []) (kBlk 0 (kSeq (e [1, 1, 1]) (K))) ([(0, (V.sl .no T_int l0)), (3, (V.sl (Tok.row 0) T_int l1)), (4, (V.int .i64 i2))], ⟨[], [0], [], [], none⟩)
theorem L1_1_0_1_0_eq (l0 l1 : List (List V)) (i2 : Int) : L1_1_0_1_0 l0 l1 i2 =
  (bif (decide (i2 < (l0.length : Int))) then (if (((0 : Int) <= i2) ∧ (i2 < (l0.length : Int))) then (V.asInt (List.getD (List.getD l0 (Int.toNat i2) []) 0 V.undef) .i64 (fun n9 => if (((List.length l1) + (List.length [[V.int .i64 (IntKind.wrap .i64 ((1 : Int) - n9))]])) <= most) then (L1_1_0_1_0 l0 (l1 ++ [[V.int .i64 (IntKind.wrap .i64 ((1 : Int) - n9))]]) (IntKind.wrap .i64 (i2 + (1 : Int)))) else none)) else none) else (some ⟨Out.ret (V.sl .no T_int l1), [], none⟩)) := (LP_eq ..).trans (by kernel_rfl)
theorem eq (a0 : (List (List V))) : den Sp id [V.sl .no T_int a0] [] none =
  (L1_1_0_1_0 a0 [] (0 : Int)) := (den_eq ..).trans (by kernel_rfl)
end ref01_other
namespace ref01_plus
noncomputable abbrev e (p : List Nat) := ev Sp (den Sp) id Tryz.f173.ntmps (cAt (bodyOf Tryz.f173) p)
noncomputable abbrev cn (n0 : List Nat) := canon Sp id n0
noncomputable abbrev K : K := kFin Sp (den Sp) Tryz.f173 0
noncomputable def L1_1_0_1_0 (l0 l1 : List (List V)) (i2 : Int) (l3 : List (List V)) (i4 : Int) : Option Res := LP (e [1, 1, 0, 1, 0, 0]) (cn []) (kBlk 0 (kSeq (e [1, 1, 1]) (K))) ([(0, (V.sl .no T_int l0)), (1, (V.sl .no T_int l1)), (2, (V.int .i64 i2)), (7, (V.sl (Tok.row 0) T_int l3)), (8, (V.int .i64 i4))], ⟨[], [0], [], [], none⟩)
theorem L1_1_0_1_0_eq (l0 l1 : List (List V)) (i2 : Int) (l3 : List (List V)) (i4 : Int) : L1_1_0_1_0 l0 l1 i2 l3 i4 =
  (bif (decide (i4 < (64 : Int))) then (if (((0 : Int) <= i4) ∧ (i4 < (l0.length : Int))) then (V.asInt (List.getD (List.getD l0 (Int.toNat i4) []) 0 V.undef) .i64 (fun n13 => if (((0 : Int) <= i4) ∧ (i4 < (l1.length : Int))) then (V.asInt (List.getD (List.getD l1 (Int.toNat i4) []) 0 V.undef) .i64 (fun n14 => if (((List.length l3) + (List.length [[V.int .i64 (Int.tmod (IntKind.wrap .i64 ((IntKind.wrap .i64 (n13 + n14)) + i2)) (2 : Int))]])) <= most) then (L1_1_0_1_0 l0 l1 (IntKind.wrap .i64 (Int.tdiv (IntKind.wrap .i64 ((IntKind.wrap .i64 (n13 + n14)) + i2)) (2 : Int))) (l3 ++ [[V.int .i64 (Int.tmod (IntKind.wrap .i64 ((IntKind.wrap .i64 (n13 + n14)) + i2)) (2 : Int))]]) (IntKind.wrap .i64 (i4 + (1 : Int)))) else none)) else none)) else none) else (some ⟨Out.ret (V.sl .no T_int l3), [], none⟩)) := (LP_eq ..).trans (by kernel_rfl)
theorem eq (a0 a1 : List (List V)) (a2 : Int) : den Sp id [V.sl .no T_int a0, V.sl .no T_int a1, V.int .i64 a2] [] none =
  (L1_1_0_1_0 a0 a1 a2 [] (0 : Int)) := (den_eq ..).trans (by kernel_rfl)
end ref01_plus
namespace ref01_Sub
theorem eq (a0 a1 : Int) : den Sp id [V.int .i64 a0, V.int .i64 a1] [] none =
  (den Sp ref01_Bits.id [V.int .i64 a0] [] none).bind (fun r4 => Res.onRet r4 (fun v5 => V.asSl v5 T_int (fun es6 => (den Sp ref01_Bits.id [V.int .i64 a1] [] none).bind (fun r7 => Res.onRet r7 (fun v8 => V.asSl v8 T_int (fun es9 => (den Sp ref01_other.id [V.sl .no T_int es9] [] none).bind (fun r10 => Res.onRet r10 (fun v11 => V.asSl v11 T_int (fun es12 => (den Sp ref01_plus.id [V.sl .no T_int es6, V.sl .no T_int es12, V.int .i64 (1 : Int)] [] none).bind (fun r13 => Res.onRet r13 (fun v14 => V.asSl v14 T_int (fun es15 => (den Sp ref01_number.id [V.sl .no T_int es15] [] none).bind (fun r16 => Res.onRet r16 (fun v17 => V.asInt v17 .i64 (fun n18 => some ⟨Out.ret (V.int .i64 n18), [], none⟩))))))))))))))) := (den_eq ..).trans (by kernel_rfl)
end ref01_Sub
namespace ref01_Neg
theorem eq (a0 : Int) : den Sp id [V.int .i64 a0] [] none =
  (den Sp ref01_Sub.id [V.int .i64 (0 : Int), V.int .i64 a0] [] none).bind (fun r3 => Res.onRet r3 (fun v4 => V.asInt v4 .i64 (fun n5 => some ⟨Out.ret (V.int .i64 n5), [], none⟩))) := (den_eq ..).trans (by kernel_rfl)
end ref01_Neg
namespace ref01_size
theorem eq (a0 : Int) : den Sp id [V.int .i64 a0] [] none =
  (bif (decide (a0 < (0 : Int))) then (den Sp ref01_Neg.id [V.int .i64 a0] [] none).bind (fun r4 => Res.onRet r4 (fun v5 => V.asInt v5 .i64 (fun n6 => some ⟨Out.ret (V.int IntKind.u64 (IntKind.wrap IntKind.u64 n6)), [], none⟩))) else (some ⟨Out.ret (V.int IntKind.u64 (IntKind.wrap IntKind.u64 a0)), [], none⟩)) := (den_eq ..).trans (by kernel_rfl)
end ref01_size
namespace ref01_Text
noncomputable abbrev e (p : List Nat) := ev Sp (den Sp) id Tryz.f36.ntmps (cAt (bodyOf Tryz.f36) p)
noncomputable abbrev cn (n0 : List Nat) := canon Sp id n0
noncomputable abbrev K : K := kFin Sp (den Sp) Tryz.f36 0
noncomputable def L1_1_1_0_0 (i0 : Int) (s1 : ByteArray) (i2 : Int) : Option Res := LP (e [1, 1, 1, 0, 0, 0]) (cn []) (kBlk 0 (kSeq (e [1, 1, 1, 1]) (K))) ([(0, (V.int .i64 i0)), (3, (V.str s1)), (4, (V.int IntKind.u64 i2))], ⟨[], [], [], [], none⟩)
theorem L1_1_1_0_0_eq (i0 : Int) (s1 : ByteArray) (i2 : Int) : L1_1_1_0_0 i0 s1 i2 =
  (bif (decide (s1 = (ByteArray.mk #[]))) then (if (((ByteArray.size (ByteArray.mk (toBytes [[V.int IntKind.u8 (IntKind.wrap IntKind.u8 (IntKind.wrap IntKind.u64 ((48 : Int) + (Int.tmod i2 (10 : Int)))))]]).toArray)) + (ByteArray.size s1)) <= most) then (L1_1_1_0_0 i0 ((ByteArray.mk (toBytes [[V.int IntKind.u8 (IntKind.wrap IntKind.u8 (IntKind.wrap IntKind.u64 ((48 : Int) + (Int.tmod i2 (10 : Int)))))]]).toArray) ++ s1) (IntKind.wrap IntKind.u64 (Int.tdiv i2 (10 : Int)))) else none) else (bif (decide (i2 > (0 : Int))) then (if (((ByteArray.size (ByteArray.mk (toBytes [[V.int IntKind.u8 (IntKind.wrap IntKind.u8 (IntKind.wrap IntKind.u64 ((48 : Int) + (Int.tmod i2 (10 : Int)))))]]).toArray)) + (ByteArray.size s1)) <= most) then (L1_1_1_0_0 i0 ((ByteArray.mk (toBytes [[V.int IntKind.u8 (IntKind.wrap IntKind.u8 (IntKind.wrap IntKind.u64 ((48 : Int) + (Int.tmod i2 (10 : Int)))))]]).toArray) ++ s1) (IntKind.wrap IntKind.u64 (Int.tdiv i2 (10 : Int)))) else none) else (bif (decide (i0 < (0 : Int))) then (if ((1 + (ByteArray.size s1)) <= most) then (some ⟨Out.ret (V.str ((ByteArray.mk #[45]) ++ s1)), [], none⟩) else none) else (some ⟨Out.ret (V.str s1), [], none⟩)))) := (LP_eq ..).trans (by kernel_rfl)
theorem eq (a0 : Int) : den Sp id [V.int .i64 a0] [] none =
  (den Sp ref01_size.id [V.int .i64 a0] [] none).bind (fun r4 => Res.onRet r4 (fun v5 => V.asInt v5 IntKind.u64 (fun n6 => L1_1_1_0_0 a0 (ByteArray.mk #[]) n6))) := (den_eq ..).trans (by kernel_rfl)
end ref01_Text
namespace num_Text
noncomputable abbrev e (p : List Nat) := ev Sp (den Sp) id Tryz.f61.ntmps (cAt (bodyOf Tryz.f61) p)
noncomputable abbrev cn (n0 : List Nat) := canon Sp id n0
noncomputable abbrev K : K := kFin Sp (den Sp) Tryz.f61 0
noncomputable def L1_1_1_1_1_0_0 (i0 i1 i2 : Int) (l3 : List (List V)) : Option Res := LP (e [1, 1, 1, 1, 1, 0, 0, 0]) (cn [1003]) (kBlk 0 (kSeq (e [1, 1, 1, 1, 1, 1]) (K))) ([(0, (V.int .i64 i0)), (3, (V.ref 1003 0)), (4, (V.int .i64 i1)), (5, (V.int IntKind.u64 i2))], ⟨[(1003, (Blk.vec T_uint8 l3 false))], [], [], [], none⟩)
theorem L1_1_1_1_1_0_0_eq (i0 i1 i2 : Int) (l3 : List (List V)) : L1_1_1_1_1_0_0 i0 i1 i2 l3 =
  (if (((0 : Int) <= (IntKind.wrap .i64 (i1 - (1 : Int)))) ∧ (((IntKind.wrap .i64 (i1 - (1 : Int))) < ((20 : Nat) : Int)) ∧ ((IntKind.wrap .i64 (i1 - (1 : Int))) < (l3.length : Int)))) then (bif ((IntKind.wrap IntKind.u64 (Int.tdiv i2 (10 : Int))) == (0 : Int)) then (bif (decide (i0 < (0 : Int))) then (if (((0 : Int) <= (IntKind.wrap .i64 ((IntKind.wrap .i64 (i1 - (1 : Int))) - (1 : Int)))) ∧ (((IntKind.wrap .i64 ((IntKind.wrap .i64 (i1 - (1 : Int))) - (1 : Int))) < ((20 : Nat) : Int)) ∧ ((IntKind.wrap .i64 ((IntKind.wrap .i64 (i1 - (1 : Int))) - (1 : Int))) < (((List.length (List.set l3 (Int.toNat (IntKind.wrap .i64 (i1 - (1 : Int)))) [V.int IntKind.u8 (IntKind.wrap IntKind.u8 (IntKind.wrap IntKind.u64 ((48 : Int) + (Int.tmod i2 (10 : Int)))))])) : Nat) : Int)))) then (if ((0 : Int) <= (IntKind.wrap .i64 ((IntKind.wrap .i64 (i1 - (1 : Int))) - (1 : Int)))) then (if (((Int.toNat (IntKind.wrap .i64 ((IntKind.wrap .i64 (i1 - (1 : Int))) - (1 : Int)))) <= 20) ∧ ((List.length (List.set (List.set l3 (Int.toNat (IntKind.wrap .i64 (i1 - (1 : Int)))) [V.int IntKind.u8 (IntKind.wrap IntKind.u8 (IntKind.wrap IntKind.u64 ((48 : Int) + (Int.tmod i2 (10 : Int)))))]) (Int.toNat (IntKind.wrap .i64 ((IntKind.wrap .i64 (i1 - (1 : Int))) - (1 : Int)))) [V.int IntKind.u8 (45 : Int)])) = 20)) then (if (((bytesOk (List.take (20 - (Int.toNat (IntKind.wrap .i64 ((IntKind.wrap .i64 (i1 - (1 : Int))) - (1 : Int))))) (List.drop (Int.toNat (IntKind.wrap .i64 ((IntKind.wrap .i64 (i1 - (1 : Int))) - (1 : Int)))) (List.set (List.set l3 (Int.toNat (IntKind.wrap .i64 (i1 - (1 : Int)))) [V.int IntKind.u8 (IntKind.wrap IntKind.u8 (IntKind.wrap IntKind.u64 ((48 : Int) + (Int.tmod i2 (10 : Int)))))]) (Int.toNat (IntKind.wrap .i64 ((IntKind.wrap .i64 (i1 - (1 : Int))) - (1 : Int)))) [V.int IntKind.u8 (45 : Int)])))) = true) ∧ (((Int.toNat (IntKind.wrap .i64 ((IntKind.wrap .i64 (i1 - (1 : Int))) - (1 : Int)))) + (20 - (Int.toNat (IntKind.wrap .i64 ((IntKind.wrap .i64 (i1 - (1 : Int))) - (1 : Int)))))) <= (List.length (List.set (List.set l3 (Int.toNat (IntKind.wrap .i64 (i1 - (1 : Int)))) [V.int IntKind.u8 (IntKind.wrap IntKind.u8 (IntKind.wrap IntKind.u64 ((48 : Int) + (Int.tmod i2 (10 : Int)))))]) (Int.toNat (IntKind.wrap .i64 ((IntKind.wrap .i64 (i1 - (1 : Int))) - (1 : Int)))) [V.int IntKind.u8 (45 : Int)])))) then (some ⟨Out.ret (V.str (ByteArray.mk (toBytes (List.take (20 - (Int.toNat (IntKind.wrap .i64 ((IntKind.wrap .i64 (i1 - (1 : Int))) - (1 : Int))))) (List.drop (Int.toNat (IntKind.wrap .i64 ((IntKind.wrap .i64 (i1 - (1 : Int))) - (1 : Int)))) (List.set (List.set l3 (Int.toNat (IntKind.wrap .i64 (i1 - (1 : Int)))) [V.int IntKind.u8 (IntKind.wrap IntKind.u8 (IntKind.wrap IntKind.u64 ((48 : Int) + (Int.tmod i2 (10 : Int)))))]) (Int.toNat (IntKind.wrap .i64 ((IntKind.wrap .i64 (i1 - (1 : Int))) - (1 : Int)))) [V.int IntKind.u8 (45 : Int)])))).toArray)), [], none⟩) else none) else none) else none) else none) else (if ((0 : Int) <= (IntKind.wrap .i64 (i1 - (1 : Int)))) then (if (((Int.toNat (IntKind.wrap .i64 (i1 - (1 : Int)))) <= 20) ∧ ((List.length (List.set l3 (Int.toNat (IntKind.wrap .i64 (i1 - (1 : Int)))) [V.int IntKind.u8 (IntKind.wrap IntKind.u8 (IntKind.wrap IntKind.u64 ((48 : Int) + (Int.tmod i2 (10 : Int)))))])) = 20)) then (if (((bytesOk (List.take (20 - (Int.toNat (IntKind.wrap .i64 (i1 - (1 : Int))))) (List.drop (Int.toNat (IntKind.wrap .i64 (i1 - (1 : Int)))) (List.set l3 (Int.toNat (IntKind.wrap .i64 (i1 - (1 : Int)))) [V.int IntKind.u8 (IntKind.wrap IntKind.u8 (IntKind.wrap IntKind.u64 ((48 : Int) + (Int.tmod i2 (10 : Int)))))])))) = true) ∧ (((Int.toNat (IntKind.wrap .i64 (i1 - (1 : Int)))) + (20 - (Int.toNat (IntKind.wrap .i64 (i1 - (1 : Int)))))) <= (List.length (List.set l3 (Int.toNat (IntKind.wrap .i64 (i1 - (1 : Int)))) [V.int IntKind.u8 (IntKind.wrap IntKind.u8 (IntKind.wrap IntKind.u64 ((48 : Int) + (Int.tmod i2 (10 : Int)))))])))) then (some ⟨Out.ret (V.str (ByteArray.mk (toBytes (List.take (20 - (Int.toNat (IntKind.wrap .i64 (i1 - (1 : Int))))) (List.drop (Int.toNat (IntKind.wrap .i64 (i1 - (1 : Int)))) (List.set l3 (Int.toNat (IntKind.wrap .i64 (i1 - (1 : Int)))) [V.int IntKind.u8 (IntKind.wrap IntKind.u8 (IntKind.wrap IntKind.u64 ((48 : Int) + (Int.tmod i2 (10 : Int)))))])))).toArray)), [], none⟩) else none) else none) else none)) else (L1_1_1_1_1_0_0 i0 (IntKind.wrap .i64 (i1 - (1 : Int))) (IntKind.wrap IntKind.u64 (Int.tdiv i2 (10 : Int))) (List.set l3 (Int.toNat (IntKind.wrap .i64 (i1 - (1 : Int)))) [V.int IntKind.u8 (IntKind.wrap IntKind.u8 (IntKind.wrap IntKind.u64 ((48 : Int) + (Int.tmod i2 (10 : Int)))))]))) else none) := (LP_eq ..).trans (by kernel_rfl)
theorem eq (a0 : Int) : den Sp id [V.int .i64 a0] [] none =
  (bif (decide (a0 < (0 : Int))) then (L1_1_1_1_1_0_0 a0 (20 : Int) (IntKind.wrap IntKind.u64 ((0 : Int) - (IntKind.wrap IntKind.u64 a0))) [[V.int IntKind.u8 (0 : Int)], [V.int IntKind.u8 (0 : Int)], [V.int IntKind.u8 (0 : Int)], [V.int IntKind.u8 (0 : Int)], [V.int IntKind.u8 (0 : Int)], [V.int IntKind.u8 (0 : Int)], [V.int IntKind.u8 (0 : Int)], [V.int IntKind.u8 (0 : Int)], [V.int IntKind.u8 (0 : Int)], [V.int IntKind.u8 (0 : Int)], [V.int IntKind.u8 (0 : Int)], [V.int IntKind.u8 (0 : Int)], [V.int IntKind.u8 (0 : Int)], [V.int IntKind.u8 (0 : Int)], [V.int IntKind.u8 (0 : Int)], [V.int IntKind.u8 (0 : Int)], [V.int IntKind.u8 (0 : Int)], [V.int IntKind.u8 (0 : Int)], [V.int IntKind.u8 (0 : Int)], [V.int IntKind.u8 (0 : Int)]]) else (L1_1_1_1_1_0_0 a0 (20 : Int) (IntKind.wrap IntKind.u64 a0) [[V.int IntKind.u8 (0 : Int)], [V.int IntKind.u8 (0 : Int)], [V.int IntKind.u8 (0 : Int)], [V.int IntKind.u8 (0 : Int)], [V.int IntKind.u8 (0 : Int)], [V.int IntKind.u8 (0 : Int)], [V.int IntKind.u8 (0 : Int)], [V.int IntKind.u8 (0 : Int)], [V.int IntKind.u8 (0 : Int)], [V.int IntKind.u8 (0 : Int)], [V.int IntKind.u8 (0 : Int)], [V.int IntKind.u8 (0 : Int)], [V.int IntKind.u8 (0 : Int)], [V.int IntKind.u8 (0 : Int)], [V.int IntKind.u8 (0 : Int)], [V.int IntKind.u8 (0 : Int)], [V.int IntKind.u8 (0 : Int)], [V.int IntKind.u8 (0 : Int)], [V.int IntKind.u8 (0 : Int)], [V.int IntKind.u8 (0 : Int)]])) := (den_eq ..).trans (by kernel_rfl)
end num_Text
namespace num_Join
noncomputable abbrev e (p : List Nat) := ev Sp (den Sp) id Tryz.f156.ntmps (cAt (bodyOf Tryz.f156) p)
noncomputable abbrev cn (n0 : List Nat) := canon Sp id n0
noncomputable abbrev K : K := kFin Sp (den Sp) Tryz.f156 0
noncomputable def L1_1_0_1_0 (l0 l1 : List (List V)) (i2 i3 : Int) : Option Res := LP (e [1, 1, 0, 1, 0, 0]) (cn []) (kBlk 0 (kSeq (e [1, 1, 1]) (K))) ([(3, (V.sl (Tok.row 0) T_uint8 l0)), (6, (V.sl .no T_string l1)), (7, (V.int .i64 i2)), (8, (V.int .i64 i3))], ⟨[], [0], [], [], none⟩)
theorem L1_1_0_1_0_eq (l0 l1 : List (List V)) (i2 i3 : Int) : L1_1_0_1_0 l0 l1 i2 i3 =
  (bif (decide (i3 < i2)) then (if (((0 : Int) <= i3) ∧ (i3 < (l1.length : Int))) then (V.asStr (List.getD (List.getD l1 (Int.toNat i3) []) 0 V.undef) (fun s10 => bif (decide (i3 > (0 : Int))) then (if (((List.length l0) + 1) <= most) then (if (((List.length (l0 ++ [[V.int IntKind.u8 (32 : Int)]])) + (ByteArray.size s10)) <= most) then (L1_1_0_1_0 ((l0 ++ [[V.int IntKind.u8 (32 : Int)]]) ++ (ofBytes s10)) l1 i2 (IntKind.wrap .i64 (i3 + (1 : Int)))) else none) else none) else (if (((List.length l0) + (ByteArray.size s10)) <= most) then (L1_1_0_1_0 (l0 ++ (ofBytes s10)) l1 i2 (IntKind.wrap .i64 (i3 + (1 : Int)))) else none))) else none) else (if ((bytesOk l0) = true) then (some ⟨Out.ret (V.str (ByteArray.mk (toBytes l0).toArray)), [], none⟩) else none)) := (LP_eq ..).trans (by kernel_rfl)
theorem eq (a0 : (List (List V))) : den Sp id [V.sl .no T_string a0] [] none =
  (L1_1_0_1_0 [] a0 (a0.length : Int) (0 : Int)) := (den_eq ..).trans (by kernel_rfl)
end num_Join
namespace lex_Scan
noncomputable abbrev e (p : List Nat) := ev Sp (den Sp) id Tryz.f40.ntmps (cAt (bodyOf Tryz.f40) p)
noncomputable abbrev cn (n0 : List Nat) := canon Sp id n0
noncomputable abbrev K : K := kFin Sp (den Sp) Tryz.f40 0
noncomputable def L1_1_1_1_0 (l0 : List (List V)) (s1 : ByteArray) (i2 : Int) : Option Res := LP (e [1, 1, 1, 1, 0, 0]) (cn [1015]) (kBlk 0 (K)) ([(5, (V.ref 1015 0)), (6, (V.sl (Tok.row 0) T_api_Token l0))], ⟨[(1015, (Blk.cells T_lex_reader [V.str s1, V.int .i64 i2] false))], [0], [], [], none⟩)
theorem L1_1_1_1_0_eq (l0 : List (List V)) (s1 : ByteArray) (i2 : Int) : L1_1_1_1_0 l0 s1 i2 =
  (den Sp lex_reader_blank.id [V.ref 0 0] [Blk.cells T_lex_reader [V.str s1, V.int .i64 i2] false] none).bind (fun r9 => Blk.asCells (List.getD (Res.bl r9) 0 (Blk.cells T_n0 [] true)) T_lex_reader 2 (fun rd10 => V.asStr (rd10 0) (fun s11 => V.asInt (rd10 1) .i64 (fun n12 => Res.onRet r9 (fun v13 => V.asTup v13 0 (fun rd14 => (den Sp lex_reader_next.id [V.ref 0 0] [Blk.cells T_lex_reader [V.str s11, V.int .i64 n12] false] none).bind (fun r17 => Blk.asCells (List.getD (Res.bl r17) 0 (Blk.cells T_n0 [] true)) T_lex_reader 2 (fun rd18 => V.asStr (rd18 0) (fun s19 => V.asInt (rd18 1) .i64 (fun n20 => Res.onRet r17 (fun v21 => V.asTup v21 2 (fun rd22 => V.asAgg (rd22 0) 4 (fun rd23 => V.asInt (rd23 0) .i64 (fun n24 => V.asStr (rd23 1) (fun s25 => V.asInt (rd23 2) .i64 (fun n26 => V.asInt (rd23 3) .i64 (fun n27 => V.asBool (rd22 1) (fun b28 => bif (!b28) then (some ⟨Out.ret (V.tup [V.sl .no T_api_Token [], V.int .i64 n12, V.int .i64 (20 : Int)]), [], none⟩) else (bif ((l0.length : Int) == (4000 : Int)) then (some ⟨Out.ret (V.tup [V.sl .no T_api_Token [], V.int .i64 n12, V.int .i64 (2 : Int)]), [], none⟩) else (if (((List.length l0) + (List.length [[V.int .i64 n24, V.str s25, V.int .i64 n26, V.int .i64 n27]])) <= most) then (bif (n24 == (0 : Int)) then (some ⟨Out.ret (V.tup [V.sl .no T_api_Token (l0 ++ [[V.int .i64 n24, V.str s25, V.int .i64 n26, V.int .i64 n27]]), V.int .i64 (0 : Int), V.int .i64 (0 : Int)]), [], none⟩) else (L1_1_1_1_0 (l0 ++ [[V.int .i64 n24, V.str s25, V.int .i64 n26, V.int .i64 n27]]) s19 n20)) else none)))))))))))))))))))) := (LP_eq ..).trans (by kernel_rfl)
theorem eq (a0 : ByteArray) : den Sp id [V.str a0] [] none =
  (bif (decide ((((ByteArray.size a0) : Nat) : Int) > (16384 : Int))) then (some ⟨Out.ret (V.tup [V.sl .no T_api_Token [], V.int .i64 (0 : Int), V.int .i64 (2 : Int)]), [], none⟩) else (L1_1_1_1_0 [] a0 (0 : Int))) := (den_eq ..).trans (by kernel_rfl)
end lex_Scan
namespace lex_reader_blank
noncomputable abbrev e (p : List Nat) := ev Sp (den Sp) id Tryz.f70.ntmps (cAt (bodyOf Tryz.f70) p)
noncomputable abbrev cn (n0 : List Nat) := canon Sp id n0
noncomputable abbrev K : K := kFin Sp (den Sp) Tryz.f70 1
noncomputable def L0 (s0 : ByteArray) (i1 : Int) : Option Res := LP (e [0, 0]) (cn [0]) (kBlk 0 (K)) ([(0, (V.ref 0 0))], ⟨[(0, (Blk.cells T_lex_reader [V.str s0, V.int .i64 i1] false))], [], [], [], none⟩)
noncomputable def L0_0_1_0_1_0_1_1_1_0_0 (s0 : ByteArray) (i1 : Int) : Option Res := LP (e [0, 0, 1, 0, 1, 0, 1, 1, 1, 0, 0, 0]) (cn [0]) (kBlk 3 (kBlk 2 (kBlk 1 (kLp (e [0, 0]) (cn [0]) (kBlk 0 (K)))))) ([(0, (V.ref 0 0))], ⟨[(0, (Blk.cells T_lex_reader [V.str s0, V.int .i64 i1] false))], [], [], [], none⟩)
theorem L0_eq (s0 : ByteArray) (i1 : Int) : L0 s0 i1 =
  (bif (decide (i1 < (((ByteArray.size s0) : Nat) : Int))) then (if (((0 : Int) <= i1) ∧ (i1 < (((ByteArray.size s0) : Nat) : Int))) then (bif ((byteAt s0 (Int.toNat i1)) == (32 : Int)) then (L0 s0 (IntKind.wrap .i64 (i1 + (1 : Int)))) else (bif ((byteAt s0 (Int.toNat i1)) == (10 : Int)) then (L0 s0 (IntKind.wrap .i64 (i1 + (1 : Int)))) else (bif ((byteAt s0 (Int.toNat i1)) == (35 : Int)) then (L0_0_1_0_1_0_1_1_1_0_0 s0 i1) else (some ⟨Out.ret (V.tup []), [Blk.cells T_lex_reader [V.str s0, V.int .i64 i1] false], none⟩)))) else none) else (some ⟨Out.ret (V.tup []), [Blk.cells T_lex_reader [V.str s0, V.int .i64 i1] false], none⟩)) := (LP_eq ..).trans (by kernel_rfl)
theorem L0_0_1_0_1_0_1_1_1_0_0_eq (s0 : ByteArray) (i1 : Int) : L0_0_1_0_1_0_1_1_1_0_0 s0 i1 =
  (bif (decide (i1 < (((ByteArray.size s0) : Nat) : Int))) then (if (((0 : Int) <= i1) ∧ (i1 < (((ByteArray.size s0) : Nat) : Int))) then (bif ((byteAt s0 (Int.toNat i1)) != (10 : Int)) then (L0_0_1_0_1_0_1_1_1_0_0 s0 (IntKind.wrap .i64 (i1 + (1 : Int)))) else (L0 s0 i1)) else none) else (L0 s0 i1)) := (LP_eq ..).trans (by kernel_rfl)
theorem eq (m0_0 : ByteArray) (m0_1 : Int) : den Sp id [V.ref 0 0] [Blk.cells T_lex_reader [V.str m0_0, V.int .i64 m0_1] false] none =
  (L0 m0_0 m0_1) := (den_eq ..).trans (by kernel_rfl)
end lex_reader_blank
namespace lex_reader_next
theorem eq (m0_0 : ByteArray) (m0_1 : Int) : den Sp id [V.ref 0 0] [Blk.cells T_lex_reader [V.str m0_0, V.int .i64 m0_1] false] none =
  (bif (m0_1 == (((ByteArray.size m0_0) : Nat) : Int)) then (some ⟨Out.ret (V.tup [V.agg [V.int .i64 (0 : Int), V.str (ByteArray.mk #[]), V.int .i64 (0 : Int), V.int .i64 m0_1], V.bool true]), [Blk.cells T_lex_reader [V.str m0_0, V.int .i64 m0_1] false], none⟩) else (if (((0 : Int) <= m0_1) ∧ (m0_1 < (((ByteArray.size m0_0) : Nat) : Int))) then (den Sp lex_letter.id [V.int IntKind.u8 (byteAt m0_0 (Int.toNat m0_1))] [] none).bind (fun r7 => Res.onRet r7 (fun v8 => V.asBool v8 (fun b9 => bif b9 then (den Sp lex_reader_word.id [V.ref 0 0] [Blk.cells T_lex_reader [V.str m0_0, V.int .i64 m0_1] false] none).bind (fun r11 => Blk.asCells (List.getD (Res.bl r11) 0 (Blk.cells T_n0 [] true)) T_lex_reader 2 (fun rd12 => V.asStr (rd12 0) (fun s13 => V.asInt (rd12 1) .i64 (fun n14 => Res.onRet r11 (fun v15 => V.asStr v15 (fun s16 => (den Sp lex_isKey.id [V.str s16] [] none).bind (fun r18 => Res.onRet r18 (fun v19 => V.asBool v19 (fun b20 => bif b20 then (some ⟨Out.ret (V.tup [V.agg [V.int .i64 (3 : Int), V.str s16, V.int .i64 (0 : Int), V.int .i64 m0_1], V.bool (decide ((((ByteArray.size s16) : Nat) : Int) <= (40 : Int)))]), [Blk.cells T_lex_reader [V.str s13, V.int .i64 (IntKind.wrap .i64 (n14 + (((ByteArray.size s16) : Nat) : Int)))] false], none⟩) else (some ⟨Out.ret (V.tup [V.agg [V.int .i64 (1 : Int), V.str s16, V.int .i64 (0 : Int), V.int .i64 m0_1], V.bool (decide ((((ByteArray.size s16) : Nat) : Int) <= (40 : Int)))]), [Blk.cells T_lex_reader [V.str s13, V.int .i64 (IntKind.wrap .i64 (n14 + (((ByteArray.size s16) : Nat) : Int)))] false], none⟩)))))))))) else (den Sp lex_digit.id [V.int IntKind.u8 (byteAt m0_0 (Int.toNat m0_1))] [] none).bind (fun r11 => Res.onRet r11 (fun v12 => V.asBool v12 (fun b13 => bif b13 then (den Sp lex_reader_word.id [V.ref 0 0] [Blk.cells T_lex_reader [V.str m0_0, V.int .i64 m0_1] false] none).bind (fun r15 => Blk.asCells (List.getD (Res.bl r15) 0 (Blk.cells T_n0 [] true)) T_lex_reader 2 (fun rd16 => V.asStr (rd16 0) (fun s17 => V.asInt (rd16 1) .i64 (fun n18 => Res.onRet r15 (fun v19 => V.asStr v19 (fun s20 => (den Sp num_Parse.id [V.str s20] [] none).bind (fun r22 => Res.onRet r22 (fun v23 => V.asTup v23 2 (fun rd24 => V.asInt (rd24 0) .i64 (fun n25 => V.asInt (rd24 1) .i64 (fun n26 => some ⟨Out.ret (V.tup [V.agg [V.int .i64 (2 : Int), V.str (ByteArray.mk #[]), V.int .i64 n25, V.int .i64 m0_1], V.bool (n26 == (0 : Int))]), [Blk.cells T_lex_reader [V.str s17, V.int .i64 (IntKind.wrap .i64 (n18 + (((ByteArray.size s20) : Nat) : Int)))] false], none⟩))))))))))) else (if ((0 : Int) <= m0_1) then (if (((Int.toNat m0_1) <= (ByteArray.size m0_0)) ∧ ((ByteArray.size m0_0) <= (ByteArray.size m0_0))) then (den Sp lex_sign.id [V.str (ByteArray.extract m0_0 (Int.toNat m0_1) (ByteArray.size m0_0))] [] none).bind (fun r15 => Res.onRet r15 (fun v16 => V.asStr v16 (fun s17 => some ⟨Out.ret (V.tup [V.agg [V.int .i64 (4 : Int), V.str s17, V.int .i64 (0 : Int), V.int .i64 m0_1], V.bool (!(decide (s17 = (ByteArray.mk #[]))))]), [Blk.cells T_lex_reader [V.str m0_0, V.int .i64 (IntKind.wrap .i64 (m0_1 + (((ByteArray.size s17) : Nat) : Int)))] false], none⟩))) else none) else none))))))) else none)) := (den_eq ..).trans (by kernel_rfl)
end lex_reader_next
namespace lex_reader_word
noncomputable abbrev e (p : List Nat) := ev Sp (den Sp) id Tryz.f118.ntmps (cAt (bodyOf Tryz.f118) p)
noncomputable abbrev cn (n0 : List Nat) := canon Sp id n0
noncomputable abbrev K : K := kFin Sp (den Sp) Tryz.f118 1
noncomputable def L1_1_0_0 (i0 : Int) (s1 : ByteArray) (i2 : Int) : Option Res := LP (e [1, 1, 0, 0, 0]) (cn [0]) (kBlk 0 (kSeq (e [1, 1, 1]) (K))) ([(0, (V.ref 0 0)), (3, (V.int .i64 i0))], ⟨[(0, (Blk.cells T_lex_reader [V.str s1, V.int .i64 i2] false))], [], [], [], none⟩)
theorem L1_1_0_0_eq (i0 : Int) (s1 : ByteArray) (i2 : Int) : L1_1_0_0 i0 s1 i2 =
  (bif (decide (i0 < (((ByteArray.size s1) : Nat) : Int))) then (if (((0 : Int) <= i0) ∧ (i0 < (((ByteArray.size s1) : Nat) : Int))) then (den Sp lex_inner.id [V.int IntKind.u8 (byteAt s1 (Int.toNat i0))] [] none).bind (fun r8 => Res.onRet r8 (fun v9 => V.asBool v9 (fun b10 => bif b10 then (L1_1_0_0 (IntKind.wrap .i64 (i0 + (1 : Int))) s1 i2) else (if ((0 : Int) <= i2) then (if ((0 : Int) <= i0) then (if (((Int.toNat i2) <= (Int.toNat i0)) ∧ ((Int.toNat i0) <= (ByteArray.size s1))) then (some ⟨Out.ret (V.str (ByteArray.extract s1 (Int.toNat i2) (Int.toNat i0))), [Blk.cells T_lex_reader [V.str s1, V.int .i64 i2] false], none⟩) else none) else none) else none)))) else none) else (if ((0 : Int) <= i2) then (if ((0 : Int) <= i0) then (if (((Int.toNat i2) <= (Int.toNat i0)) ∧ ((Int.toNat i0) <= (ByteArray.size s1))) then (some ⟨Out.ret (V.str (ByteArray.extract s1 (Int.toNat i2) (Int.toNat i0))), [Blk.cells T_lex_reader [V.str s1, V.int .i64 i2] false], none⟩) else none) else none) else none)) := (LP_eq ..).trans (by kernel_rfl)
theorem eq (m0_0 : ByteArray) (m0_1 : Int) : den Sp id [V.ref 0 0] [Blk.cells T_lex_reader [V.str m0_0, V.int .i64 m0_1] false] none =
  (L1_1_0_0 m0_1 m0_0 m0_1) := (den_eq ..).trans (by kernel_rfl)
end lex_reader_word
namespace lex_sign
noncomputable abbrev e (p : List Nat) := ev Sp (den Sp) id Tryz.f121.ntmps (cAt (bodyOf Tryz.f121) p)
noncomputable abbrev cn (n0 : List Nat) := canon Sp id n0
noncomputable abbrev K : K := kFin Sp (den Sp) Tryz.f121 0
noncomputable def L1_0_1_1_0_1_0 (s0 : ByteArray) (i1 : Int) : Option Res := LP (e [1, 0, 1, 1, 0, 1, 0, 0]) (cn []) (kBlk 0 (kSeq (e [1, 0, 1, 1, 1]) (K))) ([(0, (V.str s0)), (3, (V.str (ByteArray.mk #[]))), (6, (V.agg [V.str (ByteArray.mk #[61, 61]), V.str (ByteArray.mk #[33, 61]), V.str (ByteArray.mk #[60, 61]), V.str (ByteArray.mk #[38, 38]), V.str (ByteArray.mk #[124, 124]), V.str (ByteArray.mk #[40]), V.str (ByteArray.mk #[41]), V.str (ByteArray.mk #[123]), V.str (ByteArray.mk #[125]), V.str (ByteArray.mk #[91]), V.str (ByteArray.mk #[93]), V.str (ByteArray.mk #[44]), V.str (ByteArray.mk #[59]), V.str (ByteArray.mk #[61]), V.str (ByteArray.mk #[60]), V.str (ByteArray.mk #[33]), V.str (ByteArray.mk #[43]), V.str (ByteArray.mk #[45]), V.str (ByteArray.mk #[42]), V.str (ByteArray.mk #[47]), V.str (ByteArray.mk #[37])])), (7, (V.int .i64 i1))], ⟨[], [], [], [], none⟩)
theorem L1_0_1_1_0_1_0_eq (s0 : ByteArray) (i1 : Int) : L1_0_1_1_0_1_0 s0 i1 =
  (bif (decide (i1 < (21 : Int))) then (if (((0 : Int) <= i1) ∧ (i1 < ((21 : Nat) : Int))) then (V.asStr (List.getD [V.str (ByteArray.mk #[61, 61]), V.str (ByteArray.mk #[33, 61]), V.str (ByteArray.mk #[60, 61]), V.str (ByteArray.mk #[38, 38]), V.str (ByteArray.mk #[124, 124]), V.str (ByteArray.mk #[40]), V.str (ByteArray.mk #[41]), V.str (ByteArray.mk #[123]), V.str (ByteArray.mk #[125]), V.str (ByteArray.mk #[91]), V.str (ByteArray.mk #[93]), V.str (ByteArray.mk #[44]), V.str (ByteArray.mk #[59]), V.str (ByteArray.mk #[61]), V.str (ByteArray.mk #[60]), V.str (ByteArray.mk #[33]), V.str (ByteArray.mk #[43]), V.str (ByteArray.mk #[45]), V.str (ByteArray.mk #[42]), V.str (ByteArray.mk #[47]), V.str (ByteArray.mk #[37])] (((Int.toNat i1) * 1) + 0) V.undef) (fun s8 => bif (decide ((((ByteArray.size s8) : Nat) : Int) <= (((ByteArray.size s0) : Nat) : Int))) then (if ((0 <= (Int.toNat (((ByteArray.size s8) : Nat) : Int))) ∧ ((Int.toNat (((ByteArray.size s8) : Nat) : Int)) <= (ByteArray.size s0))) then (bif (decide ((ByteArray.extract s0 0 (Int.toNat (((ByteArray.size s8) : Nat) : Int))) = s8)) then (some ⟨Out.ret (V.str s8), [], none⟩) else (L1_0_1_1_0_1_0 s0 (IntKind.wrap .i64 (i1 + (1 : Int))))) else none) else (L1_0_1_1_0_1_0 s0 (IntKind.wrap .i64 (i1 + (1 : Int)))))) else none) else (some ⟨Out.ret (V.str (ByteArray.mk #[])), [], none⟩)) := (LP_eq ..).trans (by kernel_rfl)
theorem eq (a0 : ByteArray) : den Sp id [V.str a0] [] none =
  (L1_0_1_1_0_1_0 a0 (0 : Int)) := (den_eq ..).trans (by kernel_rfl)
end lex_sign
namespace num_Parse
noncomputable abbrev e (p : List Nat) := ev Sp (den Sp) id Tryz.f120.ntmps (cAt (bodyOf Tryz.f120) p)
noncomputable abbrev cn (n0 : List Nat) := canon Sp id n0
noncomputable abbrev K : K := kFin Sp (den Sp) Tryz.f120 0
noncomputable def L1_0_1_1_1_1_1_0_1_0 (s0 : ByteArray) (i1 i2 : Int) : Option Res := LP (e [1, 0, 1, 1, 1, 1, 1, 0, 1, 0, 0]) (cn []) (kBlk 0 (kSeq (e [1, 0, 1, 1, 1, 1, 1, 1]) (K))) ([(4, (V.str s0)), (5, (V.bool true)), (6, (V.int IntKind.u64 i1)), (7, (V.bool true)), (8, (V.int .i64 i2))], ⟨[], [], [], [], none⟩)
noncomputable def L1_0_1_1_1_1_1_0_1_0v1 (s0 : ByteArray) (i1 : Int) (b2 : Bool) (i3 : Int) : Option Res := LP (e [1, 0, 1, 1, 1, 1, 1, 0, 1, 0, 0]) (cn []) (kBlk 0 (kSeq (e [1, 0, 1, 1, 1, 1, 1, 1]) (K))) ([(4, (V.str s0)), (5, (V.bool true)), (6, (V.int IntKind.u64 i1)), (7, (V.bool b2)), (8, (V.int .i64 i3))], ⟨[], [], [], [], none⟩)
noncomputable def L1_0_1_1_1_1_1_0_1_0v2 (s0 : ByteArray) (i1 i2 : Int) : Option Res := LP (e [1, 0, 1, 1, 1, 1, 1, 0, 1, 0, 0]) (cn []) (kBlk 0 (kSeq (e [1, 0, 1, 1, 1, 1, 1, 1]) (K))) ([(4, (V.str s0)), (5, (V.bool false)), (6, (V.int IntKind.u64 i1)), (7, (V.bool true)), (8, (V.int .i64 i2))], ⟨[], [], [], [], none⟩)
noncomputable def L1_0_1_1_1_1_1_0_1_0v3 (s0 : ByteArray) (i1 : Int) (b2 : Bool) (i3 : Int) : Option Res := LP (e [1, 0, 1, 1, 1, 1, 1, 0, 1, 0, 0]) (cn []) (kBlk 0 (kSeq (e [1, 0, 1, 1, 1, 1, 1, 1]) (K))) ([(4, (V.str s0)), (5, (V.bool false)), (6, (V.int IntKind.u64 i1)), (7, (V.bool b2)), (8, (V.int .i64 i3))], ⟨[], [], [], [], none⟩)
theorem L1_0_1_1_1_1_1_0_1_0v2_eq (s0 : ByteArray) (i1 i2 : Int) : L1_0_1_1_1_1_1_0_1_0v2 s0 i1 i2 =
  (bif (decide (i2 < (((ByteArray.size s0) : Nat) : Int))) then (if (((0 : Int) <= i2) ∧ (i2 < (((ByteArray.size s0) : Nat) : Int))) then (if (((0 : Int) <= i2) ∧ (i2 < (((ByteArray.size s0) : Nat) : Int))) then (bif (decide ((byteAt s0 (Int.toNat i2)) < (48 : Int))) then (some ⟨Out.ret (V.tup [V.int .i64 (0 : Int), V.int .i64 (10 : Int)]), [], none⟩) else (bif (decide ((IntKind.wrap IntKind.u64 ((IntKind.wrap IntKind.u64 (byteAt s0 (Int.toNat i2))) - (48 : Int))) > (9 : Int))) then (some ⟨Out.ret (V.tup [V.int .i64 (0 : Int), V.int .i64 (10 : Int)]), [], none⟩) else (bif (decide (i1 > (IntKind.wrap IntKind.u64 (Int.tdiv (IntKind.wrap IntKind.u64 ((9223372036854775808 : Int) - (IntKind.wrap IntKind.u64 ((IntKind.wrap IntKind.u64 (byteAt s0 (Int.toNat i2))) - (48 : Int))))) (10 : Int))))) then (some ⟨Out.ret (V.tup [V.int .i64 (0 : Int), V.int .i64 (10 : Int)]), [], none⟩) else (L1_0_1_1_1_1_1_0_1_0v2 s0 (IntKind.wrap IntKind.u64 ((IntKind.wrap IntKind.u64 (i1 * (10 : Int))) + (IntKind.wrap IntKind.u64 ((IntKind.wrap IntKind.u64 (byteAt s0 (Int.toNat i2))) - (48 : Int))))) (IntKind.wrap .i64 (i2 + (1 : Int))))))) else none) else none) else (bif (i1 == (9223372036854775808 : Int)) then (some ⟨Out.ret (V.tup [V.int .i64 (0 : Int), V.int .i64 (10 : Int)]), [], none⟩) else (some ⟨Out.ret (V.tup [V.int .i64 (IntKind.wrap .i64 i1), V.int .i64 (0 : Int)]), [], none⟩))) := (LP_eq ..).trans (by kernel_rfl)
theorem L1_0_1_1_1_1_1_0_1_0v3_eq (s0 : ByteArray) (i1 : Int) (b2 : Bool) (i3 : Int) : L1_0_1_1_1_1_1_0_1_0v3 s0 i1 b2 i3 =
  (bif b2 then (bif (decide (i3 < (((ByteArray.size s0) : Nat) : Int))) then (if (((0 : Int) <= i3) ∧ (i3 < (((ByteArray.size s0) : Nat) : Int))) then (if (((0 : Int) <= i3) ∧ (i3 < (((ByteArray.size s0) : Nat) : Int))) then (bif (decide ((byteAt s0 (Int.toNat i3)) < (48 : Int))) then (some ⟨Out.ret (V.tup [V.int .i64 (0 : Int), V.int .i64 (10 : Int)]), [], none⟩) else (bif (decide ((IntKind.wrap IntKind.u64 ((IntKind.wrap IntKind.u64 (byteAt s0 (Int.toNat i3))) - (48 : Int))) > (9 : Int))) then (some ⟨Out.ret (V.tup [V.int .i64 (0 : Int), V.int .i64 (10 : Int)]), [], none⟩) else (bif (decide (i1 > (IntKind.wrap IntKind.u64 (Int.tdiv (IntKind.wrap IntKind.u64 ((9223372036854775808 : Int) - (IntKind.wrap IntKind.u64 ((IntKind.wrap IntKind.u64 (byteAt s0 (Int.toNat i3))) - (48 : Int))))) (10 : Int))))) then (some ⟨Out.ret (V.tup [V.int .i64 (0 : Int), V.int .i64 (10 : Int)]), [], none⟩) else (L1_0_1_1_1_1_1_0_1_0v3 s0 (IntKind.wrap IntKind.u64 ((IntKind.wrap IntKind.u64 (i1 * (10 : Int))) + (IntKind.wrap IntKind.u64 ((IntKind.wrap IntKind.u64 (byteAt s0 (Int.toNat i3))) - (48 : Int))))) b2 (IntKind.wrap .i64 (i3 + (1 : Int))))))) else none) else none) else (bif (!b2) then (some ⟨Out.ret (V.tup [V.int .i64 (0 : Int), V.int .i64 (10 : Int)]), [], none⟩) else (bif (i1 == (9223372036854775808 : Int)) then (some ⟨Out.ret (V.tup [V.int .i64 (0 : Int), V.int .i64 (10 : Int)]), [], none⟩) else (some ⟨Out.ret (V.tup [V.int .i64 (IntKind.wrap .i64 i1), V.int .i64 (0 : Int)]), [], none⟩)))) else (bif (!b2) then (some ⟨Out.ret (V.tup [V.int .i64 (0 : Int), V.int .i64 (10 : Int)]), [], none⟩) else (bif (i1 == (9223372036854775808 : Int)) then (some ⟨Out.ret (V.tup [V.int .i64 (0 : Int), V.int .i64 (10 : Int)]), [], none⟩) else (some ⟨Out.ret (V.tup [V.int .i64 (IntKind.wrap .i64 i1), V.int .i64 (0 : Int)]), [], none⟩)))) := (LP_eq ..).trans (by kernel_rfl)
theorem eq (a0 : ByteArray) : den Sp id [V.str a0] [] none =
  (bif (!(decide (a0 = (ByteArray.mk #[])))) then (if (((0 : Int) <= (0 : Int)) ∧ ((0 : Int) < (((ByteArray.size a0) : Nat) : Int))) then (bif ((byteAt a0 0) == (45 : Int)) then (if ((1 <= (ByteArray.size a0)) ∧ ((ByteArray.size a0) <= (ByteArray.size a0))) then (bif (!(decide ((ByteArray.extract a0 1 (ByteArray.size a0)) = (ByteArray.mk #[])))) then (if (((0 : Int) <= (0 : Int)) ∧ ((0 : Int) < (((ByteArray.size (ByteArray.extract a0 1 (ByteArray.size a0))) : Nat) : Int))) then (bif ((byteAt (ByteArray.extract a0 1 (ByteArray.size a0)) 0) != (48 : Int)) then (L1_0_1_1_1_1_1_0_1_0 (ByteArray.extract a0 1 (ByteArray.size a0)) (0 : Int) (0 : Int)) else (L1_0_1_1_1_1_1_0_1_0v1 (ByteArray.extract a0 1 (ByteArray.size a0)) (0 : Int) ((((ByteArray.size a0) : Nat) : Int) == (1 : Int)) (0 : Int))) else none) else (L1_0_1_1_1_1_1_0_1_0v1 (ByteArray.extract a0 1 (ByteArray.size a0)) (0 : Int) false (0 : Int))) else none) else (bif (!(decide (a0 = (ByteArray.mk #[])))) then (if (((0 : Int) <= (0 : Int)) ∧ ((0 : Int) < (((ByteArray.size a0) : Nat) : Int))) then (bif ((byteAt a0 0) != (48 : Int)) then (L1_0_1_1_1_1_1_0_1_0v2 a0 (0 : Int) (0 : Int)) else (L1_0_1_1_1_1_1_0_1_0v3 a0 (0 : Int) ((((ByteArray.size a0) : Nat) : Int) == (1 : Int)) (0 : Int))) else none) else (L1_0_1_1_1_1_1_0_1_0v3 a0 (0 : Int) false (0 : Int)))) else none) else (bif (!(decide (a0 = (ByteArray.mk #[])))) then (if (((0 : Int) <= (0 : Int)) ∧ ((0 : Int) < (((ByteArray.size a0) : Nat) : Int))) then (bif ((byteAt a0 0) != (48 : Int)) then (L1_0_1_1_1_1_1_0_1_0v2 a0 (0 : Int) (0 : Int)) else (L1_0_1_1_1_1_1_0_1_0v3 a0 (0 : Int) ((((ByteArray.size a0) : Nat) : Int) == (1 : Int)) (0 : Int))) else none) else (L1_0_1_1_1_1_1_0_1_0v3 a0 (0 : Int) false (0 : Int)))) := (den_eq ..).trans (by kernel_rfl)
end num_Parse
namespace lex_Right
noncomputable abbrev e (p : List Nat) := ev Sp (den Sp) id Tryz.f161.ntmps (cAt (bodyOf Tryz.f161) p)
noncomputable abbrev cn (n0 : List Nat) := canon Sp id n0
noncomputable abbrev K : K := kFin Sp (den Sp) Tryz.f161 0
noncomputable def L1_0_1_0 (l0 l1 : List (List V)) (i2 i3 : Int) : Option Res := LP (e [1, 0, 1, 0, 0]) (cn []) (kBlk 0 (kSeq (e [1, 1]) (K))) ([(0, (V.sl .no T_api_Token l0)), (7, (V.sl .no T_api_Token l1)), (8, (V.int .i64 i2)), (9, (V.int .i64 i3))], ⟨[], [], [], [], none⟩)
theorem L1_0_1_0_eq (l0 l1 : List (List V)) (i2 i3 : Int) : L1_0_1_0 l0 l1 i2 i3 =
  (bif (decide (i3 < i2)) then (if (((0 : Int) <= i3) ∧ (i3 < (l1.length : Int))) then (V.asInt (List.getD (List.getD l1 (Int.toNat i3) []) 0 V.undef) .i64 (fun n9 => V.asStr (List.getD (List.getD l1 (Int.toNat i3) []) 1 V.undef) (fun s10 => V.asInt (List.getD (List.getD l1 (Int.toNat i3) []) 2 V.undef) .i64 (fun n11 => V.asInt (List.getD (List.getD l1 (Int.toNat i3) []) 3 V.undef) .i64 (fun n12 => bif (i3 == (IntKind.wrap .i64 ((l0.length : Int) - (1 : Int)))) then (bif (n9 == (0 : Int)) then (bif (decide (s10 = (ByteArray.mk #[]))) then (some ⟨Out.ret (V.bool (n11 == (0 : Int))), [], none⟩) else (some ⟨Out.ret (V.bool false), [], none⟩)) else (some ⟨Out.ret (V.bool false), [], none⟩)) else (den Sp lex_written.id [V.agg [V.int .i64 n9, V.str s10, V.int .i64 n11, V.int .i64 n12]] [] none).bind (fun r15 => Res.onRet r15 (fun v16 => V.asTup v16 2 (fun rd17 => V.asStr (rd17 0) (fun s18 => V.asBool (rd17 1) (fun b19 => bif (!b19) then (some ⟨Out.ret (V.bool false), [], none⟩) else (L1_0_1_0 l0 l1 i2 (IntKind.wrap .i64 (i3 + (1 : Int)))))))))))))) else none) else (some ⟨Out.ret (V.bool false), [], none⟩)) := (LP_eq ..).trans (by kernel_rfl)
theorem eq (a0 : (List (List V))) : den Sp id [V.sl .no T_api_Token a0] [] none =
  (L1_0_1_0 a0 a0 (a0.length : Int) (0 : Int)) := (den_eq ..).trans (by kernel_rfl)
end lex_Right
namespace lex_written
theorem eq (a0_0 : Int) (a0_1 : ByteArray) (a0_2 a0_3 : Int) : den Sp id [V.agg [V.int .i64 a0_0, V.str a0_1, V.int .i64 a0_2, V.int .i64 a0_3]] [] none =
  (bif (a0_0 == (1 : Int)) then (bif (a0_2 == (0 : Int)) then (den Sp lex_IsName.id [V.str a0_1] [] none).bind (fun r8 => Res.onRet r8 (fun v9 => V.asBool v9 (fun b10 => some ⟨Out.ret (V.tup [V.str a0_1, V.bool b10]), [], none⟩))) else (some ⟨Out.ret (V.tup [V.str a0_1, V.bool false]), [], none⟩)) else (bif (a0_0 == (3 : Int)) then (bif (a0_2 == (0 : Int)) then (den Sp lex_isKey.id [V.str a0_1] [] none).bind (fun r9 => Res.onRet r9 (fun v10 => V.asBool v10 (fun b11 => some ⟨Out.ret (V.tup [V.str a0_1, V.bool b11]), [], none⟩))) else (some ⟨Out.ret (V.tup [V.str a0_1, V.bool false]), [], none⟩)) else (bif (a0_0 == (4 : Int)) then (bif (a0_2 == (0 : Int)) then (bif (!(decide (a0_1 = (ByteArray.mk #[])))) then (den Sp lex_sign.id [V.str a0_1] [] none).bind (fun r10 => Res.onRet r10 (fun v11 => V.asStr v11 (fun s12 => some ⟨Out.ret (V.tup [V.str a0_1, V.bool (decide (s12 = a0_1))]), [], none⟩))) else (some ⟨Out.ret (V.tup [V.str a0_1, V.bool false]), [], none⟩)) else (some ⟨Out.ret (V.tup [V.str a0_1, V.bool false]), [], none⟩)) else (bif (a0_0 == (2 : Int)) then (den Sp num_Text.id [V.int .i64 a0_2] [] none).bind (fun r11 => Res.onRet r11 (fun v12 => V.asStr v12 (fun s13 => bif (decide (a0_1 = (ByteArray.mk #[]))) then (some ⟨Out.ret (V.tup [V.str s13, V.bool (decide (a0_2 >= (0 : Int)))]), [], none⟩) else (some ⟨Out.ret (V.tup [V.str s13, V.bool false]), [], none⟩)))) else (some ⟨Out.ret (V.tup [V.str (ByteArray.mk #[]), V.bool false]), [], none⟩))))) := (den_eq ..).trans (by kernel_rfl)
end lex_written
end Go.Proofs.YtmhnmelaodhemaaGreatDoor
namespace Go.Proofs.YtmhnmelaodhemaaGreatDoor
open Go Go.Proofs.Ab Go.Proofs.Px
theorem dgt_w (u : Nat) : IntKind.wrap IntKind.u8 (IntKind.wrap IntKind.u64 ((48 : Int) + (Int.tmod (u : Int) (10 : Int)))) = ((dgt u).toNat : Int) := by
 rw [dgt_nat, Int.tmod_eq_emod_of_nonneg (by omega), IntKind.wrap_u64, IntKind.wrap_u8]
 omega
theorem div_w (u : Nat) (h : u < 18446744073709551616) : IntKind.wrap IntKind.u64 (Int.tdiv (u : Int) (10 : Int)) = ((u / 10 : Nat) : Int) := by
 rw [Int.tdiv_eq_ediv_of_nonneg (by omega), IntKind.wrap_u64]
 omega
def sgn (n : Int) (l : List UInt8) : List UInt8 := if n < 0 then 45 :: l else l
theorem set_drop (l : List (List V)) (k : Nat) (x : List V) (h : k < l.length) : (l.set k x).drop k = x :: l.drop (k + 1) := by
 rw [List.drop_set, if_neg (by omega), Nat.sub_self, List.drop_eq_getElem_cons h]
 rfl
theorem text_loop (n : Int) (f : Nat) : ∀ (k u : Nat) (acc : List UInt8) (l : List (List V)), u < 10 ^ f -> u < 18446744073709551616 -> 0 < f -> f + 1 <= k -> k <= 20 -> l.length = 20 -> l.drop k = bv acc ->
  num_Text.L1_1_1_1_1_0_0 n (k : Int) (u : Int) l = some ⟨.ret (.str (B (sgn n (decGo f u acc)))), [], none⟩ := by
 induction f with
 | zero => intro _ _ _ _ _ _ h; omega
 | succ f ih =>
  intro k u acc l hu hu6 hf0 hk hk2 hl hd
  obtain ⟨k, rfl⟩ : ∃ j, k = j + 1 := ⟨k - 1, by omega⟩
  have w1 : IntKind.wrap IntKind.i64 (((k + 1 : Nat) : Int) - 1) = (k : Int) := by rw [wrap_in (by omega) (by omega)]; omega
  have c1 : ((0 : Int) <= (k : Int)) ∧ (((k : Int) < ((20 : Nat) : Int)) ∧ ((k : Int) < ((l.length : Nat) : Int))) := by rw [hl]; omega
  have hset : (l.set k [V.int .u8 ((dgt u).toNat : Int)]).drop k = bv (dgt u :: acc) := by
   rw [set_drop l k _ (by omega), hd]; rfl
  have hlen : (l.set k [V.int .u8 ((dgt u).toNat : Int)]).length = 20 := by rw [List.length_set]; exact hl
  have tk : ∀ (m : List (List V)) (j : Nat) (t : List UInt8), m.length = 20 -> j <= 20 -> m.drop j = bv t -> m.drop j = bv t ∧ (m.drop j).take (20 - j) = bv t := fun m j t h1 h2 h3 =>
   ⟨h3, by rw [List.take_of_length_le (by rw [List.length_drop]; omega), h3]⟩
  rw [num_Text.L1_1_1_1_1_0_0_eq, w1, if_pos c1, dgt_w, div_w u hu6, Int.toNat_natCast]
  unfold decGo
  by_cases h0 : u / 10 = 0
  ·rw [if_pos h0, h0, show (((0 : Nat) : Int) == (0 : Int)) = true from rfl, cond_true]
   by_cases hn : n < 0
   ·obtain ⟨k, rfl⟩ : ∃ j, k = j + 1 := ⟨k - 1, by omega⟩
    have w2 : IntKind.wrap IntKind.i64 (((k + 1 : Nat) : Int) - 1) = (k : Int) := by rw [wrap_in (by omega) (by omega)]; omega
    have hset2 : ((l.set (k + 1) [V.int .u8 ((dgt u).toNat : Int)]).set k [V.int .u8 45]).drop k = bv (45 :: dgt u :: acc) := by
     rw [set_drop _ k _ (by omega), hset]; rfl
    have hlen2 : ((l.set (k + 1) [V.int .u8 ((dgt u).toNat : Int)]).set k [V.int .u8 45]).length = 20 := by rw [List.length_set]; exact hlen
    have ht := tk _ k _ hlen2 (by omega) hset2
    rw [decide_eq_true hn, cond_true, w2, if_pos (by rw [hlen]; omega), if_pos (by omega), Int.toNat_natCast, hlen2, if_pos (by omega), ht.2, bytesOk_bv, if_pos ⟨rfl, by omega⟩, toBytes_bv]
    unfold sgn
    rw [if_pos hn]
    rfl
   ·have ht := tk _ k _ hlen (by omega) hset
    rw [decide_eq_false hn, cond_false, if_pos (by omega), hlen, if_pos (by omega), ht.2, bytesOk_bv, if_pos ⟨rfl, by omega⟩, toBytes_bv]
    unfold sgn
    rw [if_neg hn]
    rfl
  ·have h1 : u / 10 < 10 ^ f := by
    rw [Nat.pow_succ] at hu
    omega
   have hf : 0 < f := by
    rcases Nat.eq_zero_or_pos f with rfl | h2
    ·simp at h1; omega
    ·exact h2
   rw [if_neg h0, beq_eq_false_iff_ne.2 (by omega), cond_false]
   exact ih k (u / 10) (dgt u :: acc) _ h1 (by omega) hf (by omega) (by omega) hlen hset
theorem num_Text_is (n : Int) (h0 : -9223372036854775808 <= n) (h1 : n <= 9223372036854775807) : den Sp num_Text.id [.int .i64 n] [] none = some ⟨.ret (.str (B (decs n))), [], none⟩ := by
 have h19 : (10 : Nat) ^ 19 = 10000000000000000000 := by decide
 have hb : n.natAbs < 10 ^ 19 := by rw [h19]; omega
 have hz : ∀ u : Nat, u = n.natAbs -> num_Text.L1_1_1_1_1_0_0 n (20 : Int) (u : Int) [[(V.int IntKind.u8 (0 : Int))], [(V.int IntKind.u8 (0 : Int))], [(V.int IntKind.u8 (0 : Int))], [(V.int IntKind.u8 (0 : Int))], [(V.int IntKind.u8 (0 : Int))], [(V.int IntKind.u8 (0 : Int))], [(V.int IntKind.u8 (0 : Int))], [(V.int IntKind.u8 (0 : Int))], [(V.int IntKind.u8 (0 : Int))], [(V.int IntKind.u8 (0 : Int))], [(V.int IntKind.u8 (0 : Int))], [(V.int IntKind.u8 (0 : Int))], [(V.int IntKind.u8 (0 : Int))], [(V.int IntKind.u8 (0 : Int))], [(V.int IntKind.u8 (0 : Int))], [(V.int IntKind.u8 (0 : Int))], [(V.int IntKind.u8 (0 : Int))], [(V.int IntKind.u8 (0 : Int))], [(V.int IntKind.u8 (0 : Int))], [(V.int IntKind.u8 (0 : Int))]] =
   some ⟨.ret (.str (B (decs n))), [], none⟩ := by
  rintro u rfl
  have := text_loop n 19 20 n.natAbs [] _ hb (by omega) (by omega) (by omega) (by omega) (show List.length [[(V.int IntKind.u8 (0 : Int))], [(V.int IntKind.u8 (0 : Int))], [(V.int IntKind.u8 (0 : Int))], [(V.int IntKind.u8 (0 : Int))], [(V.int IntKind.u8 (0 : Int))], [(V.int IntKind.u8 (0 : Int))], [(V.int IntKind.u8 (0 : Int))], [(V.int IntKind.u8 (0 : Int))], [(V.int IntKind.u8 (0 : Int))], [(V.int IntKind.u8 (0 : Int))], [(V.int IntKind.u8 (0 : Int))], [(V.int IntKind.u8 (0 : Int))], [(V.int IntKind.u8 (0 : Int))], [(V.int IntKind.u8 (0 : Int))], [(V.int IntKind.u8 (0 : Int))], [(V.int IntKind.u8 (0 : Int))], [(V.int IntKind.u8 (0 : Int))], [(V.int IntKind.u8 (0 : Int))], [(V.int IntKind.u8 (0 : Int))], [(V.int IntKind.u8 (0 : Int))]] = 20 from rfl) rfl
  refine Eq.trans this ?_
  rw [<- dec_of 19 n.natAbs hb (by omega) (by omega)]
  rfl
 rw [num_Text.eq]
 by_cases hn : n < 0
 ·have e1 : IntKind.wrap IntKind.u64 ((0 : Int) - (IntKind.wrap IntKind.u64 n)) = ((n.natAbs : Nat) : Int) := by rw [IntKind.wrap_u64, IntKind.wrap_u64]; omega
  rw [decide_eq_true hn, cond_true, e1, hz _ rfl]
 ·have e1 : IntKind.wrap IntKind.u64 n = ((n.natAbs : Nat) : Int) := by rw [IntKind.wrap_u64]; omega
  rw [decide_eq_false hn, cond_false, e1, hz _ rfl]
def u64 (n : Int) : Nat := (n % 18446744073709551616).toNat
theorem u64_wrap (n : Int) : IntKind.wrap IntKind.u64 n = ((u64 n : Nat) : Int) := by rw [IntKind.wrap_u64]; unfold u64; omega
theorem u64_lt (n : Int) : u64 n < 18446744073709551616 := by unfold u64; omega
theorem two64 : (2 : Nat) ^ 64 = 18446744073709551616 := by decide
theorem ref01_Bits_is (n : Int) : den Sp ref01_Bits.id [.int .i64 n] [] none = some ⟨.ret (.sl .no T_int (bitRow (u64 n))), [], none⟩ := by
 rw [ref01_Bits.eq]
 have key : ∀ i : Nat, i <= 64 -> ref01_Bits.L1_1_0_1_0 n (bitsTo (u64 n) i) (i : Int) = some ⟨.ret (.sl .no T_int (bitRow (u64 n))), [], none⟩ := by
  refine down ?_ fun i hi ih => ?_
  ·rw [ref01_Bits.L1_1_0_1_0_eq]; rfl
  ·have e1 : IntKind.wrap IntKind.u64 (i : Int) = (i : Int) := by rw [IntKind.wrap_u64]; omega
   have e2 : Min.min (Int.toNat (i : Int)) 64 = i := by rw [Int.toNat_natCast]; omega
   have e3 : ¬ ((i : Int) < 0) := by omega
   have e4 : ((i : Int) < 64) := by omega
   have e5 : Int.fdiv ((u64 n : Nat) : Int) ((2 : Int) ^ i) = ((u64 n / 2 ^ i : Nat) : Int) := by
    rw [Int.fdiv_eq_ediv_of_nonneg _ (Int.le_of_lt (Int.pow_pos (by omega)))]
    rw [Int.natCast_ediv, Int.natCast_pow]; rfl
   have e6 : IntKind.wrap IntKind.i64 (Int.tmod ((u64 n / 2 ^ i : Nat) : Int) 2) = ((bit (u64 n) i : Nat) : Int) := by
    have := bit_lt (u64 n) i
    rw [Int.tmod_eq_emod_of_nonneg (Int.natCast_nonneg _)]
    unfold bit at *
    generalize u64 n / 2 ^ i = y at *
    rw [wrap_in (by omega) (by omega)]; omega
   rw [ref01_Bits.L1_1_0_1_0_eq, e1, e2, if_neg e3, decide_eq_true e4, cond_true, u64_wrap, e5, e6, bitsTo_len, if_pos (one_most (by omega)), <- bitsTo_succ, wrap_nat (by omega), ih]
 exact key 0 (by omega)
theorem ref01_number_is (x : Nat) : den Sp ref01_number.id [.sl .no T_int (bitRow x)] [] none = some ⟨.ret (.int .i64 (IntKind.i64.wrap ((x % 2 ^ 64 : Nat) : Int))), [], none⟩ := by
 rw [<- bits_mod]
 have hx : x % 2 ^ 64 < 2 ^ 64 := Nat.mod_lt _ (by decide)
 generalize x % 2 ^ 64 = y at hx
 rw [ref01_number.eq]
 have key : ∀ i : Nat, i <= 64 -> ref01_number.L1_1_0_1_0 (bitRow y) ((y / 2 ^ i : Nat) : Int) ((i : Int) - 1) = some ⟨.ret (.int .i64 (IntKind.i64.wrap (y : Int))), [], none⟩ := by
  intro i
  induction i with
  | zero =>
   intro _
   rw [ref01_number.L1_1_0_1_0_eq, Nat.pow_zero, Nat.div_one]; rfl
  | succ i ih =>
   intro hi
   have e1 : (((i + 1 : Nat) : Int) - 1) = (i : Int) := by omega
   have e2 : ((i : Int) >= 0) := by omega
   have hb : bitRow y = bitsTo y 64 := rfl
   have e3 : (0 : Int) <= (i : Int) ∧ (i : Int) < (((bitRow y).length : Nat) : Int) := by rw [hb, bitsTo_len]; omega
   have hbl := bit_lt y i
   have e4 : IntKind.wrap IntKind.u64 ((IntKind.wrap IntKind.u64 (((y / 2 ^ (i + 1) : Nat) : Int) * 2)) + (IntKind.wrap IntKind.u64 ((bit y i : Nat) : Int))) = ((y / 2 ^ i : Nat) : Int) := by
    have h1 := half y i
    have h2 : y / 2 ^ i <= y := Nat.div_le_self ..
    rw [two64] at hx
    rw [IntKind.wrap_u64, IntKind.wrap_u64, IntKind.wrap_u64]
    omega
   have e5 : IntKind.wrap IntKind.i64 ((i : Int) - 1) = (i : Int) - 1 := wrap_in (by omega) (by omega)
   rw [ref01_number.L1_1_0_1_0_eq, e1, decide_eq_true e2, cond_true, if_pos e3, Int.toNat_natCast, bits_at (by omega), asInt_int, e4, e5]
   exact ih (by omega)
 have := key 64 (by omega)
 rw [Nat.div_eq_of_lt hx] at this
 exact this
theorem ref01_other_is (x : Nat) (hx : x < 2 ^ 64) : den Sp ref01_other.id [.sl .no T_int (bitRow x)] [] none = some ⟨.ret (.sl .no T_int (bitRow (2 ^ 64 - (x + 1)))), [], none⟩ := by
 rw [ref01_other.eq]
 have hlen : (bitRow x).length = 64 := bitsTo_len x 64
 have key : ∀ i : Nat, i <= 64 -> ref01_other.L1_1_0_1_0 (bitRow x) (bitsTo (2 ^ 64 - (x + 1)) i) (i : Int) = some ⟨.ret (.sl .no T_int (bitRow (2 ^ 64 - (x + 1)))), [], none⟩ := by
  refine down ?_ fun i hi ih => ?_
  ·rw [ref01_other.L1_1_0_1_0_eq, hlen]; rfl
  ·have e1 : ((i : Int) < ((64 : Nat) : Int)) := by omega
   have e2 : (0 : Int) <= (i : Int) ∧ (i : Int) < ((64 : Nat) : Int) := by omega
   have hbl := bit_lt x i
   have e3 : IntKind.wrap IntKind.i64 ((1 : Int) - ((bit x i : Nat) : Int)) = ((bit (2 ^ 64 - (x + 1)) i : Nat) : Int) := by
    rw [bit_other hx hi, wrap_in (by omega) (by omega)]; omega
   rw [ref01_other.L1_1_0_1_0_eq, hlen, decide_eq_true e1, cond_true, if_pos e2, Int.toNat_natCast, bits_at hi, asInt_int, e3, bitsTo_len, if_pos (one_most (by omega)), <- bitsTo_succ, wrap_nat (by omega), ih]
 exact key 0 (by omega)
theorem ref01_plus_is (a b c : Nat) (hc : c <= 1) : den Sp ref01_plus.id [.sl .no T_int (bitRow a), .sl .no T_int (bitRow b), .int .i64 (c : Int)] [] none = some ⟨.ret (.sl .no T_int (bitRow (a + b + c))), [], none⟩ := by
 rw [ref01_plus.eq]
 have hlen : ∀ x, (bitRow x).length = 64 := fun x => bitsTo_len x 64
 have key : ∀ i : Nat, i <= 64 -> ref01_plus.L1_1_0_1_0 (bitRow a) (bitRow b) ((carry a b c i : Nat) : Int) (bitsTo (a + b + c) i) (i : Int) = some ⟨.ret (.sl .no T_int (bitRow (a + b + c))), [], none⟩ := by
  refine down ?_ fun i hi ih => ?_
  ·rw [ref01_plus.L1_1_0_1_0_eq]; rfl
  ·have e1 : ((i : Int) < 64) := by omega
   have e2 : (0 : Int) <= (i : Int) ∧ (i : Int) < ((64 : Nat) : Int) := by omega
   have h1 := bit_lt a i
   have h2 := bit_lt b i
   have h3 := carry_lt (a := a) (b := b) (i := i) hc
   have e3 : IntKind.wrap IntKind.i64 ((IntKind.wrap IntKind.i64 (((bit a i : Nat) : Int) + ((bit b i : Nat) : Int))) + ((carry a b c i : Nat) : Int)) = ((bit a i + bit b i + carry a b c i : Nat) : Int) := by
    rw [wrap_in (n := ((bit a i : Nat) : Int) + ((bit b i : Nat) : Int)) (by omega) (by omega), wrap_in (by omega) (by omega)]; omega
   have e4 : Int.tmod ((bit a i + bit b i + carry a b c i : Nat) : Int) 2 = ((bit (a + b + c) i : Nat) : Int) := by
    rw [Int.tmod_eq_emod_of_nonneg (by omega), carry_bit]; omega
   have e5 : IntKind.wrap IntKind.i64 (Int.tdiv ((bit a i + bit b i + carry a b c i : Nat) : Int) 2) = ((carry a b c (i + 1) : Nat) : Int) := by
    rw [Int.tdiv_eq_ediv_of_nonneg (by omega), carry_succ, wrap_in (by omega) (by omega)]; omega
   rw [ref01_plus.L1_1_0_1_0_eq, hlen, hlen, decide_eq_true e1, cond_true, if_pos e2, Int.toNat_natCast, bits_at hi, asInt_int, if_pos e2, bits_at hi, asInt_int, e3, e4, e5, bitsTo_len, if_pos (one_most (by omega)), <- bitsTo_succ, wrap_nat (by omega), ih]
 have := key 0 (by omega)
 rw [carry_zero] at this
 exact this
theorem ref01_Sub_is (a b : Int) : den Sp ref01_Sub.id [.int .i64 a, .int .i64 b] [] none = some ⟨.ret (.int .i64 (IntKind.i64.wrap (a - b))), [], none⟩ := by
 have hb := u64_lt b
 rw [ref01_Sub.eq, ref01_Bits_is, ref01_Bits_is]
 simp only [Option.bind_some, onRet_ret, asSl_sl]
 rw [ref01_other_is _ (by rw [two64]; exact hb)]
 simp only [Option.bind_some, onRet_ret, asSl_sl]
 have hp := ref01_plus_is (u64 a) (2 ^ 64 - (u64 b + 1)) 1 (by omega)
 rw [show (((1 : Nat) : Int)) = (1 : Int) from rfl] at hp
 rw [hp]
 simp only [Option.bind_some, onRet_ret, asSl_sl]
 rw [ref01_number_is]
 simp only [Option.bind_some, onRet_ret, asInt_int]
 congr 4
 rw [IntKind.wrap_i64, IntKind.wrap_i64, two64]
 unfold u64
 omega
theorem ref01_Neg_is (a : Int) : den Sp ref01_Neg.id [.int .i64 a] [] none = some ⟨.ret (.int .i64 (IntKind.i64.wrap (-a))), [], none⟩ := by
 rw [ref01_Neg.eq, ref01_Sub_is]
 simp only [Option.bind_some, onRet_ret, asInt_int]
 rw [Int.zero_sub]
theorem ref01_size_is (a : Int) (h0 : -9223372036854775808 <= a) (h1 : a <= 9223372036854775807) : den Sp ref01_size.id [.int .i64 a] [] none = some ⟨.ret (.int .u64 ((a.natAbs : Nat) : Int)), [], none⟩ := by
 rw [ref01_size.eq]
 by_cases ha : a < 0
 ·rw [decide_eq_true ha, cond_true, ref01_Neg_is]
  simp only [Option.bind_some, onRet_ret, asInt_int]
  congr 4
  rw [IntKind.wrap_i64, IntKind.wrap_u64]; omega
 ·rw [decide_eq_false ha, cond_false]
  congr 4
  rw [IntKind.wrap_u64]; omega
theorem rtext_loop (n : Int) (f : Nat) : ∀ (u : Nat) (acc : List UInt8), u < 10 ^ f -> u < 18446744073709551616 -> 0 < f -> acc.length + f <= 100 -> (acc = [] ∨ 0 < u) ->
  ref01_Text.L1_1_1_0_0 n (B acc) (u : Int) = ref01_Text.L1_1_1_0_0 n (B (decGo f u acc)) 0 := by
 induction f with
 | zero => intro _ _ _ _ h; omega
 | succ f ih =>
  intro u acc hu hu6 _ ha hz
  have one : toBytes [[V.int IntKind.u8 ((dgt u).toNat : Int)]] = [dgt u] := toBytes_bv [dgt u]
  have step : ref01_Text.L1_1_1_0_0 n (B acc) (u : Int) = ref01_Text.L1_1_1_0_0 n (B (dgt u :: acc)) ((u / 10 : Nat) : Int) := by
   rw [ref01_Text.L1_1_1_0_0_eq, dgt_w, div_w u hu6, one]
   have e1 : (ByteArray.mk [dgt u].toArray).size + (B acc).size <= most := by
    rw [B_size]
    show 1 + acc.length <= 1099511627776
    omega
   have e2 : ByteArray.mk [dgt u].toArray ++ B acc = B (dgt u :: acc) := B_append [dgt u] acc
   rw [if_pos e1, e2, B_nil, B_dec]
   by_cases h : acc = []
   ·rw [decide_eq_true h, cond_true]
   ·have h3 : ((u : Int) > 0) := by
     rcases hz with hz | hz
     ·exact absurd hz h
     ·omega
    rw [decide_eq_false h, cond_false, decide_eq_true h3, cond_true]
  rw [step]
  unfold decGo
  by_cases h0 : u / 10 = 0
  ·rw [if_pos h0, h0]; rfl
  ·have h1 : u / 10 < 10 ^ f := by
    rw [Nat.pow_succ] at hu
    omega
   have hf0 : 0 < f := by
    rcases Nat.eq_zero_or_pos f with rfl | h2
    ·simp at h1; omega
    ·exact h2
   rw [if_neg h0]
   refine ih (u / 10) (dgt u :: acc) h1 (by omega) hf0 ?_ (.inr (by omega))
   simp only [List.length_cons]
   omega
theorem ref01_Text_is (n : Int) (h0 : -9223372036854775808 <= n) (h1 : n <= 9223372036854775807) : den Sp ref01_Text.id [.int .i64 n] [] none = some ⟨.ret (.str (B (decs n))), [], none⟩ := by
 have h19 : (10 : Nat) ^ 19 = 10000000000000000000 := by decide
 have hb : n.natAbs < 10 ^ 19 := by rw [h19]; omega
 have hne := decGo_ne 19 n.natAbs [] (by omega)
 have hln := decGo_len 19 n.natAbs []
 have hl := rtext_loop n 19 n.natAbs [] hb (by omega) (by omega) (by simp) (.inl rfl)
 rw [ref01_Text.eq, ref01_size_is n h0 h1]
 simp only [Option.bind_some, onRet_ret, asInt_int]
 rw [B_nil, hl, ref01_Text.L1_1_1_0_0_eq, B_nil, B_dec, decide_eq_false hne, cond_false]
 have h3 : decide ((0 : Int) > 0) = false := rfl
 rw [h3, cond_false, B_size]
 unfold decs
 rw [dec_of 19 n.natAbs hb (by omega) (by omega)]
 by_cases hn : n < 0
 ·have h4 : 1 + (decGo 19 n.natAbs []).length <= most := by
   show 1 + (decGo 19 n.natAbs []).length <= 1099511627776
   simp at hln; omega
  have h5 : ByteArray.mk #[45] ++ B (decGo 19 n.natAbs []) = B (45 :: decGo 19 n.natAbs []) := B_append [45] _
  rw [decide_eq_true hn, cond_true, if_pos h4, h5, if_pos hn]
 ·rw [decide_eq_false hn, cond_false, if_neg hn]
theorem sv_app (l : List (List UInt8)) (w : List UInt8) : sv l ++ [[.str (B w)]] = sv (l ++ [w]) := by simp [sv]
def joinTo (l : List (List UInt8)) (i : Nat) : List UInt8 := joinL (l.take i)
theorem joinL_snoc : ∀ (l : List (List UInt8)) (w : List UInt8), l ≠ [] -> joinL (l ++ [w]) = joinL l ++ 32 :: w
 | [], _, h => absurd rfl h
 | [a], w, _ => by simp [joinL]
 | a :: b :: l, w, _ => by
  have := joinL_snoc (b :: l) w (by simp)
  simp only [List.cons_append] at this ⊢
  simp only [joinL, this, List.append_assoc, List.cons_append]
theorem joinTo_succ {l : List (List UInt8)} {i : Nat} (h : i < l.length) : joinTo l (i + 1) = if i = 0 then (l[i]'h) else joinTo l i ++ 32 :: (l[i]'h) := by
 unfold joinTo
 rw [List.take_succ_eq_append_getElem h]
 by_cases h0 : i = 0
 ·subst h0; rfl
 ·rw [if_neg h0, joinL_snoc]
  intro h1
  have := congrArg List.length h1
  rw [List.length_take, List.length_nil] at this; omega
theorem joinTo_zero (l : List (List UInt8)) : joinTo l 0 = [] := by simp [joinTo, joinL]
theorem joinTo_all (l : List (List UInt8)) : joinTo l l.length = joinL l := by simp [joinTo]
def weighW (l : List (List UInt8)) : Nat := (l.map fun w => 1 + w.length).sum
theorem weighW_take (l : List (List UInt8)) (i : Nat) (h : i < l.length) : weighW (l.take (i + 1)) = weighW (l.take i) + (1 + (l[i]'h).length) := by
 unfold weighW
 rw [List.take_succ_eq_append_getElem h]
 simp only [List.map_append, List.sum_append, List.map_cons, List.map_nil, List.sum_cons, List.sum_nil, Nat.add_zero]
theorem weighW_le (l : List (List UInt8)) (i : Nat) : weighW (l.take i) <= weighW l := by
 have h : weighW l = weighW (l.take i) + weighW (l.drop i) := by
  unfold weighW
  rw [<- List.sum_append, <- List.map_append, List.take_append_drop]
 omega
theorem joinTo_len (l : List (List UInt8)) : ∀ i, i <= l.length -> (joinTo l i).length <= weighW (l.take i)
 | 0, _ => by rw [joinTo_zero]; exact Nat.zero_le _
 | i + 1, h => by
  have ih := joinTo_len l i (by omega)
  rw [joinTo_succ (by omega), weighW_take l i (by omega)]
  split
  ·omega
  ·rw [List.length_append, List.length_cons]; omega
theorem num_Join_is (l : List (List UInt8)) (hl : l.length < 4611686018427387904) (hw : weighW l <= 1099511627776) : den Sp num_Join.id [.sl .no T_string (sv l)] [] none = some ⟨.ret (.str (B (joinL l))), [], none⟩ := by
 rw [num_Join.eq, sv_len]
 have key : ∀ i : Nat, i <= l.length -> num_Join.L1_1_0_1_0 (bv (joinTo l i)) (sv l) (l.length : Int) (i : Int) = some ⟨.ret (.str (B (joinL l))), [], none⟩ := by
  refine down ?_ fun i hi ih => ?_
  ·rw [num_Join.L1_1_0_1_0_eq, decide_eq_false (Int.lt_irrefl _), cond_false, bytesOk_bv, if_pos rfl, toBytes_bv, joinTo_all]
   rfl
  ·have e1 : ((i : Int) < ((l.length : Nat) : Int)) := by omega
   have e2 : (0 : Int) <= (i : Int) ∧ ((i : Int) < ((l.length : Nat) : Int)) := ⟨by omega, e1⟩
   have h1 := joinTo_len l (i + 1) (by omega)
   have h2 := weighW_le l (i + 1)
   have h3 := joinTo_succ hi
   rw [num_Join.L1_1_0_1_0_eq, sv_len, decide_eq_true e1, cond_true, if_pos e2, Int.toNat_natCast, sv_at l i hi, asStr_str, B_size, ofBytes_B, wrap_nat (by omega), bv_length]
   by_cases h0 : i = 0
   ·subst h0
    rw [if_pos rfl] at h3
    rw [joinTo_zero]
    have e4 : ([] : List UInt8).length + (l[0]'hi).length <= most := by
     show 0 + (l[0]'hi).length <= 1099511627776
     rw [h3] at h1; omega
    have e5 : decide (((0 : Nat) : Int) > 0) = false := rfl
    rw [e5, cond_false, if_pos e4, bv_append, List.nil_append, <- h3]
    exact ih
   ·rw [if_neg h0] at h3
    rw [h3, List.length_append, List.length_cons] at h1
    have e3 : ((i : Int) > 0) := by omega
    have e4 : (joinTo l i).length + List.length [[(V.int IntKind.u8 (32 : Int))]] <= most := by
     show (joinTo l i).length + 1 <= 1099511627776
     omega
    have e5 : bv (joinTo l i) ++ [[(V.int IntKind.u8 (32 : Int))]] = bv (joinTo l i ++ [32]) := bv_append (joinTo l i) [32]
    have e6 : (joinTo l i ++ [32]).length + (l[i]'hi).length <= most := by
     show (joinTo l i ++ [32]).length + (l[i]'hi).length <= 1099511627776
     rw [List.length_append, List.length_singleton]; omega
    have e4' : (joinTo l i).length + 1 <= most := e4
    rw [decide_eq_true e3, cond_true]
    first | rw [if_pos e4] | rw [if_pos e4']
    rw [e5, bv_length, if_pos e6, bv_append, List.append_assoc]
    rw [show joinTo l i ++ ([32] ++ (l[i]'hi)) = joinTo l (i + 1) by rw [h3]; rfl]
    exact ih
 have := key 0 (Nat.zero_le _)
 rw [joinTo_zero] at this
 exact this
def levelP (s : List UInt8) : Int :=
 if s = [124, 124] then 1 else if s = [38, 38] then 2 else if s = [61, 61] then 3 else if s = [33, 61] then 3 else if s = [60] then 3 else if s = [60, 61] then 3
 else if s = [43] then 4 else if s = [45] then 4 else if s = [42] then 5 else if s = [47] then 5 else if s = [37] then 5 else 0
def plainK (k : Int) (n : List UInt8) (m : Int) (c : Nat) : Bool :=
 if k = 1 then decide (n = []) && decide (0 <= m) && decide (c = 0)
 else if k = 2 then decide (n = []) && (decide (m = 0) || decide (m = 1)) && decide (c = 0)
 else if k = 3 then decide (n ≠ []) && decide (m = 0) && decide (c = 0)
 else if k = 4 then decide (n ≠ []) && decide (m = 0) && decide (c = 1)
 else if k = 5 then (decide (n = [45]) || decide (n = [33])) && decide (m = 0) && decide (c = 1)
 else if k = 6 then decide (0 < levelP n) && decide (m = 0) && decide (c = 2)
 else false
def namedK (k : Int) (n : List UInt8) : Bool := if k = 3 then isName (B n) else if k = 4 then isName (B n) else true
mutual
def okX : Ex -> Bool
 | .mk k n m l => plainK k n m l.length && namedK k n && okXs l
def okXs : List Ex -> Bool
 | [] => true
 | x :: l => okX x && okXs l
end
def sideW (k : Int) (w : List (List UInt8)) : List (List UInt8) := if k = 6 then [40] :: (w ++ [[41]]) else w
def wK (k : Int) (n : List UInt8) (m : Int) (ws : List (Int × List (List UInt8))) : List (List UInt8) :=
 if k = 1 then [decs m]
 else if k = 2 then [if m = 1 then [116, 114, 117, 101] else [102, 97, 108, 115, 101]]
 else if k = 4 then n :: [91] :: ((ws.headD (0, [])).2 ++ [[93]])
 else if k = 5 then n :: sideW (ws.headD (0, [])).1 (ws.headD (0, [])).2
 else if k = 6 then sideW (ws.headD (0, [])).1 (ws.headD (0, [])).2 ++ n :: sideW (ws.getLastD (0, [])).1 (ws.getLastD (0, [])).2
 else [n]
mutual
def exW : Ex -> List (List UInt8)
 | .mk k n m l => wK k n m (exWs l)
def exWs : List Ex -> List (Int × List (List UInt8))
 | [] => []
 | x :: l => (x.kind, exW x) :: exWs l
end
def sideH (k h : Int) : Int := if k = 6 then h + 1 else h
def hK (k : Int) (hs : List (Int × Int)) : Int :=
 if k = 4 then (hs.headD (0, 0)).2 + 1
 else if k = 5 then sideH (hs.headD (0, 0)).1 (hs.headD (0, 0)).2 + 1
 else if k = 6 then max (sideH (hs.headD (0, 0)).1 (hs.headD (0, 0)).2) (sideH (hs.getLastD (0, 0)).1 (hs.getLastD (0, 0)).2)
 else 0
mutual
def hX : Ex -> Int
 | .mk k n m l => hK k (hXs l)
def hXs : List Ex -> List (Int × Int)
 | [] => []
 | x :: l => (x.kind, hX x) :: hXs l
end
theorem plain_forms {k : Int} {n : List UInt8} {m : Int} {l : List Ex} (h : plainK k n m l.length = true) :
  (k = 1 ∧ n = [] ∧ 0 <= m ∧ l = []) ∨ (k = 2 ∧ n = [] ∧ (m = 0 ∨ m = 1) ∧ l = []) ∨ (k = 3 ∧ n ≠ [] ∧ m = 0 ∧ l = []) ∨ (k = 4 ∧ n ≠ [] ∧ m = 0 ∧ ∃ x, l = [x]) ∨
  (k = 5 ∧ (n = [45] ∨ n = [33]) ∧ m = 0 ∧ ∃ x, l = [x]) ∨ (k = 6 ∧ 0 < levelP n ∧ m = 0 ∧ ∃ x y, l = [x, y]) := by
 have two : l.length = 2 -> ∃ x y, l = [x, y] := fun h => by
  match l, h with
  | [x, y], _ => exact ⟨x, y, rfl⟩
 unfold plainK at h
 split at h
 ·simp only [Bool.and_eq_true, decide_eq_true_eq] at h
  exact .inl ⟨‹_›, h.1.1, h.1.2, List.length_eq_zero_iff.1 h.2⟩
 split at h
 ·simp only [Bool.and_eq_true, Bool.or_eq_true, decide_eq_true_eq] at h
  exact .inr (.inl ⟨‹_›, h.1.1, h.1.2, List.length_eq_zero_iff.1 h.2⟩)
 split at h
 ·simp only [Bool.and_eq_true, decide_eq_true_eq] at h
  exact .inr (.inr (.inl ⟨‹_›, h.1.1, h.1.2, List.length_eq_zero_iff.1 h.2⟩))
 split at h
 ·simp only [Bool.and_eq_true, decide_eq_true_eq] at h
  exact .inr (.inr (.inr (.inl ⟨‹_›, h.1.1, h.1.2, List.length_eq_one_iff.1 h.2⟩)))
 split at h
 ·simp only [Bool.and_eq_true, Bool.or_eq_true, decide_eq_true_eq] at h
  exact .inr (.inr (.inr (.inr (.inl ⟨‹_›, h.1.1, h.1.2, List.length_eq_one_iff.1 h.2⟩))))
 split at h
 ·simp only [Bool.and_eq_true, decide_eq_true_eq] at h
  exact .inr (.inr (.inr (.inr (.inr ⟨‹_›, h.1.1, h.1.2, two h.2⟩))))
 cases h
theorem level_len {n : List UInt8} (h : 0 < levelP n) : 1 <= n.length ∧ n.length <= 2 := by
 unfold levelP at h
 repeat' (split at h; · rename_i e; subst e; decide)
 omega
theorem name_len {n : List UInt8} (h : isName (B n) = true) : n.length <= 40 := by
 unfold isName at h
 simp only [Bool.and_eq_true, decide_eq_true_eq, B_size] at h
 omega
theorem weighW_app (a b : List (List UInt8)) : weighW (a ++ b) = weighW a + weighW b := by
 unfold weighW; rw [List.map_append, List.sum_append]
theorem weighW_cons (a : List UInt8) (b : List (List UInt8)) : weighW (a :: b) = 1 + a.length + weighW b := by
 unfold weighW; rw [List.map_cons, List.sum_cons]
theorem weighW_nil : weighW [] = 0 := rfl
theorem sideW_weigh (k : Int) (w : List (List UInt8)) : weighW (sideW k w) <= weighW w + 4 := by
 unfold sideW
 split
 ·simp only [weighW_cons, weighW_app, weighW_nil, List.length_singleton]; omega
 ·omega
theorem okX_weigh : ∀ x : Ex, okX x = true -> weighW (exW x) <= 60 * x.size ∧ 0 <= hX x ∧ hX x <= 2 * (x.size : Int) := by
 refine Ex.ind fun k n m l ih h => ?_
 rw [okX, Bool.and_eq_true, Bool.and_eq_true] at h
 obtain ⟨⟨h1, h2⟩, h3⟩ := h
 rw [exW, hX, Ex.size]
 unfold wK hK
 rcases plain_forms h1 with ⟨rfl, rfl, hm, rfl⟩ | ⟨rfl, rfl, hm, rfl⟩ | ⟨rfl, hn, rfl, rfl⟩ | ⟨rfl, hn, rfl, x, rfl⟩ | ⟨rfl, hn, rfl, x, rfl⟩ | ⟨rfl, hn, rfl, x, y, rfl⟩
 ·have := decs_len m
  simp [weighW_cons, weighW_nil, Ex.sizes]; omega
 ·by_cases c : m = 1 <;> simp [weighW_cons, weighW_nil, Ex.sizes, c]
 ·have := name_len (n := n) (by simpa [namedK] using h2)
  simp [weighW_cons, weighW_nil, Ex.sizes]; omega
 ·have := name_len (n := n) (by simpa [namedK] using h2)
  obtain ⟨i1, i2, i3⟩ := ih x (by simp) (by simpa [okXs] using h3)
  simp [weighW_cons, weighW_nil, weighW_app, Ex.sizes, exWs, hXs]; omega
 ·obtain ⟨i1, i2, i3⟩ := ih x (by simp) (by simpa [okXs] using h3)
  have hl : n.length = 1 := by rcases hn with rfl | rfl <;> rfl
  have := sideW_weigh x.kind (exW x)
  simp [weighW_cons, weighW_nil, weighW_app, Ex.sizes, exWs, hXs]
  unfold sideH
  split <;> omega
 ·rw [okXs, okXs, okXs, Bool.and_true, Bool.and_eq_true] at h3
  obtain ⟨i1, i2, i3⟩ := ih x (by simp) h3.1
  obtain ⟨j1, j2, j3⟩ := ih y (by simp) h3.2
  have := level_len hn
  have := sideW_weigh x.kind (exW x)
  have := sideW_weigh y.kind (exW y)
  simp [weighW_cons, weighW_nil, weighW_app, Ex.sizes, exWs, hXs]
  unfold sideH
  split <;> split <;> omega
def prX (x : Ex) : List UInt8 × Int := if okX x then (if 60 < 1 + hX x then ([], 31) else (joinL (exW x), 0)) else ([], 32)
theorem joinL_cons (a : List UInt8) : ∀ {l : List (List UInt8)}, l ≠ [] -> joinL (a :: l) = a ++ 32 :: joinL l
 | [], h => absurd rfl h
 | b :: l, _ => rfl
theorem joinL_app : ∀ (a : List (List UInt8)) {b : List (List UInt8)}, a ≠ [] -> b ≠ [] -> joinL (a ++ b) = joinL a ++ 32 :: joinL b
 | [], _, h, _ => absurd rfl h
 | [x], b, _, hb => joinL_cons x hb
 | x :: y :: l, b, _, hb => by
  have := joinL_app (y :: l) (by simp) hb
  rw [List.cons_append, joinL_cons x (by simp), this, joinL_cons x (by simp), List.append_assoc, List.cons_append]
theorem joinL_len (l : List (List UInt8)) : (joinL l).length <= weighW l := by
 have := joinTo_len l l.length (Nat.le_refl _)
 rwa [joinTo_all, List.take_length] at this
theorem sideW_ne {k : Int} {w : List (List UInt8)} (h : w ≠ []) : sideW k w ≠ [] := by
 unfold sideW; split <;> simp [h]
theorem exW_ne (x : Ex) : exW x ≠ [] := by
 cases x with
 | mk k n m l =>
  rw [exW]; unfold wK
  split
  ·simp
  split
  ·simp
  split
  ·simp
  split
  ·simp
  split
  ·simp
  ·simp
inductive Stm where
 | mk (kind : Int) (name proc : List UInt8) (num : Int) (e : List Ex) (body els : List Stm)
instance : Inhabited Stm := ⟨.mk 0 [] [] 0 [] [] []⟩
namespace Stm
def kind : Stm -> Int | .mk k _ _ _ _ _ _ => k
def name : Stm -> List UInt8 | .mk _ n _ _ _ _ _ => n
def proc : Stm -> List UInt8 | .mk _ _ p _ _ _ _ => p
def num : Stm -> Int | .mk _ _ _ m _ _ _ => m
def e : Stm -> List Ex | .mk _ _ _ _ e _ _ => e
def body : Stm -> List Stm | .mk _ _ _ _ _ b _ => b
def els : Stm -> List Stm | .mk _ _ _ _ _ _ l => l
mutual
def v : Stm -> List V
 | .mk k n p m e b l => [.int .i64 k, .str (B n), .str (B p), .int .i64 m, .sl .no T_api_Expr (e.map Ex.v), .sl .no T_api_Stmt (vs b), .sl .no T_api_Stmt (vs l)]
def vs : List Stm -> List (List V)
 | [] => []
 | x :: l => v x :: vs l
end
theorem vs_map : ∀ l : List Stm, vs l = l.map v
 | [] => by rw [vs]; rfl
 | x :: l => by rw [vs, vs_map l]; rfl
theorem v_mk (k : Int) (n p : List UInt8) (m : Int) (e : List Ex) (b l : List Stm) :
  v (.mk k n p m e b l) = [.int .i64 k, .str (B n), .str (B p), .int .i64 m, .sl .no T_api_Expr (e.map Ex.v), .sl .no T_api_Stmt (b.map v), .sl .no T_api_Stmt (l.map v)] := by rw [v, vs_map, vs_map]
theorem v_is (x : Stm) : x.v = [.int .i64 x.kind, .str (B x.name), .str (B x.proc), .int .i64 x.num, .sl .no T_api_Expr (x.e.map Ex.v), .sl .no T_api_Stmt (x.body.map v), .sl .no T_api_Stmt (x.els.map v)] := by cases x; exact v_mk ..
mutual
theorem ind {p : Stm -> Prop} (h : ∀ k n q m e b l, (∀ x ∈ b, p x) -> (∀ x ∈ l, p x) -> p (.mk k n q m e b l)) : ∀ x, p x
 | .mk k n q m e b l => h k n q m e b l (inds h b) (inds h l)
theorem inds {p : Stm -> Prop} (h : ∀ k n q m e b l, (∀ x ∈ b, p x) -> (∀ x ∈ l, p x) -> p (.mk k n q m e b l)) : ∀ (l : List Stm) (x : Stm), x ∈ l -> p x
 | [] => nofun
 | y :: l => fun x hx => (List.mem_cons.1 hx).elim (fun e => e ▸ ind h y) (inds h l x)
end
mutual
def count : Stm -> Nat
 | .mk _ _ _ _ _ b l => 1 + counts b + counts l
def counts : List Stm -> Nat
 | [] => 0
 | x :: l => count x + counts l
end
end Stm
namespace Stm
@[simp] theorem kind_mk (k : Int) (n p : List UInt8) (m : Int) (e : List Ex) (b l : List Stm) : (Stm.mk k n p m e b l).kind = k := rfl
@[simp] theorem name_mk (k : Int) (n p : List UInt8) (m : Int) (e : List Ex) (b l : List Stm) : (Stm.mk k n p m e b l).name = n := rfl
@[simp] theorem proc_mk (k : Int) (n p : List UInt8) (m : Int) (e : List Ex) (b l : List Stm) : (Stm.mk k n p m e b l).proc = p := rfl
@[simp] theorem num_mk (k : Int) (n p : List UInt8) (m : Int) (e : List Ex) (b l : List Stm) : (Stm.mk k n p m e b l).num = m := rfl
@[simp] theorem e_mk (k : Int) (n p : List UInt8) (m : Int) (e : List Ex) (b l : List Stm) : (Stm.mk k n p m e b l).e = e := rfl
@[simp] theorem body_mk (k : Int) (n p : List UInt8) (m : Int) (e : List Ex) (b l : List Stm) : (Stm.mk k n p m e b l).body = b := rfl
@[simp] theorem els_mk (k : Int) (n p : List UInt8) (m : Int) (e : List Ex) (b l : List Stm) : (Stm.mk k n p m e b l).els = l := rfl
@[simp] theorem v_0 (x : Stm) : x.v.getD 0 .undef = .int .i64 x.kind := by rw [v_is]; rfl
@[simp] theorem v_1 (x : Stm) : x.v.getD 1 .undef = .str (B x.name) := by rw [v_is]; rfl
@[simp] theorem v_2 (x : Stm) : x.v.getD 2 .undef = .str (B x.proc) := by rw [v_is]; rfl
@[simp] theorem v_3 (x : Stm) : x.v.getD 3 .undef = .int .i64 x.num := by rw [v_is]; rfl
@[simp] theorem v_4 (x : Stm) : x.v.getD 4 .undef = .sl .no T_api_Expr (x.e.map Ex.v) := by rw [v_is]; rfl
@[simp] theorem v_5 (x : Stm) : x.v.getD 5 .undef = .sl .no T_api_Stmt (x.body.map v) := by rw [v_is]; rfl
@[simp] theorem v_6 (x : Stm) : x.v.getD 6 .undef = .sl .no T_api_Stmt (x.els.map v) := by rw [v_is]; rfl
@[simp] theorem q0 (x : Stm) : x.v[0]?.getD V.undef = .int .i64 x.kind := by rw [v_is]; rfl
@[simp] theorem q1 (x : Stm) : x.v[1]?.getD V.undef = .str (B x.name) := by rw [v_is]; rfl
@[simp] theorem q2 (x : Stm) : x.v[2]?.getD V.undef = .str (B x.proc) := by rw [v_is]; rfl
@[simp] theorem q3 (x : Stm) : x.v[3]?.getD V.undef = .int .i64 x.num := by rw [v_is]; rfl
@[simp] theorem q4 (x : Stm) : x.v[4]?.getD V.undef = .sl .no T_api_Expr (x.e.map Ex.v) := by rw [v_is]; rfl
@[simp] theorem q5 (x : Stm) : x.v[5]?.getD V.undef = .sl .no T_api_Stmt (x.body.map v) := by rw [v_is]; rfl
@[simp] theorem q6 (x : Stm) : x.v[6]?.getD V.undef = .sl .no T_api_Stmt (x.els.map v) := by rw [v_is]; rfl
@[simp] theorem v_list (x : Stm) : [V.int .i64 x.kind, V.str (B x.name), V.str (B x.proc), V.int .i64 x.num, V.sl .no T_api_Expr (x.e.map Ex.v), V.sl .no T_api_Stmt (x.body.map v), V.sl .no T_api_Stmt (x.els.map v)] = x.v := by rw [v_is]
@[simp] theorem asAgg_st (x : Stm) (k : (Nat -> V) -> Option Res) : V.asAgg (.agg x.v) 7 k = k (fun j => x.v.getD j .undef) := asAgg_agg _ _ (by rw [v_is]; rfl) k
mutual
def size : Stm -> Nat
 | .mk _ n p _ e b l => 1 + n.length / 8 + p.length / 8 + Ex.sizes e + sizes b + sizes l
def sizes : List Stm -> Nat
 | [] => 0
 | x :: l => size x + sizes l
end
mutual
theorem count_size : ∀ x : Stm, x.count <= x.size
 | .mk k n p m e b l => by rw [count, size]; have := counts_sizes b; have := counts_sizes l; omega
theorem counts_sizes : ∀ l : List Stm, counts l <= sizes l
 | [] => Nat.le_refl _
 | x :: l => by rw [counts, sizes]; have := count_size x; have := counts_sizes l; omega
end
end Stm
inductive StmOk : Stm -> Prop where
 | mk {k : Int} {n p : List UInt8} {m : Int} {e : List Ex} {b l : List Stm} (hk : (Lit.int .i64 k).wf = true) (hn : n.length <= 140737488351232) (hp : p.length <= 140737488351232) (hm : (Lit.int .i64 m).wf = true)
   (he : e.length <= 140737488351232) (hes : ∀ x ∈ e, ExOk x) (hb : b.length <= 140737488351232) (hbs : ∀ x ∈ b, StmOk x) (hl : l.length <= 140737488351232) (hls : ∀ x ∈ l, StmOk x) : StmOk (.mk k n p m e b l)
structure StmInv (k : Int) (n p : List UInt8) (m : Int) (e : List Ex) (b l : List Stm) : Prop where
 hk : (Lit.int .i64 k).wf = true
 hn : n.length <= 140737488351232
 hp : p.length <= 140737488351232
 hm : (Lit.int .i64 m).wf = true
 he : e.length <= 140737488351232
 hes : ∀ x ∈ e, ExOk x
 hb : b.length <= 140737488351232
 hbs : ∀ x ∈ b, StmOk x
 hl : l.length <= 140737488351232
 hls : ∀ x ∈ l, StmOk x
theorem StmOk.inv {k : Int} {n p : List UInt8} {m : Int} {e : List Ex} {b l : List Stm} (h : StmOk (.mk k n p m e b l)) : StmInv k n p m e b l := by
 cases h with
 | mk hk hn hp hm he hes hb hbs hl hls => exact ⟨hk, hn, hp, hm, he, hes, hb, hbs, hl, hls⟩
theorem stmt_parts : partTypes Sp.P T_api_Stmt = some [3, 9, 9, 2, 87, 141, 141] := by kernel_rfl
theorem stmts_el : Program.underlying Sp.P 141 = some (.slice T_api_Stmt) := by kernel_rfl
theorem stmt_pz : Sp.pz T_api_Stmt = false := by kernel_rfl
theorem stmt_bytes : Program.bytesOf Sp.P T_api_Stmt = 120 := by kernel_rfl
theorem stmt_in' : ∀ {t : TypeId} {cs : List V}, Fits Sp.P Sp.pz t cs -> (t = T_api_Stmt -> ∃ x : Stm, cs = x.v ∧ StmOk x) ∧ (t = 141 -> ∃ l : List Stm, cs = [.sl .no T_api_Stmt (l.map Stm.v)] ∧ l.length <= 140737488351232 ∧ ∀ x ∈ l, StmOk x) := by
 intro t cs h
 obtain ⟨fs0, hfs⟩ := partTypes_st stmt_parts
 have no : ∀ {u}, Program.underlying Sp.P t = some u -> (∀ fs, u ≠ .struct fs) -> (∀ e, u ≠ .slice e) -> (t = T_api_Stmt -> ∃ x : Stm, cs = x.v ∧ StmOk x) ∧ (t = 141 -> ∃ l : List Stm, cs = [.sl .no T_api_Stmt (l.map Stm.v)] ∧ l.length <= 140737488351232 ∧ ∀ x ∈ l, StmOk x) := by
  intro u h1 h2 h3
  refine ⟨fun ht => ?_, fun ht => ?_⟩
  ·rw [ht, hfs] at h1; exact absurd (Option.some.inj h1).symm (h2 _)
  ·rw [ht, stmts_el] at h1; exact absurd (Option.some.inj h1).symm (h3 _)
 induction h with
 | int h hw e => exact no h (fun _ => nofun) (fun _ => nofun)
 | bool h e => exact no h (fun _ => nofun) (fun _ => nofun)
 | str h hw e => exact no h (fun _ => nofun) (fun _ => nofun)
 | @sl t el tok es cs h ht hl hm he e ih =>
  clear no
  refine ⟨fun h1 => ?_, fun h1 => ?_⟩
  ·rw [h1, hfs] at h; cases h
  ·subst h1
   obtain rfl : T_api_Stmt = el := by rw [stmts_el] at h; injection h with h; injection h
   have hf : ∀ i, i < es.length -> ∃ x : Stm, es.getD i [] = x.v ∧ StmOk x := fun i hi => (ih i hi (fun {u} h1 h2 h3 => by rw [hfs] at h1; exact absurd (Option.some.inj h1).symm (h2 _))).1 rfl
   unfold ZTok at ht
   rw [stmt_pz, if_neg (by simp)] at ht
   subst ht
   have key : ∀ es : List (List V), (∀ i, i < es.length -> ∃ x : Stm, es.getD i [] = x.v ∧ StmOk x) -> ∃ l : List Stm, es = l.map Stm.v ∧ ∀ x ∈ l, StmOk x := by
    intro es
    induction es with
    | nil => intro _; exact ⟨[], rfl, nofun⟩
    | cons a es ihe =>
     intro hq
     obtain ⟨x, hx, hxo⟩ := hq 0 (by simp)
     obtain ⟨l, hl, hlo⟩ := ihe (fun i hi => hq (i + 1) (by simpa using hi))
     refine ⟨x :: l, ?_, fun y hy => ?_⟩
     ·rw [List.map_cons, <- hl, <- hx]; rfl
     ·rcases List.mem_cons.1 hy with rfl | hy
      ·exact hxo
      ·exact hlo y hy
   obtain ⟨l, hl2, hlo⟩ := key es hf
   subst hl2
   refine ⟨l, e, ?_, hlo⟩
   rw [List.length_map] at hl
   rw [stmt_bytes] at hl
   omega
 | @st t fs ps cs h hl he e ih =>
  clear no
  refine ⟨fun h1 => ?_, fun h1 => ?_⟩
  ·subst h1
   have hft : fs.toList.map (·.type) = [3, 9, 9, 2, 87, 141, 141] := by
    have h2 := stmt_parts
    unfold partTypes at h2
    rw [h] at h2
    exact Option.some.inj h2
   have hsz : fs.size = 7 := by
    have := congrArg List.length hft
    simpa using this
   have hty : ∀ (i : Nat) (u : TypeId), [3, 9, 9, 2, 87, 141, 141][i]? = some u -> ∃ f, fs[i]? = some f ∧ f.type = u := by
    intro i u hi
    rw [<- hft, List.getElem?_map] at hi
    obtain ⟨f, hf, rfl⟩ := Option.map_eq_some_iff.1 hi
    exact ⟨f, (Array.getElem?_toList ..).symm.trans hf, rfl⟩
   match ps, hl.trans hsz with
   | [a0, a1, a2, a3, a4, a5, a6], _ =>
    obtain ⟨f0, hf0, ht0⟩ := hty 0 _ rfl
    obtain ⟨f1, hf1, ht1⟩ := hty 1 _ rfl
    obtain ⟨f2, hf2, ht2⟩ := hty 2 _ rfl
    obtain ⟨f3, hf3, ht3⟩ := hty 3 _ rfl
    obtain ⟨f4, hf4, ht4⟩ := hty 4 _ rfl
    obtain ⟨f5, hf5, ht5⟩ := hty 5 _ rfl
    obtain ⟨f6, hf6, ht6⟩ := hty 6 _ rfl
    obtain ⟨n0, h0, w0⟩ := fits_int (k := .i64) int_u (ht0 ▸ he 0 f0 hf0)
    obtain ⟨s1, h1, w1⟩ := fits_str str_u (ht1 ▸ he 1 f1 hf1)
    obtain ⟨s2, h2, w2⟩ := fits_str str_u (ht2 ▸ he 2 f2 hf2)
    obtain ⟨n3, h3, w3⟩ := fits_int (k := .i64) int64_u (ht3 ▸ he 3 f3 hf3)
    obtain ⟨l4, h4, w4, w4'⟩ := (expr_in' (ht4 ▸ he 4 f4 hf4)).2 rfl
    obtain ⟨l5, h5, w5, w5'⟩ := (ih 5 f5 hf5 (fun {u} h1 h2 h3 => by rw [ht5, stmts_el] at h1; exact absurd (Option.some.inj h1).symm (h3 _))).2 ht5
    obtain ⟨l6, h6, w6, w6'⟩ := (ih 6 f6 hf6 (fun {u} h1 h2 h3 => by rw [ht6, stmts_el] at h1; exact absurd (Option.some.inj h1).symm (h3 _))).2 ht6
    have h0' : a0 = _ := h0
    have h1' : a1 = _ := h1
    have h2' : a2 = _ := h2
    have h3' : a3 = _ := h3
    have h4' : a4 = _ := h4
    have h5' : a5 = _ := h5
    have h6' : a6 = _ := h6
    refine ⟨.mk n0 s1 s2 n3 l4 l5 l6, ?_, .mk w0 w1 w2 w3 w4 w4' w5 w5' w6 w6'⟩
    rw [e, Stm.v_mk, h0', h1', h2', h3', h4', h5', h6']
    rfl
  ·rw [h1, stmts_el] at h; cases h
structure Vr where
 name : List UInt8
 type : Int
 size : Int
 frm : Int
 to : Int
 deriving DecidableEq
def Vr.v (x : Vr) : List V := [.str (B x.name), .int .i64 x.type, .int .i64 x.size, .int .i64 x.frm, .int .i64 x.to]
theorem Vr.v_mk (name : List UInt8) (type : Int) (size : Int) (frm : Int) (to : Int) : Vr.v ⟨name, type, size, frm, to⟩ = [.str (B name), .int .i64 type, .int .i64 size, .int .i64 frm, .int .i64 to] := rfl
@[simp] theorem Vr.asAgg_v (x : Vr) (k : (Nat -> V) -> Option Res) : V.asAgg (.agg x.v) 5 k = k (fun j => x.v.getD j .undef) := asAgg_agg _ _ rfl k
@[simp] theorem Vr.v_0 (x : Vr) : x.v.getD 0 .undef = .str (B x.name) := rfl
@[simp] theorem Vr.q_0 (x : Vr) : x.v[0]?.getD V.undef = .str (B x.name) := rfl
@[simp] theorem Vr.v_1 (x : Vr) : x.v.getD 1 .undef = .int .i64 x.type := rfl
@[simp] theorem Vr.q_1 (x : Vr) : x.v[1]?.getD V.undef = .int .i64 x.type := rfl
@[simp] theorem Vr.v_2 (x : Vr) : x.v.getD 2 .undef = .int .i64 x.size := rfl
@[simp] theorem Vr.q_2 (x : Vr) : x.v[2]?.getD V.undef = .int .i64 x.size := rfl
@[simp] theorem Vr.v_3 (x : Vr) : x.v.getD 3 .undef = .int .i64 x.frm := rfl
@[simp] theorem Vr.q_3 (x : Vr) : x.v[3]?.getD V.undef = .int .i64 x.frm := rfl
@[simp] theorem Vr.v_4 (x : Vr) : x.v.getD 4 .undef = .int .i64 x.to := rfl
@[simp] theorem Vr.q_4 (x : Vr) : x.v[4]?.getD V.undef = .int .i64 x.to := rfl
structure VrOk (x : Vr) : Prop where
 name : x.name.length <= 140737488351232
 type : (Lit.int .i64 x.type).wf = true
 size : (Lit.int .i64 x.size).wf = true
 frm : (Lit.int .i64 x.frm).wf = true
 to : (Lit.int .i64 x.to).wf = true
theorem Vr.parts : partTypes Sp.P T_api_Var = some [9, 3, 3, 3, 3] := by kernel_rfl
structure Par where
 name : List UInt8
 type : Int
 deriving DecidableEq
def Par.v (x : Par) : List V := [.str (B x.name), .int .i64 x.type]
theorem Par.v_mk (name : List UInt8) (type : Int) : Par.v ⟨name, type⟩ = [.str (B name), .int .i64 type] := rfl
@[simp] theorem Par.asAgg_v (x : Par) (k : (Nat -> V) -> Option Res) : V.asAgg (.agg x.v) 2 k = k (fun j => x.v.getD j .undef) := asAgg_agg _ _ rfl k
@[simp] theorem Par.v_0 (x : Par) : x.v.getD 0 .undef = .str (B x.name) := rfl
@[simp] theorem Par.q_0 (x : Par) : x.v[0]?.getD V.undef = .str (B x.name) := rfl
@[simp] theorem Par.v_1 (x : Par) : x.v.getD 1 .undef = .int .i64 x.type := rfl
@[simp] theorem Par.q_1 (x : Par) : x.v[1]?.getD V.undef = .int .i64 x.type := rfl
structure ParOk (x : Par) : Prop where
 name : x.name.length <= 140737488351232
 type : (Lit.int .i64 x.type).wf = true
theorem Par.parts : partTypes Sp.P T_api_Param = some [9, 3] := by kernel_rfl
theorem Par_in {cs : List V} (h : Fits Sp.P Sp.pz T_api_Param cs) : ∃ x : Par, cs = x.v ∧ ParOk x := by
 obtain ⟨ps, rfl, hl, hf⟩ := fits_st Par.parts h
 match ps, hl with
 | [a0, a1], _ =>
  obtain ⟨b0, e0, w0⟩ := fits_str str_u (hf 0 _ rfl)
  have e0' : a0 = _ := e0
  subst e0'
  obtain ⟨b1, e1, w1⟩ := fits_int (k := .i64) int_u (hf 1 _ rfl)
  have e1' : a1 = _ := e1
  subst e1'
  exact ⟨⟨b0, b1⟩, rfl, ⟨w0, w1⟩⟩
structure Prc where
 name : List UInt8
 params : List Par
 type : Int
 body : List Stm
def Prc.v (x : Prc) : List V := [.str (B x.name), .sl .no T_api_Param (x.params.map Par.v), .int .i64 x.type, .sl .no T_api_Stmt (x.body.map Stm.v)]
theorem Prc.v_mk (name : List UInt8) (params : List Par) (type : Int) (body : List Stm) : Prc.v ⟨name, params, type, body⟩ = [.str (B name), .sl .no T_api_Param (params.map Par.v), .int .i64 type, .sl .no T_api_Stmt (body.map Stm.v)] := rfl
@[simp] theorem Prc.asAgg_v (x : Prc) (k : (Nat -> V) -> Option Res) : V.asAgg (.agg x.v) 4 k = k (fun j => x.v.getD j .undef) := asAgg_agg _ _ rfl k
@[simp] theorem Prc.v_0 (x : Prc) : x.v.getD 0 .undef = .str (B x.name) := rfl
@[simp] theorem Prc.q_0 (x : Prc) : x.v[0]?.getD V.undef = .str (B x.name) := rfl
@[simp] theorem Prc.v_1 (x : Prc) : x.v.getD 1 .undef = .sl .no T_api_Param (x.params.map Par.v) := rfl
@[simp] theorem Prc.q_1 (x : Prc) : x.v[1]?.getD V.undef = .sl .no T_api_Param (x.params.map Par.v) := rfl
@[simp] theorem Prc.v_2 (x : Prc) : x.v.getD 2 .undef = .int .i64 x.type := rfl
@[simp] theorem Prc.q_2 (x : Prc) : x.v[2]?.getD V.undef = .int .i64 x.type := rfl
@[simp] theorem Prc.v_3 (x : Prc) : x.v.getD 3 .undef = .sl .no T_api_Stmt (x.body.map Stm.v) := rfl
@[simp] theorem Prc.q_3 (x : Prc) : x.v[3]?.getD V.undef = .sl .no T_api_Stmt (x.body.map Stm.v) := rfl
structure PrcOk (x : Prc) : Prop where
 name : x.name.length <= 140737488351232
 params : x.params.length <= 140737488351232 ∧ ∀ y ∈ x.params, ParOk y
 type : (Lit.int .i64 x.type).wf = true
 body : x.body.length <= 140737488351232 ∧ ∀ y ∈ x.body, StmOk y
theorem Prc.parts : partTypes Sp.P T_api_Proc = some [9, 140, 3, 141] := by kernel_rfl
theorem Par.row_el : Program.underlying Sp.P 140 = some (.slice T_api_Param) := by kernel_rfl
theorem Par.row_pz : Sp.pz T_api_Param = false := by kernel_rfl
theorem Par.bytes : decide (Program.bytesOf Sp.P T_api_Param >= 1) = true := by kernel_rfl
theorem Par.row_in {cs : List V} (h : Fits Sp.P Sp.pz 140 cs) : ∃ l : List Par, cs = [.sl .no T_api_Param (l.map Par.v)] ∧ l.length <= 140737488351232 ∧ ∀ y ∈ l, ParOk y := by
 obtain ⟨es, he, hl, hm, hf⟩ := fits_sl Par.row_el Par.row_pz h
 obtain ⟨l, rfl, hok⟩ := fits_rows (v := Par.v) (ok := ParOk) (fun cs h => Par_in h) es hf
 refine ⟨l, he, ?_, hok⟩
 have hb := of_decide_eq_true Par.bytes
 rw [List.length_map] at hl
 exact Nat.le_trans (Nat.le_mul_of_pos_right _ hb) hl
theorem Prc_in {cs : List V} (h : Fits Sp.P Sp.pz T_api_Proc cs) : ∃ x : Prc, cs = x.v ∧ PrcOk x := by
 obtain ⟨ps, rfl, hl, hf⟩ := fits_st Prc.parts h
 match ps, hl with
 | [a0, a1, a2, a3], _ =>
  obtain ⟨b0, e0, w0⟩ := fits_str str_u (hf 0 _ rfl)
  have e0' : a0 = _ := e0
  subst e0'
  obtain ⟨b1, e1, w1⟩ := Par.row_in (hf 1 _ rfl)
  have e1' : a1 = _ := e1
  subst e1'
  obtain ⟨b2, e2, w2⟩ := fits_int (k := .i64) int_u (hf 2 _ rfl)
  have e2' : a2 = _ := e2
  subst e2'
  obtain ⟨b3, e3, w3⟩ := (stmt_in' (hf 3 _ rfl)).2 rfl
  have e3' : a3 = _ := e3
  subst e3'
  exact ⟨⟨b0, b1, b2, b3⟩, rfl, ⟨w0, w1, w2, w3⟩⟩
structure Prg where
 procs : List Prc
def Prg.v (x : Prg) : List V := [.sl .no T_api_Proc (x.procs.map Prc.v)]
theorem Prg.v_mk (procs : List Prc) : Prg.v ⟨procs⟩ = [.sl .no T_api_Proc (procs.map Prc.v)] := rfl
@[simp] theorem Prg.asAgg_v (x : Prg) (k : (Nat -> V) -> Option Res) : V.asAgg (.agg x.v) 1 k = k (fun j => x.v.getD j .undef) := asAgg_agg _ _ rfl k
@[simp] theorem Prg.v_0 (x : Prg) : x.v.getD 0 .undef = .sl .no T_api_Proc (x.procs.map Prc.v) := rfl
@[simp] theorem Prg.q_0 (x : Prg) : x.v[0]?.getD V.undef = .sl .no T_api_Proc (x.procs.map Prc.v) := rfl
structure PrgOk (x : Prg) : Prop where
 procs : x.procs.length <= 140737488351232 ∧ ∀ y ∈ x.procs, PrcOk y
theorem Prg.parts : partTypes Sp.P T_api_Prog = some [49] := by kernel_rfl
theorem Prc.row_el : Program.underlying Sp.P 49 = some (.slice T_api_Proc) := by kernel_rfl
theorem Prc.row_pz : Sp.pz T_api_Proc = false := by kernel_rfl
theorem Prc.bytes : decide (Program.bytesOf Sp.P T_api_Proc >= 1) = true := by kernel_rfl
theorem Prc.row_in {cs : List V} (h : Fits Sp.P Sp.pz 49 cs) : ∃ l : List Prc, cs = [.sl .no T_api_Proc (l.map Prc.v)] ∧ l.length <= 140737488351232 ∧ ∀ y ∈ l, PrcOk y := by
 obtain ⟨es, he, hl, hm, hf⟩ := fits_sl Prc.row_el Prc.row_pz h
 obtain ⟨l, rfl, hok⟩ := fits_rows (v := Prc.v) (ok := PrcOk) (fun cs h => Prc_in h) es hf
 refine ⟨l, he, ?_, hok⟩
 have hb := of_decide_eq_true Prc.bytes
 rw [List.length_map] at hl
 exact Nat.le_trans (Nat.le_mul_of_pos_right _ hb) hl
end Go.Proofs.YtmhnmelaodhemaaGreatDoor
namespace Go.Proofs.YtmhnmelaodhemaaGreatDoor
open Go Go.Proofs.Ab
namespace ref03_ExprSize
noncomputable abbrev e (p : List Nat) := ev Sp (den Sp) id Tryz.f58.ntmps (cAt (bodyOf Tryz.f58) p)
noncomputable abbrev cn (n0 : List Nat) := canon Sp id n0
noncomputable abbrev K : K := kFin Sp (den Sp) Tryz.f58 0
noncomputable def L1_1_0_1_0 (i0 i1 i2 i3 : Int) (s4 : ByteArray) (i5 : Int) (l6 : List (List V)) : Option Res := LP (e [1, 1, 0, 1, 0, 0]) (cn [1002]) (kBlk 0 (kSeq (e [1, 1, 1]) (K))) ([(1, (V.int .i64 i0)), (2, (V.ref 1002 0)), (5, (V.int .i64 i1)), (6, (V.int .i64 i2))], ⟨[(1002, (Blk.cells T_api_Expr [V.int .i64 i3, V.str s4, V.int .i64 i5, V.sl .no T_api_Expr l6] false))], [], [], [], none⟩)
theorem L1_1_0_1_0_eq (i0 i1 i2 i3 : Int) (s4 : ByteArray) (i5 : Int) (l6 : List (List V)) : L1_1_0_1_0 i0 i1 i2 i3 s4 i5 l6 =
  (bif (decide (i2 < (l6.length : Int))) then (bif (decide (i1 <= i0)) then (if (((0 : Int) <= i2) ∧ (i2 < (l6.length : Int))) then (V.asInt (List.getD (List.getD l6 (Int.toNat i2) []) 0 V.undef) .i64 (fun n17 => V.asStr (List.getD (List.getD l6 (Int.toNat i2) []) 1 V.undef) (fun s18 => V.asInt (List.getD (List.getD l6 (Int.toNat i2) []) 2 V.undef) .i64 (fun n19 => V.asSl (List.getD (List.getD l6 (Int.toNat i2) []) 3 V.undef) T_api_Expr (fun es20 => (den Sp ref03_ExprSize.id [V.agg [V.int .i64 n17, V.str s18, V.int .i64 n19, V.sl .no T_api_Expr es20], V.int .i64 (IntKind.wrap .i64 (i0 - i1))] [] none).bind (fun r21 => Res.onRet r21 (fun v22 => V.asInt v22 .i64 (fun n23 => L1_1_0_1_0 i0 (IntKind.wrap .i64 (i1 + n23)) (IntKind.wrap .i64 (i2 + (1 : Int))) i3 s4 i5 l6)))))))) else none) else (some ⟨Out.ret (V.int .i64 i1), [], none⟩)) else (some ⟨Out.ret (V.int .i64 i1), [], none⟩)) := (LP_eq ..).trans (by kernel_rfl)
theorem eq (a0_0 : Int) (a0_1 : ByteArray) (a0_2 : Int) (a0_3 : List (List V)) (a1 : Int) : den Sp id [V.agg [V.int .i64 a0_0, V.str a0_1, V.int .i64 a0_2, V.sl .no T_api_Expr a0_3], V.int .i64 a1] [] none =
  (L1_1_0_1_0 a1 (IntKind.wrap .i64 ((1 : Int) + (IntKind.wrap .i64 (Int.tdiv (((ByteArray.size a0_1) : Nat) : Int) (8 : Int))))) (0 : Int) a0_0 a0_1 a0_2 a0_3) := (den_eq ..).trans (by kernel_rfl)
end ref03_ExprSize
end Go.Proofs.YtmhnmelaodhemaaGreatDoor
namespace Go.Proofs.YtmhnmelaodhemaaGreatDoor
open Go Go.Proofs.Ab Go.Proofs.Px
def CountIs (r : Option Res) (size : Nat) (most : Int) : Prop := ∃ n : Int, r = some ⟨.ret (.int .i64 n), [], none⟩ ∧ 0 <= n ∧ n <= max most 0 + 70368744177664 ∧ (n <= most -> n = (size : Int))
theorem eighth {n : Nat} (h : n <= 140737488351232) : IntKind.wrap IntKind.i64 (Int.tdiv ((n : Nat) : Int) 8) = ((n / 8 : Nat) : Int) := by
 rw [Int.tdiv_eq_ediv_of_nonneg (by omega), wrap_in (by omega) (by omega)]; omega
theorem Ex.sizes_drop {l : List Ex} {i : Nat} (h : i < l.length) : Ex.sizes (l.drop i) = l[i].size + Ex.sizes (l.drop (i + 1)) := by
 rw [List.drop_eq_getElem_cons h, Ex.sizes]
theorem ref03_ExprSize_is : ∀ x : Ex, ExOk x -> ∀ most : Int, -1125899906842624 <= most -> most <= 1125899906842624 -> CountIs (den Sp ref03_ExprSize.id [.agg x.v, .int .i64 most] [] none) x.size most := by
 refine Ex.ind fun k s m l ih hx most h0 h1 => ?_
 obtain ⟨hk, hs, hm, hl, hok⟩ := hx.inv
 rw [Ex.v_mk, ref03_ExprSize.eq, B_size, eighth hs, Ex.size]
 have key : ∀ i : Nat, i <= l.length -> ∀ n : Int, 0 <= n -> n <= max most 0 + 70368744177664 -> ∃ n' : Int, ref03_ExprSize.L1_1_0_1_0 most n (i : Int) k (B s) m (l.map Ex.v) = some ⟨.ret (.int .i64 n'), [], none⟩ ∧ 0 <= n' ∧ n' <= max most 0 + 70368744177664 ∧ (n' <= most -> n' = n + (Ex.sizes (l.drop i) : Int)) := by
  refine down (fun n hn hn2 => ?_) fun i hi ihi n hn hn2 => ?_
  ·refine ⟨n, ?_, hn, hn2, fun _ => by simp [Ex.sizes]⟩
   rw [ref03_ExprSize.L1_1_0_1_0_eq]; simp
  ·have hmem := List.getElem_mem hi
   have hd := Ex.sizes_drop hi
   by_cases hc : n <= most
   ·obtain ⟨n1, h2, h3, h4, h5⟩ := ih _ hmem (hok _ hmem) (most - n) (by omega) (by omega)
    obtain ⟨n2, g2, g3, g4, g5⟩ := ihi (n + n1) (by omega) (by omega)
    refine ⟨n2, ?_, g3, g4, fun h => ?_⟩
    ·rw [ref03_ExprSize.L1_1_0_1_0_eq]
     simp (disch := omega) [hi, hc, Ex.v_agg, wrap_in, h2]
     simpa using g2
    ·have := g5 h; rw [hd]; have := h5 (by omega); omega
   ·refine ⟨n, ?_, hn, hn2, fun h => by omega⟩
    rw [ref03_ExprSize.L1_1_0_1_0_eq]; simp [hi, hc]
 obtain ⟨n, h2, h3, h4, h5⟩ := key 0 (Nat.zero_le _) (1 + ((s.length / 8 : Nat) : Int)) (by omega) (by omega)
 refine ⟨n, ?_, h3, h4, fun h => ?_⟩
 ·rw [wrap_in (by omega) (by omega)]; exact h2
 ·have := h5 h; rw [List.drop_zero] at this; omega
structure Pai where
 procA : List UInt8
 procB : List UInt8
 varA : List UInt8
 varB : List UInt8
 deriving DecidableEq
def Pai.v (x : Pai) : List V := [.str (B x.procA), .str (B x.procB), .str (B x.varA), .str (B x.varB)]
theorem Pai.v_mk (procA : List UInt8) (procB : List UInt8) (varA : List UInt8) (varB : List UInt8) : Pai.v ⟨procA, procB, varA, varB⟩ = [.str (B procA), .str (B procB), .str (B varA), .str (B varB)] := rfl
@[simp] theorem Pai.asAgg_v (x : Pai) (k : (Nat -> V) -> Option Res) : V.asAgg (.agg x.v) 4 k = k (fun j => x.v.getD j .undef) := asAgg_agg _ _ rfl k
@[simp] theorem Pai.v_0 (x : Pai) : x.v.getD 0 .undef = .str (B x.procA) := rfl
@[simp] theorem Pai.q_0 (x : Pai) : x.v[0]?.getD V.undef = .str (B x.procA) := rfl
@[simp] theorem Pai.v_1 (x : Pai) : x.v.getD 1 .undef = .str (B x.procB) := rfl
@[simp] theorem Pai.q_1 (x : Pai) : x.v[1]?.getD V.undef = .str (B x.procB) := rfl
@[simp] theorem Pai.v_2 (x : Pai) : x.v.getD 2 .undef = .str (B x.varA) := rfl
@[simp] theorem Pai.q_2 (x : Pai) : x.v[2]?.getD V.undef = .str (B x.varA) := rfl
@[simp] theorem Pai.v_3 (x : Pai) : x.v.getD 3 .undef = .str (B x.varB) := rfl
@[simp] theorem Pai.q_3 (x : Pai) : x.v[3]?.getD V.undef = .str (B x.varB) := rfl
structure PaiOk (x : Pai) : Prop where
 procA : x.procA.length <= 140737488351232
 procB : x.procB.length <= 140737488351232
 varA : x.varA.length <= 140737488351232
 varB : x.varB.length <= 140737488351232
theorem Pai.parts : partTypes Sp.P T_api_Pair = some [9, 9, 9, 9] := by kernel_rfl
theorem Pai_in {cs : List V} (h : Fits Sp.P Sp.pz T_api_Pair cs) : ∃ x : Pai, cs = x.v ∧ PaiOk x := by
 obtain ⟨ps, rfl, hl, hf⟩ := fits_st Pai.parts h
 match ps, hl with
 | [a0, a1, a2, a3], _ =>
  obtain ⟨b0, e0, w0⟩ := fits_str str_u (hf 0 _ rfl)
  have e0' : a0 = _ := e0
  subst e0'
  obtain ⟨b1, e1, w1⟩ := fits_str str_u (hf 1 _ rfl)
  have e1' : a1 = _ := e1
  subst e1'
  obtain ⟨b2, e2, w2⟩ := fits_str str_u (hf 2 _ rfl)
  have e2' : a2 = _ := e2
  subst e2'
  obtain ⟨b3, e3, w3⟩ := fits_str str_u (hf 3 _ rfl)
  have e3' : a3 = _ := e3
  subst e3'
  exact ⟨⟨b0, b1, b2, b3⟩, rfl, ⟨w0, w1, w2, w3⟩⟩
structure Kp where
 side : Int
 prc : List UInt8
 vr : List UInt8
 deriving DecidableEq
def Kp.v (x : Kp) : List V := [.int .i64 x.side, .str (B x.prc), .str (B x.vr)]
theorem Kp.v_mk (side : Int) (prc : List UInt8) (vr : List UInt8) : Kp.v ⟨side, prc, vr⟩ = [.int .i64 side, .str (B prc), .str (B vr)] := rfl
@[simp] theorem Kp.asAgg_v (x : Kp) (k : (Nat -> V) -> Option Res) : V.asAgg (.agg x.v) 3 k = k (fun j => x.v.getD j .undef) := asAgg_agg _ _ rfl k
@[simp] theorem Kp.v_0 (x : Kp) : x.v.getD 0 .undef = .int .i64 x.side := rfl
@[simp] theorem Kp.q_0 (x : Kp) : x.v[0]?.getD V.undef = .int .i64 x.side := rfl
@[simp] theorem Kp.v_1 (x : Kp) : x.v.getD 1 .undef = .str (B x.prc) := rfl
@[simp] theorem Kp.q_1 (x : Kp) : x.v[1]?.getD V.undef = .str (B x.prc) := rfl
@[simp] theorem Kp.v_2 (x : Kp) : x.v.getD 2 .undef = .str (B x.vr) := rfl
@[simp] theorem Kp.q_2 (x : Kp) : x.v[2]?.getD V.undef = .str (B x.vr) := rfl
structure KpOk (x : Kp) : Prop where
 side : (Lit.int .i64 x.side).wf = true
 prc : x.prc.length <= 140737488351232
 vr : x.vr.length <= 140737488351232
theorem Kp.parts : partTypes Sp.P T_parallaxref12_Keep = some [3, 9, 9] := by kernel_rfl
theorem Kp_in {cs : List V} (h : Fits Sp.P Sp.pz T_parallaxref12_Keep cs) : ∃ x : Kp, cs = x.v ∧ KpOk x := by
 obtain ⟨ps, rfl, hl, hf⟩ := fits_st Kp.parts h
 match ps, hl with
 | [a0, a1, a2], _ =>
  obtain ⟨b0, e0, w0⟩ := fits_int (k := .i64) int_u (hf 0 _ rfl)
  have e0' : a0 = _ := e0
  subst e0'
  obtain ⟨b1, e1, w1⟩ := fits_str str_u (hf 1 _ rfl)
  have e1' : a1 = _ := e1
  subst e1'
  obtain ⟨b2, e2, w2⟩ := fits_str str_u (hf 2 _ rfl)
  have e2' : a2 = _ := e2
  subst e2'
  exact ⟨⟨b0, b1, b2⟩, rfl, ⟨w0, w1, w2⟩⟩
structure Bk where
 side : Int
 prc : List UInt8
 mark : Int
 whn : List Ex
def Bk.v (x : Bk) : List V := [.int .i64 x.side, .str (B x.prc), .int .i64 x.mark, .sl .no T_api_Expr (x.whn.map Ex.v)]
theorem Bk.v_mk (side : Int) (prc : List UInt8) (mark : Int) (whn : List Ex) : Bk.v ⟨side, prc, mark, whn⟩ = [.int .i64 side, .str (B prc), .int .i64 mark, .sl .no T_api_Expr (whn.map Ex.v)] := rfl
@[simp] theorem Bk.asAgg_v (x : Bk) (k : (Nat -> V) -> Option Res) : V.asAgg (.agg x.v) 4 k = k (fun j => x.v.getD j .undef) := asAgg_agg _ _ rfl k
@[simp] theorem Bk.v_0 (x : Bk) : x.v.getD 0 .undef = .int .i64 x.side := rfl
@[simp] theorem Bk.q_0 (x : Bk) : x.v[0]?.getD V.undef = .int .i64 x.side := rfl
@[simp] theorem Bk.v_1 (x : Bk) : x.v.getD 1 .undef = .str (B x.prc) := rfl
@[simp] theorem Bk.q_1 (x : Bk) : x.v[1]?.getD V.undef = .str (B x.prc) := rfl
@[simp] theorem Bk.v_2 (x : Bk) : x.v.getD 2 .undef = .int .i64 x.mark := rfl
@[simp] theorem Bk.q_2 (x : Bk) : x.v[2]?.getD V.undef = .int .i64 x.mark := rfl
@[simp] theorem Bk.v_3 (x : Bk) : x.v.getD 3 .undef = .sl .no T_api_Expr (x.whn.map Ex.v) := rfl
@[simp] theorem Bk.q_3 (x : Bk) : x.v[3]?.getD V.undef = .sl .no T_api_Expr (x.whn.map Ex.v) := rfl
structure BkOk (x : Bk) : Prop where
 side : (Lit.int .i64 x.side).wf = true
 prc : x.prc.length <= 140737488351232
 mark : (Lit.int .i64 x.mark).wf = true
 whn : x.whn.length <= 140737488351232 ∧ ∀ y ∈ x.whn, ExOk y
theorem Bk.parts : partTypes Sp.P T_parallaxref12_Break = some [3, 9, 2, 87] := by kernel_rfl
theorem Bk_in {cs : List V} (h : Fits Sp.P Sp.pz T_parallaxref12_Break cs) : ∃ x : Bk, cs = x.v ∧ BkOk x := by
 obtain ⟨ps, rfl, hl, hf⟩ := fits_st Bk.parts h
 match ps, hl with
 | [a0, a1, a2, a3], _ =>
  obtain ⟨b0, e0, w0⟩ := fits_int (k := .i64) int_u (hf 0 _ rfl)
  have e0' : a0 = _ := e0
  subst e0'
  obtain ⟨b1, e1, w1⟩ := fits_str str_u (hf 1 _ rfl)
  have e1' : a1 = _ := e1
  subst e1'
  obtain ⟨b2, e2, w2⟩ := fits_int (k := .i64) int64_u (hf 2 _ rfl)
  have e2' : a2 = _ := e2
  subst e2'
  obtain ⟨b3, e3, w3⟩ := (expr_in' (hf 3 _ rfl)).2 rfl
  have e3' : a3 = _ := e3
  subst e3'
  exact ⟨⟨b0, b1, b2, b3⟩, rfl, ⟨w0, w1, w2, w3⟩⟩
structure Wt where
 side : Int
 prc : List UInt8
 vr : List UInt8
 deriving DecidableEq
def Wt.v (x : Wt) : List V := [.int .i64 x.side, .str (B x.prc), .str (B x.vr)]
theorem Wt.v_mk (side : Int) (prc : List UInt8) (vr : List UInt8) : Wt.v ⟨side, prc, vr⟩ = [.int .i64 side, .str (B prc), .str (B vr)] := rfl
@[simp] theorem Wt.asAgg_v (x : Wt) (k : (Nat -> V) -> Option Res) : V.asAgg (.agg x.v) 3 k = k (fun j => x.v.getD j .undef) := asAgg_agg _ _ rfl k
@[simp] theorem Wt.v_0 (x : Wt) : x.v.getD 0 .undef = .int .i64 x.side := rfl
@[simp] theorem Wt.q_0 (x : Wt) : x.v[0]?.getD V.undef = .int .i64 x.side := rfl
@[simp] theorem Wt.v_1 (x : Wt) : x.v.getD 1 .undef = .str (B x.prc) := rfl
@[simp] theorem Wt.q_1 (x : Wt) : x.v[1]?.getD V.undef = .str (B x.prc) := rfl
@[simp] theorem Wt.v_2 (x : Wt) : x.v.getD 2 .undef = .str (B x.vr) := rfl
@[simp] theorem Wt.q_2 (x : Wt) : x.v[2]?.getD V.undef = .str (B x.vr) := rfl
structure WtOk (x : Wt) : Prop where
 side : (Lit.int .i64 x.side).wf = true
 prc : x.prc.length <= 140737488351232
 vr : x.vr.length <= 140737488351232
theorem Wt.parts : partTypes Sp.P T_parallaxref12_Watch = some [3, 9, 9] := by kernel_rfl
theorem Wt_in {cs : List V} (h : Fits Sp.P Sp.pz T_parallaxref12_Watch cs) : ∃ x : Wt, cs = x.v ∧ WtOk x := by
 obtain ⟨ps, rfl, hl, hf⟩ := fits_st Wt.parts h
 match ps, hl with
 | [a0, a1, a2], _ =>
  obtain ⟨b0, e0, w0⟩ := fits_int (k := .i64) int_u (hf 0 _ rfl)
  have e0' : a0 = _ := e0
  subst e0'
  obtain ⟨b1, e1, w1⟩ := fits_str str_u (hf 1 _ rfl)
  have e1' : a1 = _ := e1
  subst e1'
  obtain ⟨b2, e2, w2⟩ := fits_str str_u (hf 2 _ rfl)
  have e2' : a2 = _ := e2
  subst e2'
  exact ⟨⟨b0, b1, b2⟩, rfl, ⟨w0, w1, w2⟩⟩
structure Fl where
 pairs : List Pai
 sames : List Pai
 keeps : List Kp
 breaks : List Bk
 watches : List Wt
def Fl.v (x : Fl) : List V := [.sl .no T_api_Pair (x.pairs.map Pai.v), .sl .no T_api_Pair (x.sames.map Pai.v), .sl .no T_parallaxref12_Keep (x.keeps.map Kp.v), .sl .no T_parallaxref12_Break (x.breaks.map Bk.v), .sl .no T_parallaxref12_Watch (x.watches.map Wt.v)]
theorem Fl.v_mk (pairs : List Pai) (sames : List Pai) (keeps : List Kp) (breaks : List Bk) (watches : List Wt) : Fl.v ⟨pairs, sames, keeps, breaks, watches⟩ = [.sl .no T_api_Pair (pairs.map Pai.v), .sl .no T_api_Pair (sames.map Pai.v), .sl .no T_parallaxref12_Keep (keeps.map Kp.v), .sl .no T_parallaxref12_Break (breaks.map Bk.v), .sl .no T_parallaxref12_Watch (watches.map Wt.v)] := rfl
@[simp] theorem Fl.asAgg_v (x : Fl) (k : (Nat -> V) -> Option Res) : V.asAgg (.agg x.v) 5 k = k (fun j => x.v.getD j .undef) := asAgg_agg _ _ rfl k
@[simp] theorem Fl.v_0 (x : Fl) : x.v.getD 0 .undef = .sl .no T_api_Pair (x.pairs.map Pai.v) := rfl
@[simp] theorem Fl.q_0 (x : Fl) : x.v[0]?.getD V.undef = .sl .no T_api_Pair (x.pairs.map Pai.v) := rfl
@[simp] theorem Fl.v_1 (x : Fl) : x.v.getD 1 .undef = .sl .no T_api_Pair (x.sames.map Pai.v) := rfl
@[simp] theorem Fl.q_1 (x : Fl) : x.v[1]?.getD V.undef = .sl .no T_api_Pair (x.sames.map Pai.v) := rfl
@[simp] theorem Fl.v_2 (x : Fl) : x.v.getD 2 .undef = .sl .no T_parallaxref12_Keep (x.keeps.map Kp.v) := rfl
@[simp] theorem Fl.q_2 (x : Fl) : x.v[2]?.getD V.undef = .sl .no T_parallaxref12_Keep (x.keeps.map Kp.v) := rfl
@[simp] theorem Fl.v_3 (x : Fl) : x.v.getD 3 .undef = .sl .no T_parallaxref12_Break (x.breaks.map Bk.v) := rfl
@[simp] theorem Fl.q_3 (x : Fl) : x.v[3]?.getD V.undef = .sl .no T_parallaxref12_Break (x.breaks.map Bk.v) := rfl
@[simp] theorem Fl.v_4 (x : Fl) : x.v.getD 4 .undef = .sl .no T_parallaxref12_Watch (x.watches.map Wt.v) := rfl
@[simp] theorem Fl.q_4 (x : Fl) : x.v[4]?.getD V.undef = .sl .no T_parallaxref12_Watch (x.watches.map Wt.v) := rfl
structure FlOk (x : Fl) : Prop where
 pairs : x.pairs.length <= 140737488351232 ∧ ∀ y ∈ x.pairs, PaiOk y
 sames : x.sames.length <= 140737488351232 ∧ ∀ y ∈ x.sames, PaiOk y
 keeps : x.keeps.length <= 140737488351232 ∧ ∀ y ∈ x.keeps, KpOk y
 breaks : x.breaks.length <= 140737488351232 ∧ ∀ y ∈ x.breaks, BkOk y
 watches : x.watches.length <= 140737488351232 ∧ ∀ y ∈ x.watches, WtOk y
theorem Fl.parts : partTypes Sp.P T_parallaxref12_File = some [22, 22, 23, 24, 25] := by kernel_rfl
theorem Pai.row_el : Program.underlying Sp.P 22 = some (.slice T_api_Pair) := by kernel_rfl
theorem Pai.row_pz : Sp.pz T_api_Pair = false := by kernel_rfl
theorem Pai.bytes : decide (Program.bytesOf Sp.P T_api_Pair >= 1) = true := by kernel_rfl
theorem Pai.row_in {cs : List V} (h : Fits Sp.P Sp.pz 22 cs) : ∃ l : List Pai, cs = [.sl .no T_api_Pair (l.map Pai.v)] ∧ l.length <= 140737488351232 ∧ ∀ y ∈ l, PaiOk y := by
 obtain ⟨es, he, hl, hm, hf⟩ := fits_sl Pai.row_el Pai.row_pz h
 obtain ⟨l, rfl, hok⟩ := fits_rows (v := Pai.v) (ok := PaiOk) (fun cs h => Pai_in h) es hf
 refine ⟨l, he, ?_, hok⟩
 have hb := of_decide_eq_true Pai.bytes
 rw [List.length_map] at hl
 exact Nat.le_trans (Nat.le_mul_of_pos_right _ hb) hl
theorem Kp.row_el : Program.underlying Sp.P 23 = some (.slice T_parallaxref12_Keep) := by kernel_rfl
theorem Kp.row_pz : Sp.pz T_parallaxref12_Keep = false := by kernel_rfl
theorem Kp.bytes : decide (Program.bytesOf Sp.P T_parallaxref12_Keep >= 1) = true := by kernel_rfl
theorem Kp.row_in {cs : List V} (h : Fits Sp.P Sp.pz 23 cs) : ∃ l : List Kp, cs = [.sl .no T_parallaxref12_Keep (l.map Kp.v)] ∧ l.length <= 140737488351232 ∧ ∀ y ∈ l, KpOk y := by
 obtain ⟨es, he, hl, hm, hf⟩ := fits_sl Kp.row_el Kp.row_pz h
 obtain ⟨l, rfl, hok⟩ := fits_rows (v := Kp.v) (ok := KpOk) (fun cs h => Kp_in h) es hf
 refine ⟨l, he, ?_, hok⟩
 have hb := of_decide_eq_true Kp.bytes
 rw [List.length_map] at hl
 exact Nat.le_trans (Nat.le_mul_of_pos_right _ hb) hl
theorem Bk.row_el : Program.underlying Sp.P 24 = some (.slice T_parallaxref12_Break) := by kernel_rfl
theorem Bk.row_pz : Sp.pz T_parallaxref12_Break = false := by kernel_rfl
theorem Bk.bytes : decide (Program.bytesOf Sp.P T_parallaxref12_Break >= 1) = true := by kernel_rfl
theorem Bk.row_in {cs : List V} (h : Fits Sp.P Sp.pz 24 cs) : ∃ l : List Bk, cs = [.sl .no T_parallaxref12_Break (l.map Bk.v)] ∧ l.length <= 140737488351232 ∧ ∀ y ∈ l, BkOk y := by
 obtain ⟨es, he, hl, hm, hf⟩ := fits_sl Bk.row_el Bk.row_pz h
 obtain ⟨l, rfl, hok⟩ := fits_rows (v := Bk.v) (ok := BkOk) (fun cs h => Bk_in h) es hf
 refine ⟨l, he, ?_, hok⟩
 have hb := of_decide_eq_true Bk.bytes
 rw [List.length_map] at hl
 exact Nat.le_trans (Nat.le_mul_of_pos_right _ hb) hl
theorem Wt.row_el : Program.underlying Sp.P 25 = some (.slice T_parallaxref12_Watch) := by kernel_rfl
theorem Wt.row_pz : Sp.pz T_parallaxref12_Watch = false := by kernel_rfl
theorem Wt.bytes : decide (Program.bytesOf Sp.P T_parallaxref12_Watch >= 1) = true := by kernel_rfl
theorem Wt.row_in {cs : List V} (h : Fits Sp.P Sp.pz 25 cs) : ∃ l : List Wt, cs = [.sl .no T_parallaxref12_Watch (l.map Wt.v)] ∧ l.length <= 140737488351232 ∧ ∀ y ∈ l, WtOk y := by
 obtain ⟨es, he, hl, hm, hf⟩ := fits_sl Wt.row_el Wt.row_pz h
 obtain ⟨l, rfl, hok⟩ := fits_rows (v := Wt.v) (ok := WtOk) (fun cs h => Wt_in h) es hf
 refine ⟨l, he, ?_, hok⟩
 have hb := of_decide_eq_true Wt.bytes
 rw [List.length_map] at hl
 exact Nat.le_trans (Nat.le_mul_of_pos_right _ hb) hl
theorem Fl_in {cs : List V} (h : Fits Sp.P Sp.pz T_parallaxref12_File cs) : ∃ x : Fl, cs = x.v ∧ FlOk x := by
 obtain ⟨ps, rfl, hl, hf⟩ := fits_st Fl.parts h
 match ps, hl with
 | [a0, a1, a2, a3, a4], _ =>
  obtain ⟨b0, e0, w0⟩ := Pai.row_in (hf 0 _ rfl)
  have e0' : a0 = _ := e0
  subst e0'
  obtain ⟨b1, e1, w1⟩ := Pai.row_in (hf 1 _ rfl)
  have e1' : a1 = _ := e1
  subst e1'
  obtain ⟨b2, e2, w2⟩ := Kp.row_in (hf 2 _ rfl)
  have e2' : a2 = _ := e2
  subst e2'
  obtain ⟨b3, e3, w3⟩ := Bk.row_in (hf 3 _ rfl)
  have e3' : a3 = _ := e3
  subst e3'
  obtain ⟨b4, e4, w4⟩ := Wt.row_in (hf 4 _ rfl)
  have e4' : a4 = _ := e4
  subst e4'
  exact ⟨⟨b0, b1, b2, b3, b4⟩, rfl, ⟨w0, w1, w2, w3, w4⟩⟩
structure SmallF (f : Fl) : Prop where
 pairs : f.pairs.length <= 1000000
 sames : f.sames.length <= 1000000
 keeps : f.keeps.length <= 1000000
 breaks : f.breaks.length <= 1000000
 watches : f.watches.length <= 1000000
 whn : ∀ x ∈ f.breaks, x.whn.length <= 1000000
 mark : ∀ x ∈ f.breaks, (Lit.int .i64 x.mark).wf = true
end Go.Proofs.YtmhnmelaodhemaaGreatDoor
namespace Go.Proofs.YtmhnmelaodhemaaGreatDoor
open Go Go.Proofs.Ab
namespace ref12_Size
noncomputable abbrev e (p : List Nat) := ev Sp (den Sp) id Tryz.f27.ntmps (cAt (bodyOf Tryz.f27) p)
noncomputable abbrev cn (n0 : List Nat) := canon Sp id n0
noncomputable abbrev K : K := kFin Sp (den Sp) Tryz.f27 0
noncomputable def L1_1_0_1_0 (i0 i1 : Int) (l2 l3 l4 l5 l6 : List (List V)) : Option Res := LP (e [1, 1, 0, 1, 0, 0]) (cn [1002]) (kBlk 0 (kSeq (e [1, 1, 1]) (K))) ([(1, (V.int .i64 i0)), (2, (V.ref 1002 0)), (5, (V.int .i64 i1)), (6, (V.int .i64 (0 : Int))), (7, V.undef)], ⟨[(1002, (Blk.cells T_parallaxref12_File [V.sl .no T_api_Pair l2, V.sl .no T_api_Pair l3, V.sl .no T_parallaxref12_Keep l4, V.sl .no T_parallaxref12_Break l5, V.sl .no T_parallaxref12_Watch l6] false))], [], [], [], none⟩)
noncomputable def L1_1_0_1_0_0_1_0_0_1_1_0 (i0 i1 i2 i3 : Int) (l4 l5 l6 l7 l8 : List (List V)) : Option Res := LP (e [1, 1, 0, 1, 0, 0, 1, 0, 0, 1, 1, 0, 0]) (cn [1002]) (kBlk 2 (kBlk 1 (kSeq (e [1, 1, 0, 1, 0, 0, 1, 1]) (kLp (e [1, 1, 0, 1, 0, 0]) (cn [1002]) (kBlk 0 (kSeq (e [1, 1, 1]) (K))))))) ([(1, (V.int .i64 i0)), (2, (V.ref 1002 0)), (5, (V.int .i64 i1)), (6, (V.int .i64 i2)), (7, (V.int .i64 i3))], ⟨[(1002, (Blk.cells T_parallaxref12_File [V.sl .no T_api_Pair l4, V.sl .no T_api_Pair l5, V.sl .no T_parallaxref12_Keep l6, V.sl .no T_parallaxref12_Break l7, V.sl .no T_parallaxref12_Watch l8] false))], [], [], [], none⟩)
noncomputable def L1_1_0_1_0v1 (i0 i1 i2 i3 : Int) (l4 l5 l6 l7 l8 : List (List V)) : Option Res := LP (e [1, 1, 0, 1, 0, 0]) (cn [1002]) (kBlk 0 (kSeq (e [1, 1, 1]) (K))) ([(1, (V.int .i64 i0)), (2, (V.ref 1002 0)), (5, (V.int .i64 i1)), (6, (V.int .i64 i2)), (7, (V.int .i64 i3))], ⟨[(1002, (Blk.cells T_parallaxref12_File [V.sl .no T_api_Pair l4, V.sl .no T_api_Pair l5, V.sl .no T_parallaxref12_Keep l6, V.sl .no T_parallaxref12_Break l7, V.sl .no T_parallaxref12_Watch l8] false))], [], [], [], none⟩)
theorem L1_1_0_1_0_eq (i0 i1 : Int) (l2 l3 l4 l5 l6 : List (List V)) : L1_1_0_1_0 i0 i1 l2 l3 l4 l5 l6 =
  (bif (decide ((0 : Int) < (l5.length : Int))) then (bif (decide (i1 <= i0)) then (L1_1_0_1_0_0_1_0_0_1_1_0 i0 (IntKind.wrap .i64 (i1 + (1 : Int))) (0 : Int) (0 : Int) l2 l3 l4 l5 l6) else (some ⟨Out.ret (V.int .i64 i1), [], none⟩)) else (some ⟨Out.ret (V.int .i64 i1), [], none⟩)) := (LP_eq ..).trans (by kernel_rfl)
theorem L1_1_0_1_0_0_1_0_0_1_1_0_eq (i0 i1 i2 i3 : Int) (l4 l5 l6 l7 l8 : List (List V)) : L1_1_0_1_0_0_1_0_0_1_1_0 i0 i1 i2 i3 l4 l5 l6 l7 l8 =
  (if (((0 : Int) <= i2) ∧ (i2 < (l7.length : Int))) then (V.asSl (List.getD (List.getD l7 (Int.toNat i2) []) 3 V.undef) T_api_Expr (fun es29 => bif (decide (i3 < (es29.length : Int))) then (bif (decide (i1 <= i0)) then (if (((0 : Int) <= i2) ∧ (i2 < (l7.length : Int))) then (V.asSl (List.getD (List.getD l7 (Int.toNat i2) []) 3 V.undef) T_api_Expr (fun es31 => if (((0 : Int) <= i3) ∧ (i3 < (es31.length : Int))) then (V.asInt (List.getD (List.getD es31 (Int.toNat i3) []) 0 V.undef) .i64 (fun n32 => V.asStr (List.getD (List.getD es31 (Int.toNat i3) []) 1 V.undef) (fun s33 => V.asInt (List.getD (List.getD es31 (Int.toNat i3) []) 2 V.undef) .i64 (fun n34 => V.asSl (List.getD (List.getD es31 (Int.toNat i3) []) 3 V.undef) T_api_Expr (fun es35 => (den Sp ref03_ExprSize.id [V.agg [V.int .i64 n32, V.str s33, V.int .i64 n34, V.sl .no T_api_Expr es35], V.int .i64 i0] [] none).bind (fun r36 => Res.onRet r36 (fun v37 => V.asInt v37 .i64 (fun n38 => L1_1_0_1_0_0_1_0_0_1_1_0 i0 (IntKind.wrap .i64 ((IntKind.wrap .i64 (i1 + (1 : Int))) + n38)) i2 (IntKind.wrap .i64 (i3 + (1 : Int))) l4 l5 l6 l7 l8)))))))) else none)) else none) else (L1_1_0_1_0v1 i0 i1 (IntKind.wrap .i64 (i2 + (1 : Int))) i3 l4 l5 l6 l7 l8)) else (L1_1_0_1_0v1 i0 i1 (IntKind.wrap .i64 (i2 + (1 : Int))) i3 l4 l5 l6 l7 l8))) else none) := (LP_eq ..).trans (by kernel_rfl)
theorem L1_1_0_1_0v1_eq (i0 i1 i2 i3 : Int) (l4 l5 l6 l7 l8 : List (List V)) : L1_1_0_1_0v1 i0 i1 i2 i3 l4 l5 l6 l7 l8 =
  (bif (decide (i2 < (l7.length : Int))) then (bif (decide (i1 <= i0)) then (L1_1_0_1_0_0_1_0_0_1_1_0 i0 (IntKind.wrap .i64 (i1 + (1 : Int))) i2 (0 : Int) l4 l5 l6 l7 l8) else (some ⟨Out.ret (V.int .i64 i1), [], none⟩)) else (some ⟨Out.ret (V.int .i64 i1), [], none⟩)) := (LP_eq ..).trans (by kernel_rfl)
theorem eq (a0_0 a0_1 a0_2 a0_3 a0_4 : List (List V)) (a1 : Int) : den Sp id [V.agg [V.sl .no T_api_Pair a0_0, V.sl .no T_api_Pair a0_1, V.sl .no T_parallaxref12_Keep a0_2, V.sl .no T_parallaxref12_Break a0_3, V.sl .no T_parallaxref12_Watch a0_4], V.int .i64 a1] [] none =
  (L1_1_0_1_0 a1 (IntKind.wrap .i64 ((IntKind.wrap .i64 ((IntKind.wrap .i64 ((a0_0.length : Int) + (a0_1.length : Int))) + (a0_2.length : Int))) + (a0_4.length : Int))) a0_0 a0_1 a0_2 a0_3 a0_4) := (den_eq ..).trans (by kernel_rfl)
end ref12_Size
namespace law12_great
noncomputable abbrev e (p : List Nat) := ev Sp (den Sp) id Tryz.f9.ntmps (cAt (bodyOf Tryz.f9) p)
noncomputable abbrev cn (n0 : List Nat) := canon Sp id n0
noncomputable abbrev K : K := kFin Sp (den Sp) Tryz.f9 0
noncomputable def L1_1_0_1_0 (i0 i1 : Int) (l2 l3 l4 l5 l6 : List (List V)) : Option Res := LP (e [1, 1, 0, 1, 0, 0]) (cn [1001]) (kBlk 0 (kSeq (e [1, 1, 1]) (K))) ([(1, (V.ref 1001 0)), (3, (V.int .i64 i0)), (4, (V.int .i64 i1)), (5, V.undef)], ⟨[(1001, (Blk.cells T_parallaxref12_File [V.sl .no T_api_Pair l2, V.sl .no T_api_Pair l3, V.sl .no T_parallaxref12_Keep l4, V.sl .no T_parallaxref12_Break l5, V.sl .no T_parallaxref12_Watch l6] false))], [], [], [], none⟩)
noncomputable def L1_1_1_0_1_0 (i0 i1 i2 : Int) (l3 l4 l5 l6 l7 : List (List V)) : Option Res := LP (e [1, 1, 1, 0, 1, 0, 0]) (cn [1001]) (kBlk 2 (kSeq (e [1, 1, 1, 1]) (K))) ([(1, (V.ref 1001 0)), (3, (V.int .i64 i0)), (4, (V.int .i64 i1)), (5, (V.int .i64 i2))], ⟨[(1001, (Blk.cells T_parallaxref12_File [V.sl .no T_api_Pair l3, V.sl .no T_api_Pair l4, V.sl .no T_parallaxref12_Keep l5, V.sl .no T_parallaxref12_Break l6, V.sl .no T_parallaxref12_Watch l7] false))], [], [], [], none⟩)
theorem L1_1_0_1_0_eq (i0 i1 : Int) (l2 l3 l4 l5 l6 : List (List V)) : L1_1_0_1_0 i0 i1 l2 l3 l4 l5 l6 =
  (bif (decide (i1 < (l2.length : Int))) then (bif (decide (i0 <= (600 : Int))) then (if (((0 : Int) <= i1) ∧ (i1 < (l2.length : Int))) then (V.asStr (List.getD (List.getD l2 (Int.toNat i1) []) 0 V.undef) (fun s20 => if (((0 : Int) <= i1) ∧ (i1 < (l2.length : Int))) then (V.asStr (List.getD (List.getD l2 (Int.toNat i1) []) 1 V.undef) (fun s21 => if (((0 : Int) <= i1) ∧ (i1 < (l2.length : Int))) then (V.asStr (List.getD (List.getD l2 (Int.toNat i1) []) 2 V.undef) (fun s22 => if (((0 : Int) <= i1) ∧ (i1 < (l2.length : Int))) then (V.asStr (List.getD (List.getD l2 (Int.toNat i1) []) 3 V.undef) (fun s23 => L1_1_0_1_0 (IntKind.wrap .i64 ((IntKind.wrap .i64 ((IntKind.wrap .i64 ((IntKind.wrap .i64 (i0 + (IntKind.wrap .i64 (Int.tdiv (((ByteArray.size s20) : Nat) : Int) (8 : Int))))) + (IntKind.wrap .i64 (Int.tdiv (((ByteArray.size s21) : Nat) : Int) (8 : Int))))) + (IntKind.wrap .i64 (Int.tdiv (((ByteArray.size s22) : Nat) : Int) (8 : Int))))) + (IntKind.wrap .i64 (Int.tdiv (((ByteArray.size s23) : Nat) : Int) (8 : Int))))) (IntKind.wrap .i64 (i1 + (1 : Int))) l2 l3 l4 l5 l6)) else none)) else none)) else none)) else none) else (L1_1_1_0_1_0 i0 i1 (0 : Int) l2 l3 l4 l5 l6)) else (L1_1_1_0_1_0 i0 i1 (0 : Int) l2 l3 l4 l5 l6)) := (LP_eq ..).trans (by kernel_rfl)
theorem L1_1_1_0_1_0_eq (i0 i1 i2 : Int) (l3 l4 l5 l6 l7 : List (List V)) : L1_1_1_0_1_0 i0 i1 i2 l3 l4 l5 l6 l7 =
  (bif (decide (i2 < (l4.length : Int))) then (bif (decide (i0 <= (600 : Int))) then (if (((0 : Int) <= i2) ∧ (i2 < (l4.length : Int))) then (V.asStr (List.getD (List.getD l4 (Int.toNat i2) []) 0 V.undef) (fun s30 => if (((0 : Int) <= i2) ∧ (i2 < (l4.length : Int))) then (V.asStr (List.getD (List.getD l4 (Int.toNat i2) []) 1 V.undef) (fun s31 => if (((0 : Int) <= i2) ∧ (i2 < (l4.length : Int))) then (V.asStr (List.getD (List.getD l4 (Int.toNat i2) []) 2 V.undef) (fun s32 => if (((0 : Int) <= i2) ∧ (i2 < (l4.length : Int))) then (V.asStr (List.getD (List.getD l4 (Int.toNat i2) []) 3 V.undef) (fun s33 => L1_1_1_0_1_0 (IntKind.wrap .i64 ((IntKind.wrap .i64 ((IntKind.wrap .i64 ((IntKind.wrap .i64 (i0 + (IntKind.wrap .i64 (Int.tdiv (((ByteArray.size s30) : Nat) : Int) (8 : Int))))) + (IntKind.wrap .i64 (Int.tdiv (((ByteArray.size s31) : Nat) : Int) (8 : Int))))) + (IntKind.wrap .i64 (Int.tdiv (((ByteArray.size s32) : Nat) : Int) (8 : Int))))) + (IntKind.wrap .i64 (Int.tdiv (((ByteArray.size s33) : Nat) : Int) (8 : Int))))) i1 (IntKind.wrap .i64 (i2 + (1 : Int))) l3 l4 l5 l6 l7)) else none)) else none)) else none)) else none) else (some ⟨Out.ret (V.bool (decide (i0 > (600 : Int)))), [], none⟩)) else (some ⟨Out.ret (V.bool (decide (i0 > (600 : Int)))), [], none⟩)) := (LP_eq ..).trans (by kernel_rfl)
theorem eq (a0_0 a0_1 a0_2 a0_3 a0_4 : List (List V)) : den Sp id [V.agg [V.sl .no T_api_Pair a0_0, V.sl .no T_api_Pair a0_1, V.sl .no T_parallaxref12_Keep a0_2, V.sl .no T_parallaxref12_Break a0_3, V.sl .no T_parallaxref12_Watch a0_4]] [] none =
  (den Sp ref12_Size.id [V.agg [V.sl .no T_api_Pair a0_0, V.sl .no T_api_Pair a0_1, V.sl .no T_parallaxref12_Keep a0_2, V.sl .no T_parallaxref12_Break a0_3, V.sl .no T_parallaxref12_Watch a0_4], V.int .i64 (600 : Int)] [] none).bind (fun r7 => Res.onRet r7 (fun v8 => V.asInt v8 .i64 (fun n9 => L1_1_0_1_0 n9 (0 : Int) a0_0 a0_1 a0_2 a0_3 a0_4))) := (den_eq ..).trans (by kernel_rfl)
end law12_great
namespace law12_own
noncomputable abbrev e (p : List Nat) := ev Sp (den Sp) id Tryz.f12.ntmps (cAt (bodyOf Tryz.f12) p)
noncomputable abbrev cn (n0 : List Nat) := canon Sp id n0
noncomputable abbrev K : K := kFin Sp (den Sp) Tryz.f12 0
noncomputable def L1_1_0_1_0 (i0 : Int) (l1 l2 l3 l4 l5 l6 l7 l8 : List (List V)) : Option Res := LP (e [1, 1, 0, 1, 0, 0]) (cn [1001, 1002, 1003]) (kBlk 0 (kSeq (e [1, 1, 1]) (K))) ([(1, (V.ref 1001 0)), (2, (V.ref 1002 0)), (3, (V.ref 1003 0)), (4, (V.int .i64 i0)), (5, V.undef), (7, V.undef)], ⟨[(1001, (Blk.cells T_parallaxref12_File [V.sl .no T_api_Pair l1, V.sl .no T_api_Pair l2, V.sl .no T_parallaxref12_Keep l3, V.sl .no T_parallaxref12_Break l4, V.sl .no T_parallaxref12_Watch l5] false)), (1002, (Blk.cells T_decl_File [V.sl (Tok.row 0) T_api_Pair [], V.sl (Tok.row 1) T_api_Pair [], V.sl (Tok.row 2) T_decl_Keep [], V.sl (Tok.row 3) T_decl_Break [], V.sl (Tok.row 4) T_decl_Watch []] false)), (1003, (Blk.cells T_decl_File [V.sl .no T_api_Pair l6, V.sl .no T_api_Pair l7, V.sl (Tok.row 5) T_decl_Keep l8, V.sl (Tok.row 6) T_decl_Break [], V.sl (Tok.row 7) T_decl_Watch []] false))], [0, 1, 2, 3, 4, 5, 6, 7], [], [], none⟩)
noncomputable def L1_1_1_0_1_0 (i0 i1 : Int) (l2 l3 l4 l5 l6 l7 l8 l9 l10 : List (List V)) : Option Res := LP (e [1, 1, 1, 0, 1, 0, 0]) (cn [1001, 1002, 1003]) (kBlk 2 (kSeq (e [1, 1, 1, 1]) (K))) ([(1, (V.ref 1001 0)), (2, (V.ref 1002 0)), (3, (V.ref 1003 0)), (4, (V.int .i64 i0)), (5, (V.int .i64 i1)), (7, V.undef)], ⟨[(1001, (Blk.cells T_parallaxref12_File [V.sl .no T_api_Pair l2, V.sl .no T_api_Pair l3, V.sl .no T_parallaxref12_Keep l4, V.sl .no T_parallaxref12_Break l5, V.sl .no T_parallaxref12_Watch l6] false)), (1002, (Blk.cells T_decl_File [V.sl (Tok.row 0) T_api_Pair [], V.sl (Tok.row 1) T_api_Pair [], V.sl (Tok.row 2) T_decl_Keep [], V.sl (Tok.row 3) T_decl_Break [], V.sl (Tok.row 4) T_decl_Watch []] false)), (1003, (Blk.cells T_decl_File [V.sl .no T_api_Pair l7, V.sl .no T_api_Pair l8, V.sl (Tok.row 5) T_decl_Keep l9, V.sl (Tok.row 6) T_decl_Break l10, V.sl (Tok.row 7) T_decl_Watch []] false))], [0, 1, 2, 3, 4, 5, 6, 7], [], [], none⟩)
noncomputable def L1_1_1_1_0_1_0 (i0 i1 i2 : Int) (l3 l4 l5 l6 l7 l8 l9 l10 l11 l12 : List (List V)) : Option Res := LP (e [1, 1, 1, 1, 0, 1, 0, 0]) (cn [1001, 1002, 1003]) (kBlk 4 (kSeq (e [1, 1, 1, 1, 1]) (K))) ([(1, (V.ref 1001 0)), (2, (V.ref 1002 0)), (3, (V.ref 1003 0)), (4, (V.int .i64 i0)), (5, (V.int .i64 i1)), (7, (V.int .i64 i2))], ⟨[(1001, (Blk.cells T_parallaxref12_File [V.sl .no T_api_Pair l3, V.sl .no T_api_Pair l4, V.sl .no T_parallaxref12_Keep l5, V.sl .no T_parallaxref12_Break l6, V.sl .no T_parallaxref12_Watch l7] false)), (1002, (Blk.cells T_decl_File [V.sl (Tok.row 0) T_api_Pair [], V.sl (Tok.row 1) T_api_Pair [], V.sl (Tok.row 2) T_decl_Keep [], V.sl (Tok.row 3) T_decl_Break [], V.sl (Tok.row 4) T_decl_Watch []] false)), (1003, (Blk.cells T_decl_File [V.sl .no T_api_Pair l8, V.sl .no T_api_Pair l9, V.sl (Tok.row 5) T_decl_Keep l10, V.sl (Tok.row 6) T_decl_Break l11, V.sl (Tok.row 7) T_decl_Watch l12] false))], [0, 1, 2, 3, 4, 5, 6, 7], [], [], none⟩)
theorem L1_1_0_1_0_eq (i0 : Int) (l1 l2 l3 l4 l5 l6 l7 l8 : List (List V)) : L1_1_0_1_0 i0 l1 l2 l3 l4 l5 l6 l7 l8 =
  (bif (decide (i0 < (l3.length : Int))) then (if (((0 : Int) <= i0) ∧ (i0 < (l3.length : Int))) then (V.asInt (List.getD (List.getD l3 (Int.toNat i0) []) 0 V.undef) .i64 (fun n19 => if (((0 : Int) <= i0) ∧ (i0 < (l3.length : Int))) then (V.asStr (List.getD (List.getD l3 (Int.toNat i0) []) 1 V.undef) (fun s20 => if (((0 : Int) <= i0) ∧ (i0 < (l3.length : Int))) then (V.asStr (List.getD (List.getD l3 (Int.toNat i0) []) 2 V.undef) (fun s21 => if (((List.length l8) + (List.length [[V.int .i64 n19, V.str s20, V.str s21]])) <= most) then (L1_1_0_1_0 (IntKind.wrap .i64 (i0 + (1 : Int))) l1 l2 l3 l4 l5 l6 l7 (l8 ++ [[V.int .i64 n19, V.str s20, V.str s21]])) else none)) else none)) else none)) else none) else (L1_1_1_0_1_0 i0 (0 : Int) l1 l2 l3 l4 l5 l6 l7 l8 [])) := (LP_eq ..).trans (by kernel_rfl)
theorem L1_1_1_0_1_0_eq (i0 i1 : Int) (l2 l3 l4 l5 l6 l7 l8 l9 l10 : List (List V)) : L1_1_1_0_1_0 i0 i1 l2 l3 l4 l5 l6 l7 l8 l9 l10 =
  (bif (decide (i1 < (l5.length : Int))) then (if (((0 : Int) <= i1) ∧ (i1 < (l5.length : Int))) then (V.asInt (List.getD (List.getD l5 (Int.toNat i1) []) 0 V.undef) .i64 (fun n32 => V.asStr (List.getD (List.getD l5 (Int.toNat i1) []) 1 V.undef) (fun s33 => V.asInt (List.getD (List.getD l5 (Int.toNat i1) []) 2 V.undef) .i64 (fun n34 => V.asSl (List.getD (List.getD l5 (Int.toNat i1) []) 3 V.undef) T_api_Expr (fun es35 => if (((List.length l10) + (List.length [[V.int .i64 n32, V.str s33, V.int .i64 n34, V.sl .no T_api_Expr es35]])) <= most) then (L1_1_1_0_1_0 i0 (IntKind.wrap .i64 (i1 + (1 : Int))) l2 l3 l4 l5 l6 l7 l8 l9 (l10 ++ [[V.int .i64 n32, V.str s33, V.int .i64 n34, V.sl .no T_api_Expr es35]])) else none))))) else none) else (L1_1_1_1_0_1_0 i0 i1 (0 : Int) l2 l3 l4 l5 l6 l7 l8 l9 l10 [])) := (LP_eq ..).trans (by kernel_rfl)
theorem L1_1_1_1_0_1_0_eq (i0 i1 i2 : Int) (l3 l4 l5 l6 l7 l8 l9 l10 l11 l12 : List (List V)) : L1_1_1_1_0_1_0 i0 i1 i2 l3 l4 l5 l6 l7 l8 l9 l10 l11 l12 =
  (bif (decide (i2 < (l7.length : Int))) then (if (((0 : Int) <= i2) ∧ (i2 < (l7.length : Int))) then (V.asInt (List.getD (List.getD l7 (Int.toNat i2) []) 0 V.undef) .i64 (fun n47 => if (((0 : Int) <= i2) ∧ (i2 < (l7.length : Int))) then (V.asStr (List.getD (List.getD l7 (Int.toNat i2) []) 1 V.undef) (fun s48 => if (((0 : Int) <= i2) ∧ (i2 < (l7.length : Int))) then (V.asStr (List.getD (List.getD l7 (Int.toNat i2) []) 2 V.undef) (fun s49 => if (((List.length l12) + (List.length [[V.int .i64 n47, V.str s48, V.str s49]])) <= most) then (L1_1_1_1_0_1_0 i0 i1 (IntKind.wrap .i64 (i2 + (1 : Int))) l3 l4 l5 l6 l7 l8 l9 l10 l11 (l12 ++ [[V.int .i64 n47, V.str s48, V.str s49]])) else none)) else none)) else none)) else none) else (some ⟨Out.ret (V.agg [V.sl .no T_api_Pair l8, V.sl .no T_api_Pair l9, V.sl .no T_decl_Keep l10, V.sl .no T_decl_Break l11, V.sl .no T_decl_Watch l12]), [], none⟩)) := (LP_eq ..).trans (by kernel_rfl)
theorem eq (a0_0 a0_1 a0_2 a0_3 a0_4 : List (List V)) : den Sp id [V.agg [V.sl .no T_api_Pair a0_0, V.sl .no T_api_Pair a0_1, V.sl .no T_parallaxref12_Keep a0_2, V.sl .no T_parallaxref12_Break a0_3, V.sl .no T_parallaxref12_Watch a0_4]] [] none =
  (L1_1_0_1_0 (0 : Int) a0_0 a0_1 a0_2 a0_3 a0_4 a0_0 a0_1 []) := (den_eq ..).trans (by kernel_rfl)
end law12_own
end Go.Proofs.YtmhnmelaodhemaaGreatDoor
